/- Rings of places: a row's links forward and backward, and what putting in and taking out does to them. -/
import Derived.Test.YtgdlndpjfejmcaaGreatPA
namespace Go.Proofs.YtgdlndpjfejmcaaGreat
set_option linter.unusedVariables false
set_option maxRecDepth 100000
/-- From a over the places ps to b: A leads forward, B backward. -/
def Path (A B : Nat → Nat) : Nat → List Nat → Nat → Prop
  | a, [], b => A a = b ∧ B b = a
  | a, p :: q, b => A a = p ∧ B p = a ∧ Path A B p q b
theorem path_split {A B : Nat → Nat} : ∀ {a : Nat} {u v : List Nat} {k b : Nat}, Path A B a (u ++ k :: v) b ↔ Path A B a u k ∧ Path A B k v b
  | a, [], v, k, b => by simp [Path, and_assoc]
  | a, p :: u, v, k, b => by simp [Path, path_split (u := u), and_assoc]
/-- The place ahead of the end. -/
def lastOr : Nat → List Nat → Nat
  | a, [] => a
  | _, p :: u => lastOr p u
theorem lastOr_mem : ∀ (a : Nat) (u : List Nat), lastOr a u ∈ a :: u
  | a, [] => by simp [lastOr]
  | a, p :: u => List.mem_cons_of_mem _ (lastOr_mem p u)
theorem lastOr_snoc : ∀ (a : Nat) (u : List Nat) (k : Nat), lastOr a (u ++ [k]) = k
  | a, [], k => rfl
  | a, p :: u, k => lastOr_snoc p u k
theorem lastOr_ne {a p : Nat} {u : List Nat} (hn : (a :: p :: u).Nodup) : a ≠ lastOr p u := fun e => (List.nodup_cons.1 hn).1 (by have := lastOr_mem p u; rwa [← e] at this)
theorem path_last {A B : Nat → Nat} : ∀ {a : Nat} {u : List Nat} {b : Nat}, Path A B a u b → B b = lastOr a u ∧ A (lastOr a u) = b
  | a, [], b, h => ⟨h.2, h.1⟩
  | a, p :: u, b, h => by
    show B b = lastOr p u ∧ A (lastOr p u) = b
    exact path_last h.2.2
theorem path_first {A B : Nat → Nat} {a : Nat} {u : List Nat} {b : Nat} (h : Path A B a u b) : A a = u.headD b := by
  cases u with
  | nil => exact h.1
  | cons p q => simpa using h.1
/-- The end is set anew. -/
theorem path_end {A B A' B' : Nat → Nat} : ∀ {a : Nat} {u : List Nat} {b y : Nat}, Path A B a u b → (a :: u).Nodup → (∀ x ∈ a :: u, x ≠ lastOr a u → A' x = A x) → A' (lastOr a u) = y →
    (∀ x ∈ u, B' x = B x) → B' y = lastOr a u → Path A' B' a u y
  | a, [], b, y, h, _, _, h2, _, h4 => ⟨h2, h4⟩
  | a, p :: u, b, y, h, hn, h1, h2, h3, h4 =>
    ⟨(h1 a (by simp) (lastOr_ne (p := p) (u := u) hn)).trans h.1, (h3 p (by simp)).trans h.2.1, path_end h.2.2 (List.nodup_cons.1 hn).2 (fun x hx => h1 x (List.mem_cons_of_mem _ hx)) h2 (fun x hx => h3 x (List.mem_cons_of_mem _ hx)) h4⟩
/-- What leads on as it did. -/
theorem path_congr {A B A' B' : Nat → Nat} : ∀ {a : Nat} {u : List Nat} {b : Nat}, Path A B a u b → (∀ x ∈ a :: u, A' x = A x) → (∀ x ∈ u, B' x = B x) → B' b = B b → Path A' B' a u b
  | a, [], b, h, h1, _, h3 => ⟨(h1 a (by simp)).trans h.1, h3.trans h.2⟩
  | a, p :: u, b, h, h1, h2, h3 => ⟨(h1 a (by simp)).trans h.1, (h2 p (by simp)).trans h.2.1, path_congr h.2.2 (fun x hx => h1 x (List.mem_cons_of_mem _ hx)) (fun x hx => h2 x (List.mem_cons_of_mem _ hx)) h3⟩
/-- A place is taken out of a ring: its neighbours hold each other. -/
theorem ring_drop {A B A' B' : Nat → Nat} {r k : Nat} {u v : List Nat} (h : Path A B r (u ++ k :: v) r) (hn : (r :: (u ++ k :: v)).Nodup)
    (hA : ∀ x, x ≠ B k → A' x = A x) (hA1 : A' (B k) = A k) (hB : ∀ x, x ≠ A k → B' x = B x) (hB1 : B' (A k) = B k) : Path A' B' r (u ++ v) r := by
  obtain ⟨h1, h2⟩ := path_split.1 h
  obtain ⟨e1, e2⟩ := path_last h1
  rw [e1] at hA hA1 hB1
  have hnu : (r :: u).Nodup := hn.sublist (by simp)
  cases v with
  | nil =>
    have hk : A k = r := h2.1
    rw [hk] at hB hB1 hA1
    rw [List.append_nil]
    exact path_end h1 hnu (fun x _ hx => hA x hx) hA1 (fun x hx => hB x (fun e => by subst e; exact (List.nodup_cons.1 hn).1 (by simp [hx]))) hB1
  | cons y v =>
    have hk : A k = y := h2.1
    rw [hk] at hB hB1 hA1
    have hyu : y ∉ u := fun hx => by
      have := (List.nodup_append.1 (List.nodup_cons.1 hn).2).2.2 y hx y (by simp)
      exact this rfl
    refine path_split.2 ⟨path_end h1 hnu (fun x _ hx => hA x hx) hA1 (fun x hx => hB x (fun e => hyu (e ▸ hx))) hB1, ?_⟩
    have hl : ∀ x ∈ y :: v, x ≠ lastOr r u := fun x hx e => by
      have hm := lastOr_mem r u
      rw [← e] at hm
      rcases List.mem_cons.1 hm with q | q
      · subst q; exact (List.nodup_cons.1 hn).1 (List.mem_append_right _ (List.mem_cons_of_mem _ hx))
      · exact (List.nodup_append.1 (List.nodup_cons.1 hn).2).2.2 x q x (List.mem_cons_of_mem _ hx) rfl
    have hny : (y :: v).Nodup := (List.nodup_cons.1 (List.nodup_append.1 (List.nodup_cons.1 hn).2).2.1).2
    exact path_congr h2.2.2 (fun x hx => hA x (hl x hx)) (fun x hx => hB x (fun e => by subst e; exact (List.nodup_cons.1 hny).1 hx)) (hB r (fun e => by subst e; exact (List.nodup_cons.1 hn).1 (by simp)))
/-- A place is put behind the last of u. -/
theorem ring_put {A B A' B' : Nat → Nat} {r k x y : Nat} {u v : List Nat} (h : Path A B r (u ++ v) r) (hn : (r :: (u ++ v)).Nodup) (hk : k ∉ r :: (u ++ v))
    (hx : x = lastOr r u) (hy : y = A x) (hA : ∀ z, z ≠ x → z ≠ k → A' z = A z) (hA1 : A' x = k) (hA2 : A' k = y) (hB : ∀ z, z ≠ y → z ≠ k → B' z = B z) (hB1 : B' y = k) (hB2 : B' k = x) :
    Path A' B' r (u ++ k :: v) r := by
  have hnu : (r :: u).Nodup := hn.sublist (by simp)
  have hku : ∀ z ∈ r :: u, z ≠ k := fun z hz e => hk (by subst e; rcases List.mem_cons.1 hz with q | q <;> simp [q])
  subst hx
  cases v with
  | nil =>
    rw [List.append_nil] at h hn hk
    have hyr : y = r := hy.trans (path_last h).2
    rw [hyr] at hA2 hB hB1
    refine path_split.2 ⟨path_end h hnu (fun z hz q => hA z q (hku z hz)) hA1 (fun z hz => hB z (fun e => by subst e; exact (List.nodup_cons.1 hn).1 hz) (hku z (List.mem_cons_of_mem _ hz))) hB2, hA2, hB1⟩
  | cons p v =>
    obtain ⟨h1, h2⟩ := path_split.1 h
    have hyp : y = p := hy.trans (path_last h1).2
    rw [hyp] at hA2 hB hB1
    have hpu : p ∉ u := fun q => (List.nodup_append.1 (List.nodup_cons.1 hn).2).2.2 p q p (by simp) rfl
    have hkv : ∀ z ∈ p :: v, z ≠ k := fun z hz e => hk (by subst e; exact List.mem_cons_of_mem _ (List.mem_append_right _ hz))
    have hny : (p :: v).Nodup := (List.nodup_append.1 (List.nodup_cons.1 hn).2).2.1
    have hl : ∀ z ∈ p :: v, z ≠ lastOr r u := fun z hz e => by
      have hm := lastOr_mem r u
      rw [← e] at hm
      rcases List.mem_cons.1 hm with q | q
      · subst q; exact (List.nodup_cons.1 hn).1 (List.mem_append_right _ hz)
      · exact (List.nodup_append.1 (List.nodup_cons.1 hn).2).2.2 z q z hz rfl
    refine path_split.2 ⟨path_end h1 hnu (fun z hz q => hA z q (hku z hz)) hA1 (fun z hz => hB z (fun e => hpu (e ▸ hz)) (hku z (List.mem_cons_of_mem _ hz))) hB2, hA2, hB1, ?_⟩
    exact path_congr h2 (fun z hz => hA z (hl z hz) (hkv z hz)) (fun z hz => hB z (fun e => by subst e; exact (List.nodup_cons.1 hny).1 hz) (hkv z (List.mem_cons_of_mem _ hz)))
      (hB r (fun e => by subst e; exact (List.nodup_cons.1 hn).1 (by simp)) (hku r (by simp)))
end Go.Proofs.YtgdlndpjfejmcaaGreat
/- The rows, plainly: links, free places, the map and the rows' places. No program here. -/
namespace Go.Proofs.YtgdlndpjfejmcaaGreat
set_option linter.unusedVariables false
set_option maxRecDepth 100000
structure Lnk where
  id : Int
  row : Nat
  before : Nat
  after : Nat
def iv (n : Int) : Value := .int .i64 n
def lcells (lk : List Lnk) : List Value := lk.flatMap fun x => [iv x.id, iv x.row, iv x.before, iv x.after]
def lI (lk : List Lnk) (k : Nat) : Int := ((lk[k]?).map Lnk.id).getD 0
def lR (lk : List Lnk) (k : Nat) : Nat := ((lk[k]?).map Lnk.row).getD 0
def lB (lk : List Lnk) (k : Nat) : Nat := ((lk[k]?).map Lnk.before).getD 0
def lA (lk : List Lnk) (k : Nat) : Nat := ((lk[k]?).map Lnk.after).getD 0
/-- All holds together: n rows, their places Ps. -/
structure Good (n : Nat) (lk : List Lnk) (free : List Nat) (l : List (Int × Value)) (Ps : Nat → List Nat) : Prop where
  len : n ≤ lk.length
  ring : ∀ r, r < n → Path (lA lk) (lB lk) r (Ps r) r
  nodup : ∀ r, r < n → (Ps r).Nodup
  place : ∀ r, r < n → ∀ p, p ∈ Ps r → n ≤ p ∧ p < lk.length ∧ lR lk p = r ∧ 0 ≤ lI lk p ∧ lI lk p ≤ 4194303 ∧ p ∉ free ∧ aget l (lI lk p) = some (iv p)
  head : ∀ r, r < n → lI lk r = -1
  fnodup : free.Nodup
  fplace : ∀ p, p ∈ free → n ≤ p ∧ p < lk.length
  keys : Keys l
  at_ : ∀ id v, aget l id = some v → ∃ r, r < n ∧ ∃ p, p ∈ Ps r ∧ v = iv p ∧ lI lk p = id
  none_ : ∀ r, n ≤ r → Ps r = []
/-- What stands in a row. -/
def Ls (lk : List Lnk) (Ps : Nat → List Nat) (r : Nat) : List Int := (Ps r).map (lI lk)
theorem Good.ringNodup {n : Nat} {lk : List Lnk} {free : List Nat} {l : List (Int × Value)} {Ps : Nat → List Nat} (h : Good n lk free l Ps) {r : Nat} (hr : r < n) : (r :: Ps r).Nodup :=
  List.nodup_cons.2 ⟨fun hm => by have := (h.place r hr r hm).1; omega, h.nodup r hr⟩
theorem Good.same {n : Nat} {lk : List Lnk} {free : List Nat} {l : List (Int × Value)} {Ps : Nat → List Nat} (h : Good n lk free l Ps) {r s p q : Nat} (hr : r < n) (hs : s < n) (hp : p ∈ Ps r) (hq : q ∈ Ps s) (e : lI lk p = lI lk q) : p = q ∧ r = s := by
  have h1 := (h.place r hr p hp).2.2.2.2.2.2
  have h2 := (h.place s hs q hq).2.2.2.2.2.2
  rw [e, h2] at h1
  simp [iv] at h1
  have h3 : p = q := by omega
  subst h3
  exact ⟨rfl, (h.place r hr p hp).2.2.1.symm.trans (h.place s hs p hq).2.2.1⟩
def setA (lk : List Lnk) (k a : Nat) : List Lnk := lk.modify k fun x => { x with after := a }
def setB (lk : List Lnk) (k b : Nat) : List Lnk := lk.modify k fun x => { x with before := b }
theorem setA_len (lk : List Lnk) (k a : Nat) : (setA lk k a).length = lk.length := by simp [setA]
theorem setB_len (lk : List Lnk) (k a : Nat) : (setB lk k a).length = lk.length := by simp [setB]
theorem lA_setA {lk : List Lnk} {k : Nat} (hk : k < lk.length) (a j : Nat) : lA (setA lk k a) j = if j = k then a else lA lk j := by
  unfold lA setA
  rw [List.getElem?_modify]
  by_cases e : k = j
  · subst e; simp [List.getElem?_eq_getElem hk]
  · rw [if_neg (fun q => e q.symm)]; simp [e]
theorem lB_setB {lk : List Lnk} {k : Nat} (hk : k < lk.length) (a j : Nat) : lB (setB lk k a) j = if j = k then a else lB lk j := by
  unfold lB setB
  rw [List.getElem?_modify]
  by_cases e : k = j
  · subst e; simp [List.getElem?_eq_getElem hk]
  · rw [if_neg (fun q => e q.symm)]; simp [e]
theorem l_setA (lk : List Lnk) (k a j : Nat) : lB (setA lk k a) j = lB lk j ∧ lI (setA lk k a) j = lI lk j ∧ lR (setA lk k a) j = lR lk j := by
  unfold lB lI lR setA
  simp only [List.getElem?_modify]
  by_cases e : k = j
  · subst e; cases lk[k]? <;> simp
  · simp [e]
theorem l_setB (lk : List Lnk) (k a j : Nat) : lA (setB lk k a) j = lA lk j ∧ lI (setB lk k a) j = lI lk j ∧ lR (setB lk k a) j = lR lk j := by
  unfold lA lI lR setB
  simp only [List.getElem?_modify]
  by_cases e : k = j
  · subst e; cases lk[k]? <;> simp
  · simp [e]
end Go.Proofs.YtgdlndpjfejmcaaGreat
/- Taking a place out of the rows, plainly. -/
namespace Go.Proofs.YtgdlndpjfejmcaaGreat
set_option linter.unusedVariables false
set_option maxRecDepth 100000
theorem path_fore {A B : Nat → Nat} : ∀ {a : Nat} {u : List Nat} {b x : Nat}, Path A B a u b → x ∈ a :: u → A x ∈ u ∨ A x = b
  | a, [], b, x, h, hx => by
    obtain rfl : x = a := by simpa using hx
    exact Or.inr h.1
  | a, p :: u, b, x, h, hx => by
    rcases List.mem_cons.1 hx with q | q
    · subst q; exact Or.inl (by rw [h.1]; simp)
    · rcases path_fore h.2.2 q with r | r
      · exact Or.inl (List.mem_cons_of_mem _ r)
      · exact Or.inr r
theorem path_back {A B : Nat → Nat} : ∀ {a : Nat} {u : List Nat} {b x : Nat}, Path A B a u b → (x ∈ u ∨ x = b) → B x ∈ a :: u
  | a, [], b, x, h, hx => by
    rcases hx with q | q
    · cases q
    · subst q; rw [h.2]; simp
  | a, p :: u, b, x, h, hx => by
    by_cases q : x = p
    · subst q; rw [h.2.1]; simp
    · have : B x ∈ p :: u := path_back h.2.2 (by
        rcases hx with r | r
        · rcases List.mem_cons.1 r with t | t
          · exact (q t).elim
          · exact Or.inl t
        · exact Or.inr r)
      exact List.mem_cons_of_mem _ this
theorem filter_out {u v : List Nat} {p : Nat} (hn : (u ++ p :: v).Nodup) : (u ++ p :: v).filter (· != p) = u ++ v := by
  have h1 : ∀ x ∈ u, x ≠ p := fun x hx e => (List.nodup_append.1 hn).2.2 x hx p (by simp) e
  have h2 : ∀ x ∈ v, x ≠ p := fun x hx e => by subst e; exact (List.nodup_cons.1 (List.nodup_append.1 hn).2.1).1 hx
  rw [List.filter_append, List.filter_cons]
  rw [List.filter_eq_self.2 (fun x hx => by simpa using h1 x hx), (List.filter_eq_self (l := v)).2 (fun x hx => by simpa using h2 x hx)]
  simp
/-- The links behind a Take. -/
def unlink (lk : List Lnk) (p : Nat) : List Lnk := setB (setA lk (lB lk p) (lA lk p)) (lA lk p) (lB lk p)
theorem Good.near {n : Nat} {lk : List Lnk} {free : List Nat} {l : List (Int × Value)} {Ps : Nat → List Nat} (h : Good n lk free l Ps) {r p : Nat} (hr : r < n) (hp : p ∈ r :: Ps r) :
    lA lk p < lk.length ∧ lB lk p < lk.length ∧ lA lk p ∈ r :: Ps r ∧ lB lk p ∈ r :: Ps r := by
  have hb : ∀ x, x ∈ r :: Ps r → x < lk.length := fun x hx => by
    rcases List.mem_cons.1 hx with q | q
    · subst q; exact Nat.lt_of_lt_of_le hr h.len
    · exact (h.place r hr x q).2.1
  have h1 : lA lk p ∈ r :: Ps r := by
    rcases path_fore (h.ring r hr) hp with q | q
    · exact List.mem_cons_of_mem _ q
    · rw [q]; simp
  have h2 : lB lk p ∈ r :: Ps r := path_back (h.ring r hr) (by
    rcases List.mem_cons.1 hp with q | q
    · exact Or.inr q
    · exact Or.inl q)
  exact ⟨hb _ h1, hb _ h2, h1, h2⟩
theorem Good.take {n : Nat} {lk : List Lnk} {free : List Nat} {l : List (Int × Value)} {Ps : Nat → List Nat} (h : Good n lk free l Ps) {r p : Nat} (hr : r < n) (hp : p ∈ Ps r) :
    Good n (unlink lk p) (free ++ [p]) (adel l (lI lk p)) (fun s => (Ps s).filter (· != p)) := by
  obtain ⟨ha, hb, ham, hbm⟩ := h.near hr (List.mem_cons_of_mem _ hp)
  have hI : ∀ j, lI (unlink lk p) j = lI lk j := fun j => ((l_setB _ _ _ j).2.1).trans (l_setA _ _ _ j).2.1
  have hR : ∀ j, lR (unlink lk p) j = lR lk j := fun j => ((l_setB _ _ _ j).2.2).trans (l_setA _ _ _ j).2.2
  have hA : ∀ j, lA (unlink lk p) j = if j = lB lk p then lA lk p else lA lk j := fun j => ((l_setB _ _ _ j).1).trans (lA_setA hb _ j)
  have hB : ∀ j, lB (unlink lk p) j = if j = lA lk p then lB lk p else lB lk j := fun j => (lB_setB (by rw [setA_len]; exact ha) _ j).trans (by rw [(l_setA _ _ _ j).1])
  have hlen : (unlink lk p).length = lk.length := by unfold unlink; rw [setB_len, setA_len]
  have hother : ∀ s, s < n → s ≠ r → ∀ x, x ∈ s :: Ps s → x ∉ r :: Ps r := fun s hs hne x hx hx2 => by
    rcases List.mem_cons.1 hx with q | q <;> rcases List.mem_cons.1 hx2 with q2 | q2
    · exact hne (q.symm.trans q2)
    · subst q; have := (h.place r hr x q2).1; omega
    · subst q2; have := (h.place s hs x q).1; omega
    · exact hne ((h.place s hs x q).2.2.1.symm.trans (h.place r hr x q2).2.2.1)
  refine ⟨by rw [hlen]; exact h.len, fun s hs => ?_, fun s hs => (h.nodup s hs).filter _, fun s hs x hx => ?_, fun s hs => by rw [hI]; exact h.head s hs, ?_, fun x hx => ?_, keys_adel h.keys _, fun id v hv => ?_, fun s hs => by simp [h.none_ s hs]⟩
  · by_cases e : s = r
    · subst e
      obtain ⟨u, v, huv⟩ := List.append_of_mem hp
      have hn := h.ringNodup hs
      have hg := h.ring s hs
      rw [huv] at hn hg
      show Path _ _ s ((Ps s).filter (· != p)) s
      rw [huv, filter_out (List.nodup_cons.1 hn).2]
      exact ring_drop hg hn (fun x hx => by rw [hA, if_neg hx]) (by rw [hA, if_pos rfl]) (fun x hx => by rw [hB, if_neg hx]) (by rw [hB, if_pos rfl])
    · have hp' : ∀ x ∈ Ps s, x ≠ p := fun x hx q => hother s hs e x (List.mem_cons_of_mem _ hx) (by subst q; exact List.mem_cons_of_mem _ hp)
      show Path _ _ s ((Ps s).filter (· != p)) s
      rw [List.filter_eq_self.2 (fun x hx => by simpa using hp' x hx)]
      have ho := hother s hs e
      exact path_congr (h.ring s hs) (fun x hx => by rw [hA, if_neg (fun q : x = lB lk p => ho x hx (by rw [q]; exact hbm))]) (fun x hx => by rw [hB, if_neg (fun q : x = lA lk p => ho x (List.mem_cons_of_mem _ hx) (by rw [q]; exact ham))]) (by rw [hB, if_neg (fun q : s = lA lk p => ho s (by simp) (by rw [q]; exact ham))])
  · obtain ⟨hx1, hx2⟩ := List.mem_filter.1 hx
    have hne : x ≠ p := by simpa using hx2
    obtain ⟨c1, c2, c3, c4, c5, c6, c7⟩ := h.place s hs x hx1
    refine ⟨c1, by rw [hlen]; exact c2, by rw [hR]; exact c3, by rw [hI]; exact c4, by rw [hI]; exact c5, by simp [c6, hne], ?_⟩
    rw [hI, aget_adel h.keys, if_neg (fun q => hne (h.same hs hr hx1 hp q).1)]
    exact c7
  · rw [List.nodup_append]
    refine ⟨h.fnodup, by simp, fun a ha' b hb' q => ?_⟩
    obtain rfl : b = p := by simpa using hb'
    subst q
    exact (h.place r hr a hp).2.2.2.2.2.1 ha'
  · rw [hlen]
    rcases List.mem_append.1 hx with q | q
    · exact h.fplace x q
    · obtain rfl : x = p := by simpa using q
      exact ⟨(h.place r hr x hp).1, (h.place r hr x hp).2.1⟩
  · rw [aget_adel h.keys] at hv
    by_cases e : id = lI lk p
    · rw [if_pos e] at hv; cases hv
    · rw [if_neg e] at hv
      obtain ⟨s, hs, x, hx, rfl, hxi⟩ := h.at_ id v hv
      exact ⟨s, hs, x, List.mem_filter.2 ⟨hx, by simp; exact fun q => e (by rw [← hxi, q])⟩, rfl, by rw [hI]; exact hxi⟩
end Go.Proofs.YtgdlndpjfejmcaaGreat
/- Putting a place into a row, plainly. -/
namespace Go.Proofs.YtgdlndpjfejmcaaGreat
set_option linter.unusedVariables false
set_option maxRecDepth 100000
/-- One more place, that is free. -/
theorem Good.more {n : Nat} {lk : List Lnk} {free : List Nat} {l : List (Int × Value)} {Ps : Nat → List Nat} (h : Good n lk free l Ps) (z : Lnk) : Good n (lk ++ [z]) (free ++ [lk.length]) l Ps := by
  have hs : ∀ j, j < lk.length → (lk ++ [z])[j]? = lk[j]? := fun j hj => List.getElem?_append_left hj
  have hA : ∀ j, j < lk.length → lA (lk ++ [z]) j = lA lk j := fun j hj => by unfold lA; rw [hs j hj]
  have hB : ∀ j, j < lk.length → lB (lk ++ [z]) j = lB lk j := fun j hj => by unfold lB; rw [hs j hj]
  have hI : ∀ j, j < lk.length → lI (lk ++ [z]) j = lI lk j := fun j hj => by unfold lI; rw [hs j hj]
  have hR : ∀ j, j < lk.length → lR (lk ++ [z]) j = lR lk j := fun j hj => by unfold lR; rw [hs j hj]
  have hb : ∀ r, r < n → ∀ x, x ∈ r :: Ps r → x < lk.length := fun r hr x hx => by
    rcases List.mem_cons.1 hx with q | q
    · subst q; exact Nat.lt_of_lt_of_le hr h.len
    · exact (h.place r hr x q).2.1
  refine ⟨by simp; have := h.len; omega, fun r hr => path_congr (h.ring r hr) (fun x hx => hA x (hb r hr x hx)) (fun x hx => hB x (hb r hr x (List.mem_cons_of_mem _ hx))) (hB r (hb r hr r (by simp))), h.nodup, fun r hr p hp => ?_, fun r hr => ?_, ?_, fun p hp => ?_, h.keys, fun id v hv => ?_, h.none_⟩
  · obtain ⟨c1, c2, c3, c4, c5, c6, c7⟩ := h.place r hr p hp
    rw [hI p c2, hR p c2]
    exact ⟨c1, by simp; omega, c3, c4, c5, by simp [c6]; omega, c7⟩
  · rw [hI r (hb r hr r (by simp))]; exact h.head r hr
  · rw [List.nodup_append]
    refine ⟨h.fnodup, by simp, fun a ha b hb2 q => ?_⟩
    obtain rfl : b = lk.length := by simpa using hb2
    have := (h.fplace a ha).2
    omega
  · rcases List.mem_append.1 hp with q | q
    · have := h.fplace p q
      exact ⟨this.1, by simp; omega⟩
    · obtain rfl : p = lk.length := by simpa using q
      exact ⟨h.len, by simp⟩
  · obtain ⟨r, hr, p, hp, e1, e2⟩ := h.at_ id v hv
    exact ⟨r, hr, p, hp, e1, by rw [hI p (h.place r hr p hp).2.1]; exact e2⟩
/-- The links behind a put at place k. -/
def linkin (lk : List Lnk) (k : Nat) (x : Lnk) : List Lnk := setB (setA (lk.set k x) x.before k) x.after k
theorem Good.put {n : Nat} {lk : List Lnk} {free : List Nat} {k : Nat} {l : List (Int × Value)} {Ps : Nat → List Nat} (h : Good n lk (free ++ [k]) l Ps) {r : Nat} (hr : r < n) {u v : List Nat} (huv : Ps r = u ++ v)
    {id : Int} (hid : 0 ≤ id ∧ id ≤ 4194303) (hno : aget l id = none) :
    Good n (linkin lk k ⟨id, r, lastOr r u, lA lk (lastOr r u)⟩) free (aset l id (iv k)) (fun s => if s = r then u ++ k :: v else Ps s) := by
  obtain ⟨hkn, hkl⟩ := h.fplace k (by simp)
  have hxm : lastOr r u ∈ r :: Ps r := by
    rw [huv]
    rcases List.mem_cons.1 (lastOr_mem r u) with q | q
    · rw [q]; simp
    · exact List.mem_cons_of_mem _ (List.mem_append_left _ q)
  obtain ⟨hyl, _, hym, _⟩ := h.near hr hxm
  obtain ⟨x, hx⟩ : ∃ x, lastOr r u = x := ⟨_, rfl⟩
  rw [hx] at hxm hyl hym ⊢
  obtain ⟨y, hy⟩ : ∃ y, lA lk x = y := ⟨_, rfl⟩
  rw [hy] at hyl hym ⊢
  have hb : ∀ s, s < n → ∀ z, z ∈ s :: Ps s → z < lk.length ∧ z ≠ k := fun s hs z hz => by
    rcases List.mem_cons.1 hz with q | q
    · subst q; exact ⟨Nat.lt_of_lt_of_le hs h.len, by omega⟩
    · exact ⟨(h.place s hs z q).2.1, fun e => (h.place s hs z q).2.2.2.2.2.1 (by simp [e])⟩
  have hxl := hb r hr x hxm
  have hyk := hb r hr y hym
  have hset : ∀ j, (lk.set k ⟨id, r, x, y⟩)[j]? = if j = k then some ⟨id, r, x, y⟩ else lk[j]? := fun j => by
    by_cases e : j = k
    · subst e; rw [if_pos rfl, List.getElem?_set_self hkl]
    · rw [if_neg e, List.getElem?_set_ne (fun q => e q.symm)]
  have hA : ∀ j, lA (linkin lk k ⟨id, r, x, y⟩) j = if j = x then k else if j = k then y else lA lk j := fun j => by
    refine ((l_setB _ _ _ j).1).trans ((lA_setA (by simpa using hxl.1) _ j).trans ?_)
    by_cases e : j = x
    · simp [e]
    · rw [if_neg e, if_neg e]; unfold lA; rw [hset]; by_cases e2 : j = k <;> simp [e2]
  have hB : ∀ j, lB (linkin lk k ⟨id, r, x, y⟩) j = if j = y then k else if j = k then x else lB lk j := fun j => by
    refine (lB_setB (by rw [setA_len]; simpa using hyk.1) _ j).trans ?_
    by_cases e : j = y
    · simp [e]
    · rw [if_neg e, if_neg e, (l_setA _ _ _ j).1]; unfold lB; rw [hset]; by_cases e2 : j = k <;> simp [e2]
  have hI : ∀ j, lI (linkin lk k ⟨id, r, x, y⟩) j = if j = k then id else lI lk j := fun j => by
    refine ((l_setB _ _ _ j).2.1).trans (((l_setA _ _ _ j).2.1).trans ?_)
    unfold lI; rw [hset]; by_cases e2 : j = k <;> simp [e2]
  have hR : ∀ j, lR (linkin lk k ⟨id, r, x, y⟩) j = if j = k then r else lR lk j := fun j => by
    refine ((l_setB _ _ _ j).2.2).trans (((l_setA _ _ _ j).2.2).trans ?_)
    unfold lR; rw [hset]; by_cases e2 : j = k <;> simp [e2]
  have hlen : (linkin lk k ⟨id, r, x, y⟩).length = lk.length := by unfold linkin; rw [setB_len, setA_len]; simp
  obtain ⟨hf1, _, hf2⟩ := List.nodup_append.1 h.fnodup
  have hkr : ∀ s, s < n → k ∉ s :: Ps s := fun s hs q => (hb s hs k q).2 rfl
  have hother : ∀ s, s < n → s ≠ r → ∀ x, x ∈ s :: Ps s → x ∉ r :: Ps r := fun s hs hne x hx hx2 => by
    rcases List.mem_cons.1 hx with q | q <;> rcases List.mem_cons.1 hx2 with q2 | q2
    · exact hne (q.symm.trans q2)
    · subst q; have := (h.place r hr x q2).1; omega
    · subst q2; have := (h.place s hs x q).1; omega
    · exact hne ((h.place s hs x q).2.2.1.symm.trans (h.place r hr x q2).2.2.1)
  have hold : ∀ s, s < n → ∀ p, p ∈ Ps s → n ≤ p ∧ p < (linkin lk k ⟨id, r, x, y⟩).length ∧ lR (linkin lk k ⟨id, r, x, y⟩) p = s ∧ 0 ≤ lI (linkin lk k ⟨id, r, x, y⟩) p ∧ lI (linkin lk k ⟨id, r, x, y⟩) p ≤ 4194303 ∧ p ∉ free ∧ aget (aset l id (iv k)) (lI (linkin lk k ⟨id, r, x, y⟩) p) = some (iv p) := fun s hs p hp => by
    obtain ⟨c1, c2, c3, c4, c5, c6, c7⟩ := h.place s hs p hp
    have hpk := (hb s hs p (List.mem_cons_of_mem _ hp)).2
    rw [hI, hR, if_neg hpk, if_neg hpk, hlen, aget_aset h.keys, if_neg (fun q => by rw [q, hno] at c7; cases c7)]
    exact ⟨c1, c2, c3, c4, c5, fun q => c6 (List.mem_append_left _ q), c7⟩
  refine ⟨by rw [hlen]; exact h.len, fun s hs => ?_, fun s hs => ?_, fun s hs p hp => ?_, fun s hs => ?_, hf1, fun p hp => ?_, keys_aset h.keys _ _, fun i v2 hv => ?_, fun s hs => ?_⟩
  · by_cases e : s = r
    · subst e
      have hn := h.ringNodup hs
      have hg := h.ring s hs
      have hk := hkr s hs
      rw [huv] at hn hg hk
      simp only [if_pos]
      exact ring_put hg hn hk hx.symm hy.symm (fun z h1 h2 => by rw [hA, if_neg h1, if_neg h2]) (by rw [hA, if_pos rfl]) (by rw [hA, if_neg (fun q => hxl.2 q.symm), if_pos rfl])
        (fun z h1 h2 => by rw [hB, if_neg h1, if_neg h2]) (by rw [hB, if_pos rfl]) (by rw [hB, if_neg (fun q => hyk.2 q.symm), if_pos rfl])
    · simp only [if_neg e]
      have ho := hother s hs e
      exact path_congr (h.ring s hs) (fun z hz => by rw [hA, if_neg (fun q : z = x => ho z hz (by rw [q]; exact hxm)), if_neg (hb s hs z hz).2])
        (fun z hz => by rw [hB, if_neg (fun q : z = y => ho z (List.mem_cons_of_mem _ hz) (by rw [q]; exact hym)), if_neg (hb s hs z (List.mem_cons_of_mem _ hz)).2])
        (by rw [hB, if_neg (fun q : s = y => ho s (by simp) (by rw [q]; exact hym)), if_neg (hb s hs s (by simp)).2])
  · by_cases e : s = r
    · subst e
      have hn := h.nodup s hs
      have hk := hkr s hs
      rw [huv] at hn hk
      simp only [if_pos]
      have hk2 : k ∉ u ++ v := fun q => hk (List.mem_cons_of_mem _ q)
      exact (List.perm_middle.nodup_iff).2 (List.nodup_cons.2 ⟨hk2, hn⟩)
    · simp only [if_neg e]; exact h.nodup s hs
  · by_cases e : s = r
    · subst e
      simp only [if_pos] at hp
      by_cases q : p = k
      · subst q
        rw [hlen, hR, hI, if_pos rfl, if_pos rfl, aget_aset h.keys, if_pos rfl]
        exact ⟨hkn, hkl, rfl, hid.1, hid.2, fun t => hf2 p t p (by simp) rfl, rfl⟩
      · exact hold s hs p (by rw [huv]; simp at hp ⊢; exact hp.elim Or.inl (fun t => t.elim (fun t => (q t).elim) Or.inr))
    · simp only [if_neg e] at hp
      exact hold s hs p hp
  · rw [hI, if_neg (hb s hs s (by simp)).2]; exact h.head s hs
  · rw [hlen]; exact h.fplace p (List.mem_append_left _ hp)
  · rw [aget_aset h.keys] at hv
    by_cases e : i = id
    · rw [if_pos e] at hv
      refine ⟨r, hr, k, by simp, by simpa using hv.symm, by rw [hI, if_pos rfl, e]⟩
    · rw [if_neg e] at hv
      obtain ⟨s, hs, p, hp, e1, e2⟩ := h.at_ i v2 hv
      refine ⟨s, hs, p, ?_, e1, by rw [hI, if_neg (hb s hs p (List.mem_cons_of_mem _ hp)).2]; exact e2⟩
      by_cases q : s = r
      · subst q; rw [huv] at hp; simp at hp ⊢; exact hp.elim Or.inl (fun t => Or.inr (Or.inr t))
      · simp only [if_neg q]; exact hp
  · have : s ≠ r := by omega
    simp only [if_neg this]; exact h.none_ s hs
end Go.Proofs.YtgdlndpjfejmcaaGreat
