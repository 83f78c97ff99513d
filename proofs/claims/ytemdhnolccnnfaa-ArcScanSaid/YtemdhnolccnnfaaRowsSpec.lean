/- Rings of places: a row's links forward and backward, and what putting in and taking out does to them. -/
import Derived.Test.YtemdhnolccnnfaaSl
namespace Go.Proofs.Ytemdhnolccnnfaa
set_option linter.unusedVariables false
/-- From a over the places ps to b: A leads forward, B backward. -/
def Path (A B : Nat → Nat) : Nat → List Nat → Nat → Prop
  | a, [], b => A a = b ∧ B b = a
  | a, p :: q, b => A a = p ∧ B p = a ∧ Path A B p q b
theorem path_split {A B : Nat → Nat} : ∀ {a : Nat} {u v : List Nat} {k b : Nat}, Path A B a (u ++ k :: v) b ↔ Path A B a u k ∧ Path A B k v b
  | a, [], v, k, b => by simp [Path, and_assoc]
  | a, p :: u, v, k, b => by simp [Path, path_split (u := u), and_assoc]
/-- The place ahead of the end. -/
def lastOr : Nat → List Nat → Nat
  | a, [] => a
  | _, p :: u => lastOr p u
theorem lastOr_mem : ∀ (a : Nat) (u : List Nat), lastOr a u ∈ a :: u
  | a, [] => by simp [lastOr]
  | a, p :: u => List.mem_cons_of_mem _ (lastOr_mem p u)
theorem lastOr_snoc : ∀ (a : Nat) (u : List Nat) (k : Nat), lastOr a (u ++ [k]) = k
  | a, [], k => rfl
  | a, p :: u, k => lastOr_snoc p u k
theorem lastOr_ne {a p : Nat} {u : List Nat} (hn : (a :: p :: u).Nodup) : a ≠ lastOr p u := fun e => (List.nodup_cons.1 hn).1 (by have := lastOr_mem p u; rwa [← e] at this)
theorem path_last {A B : Nat → Nat} : ∀ {a : Nat} {u : List Nat} {b : Nat}, Path A B a u b → B b = lastOr a u ∧ A (lastOr a u) = b
  | a, [], b, h => ⟨h.2, h.1⟩
  | a, p :: u, b, h => by
    show B b = lastOr p u ∧ A (lastOr p u) = b
    exact path_last h.2.2
theorem path_first {A B : Nat → Nat} {a : Nat} {u : List Nat} {b : Nat} (h : Path A B a u b) : A a = u.headD b := by
  cases u with
  | nil => exact h.1
  | cons p q => simpa using h.1
/-- The end is set anew. -/
theorem path_end {A B A' B' : Nat → Nat} : ∀ {a : Nat} {u : List Nat} {b y : Nat}, Path A B a u b → (a :: u).Nodup → (∀ x ∈ a :: u, x ≠ lastOr a u → A' x = A x) → A' (lastOr a u) = y →
    (∀ x ∈ u, B' x = B x) → B' y = lastOr a u → Path A' B' a u y
  | a, [], b, y, h, _, _, h2, _, h4 => ⟨h2, h4⟩
  | a, p :: u, b, y, h, hn, h1, h2, h3, h4 =>
    ⟨(h1 a (by simp) (lastOr_ne (p := p) (u := u) hn)).trans h.1, (h3 p (by simp)).trans h.2.1, path_end h.2.2 (List.nodup_cons.1 hn).2 (fun x hx => h1 x (List.mem_cons_of_mem _ hx)) h2 (fun x hx => h3 x (List.mem_cons_of_mem _ hx)) h4⟩
/-- What leads on as it did. -/
theorem path_congr {A B A' B' : Nat → Nat} : ∀ {a : Nat} {u : List Nat} {b : Nat}, Path A B a u b → (∀ x ∈ a :: u, A' x = A x) → (∀ x ∈ u, B' x = B x) → B' b = B b → Path A' B' a u b
  | a, [], b, h, h1, _, h3 => ⟨(h1 a (by simp)).trans h.1, h3.trans h.2⟩
  | a, p :: u, b, h, h1, h2, h3 => ⟨(h1 a (by simp)).trans h.1, (h2 p (by simp)).trans h.2.1, path_congr h.2.2 (fun x hx => h1 x (List.mem_cons_of_mem _ hx)) (fun x hx => h2 x (List.mem_cons_of_mem _ hx)) h3⟩
/-- A place is taken out of a ring: its neighbours hold each other. -/
theorem ring_drop {A B A' B' : Nat → Nat} {r k : Nat} {u v : List Nat} (h : Path A B r (u ++ k :: v) r) (hn : (r :: (u ++ k :: v)).Nodup)
    (hA : ∀ x, x ≠ B k → A' x = A x) (hA1 : A' (B k) = A k) (hB : ∀ x, x ≠ A k → B' x = B x) (hB1 : B' (A k) = B k) : Path A' B' r (u ++ v) r := by
  obtain ⟨h1, h2⟩ := path_split.1 h
  obtain ⟨e1, e2⟩ := path_last h1
  rw [e1] at hA hA1 hB1
  have hnu : (r :: u).Nodup := hn.sublist (by simp)
  cases v with
  | nil =>
    have hk : A k = r := h2.1
    rw [hk] at hB hB1 hA1
    rw [List.append_nil]
    exact path_end h1 hnu (fun x _ hx => hA x hx) hA1 (fun x hx => hB x (fun e => by subst e; exact (List.nodup_cons.1 hn).1 (by simp [hx]))) hB1
  | cons y v =>
    have hk : A k = y := h2.1
    rw [hk] at hB hB1 hA1
    have hyu : y ∉ u := fun hx => by
      have := (List.nodup_append.1 (List.nodup_cons.1 hn).2).2.2 y hx y (by simp)
      exact this rfl
    refine path_split.2 ⟨path_end h1 hnu (fun x _ hx => hA x hx) hA1 (fun x hx => hB x (fun e => hyu (e ▸ hx))) hB1, ?_⟩
    have hl : ∀ x ∈ y :: v, x ≠ lastOr r u := fun x hx e => by
      have hm := lastOr_mem r u
      rw [← e] at hm
      rcases List.mem_cons.1 hm with q | q
      · subst q; exact (List.nodup_cons.1 hn).1 (List.mem_append_right _ (List.mem_cons_of_mem _ hx))
      · exact (List.nodup_append.1 (List.nodup_cons.1 hn).2).2.2 x q x (List.mem_cons_of_mem _ hx) rfl
    have hny : (y :: v).Nodup := (List.nodup_cons.1 (List.nodup_append.1 (List.nodup_cons.1 hn).2).2.1).2
    exact path_congr h2.2.2 (fun x hx => hA x (hl x hx)) (fun x hx => hB x (fun e => by subst e; exact (List.nodup_cons.1 hny).1 hx)) (hB r (fun e => by subst e; exact (List.nodup_cons.1 hn).1 (by simp)))
/-- A place is put behind the last of u. -/
theorem ring_put {A B A' B' : Nat → Nat} {r k x y : Nat} {u v : List Nat} (h : Path A B r (u ++ v) r) (hn : (r :: (u ++ v)).Nodup) (hk : k ∉ r :: (u ++ v))
    (hx : x = lastOr r u) (hy : y = A x) (hA : ∀ z, z ≠ x → z ≠ k → A' z = A z) (hA1 : A' x = k) (hA2 : A' k = y) (hB : ∀ z, z ≠ y → z ≠ k → B' z = B z) (hB1 : B' y = k) (hB2 : B' k = x) :
    Path A' B' r (u ++ k :: v) r := by
  have hnu : (r :: u).Nodup := hn.sublist (by simp)
  have hku : ∀ z ∈ r :: u, z ≠ k := fun z hz e => hk (by subst e; rcases List.mem_cons.1 hz with q | q <;> simp [q])
  subst hx
  cases v with
  | nil =>
    rw [List.append_nil] at h hn hk
    have hyr : y = r := hy.trans (path_last h).2
    rw [hyr] at hA2 hB hB1
    refine path_split.2 ⟨path_end h hnu (fun z hz q => hA z q (hku z hz)) hA1 (fun z hz => hB z (fun e => by subst e; exact (List.nodup_cons.1 hn).1 hz) (hku z (List.mem_cons_of_mem _ hz))) hB2, hA2, hB1⟩
  | cons p v =>
    obtain ⟨h1, h2⟩ := path_split.1 h
    have hyp : y = p := hy.trans (path_last h1).2
    rw [hyp] at hA2 hB hB1
    have hpu : p ∉ u := fun q => (List.nodup_append.1 (List.nodup_cons.1 hn).2).2.2 p q p (by simp) rfl
    have hkv : ∀ z ∈ p :: v, z ≠ k := fun z hz e => hk (by subst e; exact List.mem_cons_of_mem _ (List.mem_append_right _ hz))
    have hny : (p :: v).Nodup := (List.nodup_append.1 (List.nodup_cons.1 hn).2).2.1
    have hl : ∀ z ∈ p :: v, z ≠ lastOr r u := fun z hz e => by
      have hm := lastOr_mem r u
      rw [← e] at hm
      rcases List.mem_cons.1 hm with q | q
      · subst q; exact (List.nodup_cons.1 hn).1 (List.mem_append_right _ hz)
      · exact (List.nodup_append.1 (List.nodup_cons.1 hn).2).2.2 z q z hz rfl
    refine path_split.2 ⟨path_end h1 hnu (fun z hz q => hA z q (hku z hz)) hA1 (fun z hz => hB z (fun e => hpu (e ▸ hz)) (hku z (List.mem_cons_of_mem _ hz))) hB2, hA2, hB1, ?_⟩
    exact path_congr h2 (fun z hz => hA z (hl z hz) (hkv z hz)) (fun z hz => hB z (fun e => by subst e; exact (List.nodup_cons.1 hny).1 hz) (hkv z (List.mem_cons_of_mem _ hz)))
      (hB r (fun e => by subst e; exact (List.nodup_cons.1 hn).1 (by simp)) (hku r (by simp)))
end Go.Proofs.Ytemdhnolccnnfaa
