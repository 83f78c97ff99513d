/- Layer 10 (rows): Front. -/
import Derived.Test.YtemdhnolccnnfaaRowsPutW
namespace Go.Proofs.Ytemdhnolccnnfaa
open Go.RowKit
set_option linter.unusedVariables false
/-- An id more, at a row's front; at its end. -/
def putF (L : Nat → List Int) (r : Nat) (id : Int) : Nat → List Int := fun s => if s = r then id :: L s else L s
def putB (L : Nat → List Int) (r : Nat) (id : Int) : Nat → List Int := fun s => if s = r then L s ++ [id] else L s
theorem put_at {w : World} {S : Nat → Prop} {g n : Nat} {L : Nat → List Int} {N : Nat} {lk lk' : List Lnk} {free free' : List Nat} {l l' : List (Int × Value)} {Ps : Nat → List Nat} {cnt : List Int} {id : Int} {r k : Nat} {u v : List Nat}
    (hG : Good n lk free l Ps) (hL : ∀ r, L r = Ls lk Ps r) (hcnt : ∀ r, r < n → cnt[r]? = some ((L r).length : Int)) (hLN : ∀ r, (L r).length ≤ N) (hN : lk.length ≤ n + N) (hn0 : 0 < n) (hn8 : n ≤ 8) (hr : r < n) (huv : Ps r = u ++ v)
    (hM : RowsM w S g n lk' free' l' (cnt.set r (((L r).length : Int) + 1))) (hG' : Good n lk' free' l' (fun s => if s = r then u ++ k :: v else Ps s))
    (hLs : ∀ s, Ls lk' (fun s => if s = r then u ++ k :: v else Ps s) s = if s = r then u.map (lI lk) ++ id :: v.map (lI lk) else Ls lk Ps s) (hlen : lk'.length ≤ lk.length + 1) :
    RowsAt w S g n (fun s => if s = r then u.map (lI lk) ++ id :: v.map (lI lk) else L s) (N + 1) := by
  have hl1 : (L r).length = (u ++ v).length := by rw [hL, ← huv]; simp [Ls]
  have hll : ∀ s, ((fun s => if s = r then u.map (lI lk) ++ id :: v.map (lI lk) else L s) s).length = if s = r then (L s).length + 1 else (L s).length := fun s => by
    by_cases e : s = r
    · subst e; simp only [if_pos]; rw [hl1]; simp; omega
    · simp only [if_neg e]
  refine ⟨_, _, _, _, _, hM, hG', fun s => ?_, fun s hs => ?_, by omega, hn0, hn8, fun s => ?_⟩
  · rw [hLs]
    by_cases e : s = r
    · simp only [if_pos e]
    · simp only [if_neg e]; exact hL s
  · rw [hll]
    by_cases e : s = r
    · subst e
      have hl : s < cnt.length := by
        rcases Nat.lt_or_ge s cnt.length with h | h
        · exact h
        · have := hcnt s hs; rw [List.getElem?_eq_none h] at this; cases this
      rw [List.getElem?_set_self hl, if_pos rfl]
      simp
    · rw [List.getElem?_set_ne (fun h => e h.symm), hcnt s hs, if_neg e]
  · rw [hll]
    have := hLN s
    split <;> omega
theorem aget_no {n : Nat} {lk : List Lnk} {free : List Nat} {l : List (Int × Value)} {Ps : Nat → List Nat} (h : Good n lk free l Ps) {id : Int} (hno : ∀ s, id ∉ Ls lk Ps s) : aget l id = none := by
  rcases ha : aget l id with _ | v
  · rfl
  · obtain ⟨r, hr, p, hp, rfl, he⟩ := h.at_ id v ha
    exact absurd (List.mem_map.2 ⟨p, hp, he⟩) (hno r)
/-- put, at the front. -/
theorem rows_putF (S : Nat → Prop) (g n : Nat) (L : Nat → List Int) (N : Nat) (r : Nat) (id : Int) (w : World) (hG : RowsAt w S g n L N) (hr : r < n) (hid : 0 ≤ id ∧ id ≤ 4194303) (hno : ∀ s, id ∉ L s) (hN1 : N < 1000000) :
    Calls Try.prog 29 #[.pointer (some ⟨g, 0, none⟩), .int .i64 r, .int .i64 id, .int .i64 r] w fun e w' => e = .returned (.tuple #[]) ∧ RowsAt w' (grow S w w') g n (putF L r id) (N + 1) ∧ Fr S w w' := by
  obtain ⟨lk, free, l, Ps, cnt, hM, hG, hL, hcnt, hN, hn0, hn8, hLN⟩ := hG
  refine (rows_put S g n lk free l Ps cnt w hM hG (by omega) r hr [] (Ps r) rfl id hid (aget_no hG (fun s => by rw [← hL]; exact hno s)) _ (hcnt r hr) (by omega) (by have := hLN r; omega)).mono ?_
  rintro e w' ⟨he, ⟨lk', free', l', k, hM', hG', hLs, hlen⟩, hF⟩
  refine ⟨he, ?_, hF⟩
  have := put_at hG hL hcnt hLN hN hn0 hn8 hr (u := []) (v := Ps r) rfl hM' hG' hLs hlen
  have e : (fun s => if s = r then [].map (lI lk) ++ id :: (Ps r).map (lI lk) else L s) = putF L r id := by
    funext s
    unfold putF
    by_cases e : s = r
    · subst e; simp only [if_pos]; rw [hL]; rfl
    · simp only [if_neg e]
  rw [e] at this
  exact this
theorem not_in_del (L : Nat → List Int) (id : Int) (s : Nat) : id ∉ del L id s := by simp [del]
/-- May an id be put into a row? -/
def mayIn (n : Nat) (row id : Int) : Bool := decide (0 ≤ row ∧ row < n ∧ 0 ≤ id ∧ id ≤ 4194303)
theorem mayIn_iff {n : Nat} {row id : Int} {b : Bool} (h : mayIn n row id = b) : (b = true → (0 ≤ row ∧ row < n) ∧ 0 ≤ id ∧ id ≤ 4194303) ∧ (b = false → ¬ ((0 ≤ row ∧ row < n) ∧ 0 ≤ id ∧ id ≤ 4194303)) := by
  subst h
  unfold mayIn
  exact ⟨fun h => by have := of_decide_eq_true h; exact ⟨⟨this.1, this.2.1⟩, this.2.2⟩, fun h q => of_decide_eq_false h ⟨q.1.1, q.1.2, q.2⟩⟩
set_option maxHeartbeats 1000000 in
theorem rows_front_ok (S : Nat → Prop) (g n : Nat) (L : Nat → List Int) (N : Nat) (r : Nat) (id : Int) (w : World) (hG : RowsAt w S g n L N) (hr : r < n) (hid : 0 ≤ id ∧ id ≤ 4194303) (hN1 : N < 1000000) :
    Calls Try.prog 20 #[.pointer (some ⟨g, 0, none⟩), .int .i64 r, .int .i64 id] w fun e w' => e = .returned (.bool true) ∧ RowsAt w' (grow S w w') g n (putF (del L id) r id) (N + 1) ∧ Fr S w w' := by
  have hn8 : n ≤ 8 := by obtain ⟨_, _, _, _, _, _, _, _, _, _, _, h, _⟩ := hG; exact h
  have HC := Lib.hid (rows_has S g n L N r w hG)
  have HT := Lib.hid (rows_take S g n L N id w hG (by omega))
  have hd : decide (0 ≤ (r : Int) ∧ (r : Int) < (n : Int)) = true := decide_eq_true (by omega)
  have HD := Lib.hid hd
  have HG := Lib.hid hG
  obtain ⟨hid0, hid1⟩ := hid
  have hid2 : decide (4194303 < id) = false := decide_eq_false (by omega)
  have hid3 : decide (id < 0) = false := decide_eq_false (by omega)
  clear hd hG
  go_enter Try.func20, Try.ntmps20
  go_wp2_with (first
    | (go_at_call 21; refine HC.out.mono ?_; rintro e w' ⟨rfl, rfl⟩; rw [HD.out])
    | (go_at_call 28; refine HT.out.mono ?_; rintro e w1 ⟨rfl, hG1, hF1⟩; have H1 := Lib.hid (And.intro hG1 hF1); clear hG1 hF1)
    | (go_at_call 29; refine (rows_putF _ g n _ N r id w1 H1.out.1 hr ⟨hid0, hid1⟩ (not_in_del L id) hN1).mono ?_; rintro e w2 ⟨rfl, hG2, hF2⟩; have H2 := Lib.hid (And.intro hG2 hF2); clear hG2 hF2))
  go_ret
  refine ⟨rfl, H2.out.1.mono (fun b hb h => ?_), H1.out.2.trans H2.out.2 (fun i hi h => h.elim (fun h => h) (fun h => by omega))⟩
  rcases h with (h | h) | h
  · exact Or.inl h
  · exact Or.inr ⟨h.1, hb⟩
  · exact Or.inr ⟨Nat.le_trans H1.out.2.size h.1, hb⟩
end Go.Proofs.Ytemdhnolccnnfaa
