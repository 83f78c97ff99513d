/- A range over a function, whose iterator may turn a block of its own. -/
import Derived.Test.YtejebgdikoehmaaGreatDoorToP
import Derived.RangeFuncBox
import Derived.RangeFuncLeaves
import Derived.RangeFuncRecord
import Derived.Shelf.Abstract
import Derived.OwnWalkIn
import Derived.TacticsInMore
import Derived.LoopNIn
import Derived.LoopIn
import Derived.Maps.AppendAt
import Derived.Sort.QuietIn
namespace Go.Proofs.YtejebgdikoehmaaGreatDoor
open Go Go.RowKit
set_option linter.unusedVariables false
set_option linter.unusedSimpArgs false
section
variable {P : Program} {n : Nat}
/-- A record of a range over a function. -/
def IsRec (o : Obj) : Prop := (∃ r, o = .loop r) ∨ ∃ d, o = .deferred d
theorem IsRec.isCells {o : Obj} (h : IsRec o) : o.isCells = false := by rcases h with ⟨r, rfl⟩ | ⟨d, rfl⟩ <;> rfl
/-- A range over a function: It is what a step of the iterator keeps, Bo what a round keeps. -/
theorem range_own {α : Type} {g : Operand} {ps : Array Tmp} {assign body : Code} {Q : Exit → Act → World → Prop} {a : Act} {w : World} (h1 : 2 ≤ n)
    {gf : Nat} {lb : Array Value} (hg : a.eval g = .func (.func gf) #[] lb) (eg : ∀ args w, (callFunc gf args).run P w = .ok (.enter gf args) w)
    {encs : α → Array Value} (hps : ∀ x, (encs x).size = ps.size) (It Bo : World → World → Prop) (I : List α → World → Prop) (S : List α → Prop) (G : List α → α → Prop)
    (hIt : ∀ pre A B, It A B → I pre A → I pre B) (hItK : ∀ A B k o, It A B → w.heap.size ≤ k → A.heap[k]? = some o → IsRec o → B.heap[k]? = some o)
    (hIput : ∀ pre A k o o', I pre A → w.heap.size ≤ k → A.heap[k]? = some o → IsRec o → IsRec o' → I pre (A.putObj k o'))
    (hBput : ∀ A k o o', w.heap.size ≤ k → A.heap[k]? = some o → IsRec o → Bo A (A.putObj k o')) (hBt : ∀ {A B C}, Bo A B → Bo B C → Bo A C)
    (h0 : ∀ L, I [] ((w.alloc (.deferred (some []))).alloc (.loop L))) (a₁ : α → Act)
    (hassign : ∀ (l : Nat) (x : α) (W : World) (K : Act → World → Prop), K (a₁ x) W →
      assign.wpIn (Fence.wide.inRound l) (n - 1 - 1) P (Exit.then K (fun _ _ _ => False)) { tmps := (ps.zip (encs x)).foldl (fun t (p, v) => t.setIfInBounds p v) a.tmps, defers := [] } W)
    (hbody : ∀ (l : Nat) (pre : List α) (x : α) (W : World), I pre W → G pre x → body.wpIn (Fence.wide.inRound l) (n - 1 - 1) P (fun e _ W' => e = .normal ∧ (∀ k o, w.heap.size ≤ k → W.heap[k]? = some o → IsRec o → W'.heap[k]? = some o) ∧ Bo W W' ∧ I (pre ++ [x]) W') (a₁ x) W)
    (hiter : ∀ (l : Nat) (J : List α → World → Prop) (W : World), (∀ pre A B, It A B → J pre A → J pre B) → J [] W → (∀ pre A, J pre A → I pre A) →
      (∀ pre x W1, J pre W1 → G pre x → YieldAt Fence.wide (n - 1 - 1) P l (encs x) W1 fun e W' => e = .returned (.bool true) ∧ J (pre ++ [x]) W' ∧ Bo W1 W') →
      (∃ L, W = (w.alloc (.deferred (some []))).alloc (.loop L)) →
      CallsIn Fence.wide (n - 1) P gf (#[.func (.yield l) #[] #[]] ++ lb) W fun e W' => (∃ v, e = .returned v) ∧ ∃ xs, S xs ∧ J xs W')
    (hdone : ∀ (xs : List α) (W : World), S xs → I xs W → W.heap[w.heap.size]? = some (.deferred (some [])) → Q .normal { a with defers := { target := .collected w.heap.size, args := #[] } :: a.defers } W) :
    (Code.rangeFunc g ps assign body).wpIn Fence.wide n P Q a w := by
  refine wpIn_rangeFunc fun fn hfn => ?_
  obtain ⟨rec, hrec⟩ : ∃ rec : LoopState → Option Code → Loop, rec = fun st pe => { state := st, pending := pe, fn, tmps := a.tmps, params := ps, assign, body, defers := w.heap.size } := ⟨_, rfl⟩
  obtain ⟨W1, hW1⟩ : ∃ W1, (w.alloc (.deferred (some []))).alloc (.loop (rec .ready none)) = W1 := ⟨_, rfl⟩
  have hL1 : W1.heap[w.heap.size + 1]? = some (.loop (rec .ready none)) := by
    rw [← hW1]; have := World.alloc_heap_new (w.alloc (.deferred (some []))) (.loop (rec .ready none)); rwa [World.size_alloc] at this
  have hK1 : W1.heap[w.heap.size]? = some (.deferred (some [])) := by
    rw [← hW1]; exact (Below.heap_alloc _ _ _ (by simp)).trans (World.alloc_heap_new w _)
  have hI1 : I [] W1 := by rw [← hW1]; exact h0 _
  refine ⟨w.heap.size + 1, [{ target := .collected w.heap.size, args := #[] }], W1, { target := .fn (.func gf) lb, args := #[.func (.yield (w.heap.size + 1)) #[] #[]] }, W1, gf,
    #[.func (.yield (w.heap.size + 1)) #[] #[]] ++ lb, W1, ?_, ?_, ?_, ?_, fun _ => by omega, ?_⟩
  · rw [← hW1, hrec]; exact run_enterLoop_outer _ _ _ _ _
  · simp only [resolve, hg]
    simp [go_sem]
  · intro f' _; trivial
  · simp [invoke, go_sem, eg]
  · refine (hiter (w.heap.size + 1) (fun pre W => I pre W ∧ W.heap[w.heap.size + 1]? = some (.loop (rec .ready none)) ∧ W.heap[w.heap.size]? = some (.deferred (some []))) W1 ?_ ⟨hI1, hL1, hK1⟩ (fun pre A h => h.1) ?_ ⟨_, hW1.symm⟩).mono ?_
    · rintro pre A B hi ⟨j1, j2, j3⟩
      exact ⟨hIt pre A B hi j1, hItK A B _ _ hi (by omega) j2 (.inl ⟨_, rfl⟩), hItK A B _ _ hi (Nat.le_refl _) j3 (.inr ⟨_, rfl⟩)⟩
    · rintro pre x W ⟨hi, hl, hk⟩ hlen
      have hlt : w.heap.size + 1 < W.heap.size := (Array.getElem?_eq_some_iff.1 hl).1
      have hy := run_yield (P := P) (args := encs x) hl (by rw [hrec]; exact hps x)
      rw [hrec] at hy
      refine ⟨fn, _, assign, body, hy, roundIn_of_wpIn hfn (hassign _ x W _ ⟨_, run_beginRound hl (by rw [hrec]), ?_⟩)⟩
      have hl2 : (W.putObj (w.heap.size + 1) (.loop { rec .ready none with state := .busy })).heap[w.heap.size + 1]? = some (.loop { rec .ready none with state := .busy }) := World.putObj_heap_same hlt
      have hk2 : (W.putObj (w.heap.size + 1) (.loop { rec .ready none with state := .busy })).heap[w.heap.size]? = some (.deferred (some [])) := (World.putObj_heap_other (by omega)).trans hk
      have hb2 : Bo W (W.putObj (w.heap.size + 1) (.loop { rec .ready none with state := .busy })) := hBput _ _ _ _ (by omega) hl (.inl ⟨_, rfl⟩)
      refine wpIn_mono (hbody _ pre x _ (hIput _ _ _ _ _ hi (by omega) hl (.inl ⟨_, rfl⟩) (.inl ⟨_, rfl⟩)) hlen) ?_
      rintro e a3 W3 ⟨rfl, hk3, hb3, hi3⟩
      have hl3 := hk3 _ _ (by omega) hl2 (.inl ⟨_, rfl⟩)
      have hd3 := hk3 _ _ (Nat.le_refl _) hk2 (.inr ⟨_, rfl⟩)
      have hr := run_endRound (P := P) none hl3
      refine ⟨_, _, hr, rfl, ⟨hIput _ _ _ _ _ hi3 (by omega) hl3 (.inl ⟨_, rfl⟩) (.inl ⟨_, rfl⟩), ?_, ?_⟩, hBt (hBt hb2 hb3) (hBput _ _ _ _ (by omega) hl3 (.inl ⟨_, rfl⟩))⟩
      · rw [World.putObj_heap_same (Array.getElem?_eq_some_iff.1 hl3).1, hrec]
        rfl
      · exact (World.putObj_heap_other (by omega)).trans hd3
    · rintro e W2 ⟨⟨v, rfl⟩, xs, hS, hi, hl, hk⟩
      refine ⟨none, _, by have := run_endLoop (P := P) hl (by rw [hrec]; simp); rw [hrec] at this; exact this, ?_⟩
      exact hdone xs _ hS (hIput _ _ _ _ _ hi (by omega) hl (.inl ⟨_, rfl⟩) (.inl ⟨_, rfl⟩)) ((World.putObj_heap_other (by omega)).trans hk)
end
end Go.Proofs.YtejebgdikoehmaaGreatDoor
/- words.Split, which goes through a function. -/
namespace Go.Proofs.YtejebgdikoehmaaGreatDoor
open Go Go.RowKit Go.Shelf
set_option linter.unusedVariables false
set_option linter.unusedSimpArgs false
attribute [local go_sem] Oper.semAt_some
/-- What two functions of texts tell. -/
def Tl (s t : List UInt8) : Prop := ∀ W, Calls Tryz.prog 91 #[.string ⟨⟨s⟩⟩, .string ⟨#[32]⟩] W fun e W' => e = .returned (.string ⟨⟨t⟩⟩) ∧ Fr (fun _ => False) W W'
def Cu (s w r : List UInt8) (b : Bool) : Prop := ∀ W, Calls Tryz.prog 90 #[.string ⟨⟨s⟩⟩, .string ⟨#[32]⟩] W fun e W' => e = .returned (.tuple #[.string ⟨⟨w⟩⟩, .string ⟨⟨r⟩⟩, .bool b]) ∧ Fr (fun _ => False) W W'
/-- A line's words. -/
inductive Ws : List UInt8 → List (List UInt8) → Prop
  | nil {s} (h : Tl s []) : Ws s []
  | cons {s t w r : List UInt8} {b : Bool} {ws : List (List UInt8)} (h : Tl s t) (hne : t ≠ []) (k : Cu t w r b) (hlt : r.length < s.length) (hw : Ws r ws) : Ws s (w :: ws)
def boxLen (Bl : Nat) (W : World) : Nat := match W.cell? ⟨Bl, 0, none⟩ with
  | some (.string s) => s.size
  | _ => 0
theorem boxLen_of {Bl : Nat} {W : World} {s : List UInt8} (h : Boxed W Bl 9 (.string ⟨⟨s⟩⟩)) : boxLen Bl W = s.length := by
  simp only [boxLen, h.cell]
  rfl
theorem str_nil (t : List UInt8) (h : t ≠ []) : ((⟨⟨t⟩⟩ : ByteArray).toList == (⟨#[]⟩ : ByteArray).toList) = false := by
  rw [bytes_eq]
  cases t with
  | nil => exact (h rfl).elim
  | cons a r => rfl
theorem boxed_fr {S : Nat → Prop} {W W' : World} {B : Nat} {t : TypeId} {v : Value} (h : Boxed W B t v) (hF : Fr S W W') (hn : ¬ S B) : Boxed W' B t v := (hF.block B h.lt hn).trans h
set_option maxRecDepth 100000 in
set_option maxHeartbeats 2000000 in
theorem words1_in (n : Nat) (hn : 1 ≤ n) (l Bl B n₁ N : Nat) (J : List (List UInt8) → World → Prop) (hJ : ∀ pre A C, Fr (fun b => b = Bl) A C → J pre A → J pre C) (hBl : Bl ≠ B ∧ Bl < n₁)
    (hY : ∀ pre x W, J pre W → pre.length < N → YieldAt Fence.wide (n - 1) Tryz.prog l #[.string ⟨⟨x⟩⟩] W fun e W' => e = .returned (.bool true) ∧ J (pre ++ [x]) W' ∧ Fr (fun b => b = B ∨ n₁ ≤ b) W W')
    (W : World) (s : List UInt8) (ws : List (List UInt8)) (hb : Boxed W Bl 9 (.string ⟨⟨s⟩⟩)) (hW : n₁ ≤ W.heap.size) (hs : Ws s ws) (hN : ws.length ≤ N) (h0 : J [] W) :
    CallsIn Fence.wide n Tryz.prog 230 #[.func (.yield l) #[] #[], .pointer (some ⟨Bl, 0, none⟩)] W fun e W' => (∃ v, e = .returned v) ∧ J ws W' := by
  have HH := Lib.hid (And.intro hJ (And.intro hBl (And.intro hY hN)))
  have H0 := Lib.hid (And.intro hb (And.intro hs h0))
  clear hJ hBl hY hN hb hs h0
  refine callsIn_of_wp Tryz.func230 rfl trivial ?_ rfl
  simp only [Tryz.ntmps230, List.size_toArray, List.length_cons, List.length_nil, Nat.reduceAdd, Nat.reduceSub, Array.replicate_succ, Array.replicate_zero, List.push_toArray, List.append_toArray, List.nil_append, List.cons_append]
  gi_wp2
  gi_loopw [6] (fun p wr => ∃ (pre rest : List (List UInt8)) (s : List UInt8), ws = pre ++ rest ∧ Boxed wr Bl 9 (.string ⟨⟨s⟩⟩) ∧ Ws s rest ∧ n₁ ≤ wr.heap.size ∧ J pre wr) (fun _ wr => boxLen Bl wr)
  case atStart => exact ⟨[], ws, s, rfl, H0.out.1, H0.out.2.1, hW, H0.out.2.2⟩
  case round =>
    obtain ⟨pre, rest, s, hpr, hb, hs, hsz, hJ⟩ := hrel
    have hc := hb.cell
    have hf := hb.frozen
    cases hs with
    | nil hT =>
      have H1 := Lib.hid (And.intro hT (And.intro hJ hpr))
      clear hT hJ hpr
      have hE : ((⟨⟨([] : List UInt8)⟩⟩ : ByteArray).toList == (⟨#[]⟩ : ByteArray).toList) = true := by rw [bytes_eq]; rfl
      gi_wp2_with (refine ⟨trivial, ?_⟩; gi_at_call 91; refine (callsIn_wide.2 (H1.out.1 _)).mono ?_; rintro e w' ⟨rfl, hF⟩; have hb1 := boxed_fr hb hF (fun h => h); have hc1 := hb1.cell; have hf1 := hb1.frozen; have HF := Lib.hid hF; clear hF)
      refine bodyPost_ret (results_none rfl _ _ _) rfl ?_
      refine ⟨⟨_, rfl⟩, ?_⟩
      obtain ⟨_, hJ, hpr⟩ := H1.out
      rw [hpr, List.append_nil]
      exact HH.out.1 _ _ _ (Fr.setCell (S := fun b => b = Bl) (HF.out.mono (fun _ _ h => h.elim)) (fun _ => rfl) _) hJ
    | @cons _ t w r bo rest' hT hne hC hlt hw =>
      have H1 := Lib.hid (And.intro hT (And.intro hJ (And.intro hpr (And.intro hC (And.intro hlt (And.intro hw hb))))))
      have hE : t.isEmpty = false := by cases t with | nil => exact (hne rfl).elim | cons a r => rfl
      clear hT hJ hpr hC hlt hw
      gi_wp2_with (first
        | (refine ⟨trivial, ?_⟩; gi_at_call 91; refine (callsIn_wide.2 (H1.out.1 _)).mono ?_; rintro e W1 ⟨rfl, hF⟩; have hb1 := boxed_fr hb hF (fun h => h); have hc1 := hb1.cell; have hf1 := hb1.frozen; have HF := Lib.hid hF; clear hF)
        | (refine ⟨trivial, ?_⟩; gi_at_call 90; refine (callsIn_wide.2 (H1.out.2.2.2.1 _)).mono ?_; rintro e W2 ⟨rfl, hF⟩; have hb2 := boxed_fr (hb1.set _) hF (fun h => h); have hc2 := hb2.cell; have hf2 := hb2.frozen; have HF2 := Lib.hid hF; clear hF))
      have hF3 : Fr (fun b => b = Bl) wr (W2.setCell ⟨Bl, 0, none⟩ (.string ⟨⟨r⟩⟩)) :=
        Fr.setCell (S := fun b => b = Bl) ((Fr.setCell (S := fun b => b = Bl) (HF.out.mono (fun _ _ h => h.elim)) (fun _ => rfl) _).trans HF2.out (fun _ _ h => h.elim)) (fun _ => rfl) _
      have hb3 := hb2.set (.string ⟨⟨r⟩⟩)
      obtain ⟨W3, hW3⟩ : ∃ W3, W2.setCell ⟨Bl, 0, none⟩ (.string ⟨⟨r⟩⟩) = W3 := ⟨_, rfl⟩
      rw [hW3] at hF3 hb3
      rw [hW3]
      clear hW3
      obtain ⟨hJc, ⟨hn1, hn2⟩, hY, hN⟩ := HH.out
      obtain ⟨fn, tmps, assign, body, hy, hR⟩ := hY pre w W3 (hJc _ _ _ hF3 H1.out.2.1) (by
        have := H1.out.2.2.1
        rw [this] at hN
        simp at hN
        omega)
      have hz3 := hF3.size
      have H3 := Lib.hid (And.intro hb3 (And.intro hn1 hn2))
      clear hb3 hF3 hJc hn1 hn2 hY hN hb1 hb2 hc1 hc2 hf1 hf2 hb hc hf
      rw [hy]
      gi_wp2
      refine hR.mono ?_
      rintro e W4 ⟨rfl, hJ4, hk4⟩
      have hb4 := boxed_fr H3.out.1 hk4 (fun h => h.elim H3.out.2.1 (fun h => Nat.not_lt.2 h H3.out.2.2))
      have hz4 := hk4.size
      have H4 := Lib.hid (And.intro hb4 hJ4)
      clear hb4 hJ4 hk4
      gi_wp2
      go_roundw
      case rel => exact ⟨pre ++ [w], rest', r, by rw [H1.out.2.2.1]; simp, H4.out.1, H1.out.2.2.2.2.2.1, by omega, H4.out.2⟩
      case measure =>
        rw [boxLen_of H4.out.1, boxLen_of H1.out.2.2.2.2.2.2]
        exact H1.out.2.2.2.2.1
set_option maxHeartbeats 1000000 in
theorem words_in (n : Nat) (s : List UInt8) (w : World) :
    CallsIn Fence.wide n Tryz.prog 196 #[.string ⟨⟨s⟩⟩] w fun e w' => e = .returned (.func (.func 230) #[] #[.pointer (some ⟨w.heap.size, 0, none⟩)]) ∧
      w' = w.alloc (.cells #[.string ⟨⟨s⟩⟩] 9) := by
  refine callsIn_of_wp Tryz.func196 rfl trivial ?_ rfl
  simp only [Tryz.ntmps196, List.size_toArray, List.length_cons, List.length_nil, Nat.reduceAdd, Nat.reduceSub, Array.replicate_succ, Array.replicate_zero, List.push_toArray, List.append_toArray, List.nil_append, List.cons_append]
  gi_wp2
  go_ret
  exact ⟨rfl, rfl⟩
theorem info_str : (Tryz.prog.info? 9).map (fun i => (i.zero, i.size, i.bytes)) = some (some (.string ⟨#[]⟩), 1, 16) := by kernel_rfl
theorem ownsRow_low {W : World} {base base' : Nat} {e : TypeId} {size : Nat} {v : Value} {k : Nat} {xs : List Value} (h : W.ownsRow base e size v k xs) (hb : base' ≤ base) : W.ownsRow base' e size v k xs := by
  obtain ⟨h1, h2⟩ := h
  refine ⟨h1, ?_⟩
  rcases h2 with h2 | ⟨g, cap, cur, hv, hg, r⟩
  · exact Or.inl h2
  · exact Or.inr ⟨g, cap, cur, hv, Nat.le_trans hb hg, r⟩
theorem ownsRow_fr {W W' : World} {S : Nat → Prop} {base : Nat} {e : TypeId} {size : Nat} {v : Value} {k : Nat} {xs : List Value} (h : W.ownsRow base e size v k xs) (hF : Fr S W W') (hS : ∀ b, base ≤ b → ¬ S b) : W'.ownsRow base e size v k xs := by
  obtain ⟨h1, h2⟩ := h
  refine ⟨h1, ?_⟩
  rcases h2 with h2 | ⟨g, cap, cur, hv, hg, hh, r⟩
  · exact Or.inl h2
  · exact Or.inr ⟨g, cap, cur, hv, hg, (hF.block g (Array.getElem?_eq_some_iff.1 hh).1 (hS g hg)).trans hh, r⟩
theorem kept_append {W w1 : World} {n₁ B : Nat} {t e : TypeId} {size : Nat} {v v' : Value} {k m : Nat} {xs ys : List Value} {tmp : Obj} (hv : Boxed W B t v) (hrow : W.ownsRow n₁ e size v k xs) (hown' : w1.ownsRow n₁ e size v' m ys) (hgrow : (W.alloc tmp).grownBy w1 v.ownBlock) :
    Fr (fun b => b = B ∨ n₁ ≤ b) W (w1.setCell ⟨B, 0, none⟩ v') := by
  refine Fr.setCell (((Fr.refl _ W).alloc tmp).trans (Fr.of_grown hgrow) fun i _ h => ?_) (fun _ => Or.inl rfl) v'
  rcases hrow.2 with ⟨rfl, _⟩ | ⟨g, cap, cur, rfl, hg, _⟩
  · cases h
  · obtain rfl : i = g := by simpa [Value.ownBlock] using h
    exact Or.inr hg
def strs (l : List (List UInt8)) : List Value := l.map fun x => .string ⟨⟨x⟩⟩
set_option maxRecDepth 100000 in
set_option maxHeartbeats 2000000 in
theorem split_plays (s : List UInt8) (ws : List (List UInt8)) (hs : Ws s ws) (hN : ws.length ≤ 1000000) (w : World) :
    Calls Tryz.prog 149 #[.string ⟨⟨s⟩⟩] w fun e w' => ∃ v, e = .returned v ∧ w'.ownsRow w.heap.size 9 1 v ws.length (strs ws) ∧ (ws = [] → v = .slice none 0 0) ∧ Fr (fun _ => False) w w' := by
  refine (callsIn_wide (n := 3)).1 ?_
  refine callsIn_of_wp_marks Tryz.func149 rfl trivial ?_ rfl
  simp only [Tryz.ntmps149, List.size_toArray, List.length_cons, List.length_nil, Nat.reduceAdd, Nat.reduceSub, Array.replicate_succ, Array.replicate_zero, List.push_toArray, List.append_toArray, List.nil_append, List.cons_append]
  gi_wp2_with (refine ⟨trivial, ?_⟩; gi_at_call 196; refine (words_in _ _ _).mono ?_; rintro e w' ⟨rfl, rfl⟩)
  obtain ⟨W0, hW0⟩ : ∃ W0, (w.alloc (.cells #[.slice none 0 0] 62)).alloc (.cells #[.string ⟨⟨s⟩⟩] 9) = W0 := ⟨_, rfl⟩
  have bO : Boxed W0 w.heap.size 62 (.slice none 0 0) := by rw [← hW0]; exact (Boxed.new w _ _).alloc _
  have bL : Boxed W0 (w.heap.size + 1) 9 (.string ⟨⟨s⟩⟩) := by
    rw [← hW0]; have := Boxed.new (w.alloc (.cells #[.slice none 0 0] 62)) 9 (.string ⟨⟨s⟩⟩); simpa using this
  have hz0' : W0.heap.size = w.heap.size + 1 + 1 := by rw [← hW0]; simp
  have hF0 : Fr (fun _ => False) w W0 := by rw [← hW0]; exact ((Fr.refl _ w).alloc _).alloc _
  obtain ⟨i0, hi, hq0, hq1, hq2⟩ := info_parts info_str
  rw [hW0]
  clear hW0
  have HZ := Lib.hid hz0'
  refine range_own (α := List UInt8) (by decide) (gf := 230) (lb := #[.pointer (some ⟨w.heap.size + 1, 0, none⟩)]) rfl (enters_of Tryz.func230 (by kernel_rfl) rfl)
    (encs := fun x => #[.string ⟨⟨x⟩⟩]) (fun _ => rfl) (Fr fun b => b = w.heap.size + 1) (Fr fun b => b = w.heap.size ∨ W0.heap.size ≤ b)
    (fun pre W => (∃ v, Boxed W w.heap.size 62 v ∧ W.ownsRow W0.heap.size 9 1 v pre.length (strs pre) ∧ (pre = [] → v = .slice none 0 0)) ∧ Fr (fun _ => False) w W ∧ W0.heap.size ≤ W.heap.size)
    (fun xs => xs = ws) (fun pre _ => pre.length < ws.length) ?it ?itk ?iput ?bput (fun h k => h.trans k fun _ _ h => h) ?start
    (fun x => { tmps := #[.string ⟨⟨s⟩⟩, undef, .slice none 0 0, .pointer (some ⟨w.heap.size, 0, none⟩), .string ⟨⟨x⟩⟩, .string ⟨⟨s⟩⟩, .func (.func 230) #[] #[.pointer (some ⟨w.heap.size + 1, 0, none⟩)], .string ⟨⟨x⟩⟩, undef, undef, undef, undef, undef], defers := [] }) ?assign ?body ?iter ?done
  case it =>
    rintro pre A B hF ⟨⟨v, hv, hr, hv0⟩, hB, hz⟩
    exact ⟨⟨v, boxed_fr hv hF (by omega), ownsRow_fr hr hF (fun b _ => by omega), hv0⟩, hB.trans (hF.mono fun i hi e => e) (fun i hi e => by omega), Nat.le_trans hz hF.size⟩
  case itk =>
    intro A B k o hF hk ho _
    exact (hF.block k (Array.getElem?_eq_some_iff.1 ho).1 (by omega)).trans ho
  case iput =>
    rintro pre A k o o' ⟨⟨v, hv, hr, hv0⟩, hB, hz⟩ hk ho hc hc'
    refine ⟨⟨v, (World.putObj_heap_other (by omega)).trans hv, ownsRow_putObj hr o' ho hc.isCells, hv0⟩, hB.putObj (fun h => by omega) o', ?_⟩
    have := (Fr.refl (fun _ => True) A).putObj (b := k) (fun _ => trivial) o'
    exact Nat.le_trans hz this.size
  case bput =>
    intro A k o o' hk ho _
    exact (Fr.refl _ A).putObj (fun _ => Or.inr hk) o'
  case start =>
    intro L
    refine ⟨⟨_, (bO.alloc _).alloc _, World.ownsRow_nil _ _ _ _, fun _ => rfl⟩, (hF0.alloc _).alloc _, ?_⟩
    have := (((Fr.refl (fun _ => True) W0).alloc (.deferred (some []))).alloc (.loop L)).size
    exact this
  case assign =>
    intro l x W K hK
    gi_wp2
    exact hK
  case iter =>
    rintro l J W hJ h0 hJI hY ⟨L, rfl⟩
    refine (words1_in 2 (by decide) l (w.heap.size + 1) w.heap.size W0.heap.size ws.length J hJ ⟨by omega, by omega⟩ hY _ s ws ((bL.alloc _).alloc _) ?_ hs (Nat.le_refl _) h0).mono ?_
    · exact (((Fr.refl (fun _ => True) W0).alloc (.deferred (some []))).alloc (.loop L)).size
    · rintro e W' ⟨hv, hj⟩
      exact ⟨hv, ws, rfl, hj⟩
  case body =>
    rintro l pre x W ⟨⟨v, hv, hrow, _⟩, hB, hz4⟩ hlt
    have hc := hv.cell
    have hbz := hB.size
    have hlt2 : pre.length < 1000000 := by omega
    clear hz0'
    gi_wp2_with (gi_at_builtin; go_must (refine wpListIn_append_own _ rfl _ _ 62 rfl W0.heap.size 9 i0 (.string ⟨#[]⟩) 1 16 Tryz.underlying62 hi hq0 hq1 hq2 rfl (by decide) _ _ _ rfl (hrow.alloc _) ⟨W.heap.size, 0, none⟩ 1 1 [.string ⟨⟨x⟩⟩] rfl rfl (cell_one_new _ _ _) (by simp [Value.oneCell']) (by unfold maxLen; omega) (by omega) (by simp; omega) ?_); intro v' w1 hown' hgrow _; obtain ⟨g', cap', rfl⟩ := ownsRow_succ hown'; have hkF := kept_append hv hrow hown' hgrow; obtain ⟨hv1, hv2, hr2, hk2, hb2⟩ := hv.appended (n₀ := w.heap.size) (by decide) (ownsRow_low hrow (by have := HZ.out; omega)) hbz (Nat.le_refl _) (ownsRow_low hown' (by have := HZ.out; omega)) hgrow; have hc1 := hv1.cell; have hf1 := hv1.frozen)
    have hz0' := HZ.out
    have hbb := Fr.size hkF
    refine ⟨fun k o _ h c => (hk2.same k o h c.isCells), ⟨_, hv2, by
      have := hown'.kept (grownBy_setCell' w1 w.heap.size (.slice (some ⟨g', 0, none⟩) (pre.length + 1) cap')) (.inr (hv1.not_row (by decide) hown').symm)
      simpa [strs] using this⟩, hB.trans hkF (fun i hi h => by omega), Nat.le_trans hz4 (by simpa using hbb)⟩
  case done =>
    rintro xs W rfl ⟨⟨v, hv, hrow, hv0⟩, hB, hz4⟩ hK
    have hc := hv.cell
    clear hz0'
    gi_wp2
    have hz0' := HZ.out
    refine ⟨by simp, .inl ⟨_, _, rfl, run_takeDeferred hK, ?_⟩⟩
    refine ⟨_, results_tmp rfl _ _ _, v, rfl, ?_, hv0, hB.putObj (fun h => by omega) _⟩
    exact ownsRow_low (ownsRow_putObj hrow (.deferred none) hK rfl) (by omega)
end Go.Proofs.YtejebgdikoehmaaGreatDoor
/- The symbolic executor: words.Split's handler; a block that was laid somewhere. -/
namespace Go.Proofs.YtejebgdikoehmaaGreatDoor
open Go Go.RowKit
set_option linter.unusedVariables false
set_option linter.unusedSimpArgs false
section
variable {σ σ' σ'' : Rn} {S S' S'' : St} {w w' w'' : World}
/-- A new block among others, a new id. -/
theorem Post.adopt (h : WR σ S w) (hF : Fr (fun _ => False) w w') {i n k b0 : Nat} {ob : SObj} {o' : Obj} (hi : S.n ≤ i) (hin : i < n) (hn : n ≤ 1000000) (hb0 : w.heap.size ≤ b0) (hw : w'.heap[b0]? = some o')
    (hO : OR (setσ σ i b0 k) k ob o') : Post σ S w (setσ σ i b0 k) ⟨S.h.put 24 i (some ob), n⟩ w' := by
  have hz := hF.size
  have hk : ∀ k, k < w.heap.size → w'.heap[k]? = w.heap[k]? := fun k hk => hF.block k hk (fun h => h)
  have hb0' : b0 < w'.heap.size := (Array.getElem?_eq_some_iff.1 hw).1
  have hnone : σ i = none := by
    cases e : σ i with
    | none => rfl
    | some b => have := h.dom i b e; omega
  have hle := setσ_le (b := b0) (k := k) hnone
  have hlt : i < 2 ^ 24 - 1 := bnd24 (by omega)
  have hg : ∀ m, (S.h.put 24 i (some ob)).get m = if m = i then some ob else S.h.get m := fun m => Tr.get_put 24 S.h i m _ hlt
  have hself : setσ σ i b0 k i = some b0 := setσ_self.1
  have hoth : ∀ j, j ≠ i → setσ σ i b0 k j = σ j := fun j e => (setσ_ne e).1
  refine ⟨hle, ⟨hn, ?_, ?_, ?_, ?_⟩, hF.mono (fun _ _ h => h.elim), show S.n ≤ n by omega, ?_, ?_⟩
  · intro j b hj
    show j < n
    by_cases e : j = i
    · omega
    · rw [hoth j e] at hj; have := h.dom j b hj; omega
  · intro j b hj
    by_cases e : j = i
    · subst e; rw [hself] at hj; cases hj; exact hb0'
    · rw [hoth j e] at hj; have := h.bnd j b hj; omega
  · intro j oj hj
    change (S.h.put 24 i (some ob)).get j = some oj at hj
    rw [hg] at hj
    by_cases e : j = i
    · subst e; rw [if_pos rfl] at hj; cases hj; exact ⟨_, o', hself, hw, by rw [setσ_self.2]; exact hO⟩
    · rw [if_neg e] at hj
      obtain ⟨bj, oj', hbj, hwj, hOj⟩ := h.obj j oj hj
      exact ⟨bj, oj', (hle _ _ hbj).1, (hk bj (h.bnd j bj hbj)).trans hwj, by rw [(setσ_ne e).2]; exact hOj.mono hle⟩
  · intro j k c oj ok hj hk' hsj hsk
    change (S.h.put 24 i (some ob)).get j = some oj at hj
    change (S.h.put 24 i (some ob)).get k = some ok at hk'
    rw [hg] at hj hk'
    by_cases ej : j = i
    · by_cases ek : k = i
      · rw [ej, ek]
      · rw [ej, hself] at hsj; cases hsj
        rw [hoth k ek] at hsk; have := h.bnd k _ hsk; omega
    · rw [if_neg ej] at hj
      rw [hoth j ej] at hsj
      by_cases ek : k = i
      · rw [ek, hself] at hsk; cases hsk
        have := h.bnd j _ hsj; omega
      · rw [if_neg ek] at hk'; rw [hoth k ek] at hsk
        exact h.inj j k c _ _ hj hk' hsj hsk
  · rintro c ⟨j, oj, hj, hs⟩
    change (S.h.put 24 i (some ob)).get j = some oj at hj
    rw [hg] at hj
    by_cases e : j = i
    · subst e; rw [hself] at hs; cases hs; exact Or.inr hb0
    · rw [if_neg e] at hj; rw [hoth j e] at hs; exact Or.inl ⟨j, oj, hj, hs⟩
  · intro j b hj
    by_cases e : j = i
    · exact Or.inr (by omega)
    · rw [hoth j e] at hj; exact Or.inl hj
theorem Post.only (h : WR σ S w) (hF : Fr (fun _ => False) w w') : Post σ S w σ S w' := by
  refine ⟨Le.refl _, ⟨h.cnt, h.dom, fun i b q => Nat.lt_of_lt_of_le (h.bnd i b q) hF.size, fun i o q => ?_, h.inj⟩, hF.mono (fun _ _ h => h.elim), Nat.le_refl _, fun b q => Or.inl q, fun i b q => Or.inl q⟩
  obtain ⟨b, o', h1, h2, h3⟩ := h.obj i o q
  exact ⟨b, o', h1, (hF.block b (h.bnd i b h1) (fun h => h)).trans h2, h3⟩
end
def S0 : St := ⟨.nil, 0⟩
def σ0 : Rn := ⟨fun _ => none, fun _ => 0, fun _ => undef⟩
theorem wr0 (w : World) : WR σ0 S0 w := ⟨by decide, fun i b h => (by cases h), fun i b h => (by cases h), fun i o h => (by rw [S0, get_nil] at h; cases h), fun i j b oi oj h => (by rw [S0, get_nil] at h; cases h)⟩
theorem own0 {b : Nat} (h : Own σ0 S0 b) : False := by
  obtain ⟨i, o, h1, h2⟩ := h
  cases h2
/-- A call of texts alone. -/
theorem call0 {P : Program} {callF : CallF} (hC : CallOk P callF) {f : FuncId} {args : List Value} {v : Value} {S' : St} (h : callF f args S0 = some (v, S')) (ha : args.all plain1 = true) (hv : plain v = true ∨ ∃ l : List Value, v = .tuple l.toArray ∧ l.all plain1 = true) (w : World)
    (hr : (callFunc f args.toArray).run P w = .ok (.enter f args.toArray) w) : Calls P f args.toArray w fun e w' => e = .returned v ∧ Fr (fun _ => False) w w' := by
  have := hC f args S0 v S' σ0 w args h (wr0 w) (VRs.of_plain1 ha)
  rw [hr] at this
  refine this.mono ?_
  rintro e w' ⟨v', rfl, σ', q1, q2⟩
  refine ⟨?_, q2.fr.mono fun i _ h => own0 h⟩
  rcases hv with hv | ⟨l, rfl, hl⟩
  · rw [VR.plain hv q1]
  · obtain ⟨x, x', e1, e2, q⟩ : ∃ x x' : List Value, l.toArray = x.toArray ∧ v' = .tuple x'.toArray ∧ VRs σ' x x' := by
      generalize hz : Value.tuple l.toArray = z at q1
      cases q1 <;> cases hz
      exact ⟨l, _, rfl, rfl, by assumption⟩
    have : x = l := by simpa using e1.symm
    subst this
    rw [e2, VRs.plain1 hl q]
theorem eP : E0.P = Tryz.prog := rfl
theorem en91 : ∀ args w, (callFunc 91 args).run Tryz.prog w = .ok (.enter 91 args) w := enters_of Tryz.func91 (by kernel_rfl) rfl
theorem en90 : ∀ args w, (callFunc 90 args).run Tryz.prog w = .ok (.enter 90 args) w := enters_of Tryz.func90 (by kernel_rfl) rfl
theorem en149 : ∀ args w, (callFunc 149 args).run Tryz.prog w = .ok (.enter 149 args) w := enters_of Tryz.func149 (by kernel_rfl) rfl
noncomputable def splitGo (callF : CallF) (n : Nat) : List UInt8 → Option (List (List UInt8)) := Nat.rec (motive := fun _ => List UInt8 → Option (List (List UInt8))) (fun _ => none)
  (fun _ ih s => match callF 91 [.string ⟨⟨s⟩⟩, .string ⟨#[32]⟩] S0 with
    | some (.string ⟨⟨[]⟩⟩, _) => some []
    | some (.string ⟨⟨a :: t⟩⟩, _) => (match callF 90 [.string ⟨⟨a :: t⟩⟩, .string ⟨#[32]⟩] S0 with
      | some (.tuple ⟨[.string ⟨⟨x⟩⟩, .string ⟨⟨r⟩⟩, .bool b]⟩, _) => bif Nat.blt r.length s.length then (match ih r with
        | some ws => some (x :: ws)
        | none => none) else none
      | _ => none)
    | _ => none) n
set_option maxRecDepth 100000 in
theorem splitGo_ws {callF : CallF} (hC : CallOk Tryz.prog callF) : ∀ (n : Nat) (s : List UInt8) (ws : List (List UInt8)), splitGo callF n s = some ws → Ws s ws
  | 0, s, ws, h => by cases h
  | n + 1, s, ws, h => by
    have h : (match callF 91 [.string ⟨⟨s⟩⟩, .string ⟨#[32]⟩] S0 with
    | some (.string ⟨⟨[]⟩⟩, _) => some []
    | some (.string ⟨⟨a :: t⟩⟩, _) => (match callF 90 [.string ⟨⟨a :: t⟩⟩, .string ⟨#[32]⟩] S0 with
      | some (.tuple ⟨[.string ⟨⟨x⟩⟩, .string ⟨⟨r⟩⟩, .bool b]⟩, _) => bif Nat.blt r.length s.length then (match splitGo callF n r with
        | some ws => some (x :: ws)
        | none => none) else none
      | _ => none)
    | _ => none) = some ws := h
    split at h
    · rename_i e
      cases h
      exact .nil fun W => call0 hC e rfl (.inl rfl) W (en91 _ W)
    · rename_i a t _ e
      split at h
      · rename_i x r b _ e2
        cases hl : Nat.blt r.length s.length with
        | false => rw [hl] at h; cases h
        | true =>
          rw [hl, cond_true] at h
          rw [nblt, decide_eq_true_eq] at hl
          split at h
          · rename_i ws' e3
            cases h
            refine .cons (t := a :: t) (b := b) (r := r) (fun W => call0 hC e rfl (.inl rfl) W (en91 _ W)) (by simp)
              (fun W => call0 hC e2 rfl (.inr ⟨[.string ⟨⟨x⟩⟩, .string ⟨⟨r⟩⟩, .bool b], rfl, rfl⟩) W (en90 _ W)) hl (splitGo_ws hC n r ws' e3)
          · cases h
      · cases h
    · cases h
noncomputable def hSplit (callF : CallF) (args : List Value) (S : St) : Option (Value × St) := match args with
  | [.string ⟨⟨s⟩⟩] => (match splitGo callF 100 s with
    | some [] => some (.slice none 0 0, S)
    | some (x :: ws) => bif Nat.ble (x :: ws).length 1000 then (match sNew S (.cells (strs (x :: ws)) 9 0 0 1) with
      | some (i, S') => some (.slice (some ⟨i, 0, none⟩) (x :: ws).length (UNK + (x :: ws).length), S')
      | none => none) else none
    | none => none)
  | _ => none
theorem strs_rel {σ : Rn} (l : List (List UInt8)) : VRs σ (strs l) (strs l) := by
  induction l with
  | nil => exact .nil
  | cons x l ih => exact .cons (.string _) ih
set_option maxRecDepth 100000 in
theorem sp_split {callF : CallF} (hC : CallOk Tryz.prog callF) {σ : Rn} {S S' : St} {w : World} {v : Value} {args args' : List Value} (h : hSplit callF args S = some (v, S')) (hw : WR σ S w) (hv : VRs σ args args') :
    UponR Tryz.prog (Eff σ S w v S') ((callFunc 149 args'.toArray).run Tryz.prog w) := by
  unfold hSplit at h
  split at h
  · rename_i s
    cases hv with
    | cons h1 k =>
      cases k
      rw [h1.string']
      rw [en149]
      split at h
      · rename_i e
        cases h
        refine (split_plays s [] (splitGo_ws hC _ _ _ e) (by simp) w).mono ?_
        rintro e w' ⟨v', rfl, hown, h0, hF⟩
        rw [h0 rfl]
        exact ⟨_, rfl, σ, .sliceNil _ _, Post.only hw hF⟩
      · rename_i x ws e
        cases hl : Nat.ble (x :: ws).length 1000 with
        | false => rw [hl] at h; cases h
        | true =>
          rw [hl, cond_true] at h
          rw [nble, decide_eq_true_eq] at hl
          split at h
          · rename_i i S1 hs
            cases h
            refine (split_plays s (x :: ws) (splitGo_ws hC _ _ _ e) (by omega) w).mono ?_
            rintro e w' ⟨v', rfl, hown, h0, hF⟩
            obtain ⟨g, cap, cur, rfl, hg, hh, hn, hm, hsz, ht⟩ : ∃ g cap cur, v' = .slice (some ⟨g, 0, none⟩) (x :: ws).length cap ∧ w.heap.size ≤ g ∧ w'.heap[g]? = some (.cells cur 9 (0, 0)) ∧ (x :: ws).length ≤ cap ∧ cap ≤ maxLen ∧ cur.size = cap * 1 ∧ cur.toList.take ((x :: ws).length * 1) = strs (x :: ws) :=
              hown.2.resolve_left (fun q => by simp at q)
            have hsn : S.n < 1000000 ∧ i = S.n ∧ S' = ⟨S.h.put 24 S.n (some (.cells (strs (x :: ws)) 9 0 0 1)), S.n + 1⟩ := by
              unfold sNew at hs
              cases q : Nat.blt S.n 1000000 with
              | false => rw [q] at hs; cases hs
              | true =>
                rw [q, cond_true] at hs
                rw [nblt, decide_eq_true_eq] at q
                cases hs
                exact ⟨q, rfl, rfl⟩
            obtain ⟨q1, rfl, rfl⟩ := hsn
            have hlen : (strs (x :: ws)).length = (x :: ws).length := by simp [strs]
            refine ⟨_, rfl, setσ σ S.n g cap, .slice setσ_self.1 hn ?_, Post.adopt hw hF (Nat.le_refl _) (Nat.lt_succ_self _) (by omega) hg hh (.cells ?_ ⟨fun q => (by cases q), fun _ => (by omega)⟩ ?_)⟩
            · show capR ((setσ σ S.n g cap).κ S.n) _ cap
              rw [setσ_self.2]
              unfold capR
              rw [if_neg (by omega)]
              omega
            · rw [hlen, ← Nat.mul_one (x :: ws).length, ht]
              exact strs_rel _
            · unfold FR
              rw [if_neg (by omega)]
          · cases h
      · cases h
  · cases h
end Go.Proofs.YtejebgdikoehmaaGreatDoor
