/- The symbolic executor: straight code within a round of a range over a function. -/
import Derived.Test.YtejebgdikoehmaaGreatDoorToR
import Derived.OrdersIn
import Derived.RangeFuncCalls
namespace Go.Proofs.YtejebgdikoehmaaGreatDoor
open Go Go.RowKit
set_option linter.unusedVariables false
set_option linter.unusedSimpArgs false
section
variable {P : Program} {l k : Nat} {o : Oper} {ops : Array Oper} {a : Act} {w : World} {K : Act → World → Prop} {Q : Exit → Act → World → Prop}
theorem rowsIn_wide {row : String} {args : Array Value} {R : Value → World → Prop} (h : Rows P row args w R) : RowsIn (Fence.wide.inRound l) k P row args w R :=
  fun c cs _ => let ⟨v, w', r, s⟩ := h c cs; ⟨v, w', r, stepsIn_wide.2 s⟩
theorem calls_round {f : FuncId} {args : Array Value} {R : Ending → World → Prop} (h : Calls P f args w R) : CallsIn (Fence.wide.inRound l) k P f args w R := (callsIn_wide.2 h).inRound l
theorem oper_round (hd : ∀ c, o.op ≠ .defer c) (h : o.wp P a w K Q) : o.wpIn (Fence.wide.inRound l) k P a w K Q := by
  unfold Oper.wp at h
  unfold Oper.wpIn
  refine ⟨fun _ _ => trivial, ?_⟩
  rw [Oper.semAt_eq _ _ _ hd]
  generalize (execOp a.eval o).run P w = r at h ⊢
  cases r with
  | ok n w' =>
    cases n <;> simp only [Oper.upon, Oper.uponIn] at h ⊢
    all_goals first
      | exact h
      | (refine ⟨fun q => (by cases q), (calls_round h).mono ?_⟩; intro e w'' he; cases e <;> exact he)
      | exact ⟨fun q => (by cases q), rowsIn_wide h⟩
      | exact h.elim
  | halt x w' => cases x <;> simp only [Oper.upon, Oper.uponIn] at h ⊢ <;> exact h
theorem op_round (hd : ∀ (i : Nat) (o : Oper), ops[i]? = some o → ∀ c, o.op ≠ .defer c) (hL : ¬ LetsOut Q) {i : Nat} (h : wpOp P ops Q i K a w) : wpOpIn (Fence.wide.inRound l) k P ops Q i K a w := by
  unfold wpOp at h
  unfold wpOpIn
  cases ho : ops[i]? with
  | none => rw [ho] at h; exact h
  | some o =>
    rw [ho] at h
    dsimp only at h ⊢
    split
    · rename_i c
      rw [if_pos c] at h
      rcases h with h | ⟨_, h⟩
      · exact oper_round (hd i o ho) h
      · exact (hL h).elim
    · rename_i c
      rw [if_neg c] at h
      exact ⟨fun _ _ => trivial, h⟩
theorem any_round (hd : ∀ (i : Nat) (o : Oper), ops[i]? = some o → ∀ c, o.op ≠ .defer c) (hL : ¬ LetsOut Q) {md : Region.Mode} : ∀ (fuel : Nat) (listed : Array Bool) (a : Act) (w : World), wpAny P md ops Q fuel listed a w → wpAnyIn (Fence.wide.inRound l) k P md ops Q fuel listed a w
  | 0, _, _, _, h => h
  | fuel + 1, _, _, _, h => ⟨h.1, fun i hi => wpOpIn_mono (fun a w q => any_round hd hL fuel _ a w q) (op_round hd hL (h.2 i hi))⟩
theorem ops_round (hd : ∀ (i : Nat) (o : Oper), ops[i]? = some o → ∀ c, o.op ≠ .defer c) (hL : ¬ LetsOut Q) : ∀ (is : List Nat) (a : Act) (w : World), wpOps P ops Q is a w → wpOpsIn (Fence.wide.inRound l) k P ops Q is a w
  | [], _, _, h => h
  | i :: is, a, w, h => by
    rw [wpOpsIn_cons]
    rw [wpOps_cons] at h
    exact wpOpIn_mono (fun a w q => ops_round hd hL is a w q) (op_round hd hL h)
end
def notDefer : Oper → Bool := fun o => match o.op with
  | .defer _ => false
  | _ => true
/-- Straight code that defers nothing. -/
def straight : Code → Bool
  | .region _ ops _ => ops.toList.all notDefer
  | .seq a b | .cond _ a b => straight a && straight b
  | .block _ b => straight b
  | .skip | .exit _ | .ret => true
  | _ => false
theorem notDefer_spec {ops : Array Oper} (h : ops.toList.all notDefer = true) (i : Nat) (o : Oper) (ho : ops[i]? = some o) : ∀ c, o.op ≠ .defer c := by
  intro c e
  have := List.all_eq_true.1 h o (List.mem_of_getElem? (by simpa using ho))
  unfold notDefer at this
  rw [e] at this
  cases this
section
variable {D : List Deferred} {E : Env} {callF : CallF} {n l k : Nat}
theorem sRound_sound (hT : TOk E) (hC : CallOk E.P callF) (hmix : E.P.follows .mixedOrders = true) : ∀ (c : Code) {S : St} {σ : Rn} {w : World} {T : Sts} {a : Act} {e : SExit} {T' : Sts} {S' : St} {Q : Exit → Act → World → Prop}, straight c = true → codeOk E n c = true → ¬ LetsOut Q → WR σ S w → AR D σ n T a → sCode E callF c T S = some (e, T', S') →
    (∀ a' w', Goes D σ S w n T' S' a' w' → Q (exOf e) a' w') → c.wpIn (Fence.wide.inRound l) k E.P Q a w := by
  intro c
  induction c with
  | skip => intro S σ w T a e T' S' Q hst hk hL hw hA h hq; simp only [sCode] at h; cases h; exact wpIn_skip (hq _ _ ⟨σ, Post.refl hw, hA⟩)
  | exit id => intro S σ w T a e T' S' Q hst hk hL hw hA h hq; simp only [sCode] at h; cases h; exact wpIn_exit (hq _ _ ⟨σ, Post.refl hw, hA⟩)
  | ret => intro S σ w T a e T' S' Q hst hk hL hw hA h hq; simp only [sCode] at h; cases h; exact wpIn_ret (hq _ _ ⟨σ, Post.refl hw, hA⟩)
  | region id ops draw =>
    intro S σ w T a e T' S' Q hst hk hL hw hA h hq
    simp only [straight] at hst
    simp only [sCode] at h
    split at h
    · rename_i T1 S1 hr
      cases h
      cases draw with
      | true =>
        simp only [codeOk, cond_true] at hk hr
        exact wpIn_region_any hmix (any_round (notDefer_spec hst) hL _ _ _ _ (sDraw_any hT hC hmix (plan_of hk) hw hA hr hq))
      | false =>
        simp only [codeOk, cond_false] at hk hr
        exact wpIn_region (ops_round (notDefer_spec hst) hL _ _ _ (by have := sOps_sound (Q := Q) hT hC hk 0 hw hA (by simpa using hr) hq; simpa using this))
    · cases h
  | seq x y ihx ihy =>
    intro S σ w T a e T' S' Q hst hk hL hw hA h hq
    simp only [codeOk, Bool.and_eq_true] at hk
    simp only [straight, Bool.and_eq_true] at hst
    simp only [sCode] at h
    refine wpIn_seq ?_
    split at h
    · rename_i T1 S1 h1
      refine ihx hst.1 hk.1 (fun q => hL q) hw hA h1 fun a1 w1 hg => ?_
      obtain ⟨σ1, q1, q2⟩ := hg
      exact ihy hst.2 hk.2 hL q1.wr q2 h fun a2 w2 hg => hq a2 w2 (Goes.trans q1 hg)
    · rename_i hne
      refine ihx hst.1 hk.1 (fun q => hL q) hw hA h fun a1 w1 hg => ?_
      have hgo := hq a1 w1 hg
      cases e with
      | normal => exact (hne _ _ h).elim
      | ret => exact hgo
      | exit i => exact hgo
  | cond c x y ihx ihy =>
    intro S σ w T a e T' S' Q hst hk hL hw hA h hq
    simp only [codeOk, Bool.and_eq_true] at hk
    simp only [straight, Bool.and_eq_true] at hst
    simp only [sCode] at h
    split at h
    · rename_i hc; exact wpIn_cond_true (hA.eval hc).bool' (ihx hst.1 hk.1 hL hw hA h hq)
    · rename_i hc; exact wpIn_cond_false (hA.eval hc).bool' (ihy hst.2 hk.2 hL hw hA h hq)
    · cases h
  | block id b ih =>
    intro S σ w T a e T' S' Q hst hk hL hw hA h hq
    simp only [codeOk] at hk
    simp only [straight] at hst
    simp only [sCode] at h
    refine wpIn_block ?_
    split at h
    · rename_i i T1 S1 h1
      refine ih hst hk (fun q => hL q) hw hA h1 fun a1 w1 hg => ?_
      show (if i = id then Q .normal a1 w1 else Q (.exit i) a1 w1)
      rw [nbeq] at h
      by_cases c : i = id
      · rw [decide_eq_true c, cond_true] at h; cases h; rw [if_pos c]; exact hq a1 w1 hg
      · rw [decide_eq_false c, cond_false] at h; cases h; rw [if_neg c]; exact hq a1 w1 hg
    · rename_i hne
      refine ih hst hk (fun q => hL q) hw hA h fun a1 w1 hg => ?_
      have hgo := hq a1 w1 hg
      cases e with
      | normal => exact hgo
      | ret => exact hgo
      | exit i => exact (hne _ _ _ h).elim
  | _ => intro S σ w T a e T' S' Q hst; simp only [straight] at hst; cases hst
end
end Go.Proofs.YtejebgdikoehmaaGreatDoor
/- slices.Backward's iterator. -/
namespace Go.Proofs.YtejebgdikoehmaaGreatDoor
open Go Go.RowKit Go.Shelf
set_option linter.unusedVariables false
set_option linter.unusedSimpArgs false
attribute [local go_sem] Oper.semAt_some
/-- A list of bits from its end to its beginning. -/
def backs (us : List Bool) : List (Nat × Bool) := (List.range us.length).reverse.map fun i => (i, us.getD i false)
theorem backs_len (us : List Bool) : (backs us).length = us.length := by simp [backs]
theorem backs_get (us : List Bool) (k m : Nat) (h : m + k + 1 = us.length) : (backs us)[k]? = some (m, us.getD m false) := by
  have hk : k < us.length := by omega
  simp only [backs, List.getElem?_map, List.getElem?_reverse (show k < (List.range us.length).length by simpa using hk), List.length_range]
  rw [List.getElem?_range (by omega)]
  simp only [Option.map_some]
  rw [show us.length - 1 - k = m by omega]
theorem backs_cut (us : List Bool) (k m : Nat) (h : m + k + 1 = us.length) : backs us = (backs us).take k ++ (m, us.getD m false) :: (backs us).drop (k + 1) := by
  have := backs_get us k m h
  obtain ⟨hk, he⟩ := List.getElem?_eq_some_iff.1 this
  rw [← he, List.getElem_cons_drop, List.take_append_drop]
theorem backs_take (us : List Bool) (k m : Nat) (h : m + k + 1 = us.length) : (backs us).take (k + 1) = (backs us).take k ++ [(m, us.getD m false)] := by
  rw [List.take_add_one, backs_get us k m h]
  rfl
def leftB (p : Value) : Nat := match p with
  | .int _ n => (n + 1).toNat
  | _ => 0
set_option maxRecDepth 100000 in
set_option maxHeartbeats 2000000 in
theorem back1_in (n : Nat) (hn : 1 ≤ n) (l bi ub off : Nat) (us : List Bool) (hus : us.length ≤ 1000000) (J : List (Nat × Bool) → World → Prop) 
    (hJ : ∀ pre A, J pre A → (∃ c, us.length ≤ c ∧ A.cell? ⟨bi, 0, none⟩ = some (.slice (some ⟨ub, off, none⟩) us.length c)) ∧ ∀ i, i < us.length → A.cell? ⟨ub, off + i, none⟩ = some (.bool (us.getD i false)))
    (hY : ∀ pre x W, J pre W → (∃ rest, backs us = pre ++ x :: rest) → YieldAt Fence.wide (n - 1) Tryz.prog l #[.int .i64 x.1, .bool x.2] W fun e W' => e = .returned (.bool true) ∧ J (pre ++ [x]) W')
    (W : World) (h0 : J [] W) :
    CallsIn Fence.wide n Tryz.prog 283 #[.func (.yield l) #[] #[], .pointer (some ⟨bi, 0, none⟩)] W fun e W' => (∃ v, e = .returned v) ∧ J (backs us) W' := by
  obtain ⟨⟨cp, hcp, hc⟩, hx⟩ := hJ [] W h0
  have HH := Lib.hid (And.intro hJ (And.intro hY h0))
  have hlt : ((us.length : Int)) < 1000001 := by omega
  have hge : (0 : Int) ≤ (us.length : Int) := by omega
  clear hx hJ hY
  refine callsIn_of_wp Tryz.func283 rfl trivial ?_ rfl
  simp only [Tryz.ntmps283, List.size_toArray, List.length_cons, List.length_nil, Nat.reduceAdd, Nat.reduceSub, Array.replicate_succ, Array.replicate_zero, List.push_toArray, List.append_toArray, List.nil_append, List.cons_append]
  gi_wp2
  gi_loopw [3] (fun p wr => ∃ k, k ≤ us.length ∧ p = .int .i64 ((us.length : Int) - 1 - k) ∧ J ((backs us).take k) wr) (fun p _ => leftB p)
  case atStart => exact ⟨0, Nat.zero_le _, by simp, by simpa using h0⟩
  case round =>
    obtain ⟨k, hk, rfl, hJ1⟩ := hrel
    clear h0 hc
    by_cases hkk : k < us.length
    · obtain ⟨m, hm⟩ : ∃ m, m + k + 1 = us.length := ⟨us.length - 1 - k, by omega⟩
      have e0 : (us.length : Int) - 1 - k = (m : Int) := by omega
      rw [e0]
      obtain ⟨⟨c1, hc1', hc1⟩, hx1⟩ := HH.out.1 _ _ hJ1
      have hxm := hx1 m (by omega)
      obtain ⟨bm, hbm⟩ : ∃ bm, us.getD m false = bm := ⟨_, rfl⟩
      have im : (m : Int) < us.length := by omega
      have im0 : (0 : Int) ≤ m := by omega
      have im1 : (m : Int) < 1000001 := by omega
      obtain ⟨fn, tmps, assign, body, hy, hR⟩ := HH.out.2.1 _ (m, us.getD m false) wr hJ1 ⟨_, backs_cut us k m hm⟩
      dsimp only at hy
      have H1 := Lib.hid (And.intro hJ1 (And.intro hm (And.intro e0 hbm)))
      rw [hbm] at hxm hy hR
      clear hJ1 hx1 hm hk hkk e0 hbm
      gi_wp2
      refine hR.mono ?_
      rintro e W3 ⟨rfl, hJ3⟩
      have H3 := Lib.hid hJ3
      clear hJ3
      gi_wp2
      obtain ⟨_, hm, e0, hbm⟩ := H1.out
      refine ⟨⟨k + 1, by omega, by rw [show (m : Int) - 1 = (us.length : Int) - 1 - ((k + 1 : Nat) : Int) by omega], ?_⟩, ?_⟩
      · rw [backs_take us k m hm, hbm]
        exact H3.out
      · show ((m : Int) - 1 + 1).toNat < ((m : Int) + 1).toNat
        omega
    · obtain rfl : k = us.length := by omega
      have e0 : (us.length : Int) - 1 - us.length = -1 := by omega
      rw [e0]
      have H1 := Lib.hid hJ1
      clear hJ1
      gi_wp2
      go_end0
      refine ⟨⟨_, rfl⟩, ?_⟩
      have := H1.out
      rw [← backs_len us, List.take_length] at this
      exact this
end Go.Proofs.YtejebgdikoehmaaGreatDoor
/- The symbolic executor: slab.lay, which goes through a function. -/
namespace Go.Proofs.YtejebgdikoehmaaGreatDoor
open Go Go.RowKit Go.Shelf
set_option linter.unusedVariables false
set_option linter.unusedSimpArgs false
def boolsX : List Value → Option (List Bool)
  | [] => some []
  | .bool b :: r => (match boolsX r with | some l => some (b :: l) | none => none)
  | _ => none
def usedX (bi : Nat) (S : St) : Option (Nat × Nat × List Bool) :=
  match cellsAt S ⟨bi, 0, none⟩ 1 with
  | some [.slice (some ⟨ub, off, none⟩) un _] => (match cellsAt S ⟨ub, off, none⟩ un with
    | some l => (match boolsX l with
      | some us => some (ub, off, us)
      | none => none)
    | none => none)
  | _ => none
theorem boolsX_get {σ : Rn} : ∀ {l l' : List Value} {us : List Bool}, boolsX l = some us → VRs σ l l' → us.length = l.length ∧ ∀ i, i < us.length → l'[i]? = some (.bool (us.getD i false))
  | [], l', us, h, hv => by cases h; exact ⟨rfl, fun i hi => by simp at hi⟩
  | v :: r, l', us, h, hv => by
    unfold boolsX at h
    split at h
    · rename_i e; cases e
    · rename_i b r' e
      cases e
      split at h
      · rename_i l e2
        cases h
        cases hv with
        | cons h1 h2 =>
          rw [h1.bool']
          obtain ⟨q1, q2⟩ := boolsX_get e2 h2
          refine ⟨by simp [q1], fun i hi => ?_⟩
          cases i with
          | zero => rfl
          | succ i => simpa using q2 i (by simpa using hi)
      · cases h
    · cases h
theorem usedX_spec {bi ub off : Nat} {us : List Bool} {σ : Rn} {S : St} {W : World} (h : usedX bi S = some (ub, off, us)) (hw : WR σ S W) :
    ∃ b b' c', σ bi = some b ∧ σ ub = some b' ∧ us.length ≤ c' ∧ W.cell? ⟨b, 0, none⟩ = some (.slice (some ⟨b', off, none⟩) us.length c') ∧ ∀ i, i < us.length → W.cell? ⟨b', off + i, none⟩ = some (.bool (us.getD i false)) := by
  unfold usedX at h
  split at h
  · rename_i ub' off' un cap e1
    split at h
    · rename_i l e2
      split at h
      · rename_i us' e3
        cases h
        obtain ⟨b, l1, p1, p2, p3, p4, p5⟩ := cells_get hw e1
        obtain ⟨b', l2, q1, q2, q3, q4, q5⟩ := cells_get hw e2
        obtain ⟨r1, r2⟩ := boolsX_get e3 q4
        cases p4 with
        | cons h1 h2 =>
          cases h2
          rename_i v'
          have hc := p5 0 v' rfl
          cases h1 with
          | slice g1 g2 g3 =>
            rename_i b2 c2
            have : b2 = b' := by
              have e := g1.symm.trans q1
              cases e; rfl
            subst this
            refine ⟨b, b2, c2, p1, q1, by omega, ?_, fun i hi => q5 i _ (r2 i hi)⟩
            rw [r1, q3]
            exact hc
          | junk a c2 =>
            exfalso
            have h1 : (999999999 : Nat) < S.n := hw.dom _ _ q1
            have := hw.cnt
            omega
      · cases h
    · cases h
  · cases h
noncomputable def preX (E : Env) (callF : CallF) : List Code → Sts → St → Option (Sts × St)
  | [], T, S => some (T, S)
  | c :: r, T, S => ob (xCode E callF c T S) fun p => exX (preX E callF r p.2.1 p.2.2) none (fun _ => none) p.1
def seqs : List Code → Code → Code
  | [], c => c
  | a :: r, c => .seq a (seqs r c)
theorem preX_sound {E : Env} {callF : CallF} {D : List Deferred} {n k : Nat} {rest : Code} {Q : Exit → Act → World → Prop} (hT : TOk E) (hC : CallOk E.P callF) (hmix : E.P.follows .mixedOrders = true) : ∀ (cs : List Code) {T T' : Sts} {S S' : St} {σ : Rn} {w : World} {a : Act},
    cs.all (codeOk E n) = true → preX E callF cs T S = some (T', S') → WR σ S w → AR D σ n T a → (∀ a' w', Goes D σ S w n T' S' a' w' → rest.wpIn Fence.wide k E.P Q a' w') → (seqs cs rest).wpIn Fence.wide k E.P Q a w
  | [], T, T', S, S', σ, w, a, hk, h, hw, hA, hq => by
    cases h
    exact hq a w ⟨σ, Post.refl hw, hA⟩
  | c :: cs, T, T', S, S', σ, w, a, hk, h, hw, hA, hq => by
    rw [List.all_cons, Bool.and_eq_true] at hk
    obtain ⟨⟨e, T1, S1⟩, h1, h2⟩ := ob_some (show ob (xCode E callF c T S) _ = some (T', S') from h)
    cases e with
    | ret => cases h2
    | exit i => cases h2
    | normal =>
      refine wpIn_seq (wpIn_wide.2 (sCode_sound hT hC hmix c hk.1 hw hA (xCode_some hT _ h1) fun a1 w1 hg => ?_))
      obtain ⟨σ1, q1, q2⟩ := hg
      exact preX_sound hT hC hmix cs hk.2 h2 q1.wr q2 fun a2 w2 hg => hq a2 w2 (Goes.trans q1 hg)
def rfOf : Code → Code
  | .block _ c => c
  | c => c
def rfBody : Code → Code
  | .rangeFunc _ _ _ b => b
  | c => c
def rfAssign : Code → Code
  | .rangeFunc _ _ a _ => a
  | c => c
noncomputable def cLay : Code := (Tryz.f256.body).getD .skip
noncomputable def cLay0 : List Code := [headOf cLay, headOf (tailOf cLay), headOf (tailOf (tailOf cLay))]
noncomputable def cLayB : Code := rfBody (rfOf (tailOf (tailOf (tailOf cLay))))
noncomputable def oLay3 : Array Oper := opsOf (headOf (rfAssign (rfOf (tailOf (tailOf (tailOf cLay))))))
noncomputable def oLay4 : Array Oper := opsOf (tailOf (rfAssign (rfOf (tailOf (tailOf (tailOf cLay))))))
theorem cLay_eq : Tryz.f256.body = some (seqs cLay0 (.block 0 (.rangeFunc (.tmp 22) #[23, 24] (.seq (.region 3 oLay3 false) (.region 4 oLay4 false)) cLayB))) := by kernel_rfl
/-- The slots ahead of a round. -/
def layT (T : Sts) (x : Nat × Bool) : Sts := .cons 6 (.bool x.2) (.cons 5 (.int .i64 x.1) (.cons 24 (.bool x.2) (.cons 23 (.int .i64 x.1) T)))
def sameU (u : Nat × Nat × List Bool) (v : Option (Nat × Nat × List Bool)) : Bool := match v with
  | some v => decide (u = v)
  | none => false
noncomputable def layGo (callF : CallF) (bi : Nat) (u : Nat × Nat × List Bool) (T : Sts) : List (Nat × Bool) → St → Option St
  | [], S => some S
  | x :: r, S => ob (xCode E0 callF cLayB (layT T x) S) fun p => exX (bq (sameU u (usedX bi p.2.2)) (layGo callF bi u T r p.2.2) none) none (fun _ => none) p.1
noncomputable def hLay (callF : CallF) (args : List Value) (S : St) : Option (Value × St) :=
  bq (Nat.ble (lenX args) Tryz.f256.ntmps)
  (ob (preX E0 callF cLay0 (initX args 0 .nil) S) fun p => match sg 22 p.1 with
    | some (.func (.func 283) ⟨[]⟩ ⟨[.pointer (some ⟨bi, 0, none⟩)]⟩) => (match usedX bi p.2 with
      | some u => bq (Nat.ble u.2.2.length 100000) (ob (layGo callF bi u p.1 (backs u.2.2) p.2) fun S' => some (.tuple ⟨[]⟩, S')) none
      | none => none)
    | _ => none) none
theorem layGo_append {callF : CallF} {bi : Nat} {u : Nat × Nat × List Bool} {T : Sts} : ∀ (l r : List (Nat × Bool)) (S : St), layGo callF bi u T (l ++ r) S = ob (layGo callF bi u T l S) (layGo callF bi u T r)
  | [], r, S => rfl
  | x :: l, r, S => by
    show ob (xCode E0 callF cLayB (layT T x) S) _ = ob (ob (xCode E0 callF cLayB (layT T x) S) _) _
    cases xCode E0 callF cLayB (layT T x) S with
    | none => rfl
    | some p =>
      obtain ⟨e, T1, S1⟩ := p
      cases e with
      | normal =>
        show bq (sameU u (usedX bi S1)) (layGo callF bi u T (l ++ r) S1) none = ob (bq (sameU u (usedX bi S1)) (layGo callF bi u T l S1) none) _
        rw [layGo_append l r S1]
        cases sameU u (usedX bi S1) <;> rfl
      | ret => rfl
      | exit i => rfl
end Go.Proofs.YtejebgdikoehmaaGreatDoor
/- The symbolic executor: slab.lay's handler is right. -/
namespace Go.Proofs.YtejebgdikoehmaaGreatDoor
open Go Go.RowKit Go.Shelf
set_option linter.unusedVariables false
set_option linter.unusedSimpArgs false
theorem OR.not_rec {σ : Rn} {k : Nat} {o : SObj} {o' : Obj} (h : OR σ k o o') (hr : IsRec o') : False := by
  cases h <;> rcases hr with ⟨r, e⟩ | ⟨r, e⟩ <;> cases e
theorem WR.not_own {σ : Rn} {S : St} {A : World} {k : Nat} {o : Obj} (h : WR σ S A) (hk : A.heap[k]? = some o) (hr : IsRec o) : ¬ Own σ S k := by
  rintro ⟨i, oi, h1, h2⟩
  obtain ⟨b, o', g1, g2, g3⟩ := h.obj i oi h1
  rw [h2] at g1
  cases g1
  rw [hk] at g2
  cases g2
  exact g3.not_rec hr
theorem WR.putRec {σ : Rn} {S : St} {A : World} {k : Nat} {o : Obj} (h : WR σ S A) (hk : A.heap[k]? = some o) (hr : IsRec o) (o' : Obj) : WR σ S (A.putObj k o') := by
  have hF : Fr (fun b => b = k) A (A.putObj k o') := Fr.putObj (S := fun b => b = k) (Fr.refl _ A) (fun _ => rfl) o'
  refine ⟨h.cnt, h.dom, fun i b q => Nat.lt_of_lt_of_le (h.bnd i b q) hF.size, fun i oi q => ?_, h.inj⟩
  obtain ⟨b, ob, g1, g2, g3⟩ := h.obj i oi q
  refine ⟨b, ob, g1, (hF.block b (h.bnd i b g1) fun e => ?_).trans g2, g3⟩
  exact h.not_own hk hr ⟨i, oi, q, e ▸ g1⟩
theorem Post.putRec {σ σ' : Rn} {S S' : St} {w A : World} {k : Nat} {o : Obj} (h : Post σ S w σ' S' A) (hkw : w.heap.size ≤ k) (hk : A.heap[k]? = some o) (hr : IsRec o) (o' : Obj) : Post σ S w σ' S' (A.putObj k o') :=
  ⟨h.le, h.wr.putRec hk hr o', h.fr.putObj (fun q => by omega) o', h.cnt, h.own, h.new⟩
theorem en256 : ∀ args w, (callFunc 256 args).run E0.P w = .ok (.enter 256 args) w := enters_of (P := Tryz.prog) Tryz.func256 (by kernel_rfl) rfl
theorem en283 : ∀ args w, (callFunc 283 args).run E0.P w = .ok (.enter 283 args) w := enters_of (P := Tryz.prog) Tryz.func283 (by kernel_rfl) rfl
theorem sameU_eq {u : Nat × Nat × List Bool} {v : Option (Nat × Nat × List Bool)} (h : sameU u v = true) : v = some u := by
  cases v with
  | none => cases h
  | some v => simp only [sameU, decide_eq_true_eq] at h; rw [h]
theorem VR.func1 {σ : Rn} {f bi b : Nat} {g : Value} (h : VR σ (.func (.func f) ⟨[]⟩ ⟨[.pointer (some ⟨bi, 0, none⟩)]⟩) g) (hb : σ bi = some b) : g = .func (.func f) #[] #[.pointer (some ⟨b, 0, none⟩)] := by
  generalize hz : Value.func (.func f) ⟨[]⟩ ⟨[.pointer (some ⟨bi, 0, none⟩)]⟩ = z at h
  cases h <;> cases hz
  rename_i h1 h2
  cases h1
  cases h2 with
  | cons h2 h3 =>
    cases h3
    cases h2 with
    | ptr h2 =>
      rename_i b2
      have : b2 = b := by
        have e := h2.symm.trans hb
        cases e; rfl
      rw [this]
theorem zip2 (t : Array Value) (u v : Value) : (#[23, 24].zip #[u, v]).foldl (fun t (p, v) => t.setIfInBounds p v) t = (t.setIfInBounds 23 u).setIfInBounds 24 v := by
  rw [← Array.foldl_toList, Array.toList_zip]
  rfl
theorem run_asg {P : Program} {ρ : Operand → Value} {o : Oper} (x : Operand) (h : o.op = .assign x) (w : World) : (execOp ρ o).run P w = .ok (.value (ρ x)) w := by
  obtain ⟨_, op, _, _, _, _⟩ := o
  cases h
  simp [execOp, go_sem]
theorem put_tmps (a : Act) (t : Nat) (v : Value) : (a.put (some t) v).tmps = a.tmps.setIfInBounds t v := rfl
set_option maxRecDepth 100000 in
set_option maxHeartbeats 1000000 in
theorem sp_lay {callF : CallF} (hC : CallOk E0.P callF) {σ : Rn} {S S' : St} {w : World} {v : Value} {args args' : List Value} (h : hLay callF args S = some (v, S')) (hw : WR σ S w) (hv : VRs σ args args') :
    UponR E0.P (Eff σ S w v S') ((callFunc 256 args'.toArray).run E0.P w) := by
  obtain ⟨h1, h2⟩ := bq_some h
  obtain ⟨⟨T1, S1⟩, h3, h4⟩ := ob_some h2
  have hle := Nat.le_of_ble_eq_true h1
  rw [lenX_eq] at hle
  rw [initX_eq] at h3
  dsimp only at h4
  split at h4
  case h_2 => cases h4
  rename_i bi hsg
  split at h4
  case h_2 => cases h4
  rename_i u hu
  obtain ⟨h5, h6⟩ := bq_some h4
  obtain ⟨S2, h7, h8⟩ := ob_some h6
  cases h8
  rw [nble, decide_eq_true_eq] at h5
  rw [sg_eq] at hsg
  obtain ⟨ub, off, us⟩ := u
  dsimp only at h5 h7
  have k1 : cLay0.all (codeOk E0 Tryz.f256.ntmps) = true := by kernel_rfl
  have k2 : codeOk E0 Tryz.f256.ntmps cLayB = true := by kernel_rfl
  have k3 : straight cLayB = true := by kernel_rfl
  have hn : 46 = Tryz.f256.ntmps := by kernel_rfl
  rw [en256]
  refine (callsIn_wide (n := 3)).1 ?_
  refine callsIn_of_wp_marks (P := E0.P) Tryz.func256 cLay_eq trivial ?_ rfl
  refine preX_sound (D := []) hT hC hmix cLay0 k1 h3 hw (AR.init hv hle (by decide)) fun a w1 hg => ?_
  obtain ⟨σ1, q1, r1⟩ := hg
  refine wpIn_block ?_
  obtain ⟨b, b', c', p1, p2, p3, p4, p5⟩ := usedX_spec hu q1.wr
  obtain ⟨g, e22, v22⟩ := r1.get 22 _ hsg
  obtain rfl := v22.func1 p1
  have hsz : a.tmps.size = 46 := by have := r1.size; rwa [← hn] at this
  obtain ⟨base, hbase⟩ : ∃ base : Nat × Bool → Act, base = fun x => { tmps := (a.tmps.setIfInBounds 23 (.int .i64 x.1)).setIfInBounds 24 (.bool x.2), defers := [] } := ⟨_, rfl⟩
  refine range_own (α := Nat × Bool) (n := 3) (by decide) (gf := 283) (lb := #[.pointer (some ⟨b, 0, none⟩)]) (by simp [Act.eval, Array.getD_eq_getD_getElem?, e22]) en283 (encs := fun x => #[.int .i64 x.1, .bool x.2]) (fun _ => rfl) (fun A B => A = B) (fun _ _ => True)
    (fun pre W => ∃ σ2 S2, layGo callF bi (ub, off, us) T1 pre S1 = some S2 ∧ usedX bi S2 = some (ub, off, us) ∧ Post σ1 S1 w1 σ2 S2 W)
    (fun xs => xs = backs us) (fun pre x => ∃ rest, backs us = pre ++ x :: rest) ?it ?itk ?iput (fun _ _ _ _ _ _ _ => trivial) (fun _ _ => trivial) ?start
    (fun x => ((base x).put (some 5) (.int .i64 x.1)).put (some 6) (.bool x.2)) ?assign ?body ?iter ?done
  case it => rintro pre A B rfl h; exact h
  case itk => rintro A B k o rfl hk ho _; exact ho
  case iput =>
    rintro pre A k o o' ⟨σ2, S2, g1, g2, g3⟩ hk ho hr hr'
    exact ⟨σ2, S2, g1, g2, g3.putRec hk ho hr o'⟩
  case start =>
    intro L
    exact ⟨σ1, S1, rfl, hu, Post.only q1.wr (((Fr.refl _ _).alloc _).alloc _)⟩
  case assign =>
    intro l x W K hK
    obtain ⟨t3, s3, x3, o3⟩ : ∃ t s x, oLay3[0]? = some ⟨some 5, .assign (.tmp 23), t, s, x, none⟩ := ⟨oLay3[0]!.type, oLay3[0]!.pos, oLay3[0]!.after, by kernel_rfl⟩
    obtain ⟨t4, s4, x4, o4⟩ : ∃ t s x, oLay4[0]? = some ⟨some 6, .assign (.tmp 24), t, s, x, none⟩ := ⟨oLay4[0]!.type, oLay4[0]!.pos, oLay4[0]!.after, by kernel_rfl⟩
    have z3 : List.range oLay3.size = [0] := by kernel_rfl
    have z4 : List.range oLay4.size = [0] := by kernel_rfl
    have hb : ({ tmps := (#[23, 24].zip #[Value.int .i64 x.1, .bool x.2]).foldl (fun t (p, v) => t.setIfInBounds p v) a.tmps, defers := [] } : Act) = base x := by rw [hbase, zip2]
    show Code.wpIn _ _ _ _ _ ({ tmps := (#[23, 24].zip #[Value.int .i64 x.1, .bool x.2]).foldl (fun t (p, v) => t.setIfInBounds p v) a.tmps, defers := [] } : Act) W
    rw [hb]
    have ev3 : (base x).eval (.tmp 23) = .int .i64 x.1 := by
      rw [hbase]
      simp [Act.eval, Array.getD_eq_getD_getElem?, show 23 < a.tmps.size by omega]
    have ev4 : ((base x).put (some 5) (.int .i64 x.1)).eval (.tmp 24) = .bool x.2 := by
      rw [hbase]
      simp [Act.eval, Act.put, Array.getD_eq_getD_getElem?, show 24 < a.tmps.size by omega]
    refine wpIn_seq (wpIn_region ?_)
    rw [z3]
    simp only [wpOpsIn, o3, Region.wanted, if_true]
    refine ⟨fun _ _ => trivial, ?_⟩
    rw [Oper.semAt_eq _ _ _ (fun c e => by cases e), run_asg (.tmp 23) rfl]
    rw [Oper.uponIn_value, ev3]
    refine wpIn_region ?_
    rw [z4]
    simp only [wpOpsIn, o4, Region.wanted, if_true]
    refine ⟨fun _ _ => trivial, ?_⟩
    rw [Oper.semAt_eq _ _ _ (fun c e => by cases e), run_asg (.tmp 24) rfl]
    rw [Oper.uponIn_value, ev4]
    exact hK
  case body =>
    rintro l pre x W ⟨σ2, S3, g1, g2, g3⟩ ⟨rest, hr⟩
    have g4 := h7
    rw [hr, layGo_append, g1] at g4
    obtain ⟨⟨e, T4, S4⟩, g5, g6⟩ := ob_some (show ob (xCode E0 callF cLayB (layT T1 x) S3) _ = some S' from g4)
    cases e with
    | ret => cases g6
    | exit i => cases g6
    | normal =>
      obtain ⟨g7, g8⟩ := bq_some g6
      have g7 := sameU_eq g7
      have hA : AR [] σ2 Tryz.f256.ntmps (layT T1 x) (((base x).put (some 5) (.int .i64 x.1)).put (some 6) (.bool x.2)) := by
        have r2 := ((r1.mono g3.le).slot (t := 23) (by decide) (.int .i64 x.1)).slot (t := 24) (by decide) (.bool x.2)
        have r3 := ((AR.forget (D' := []) r2).slot (t := 5) (by decide) (.int .i64 x.1)).slot (t := 6) (by decide) (.bool x.2)
        rw [hbase]
        exact r3
      refine sRound_sound (D := []) hT hC hmix cLayB k3 k2 (by rintro ⟨_, _, e, _⟩; cases e) g3.wr hA (xCode_some hT _ g5) fun a3 W3 hg => ?_
      obtain ⟨σ3, m1, m2⟩ := hg
      refine ⟨rfl, fun k o hk ho hrec => ?_, trivial, σ3, S4, ?_, g7, g3.trans m1⟩
      · exact (m1.fr.block k (Array.getElem?_eq_some_iff.1 ho).1 (g3.wr.not_own ho hrec)).trans ho
      · rw [layGo_append, g1]
        show ob (xCode E0 callF cLayB (layT T1 x) S3) _ = some S4
        rw [g5]
        show bq (sameU (ub, off, us) (usedX bi S4)) (some S4) none = some S4
        rw [g7]
        simp [sameU]
        rfl
  case iter =>
    rintro l J W hJ h0 hJI hY ⟨L, hL⟩
    refine (back1_in 2 (by decide) l b b' off us (by omega) J (fun pre A hj => ?_) (fun pre x W1 hj hg => ?_) W h0).mono ?_
    · obtain ⟨σ2, S3, _, g2, g3⟩ := hJI pre A hj
      obtain ⟨c, d, e, f1, f2, f3, f4, f5⟩ := usedX_spec g2 g3.wr
      have e1 := f1.symm.trans (g3.le _ _ p1).1
      have e2 := f2.symm.trans (g3.le _ _ p2).1
      cases e1
      cases e2
      exact ⟨⟨e, f3, f4⟩, f5⟩
    · obtain ⟨fn, t, asg, bd, hy, hR⟩ := hY pre x W1 hj hg
      exact ⟨fn, t, asg, bd, hy, hR.mono fun e W' h => ⟨h.1, h.2.1⟩⟩
    · rintro e W' ⟨hv, hj⟩
      exact ⟨hv, _, rfl, hj⟩
  case done =>
    rintro xs W rfl ⟨σ2, S3, g1, g2, g3⟩ hK
    rw [h7] at g1
    cases g1
    refine ⟨by simp, .inl ⟨_, _, rfl, run_takeDeferred hK, ?_⟩⟩
    have g4 := g3.putRec (Nat.le_refl _) hK (.inr ⟨_, rfl⟩) (.deferred none)
    have hres : Tryz.f256.results = #[] := by kernel_rfl
    have hrun : (results Tryz.f256 a.tmps).run E0.P (W.putObj w1.heap.size (.deferred none)) = .ok (.tuple #[]) (W.putObj w1.heap.size (.deferred none)) := by
      unfold results
      rw [hres]
      simp [go_sem]
    show LeavesInM Fence.wide 3 E0.P Tryz.f256 a.tmps _ a.defers .returning _
    rw [r1.nod]
    exact ⟨_, hrun, _, rfl, σ2, .tuple (x := []) (x' := []) .nil, q1.trans g4⟩
end Go.Proofs.YtejebgdikoehmaaGreatDoor
/- The symbolic executor: all handlers. -/
namespace Go.Proofs.YtejebgdikoehmaaGreatDoor
open Go Go.RowKit
set_option linter.unusedVariables false
noncomputable def spN : SpecF := fun f => bq (Nat.blt f 195) none (bq (Nat.beq f 195) (some hIdx) (bq (Nat.beq f 248) (some hCmp) (bq (Nat.beq f 206) (some hSame) (bq (Nat.beq f 278) (some hMake) none))))
noncomputable def callN : CallF := xCall E0 spN FT 60
noncomputable def spA : SpecF := fun f => bq (Nat.blt f 149) none (bq (Nat.beq f 149) (some (hSplit callN)) (bq (Nat.beq f 256) (some (hLay callN)) (spN f)))
noncomputable def callA : CallF := xCall E0 spA FT 60
noncomputable def spB : SpecF := fun f => bq (Nat.blt f 149) none (bq (Nat.beq f 153) (some (hRead callA)) (spA f))
noncomputable def callB : CallF := xCall E0 spB FT 60
theorem bq_two {α : Type} {c : Bool} {x : α} {r : Option α} {h : α} (e : bq c (some x) r = some h) : (c = true ∧ x = h) ∨ r = some h := by
  cases c with
  | true => cases e; exact .inl ⟨rfl, rfl⟩
  | false => exact .inr e
theorem bq_not {α : Type} {c : Bool} {r : Option α} {h : α} (e : bq c none r = some h) : r = some h := by
  cases c with
  | true => cases e
  | false => exact e
set_option maxRecDepth 100000 in
theorem spN_ok : SpOk E0.P spN := by
  intro f h hs args S v S' σ w args' hh hw hv
  rcases bq_two (bq_not hs) with ⟨e, rfl⟩ | hs
  · rw [nbeq, decide_eq_true_eq] at e; subst e; exact sp_idx hh hw hv
  rcases bq_two hs with ⟨e, rfl⟩ | hs
  · rw [nbeq, decide_eq_true_eq] at e; subst e; exact sp_cmp hh hw hv
  rcases bq_two hs with ⟨e, rfl⟩ | hs
  · rw [nbeq, decide_eq_true_eq] at e; subst e; exact sp_same hh hw hv
  rcases bq_two hs with ⟨e, rfl⟩ | hs
  · rw [nbeq, decide_eq_true_eq] at e; subst e; exact sp_make hh hw hv
  cases hs
set_option maxRecDepth 100000 in
theorem callN_ok : CallOk E0.P callN := by
  unfold callN
  exact xCall_sound (E := E0) hT hmix spN_ok hF 60
set_option maxRecDepth 100000 in
theorem spA_ok : SpOk E0.P spA := by
  intro f h hs args S v S' σ w args' hh hw hv
  rcases bq_two (bq_not hs) with ⟨e, rfl⟩ | hs
  · rw [nbeq, decide_eq_true_eq] at e; subst e; exact sp_split callN_ok hh hw hv
  rcases bq_two hs with ⟨e, rfl⟩ | hs
  · rw [nbeq, decide_eq_true_eq] at e; subst e; exact sp_lay callN_ok hh hw hv
  exact spN_ok f h hs args S v S' σ w args' hh hw hv
set_option maxRecDepth 100000 in
theorem callA_ok : CallOk E0.P callA := by
  unfold callA
  exact xCall_sound (E := E0) hT hmix spA_ok hF 60
set_option maxRecDepth 100000 in
theorem spB_ok : SpOk E0.P spB := by
  intro f h hs args S v S' σ w args' hh hw hv
  rcases bq_two (bq_not hs) with ⟨e, rfl⟩ | hs
  · rw [nbeq, decide_eq_true_eq] at e; subst e; exact sp_read callA_ok hh hw hv
  exact spA_ok f h hs args S v S' σ w args' hh hw hv
set_option maxRecDepth 100000 in
theorem callB_ok : CallOk E0.P callB := by
  unfold callB
  exact xCall_sound (E := E0) hT hmix spB_ok hF 60
end Go.Proofs.YtejebgdikoehmaaGreatDoor
