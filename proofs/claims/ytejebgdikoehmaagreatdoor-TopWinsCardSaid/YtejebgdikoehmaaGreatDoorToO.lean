/- Four clients, four workers: picked, whoever is picked. -/
import Derived.Test.YtejebgdikoehmaaGreatDoorToK
import Derived.Test.YtejebgdikoehmaaGreatDoorIn
import Derived.Deep.QuietTactic
import Derived.BigQuiet
import Derived.Deep.DeepCutAuto
import Derived.Deep.CutBlock
import Derived.StillTailTactics
import Derived.Laws.BitsAllLaws
import Derived.Laws.BitsLemmas
namespace Go.Proofs.YtejebgdikoehmaaGreatDoor
open Go Go.RowKit
set_option linter.unusedVariables false
set_option linter.unusedSimpArgs false
theorem and_mask (x : Int) (k : Nat) (hk : k < 4611686018427387904) : ∃ y : Nat, bits .and .i64 x (k : Int) = (y : Int) ∧ y ≤ k := by
  have hb : (BitVec.ofInt 64 (k : Int)).toNat = k := by
    rw [BitVec.ofInt_natCast, BitVec.toNat_ofNat]; exact Nat.mod_eq_of_lt (by omega)
  refine ⟨(BitVec.ofInt 64 x).toNat &&& k, ?_, Nat.and_le_right⟩
  show IntKind.i64.wrap ((BitVec.ofInt 64 x &&& BitVec.ofInt 64 (k : Int)).toNat : Int) = _
  rw [BitVec.toNat_and, hb, IntKind.wrap_i64]
  have : (BitVec.ofInt 64 x).toNat &&& k ≤ k := Nat.and_le_right
  omega
theorem At.drew {L : Lay} {w0 w : World} {bs : Nat} {a : Abs} (h : At L w0 bs a w) : At L w0 bs a w.drew := by
  obtain ⟨σ, h1, h2, h3, h4⟩ := h
  exact ⟨σ, ⟨h1.cnt, h1.dom, h1.bnd, h1.obj, h1.inj⟩, h2, h3.drew, h4⟩
def isI : List Value → Prop := fun cs => ∃ x : Int, cs = [.int .i64 x] ∧ (Lit.int .i64 x).wf = true
set_option maxRecDepth 100000 in
theorem picked_at {L : Lay} (hR : Runs L) {w0 W : World} {bs : Nat} {a : Abs} (hG : Good a) (h : At L w0 bs a W) (a1 : Option Addr) (n1 c1 : Nat) (w1 : n1 ≤ c1 ∧ ∀ i, i < n1 → InAt w0 a1 1 i isI) :
    Calls Tryz.prog 10 #[.pointer (some ⟨bs, 0, none⟩), .slice a1 n1 c1, .int .i64 20] W fun e W' => (∃ v, e = .returned v) ∧ ∃ win, win < 4 ∧ At L w0 bs (fin win) W' := by
  have H := Lib.hid (And.intro hG h)
  have HR := Lib.hid hR
  clear hG h hR
  go_enter Tryz.func10, Tryz.ntmps10
  go_upto_block 0 with fail
  go_cut [6] (fun _ wx => ∃ a, Good a ∧ At L w0 bs a wx)
  case first =>
    go_wp2_with fail
    go_loopw [6] (fun i wr => ∃ (k : Nat) (a : Abs), k ≤ 200 ∧ i = .int .i64 k ∧ Good a ∧ At L w0 bs a wr) (fun i _ => 200 - (intOf i).toNat)
    case atStart => exact ⟨0, a, by omega, rfl, H.out.1, H.out.2⟩
    case round =>
      clear H a
      obtain ⟨k, a, hk, rfl, hG, h⟩ := hrel
      have H := Lib.hid (And.intro hG h)
      clear hG h
      by_cases hlt : k < n1 ∧ k < 200
      · obtain ⟨hlt, hlt2⟩ := hlt
        obtain ⟨b, off, vv, rfl, hbl, hEl, hc⟩ := (w1.2 k hlt).one
        obtain ⟨x, he, hw⟩ := hEl
        simp at he
        subst he
        have hc' : wr.cell? ⟨b, off + k, none⟩ = some (.int .i64 x) := (H.out.2.fr.cell hbl (fun q => q)).trans hc
        obtain ⟨m, hm, hmb⟩ := and_mask x 3 (by decide)
        have hm' : bits .and .i64 x 3 = m := hm
        obtain ⟨m2, hm2, hmb2⟩ := and_mask (x / 4) 3 (by decide)
        have hm2' : bits .and .i64 (x / 4) 3 = m2 := hm2
        have W1 := Lib.hid w1
        clear w1 hc hm hm2 hw
        go_wp2_with fail
        go_still_tail 12, (by kernel_rfl)
        go_wp2_with fail
        refine (work_at HR.out H.out.1 (w := m) (c := m2) (by omega) (by omega) H.out.2.drew).mono ?_
        rintro e y1 ⟨v, rfl, h⟩
        have H1 := Lib.hid (And.intro (good_step H.out.1 (w := m) (c := m2) (by omega) (by omega)) h)
        clear h
        go_wp2_with fail
        go_roundw
        case rel => exact ⟨k + 1, _, by omega, by go_num, H1.out.1, H1.out.2⟩
        case measure => simp [intOf]; omega
      · have hex : (k < n1 ∧ k = 200) ∨ n1 ≤ k := by omega
        clear hlt w1
        rcases hex with ⟨hlt, rfl⟩ | hge
        all_goals
          go_wp2
          go_meet
          exact ⟨a, H.out.1, H.out.2⟩
  case rest =>
    clear H a w1
    obtain ⟨a, hG, h⟩ := hcut
    obtain ⟨wx, rfl⟩ : ∃ wx : World, wx = wc := ⟨_, rfl⟩
    have H := Lib.hid (And.intro hG h)
    clear hG h
    go_wp2_with fail
    go_loopw [7] (fun i wr => ∃ (k : Nat) (a : Abs), k ≤ 20 ∧ i = .int .i64 k ∧ Good a ∧ (rank a = 0 ∨ rank a + k ≤ 16) ∧ At L w0 bs a wr) (fun i _ => 20 - (intOf i).toNat)
    case atStart => exact ⟨0, a, by omega, rfl, H.out.1, .inr (rank_le a), H.out.2⟩
    case round =>
      clear H a
      obtain ⟨k, a, hk, rfl, hG, hrk, h⟩ := hrel
      have H := Lib.hid (And.intro hG (And.intro hrk h))
      clear hG hrk h
      by_cases hlt : k < 20
      · have dk : decide ((k : Int) < 20) = true := decide_eq_true (by omega)
        have HKT := Lib.hid (And.intro hlt hk)
        clear hlt hk
        obtain ⟨wy, rfl⟩ : ∃ wy : World, wy = wr := ⟨_, rfl⟩
        go_wp2_with fail
        go_loopw [8] (fun i wr => ∃ (j : Nat), j ≤ 4 ∧ i = .int .i64 j ∧ At L w0 bs (partA (4 * j) a) wr) (fun i _ => 4 - (intOf i).toNat)
        case atStart => exact ⟨0, by omega, rfl, H.out.2.2⟩
        case round =>
          obtain ⟨j, hj, rfl, h⟩ := hrel
          have HJ := Lib.hid h
          clear h
          by_cases hjt : j < 4
          · have dj : decide ((j : Int) < 4) = true := decide_eq_true (by omega)
            have HJT := Lib.hid (And.intro hjt hj)
            clear hjt hj
            obtain ⟨wz, rfl⟩ : ∃ wz : World, wz = wr := ⟨_, rfl⟩
            go_wp2_with fail
            go_loopw [9] (fun i wr => ∃ (m : Nat), m ≤ 4 ∧ i = .int .i64 m ∧ At L w0 bs (partA (4 * j + m) a) wr) (fun i _ => 4 - (intOf i).toNat)
            case atStart => exact ⟨0, by omega, rfl, HJ.out⟩
            case round =>
              obtain ⟨m, hm, rfl, h⟩ := hrel
              have HM := Lib.hid h
              clear h
              by_cases hmt : m < 4
              · have HMT := Lib.hid hmt
                go_wp2_with fail
                have hj := HJT.out.1
                refine (work_at HR.out (part_good H.out.1 (j := 4 * j + m) (by omega)) (w := j) (c := m) (by omega) (by omega) HM.out).mono ?_
                clear hj
                rintro e y1 ⟨v, rfl, h⟩
                have H1 := Lib.hid h
                clear h
                go_wp2_with fail
                go_roundw
                case rel =>
                  refine ⟨m + 1, by have := HMT.out; omega, by go_num, ?_⟩
                  have h1 := H1.out
                  have hj := HJT.out.1
                  have hmt := HMT.out
                  have e : partA (4 * j + (m + 1)) a = stepA (partA (4 * j + m) a) j m := by
                    show stepA (partA (4 * j + m) a) ((4 * j + m) / 4) ((4 * j + m) % 4) = _
                    rw [show (4 * j + m) / 4 = j by omega, show (4 * j + m) % 4 = m by omega]
                  rw [e]; exact h1
                case measure => have := HMT.out; simp [intOf]; omega
              · have hm4 : m = 4 := by omega
                subst hm4
                clear hmt hm
                have hj := HJT.out.1
                go_wp2
                go_roundw
                case rel => exact ⟨j + 1, (by have := HJT.out; omega), by go_num, HM.out⟩
                case measure => have := HJT.out; simp [intOf]; omega
          · have hj4 : j = 4 := by omega
            subst hj4
            clear hjt hj
            have hk := HKT.out.1
            go_wp2
            go_roundw
            case rel =>
              refine ⟨k + 1, partA 16 a, (by have := HKT.out; omega), by go_num, part_good H.out.1 (by omega), ?_, HJ.out⟩
              have h1 := round_rank H.out.1
              have h2 := H.out.2.1
              have h3 := part_rank H.out.1 (Nat.le_refl 16)
              rcases h1 with h1 | h1
              · omega
              · rcases h3 with h3 | ⟨h3, _⟩
                · omega
                · left; rw [h3]; exact h1
            case measure => have := HKT.out; simp [intOf]; omega
      · have hk20 : k = 20 := by omega
        subst hk20
        clear hlt hk
        go_wp2
        go_end0
        have h0 : rank a = 0 := by
          have := H.out.2.1
          omega
        obtain ⟨q1, q2⟩ := ended_H (L := L) H.out.1 h0
        exact ⟨⟨_, rfl⟩, a.win, q1, H.out.2.2.congr q2⟩
end Go.Proofs.YtejebgdikoehmaaGreatDoor
/- Stretches of a law's body, run by the kernel; a call between them. -/
namespace Go.Proofs.YtejebgdikoehmaaGreatDoor
open Go Go.RowKit
set_option linter.unusedVariables false
set_option linter.unusedSimpArgs false
section
variable {E : Env} {D : List Deferred} {n : Nat} {callF : CallF} {σ : Rn} {S S' : St} {w : World} {T T' : Sts} {a : Act} {Q : Exit → Act → World → Prop}
theorem pre_wp (hT : TOk E) (hmix : E.P.follows .mixedOrders = true) (hC : CallOk E.P callF) : ∀ (cs : List Code) {rest : Code} {T T' : Sts} {S S' : St} {σ : Rn} {w : World} {a : Act},
    cs.all (codeOk E n) = true → preX E callF cs T S = some (T', S') → WR σ S w → AR D σ n T a → (∀ a' w', Goes D σ S w n T' S' a' w' → rest.wp E.P Q a' w') → (seqs cs rest).wp E.P Q a w
  | [], rest, T, T', S, S', σ, w, a, hk, h, hw, hA, hq => by
    cases h
    exact hq a w ⟨σ, Post.refl hw, hA⟩
  | c :: cs, rest, T, T', S, S', σ, w, a, hk, h, hw, hA, hq => by
    rw [List.all_cons, Bool.and_eq_true] at hk
    obtain ⟨⟨e, T1, S1⟩, h1, h2⟩ := ob_some (show ob (xCode E callF c T S) _ = some (T', S') from h)
    cases e with
    | ret => cases h2
    | exit i => cases h2
    | normal =>
      refine wp_seq (sCode_sound hT hC hmix c hk.1 hw hA (xCode_some hT _ h1) fun a1 w1 hg => ?_)
      obtain ⟨σ1, q1, q2⟩ := hg
      exact pre_wp hT hmix hC cs hk.2 h2 q1.wr q2 fun a2 w2 hg => hq a2 w2 (Goes.trans q1 hg)
theorem sOps_upto (hT : TOk E) (hC : CallOk E.P callF) {ops : Array Oper} (hd : ops.toList.all (dstOk n) = true) {m : Nat} (hm : m ≤ ops.size) : ∀ (j k : Nat) {T' : Sts} {S S' : St} {σ : Rn} {w : World} {T : Sts} {a : Act}, k + j = m → WR σ S w → AR D σ n T a → sOps E callF ops.toList ((ops.toList.drop k).take j) T S = some (T', S') →
    (∀ a' w', Goes D σ S w n T' S' a' w' → wpOps E.P ops Q ((List.range ops.size).drop m) a' w') → wpOps E.P ops Q ((List.range ops.size).drop k) a w
  | 0, k, T', S, S', σ, w, T, a, hkj, hw, hA, h, hq => by
    rw [List.take_zero] at h
    cases h
    rw [show k = m by omega]
    exact hq a w ⟨σ, Post.refl hw, hA⟩
  | j + 1, k, T', S, S', σ, w, T, a, hkj, hw, hA, h, hq => by
    have hk : k < ops.size := by omega
    have e1 : ops.toList.drop k = ops[k] :: ops.toList.drop (k + 1) := by
      rw [List.drop_eq_getElem_cons (by simpa using hk)]; simp
    have e2 : (List.range ops.size).drop k = k :: (List.range ops.size).drop (k + 1) := by
      rw [List.drop_eq_getElem_cons (by simpa using hk)]; simp
    have hdk : dstOk n ops[k] = true := List.all_eq_true.1 hd _ (by simp)
    rw [e1, List.take_succ_cons] at h
    rw [e2]
    simp only [sOps] at h
    simp only [wpOps, Array.getElem?_eq_getElem hk]
    split at h
    · cases h
    · rename_i hwn
      rw [hA.wanted hwn]
      simp only [Bool.false_eq_true, if_false]
      exact sOps_upto hT hC hd hm j (k + 1) (by omega) hw (hA.putT hdk (VR.tuple (x := []) (x' := []) .nil)) h hq
    · rename_i hwn
      rw [hA.wanted hwn]
      simp only [if_true]
      split at h
      · rename_i u S1 hop
        refine Or.inl ((sOp_sound hT hC hw hA hop).upon fun v' w' hr => ?_)
        obtain ⟨σ', r1, r2⟩ := hr
        refine sOps_upto hT hC hd hm j (k + 1) (by omega) r2.wr ((hA.mono r2.le).putT hdk r1) h fun a' w'' hg => ?_
        obtain ⟨σ'', g1, g2⟩ := hg
        exact hq a' w'' ⟨σ'', r2.trans g1, g2⟩
      · cases h
/-- A region that ends in a call of a Go function: what the call does is told from outside. -/
theorem region_call (hT : TOk E) (hC : CallOk E.P callF) {ops : Array Oper} {id m : Nat} {f : FuncId} {c : Call} {o : Oper} {args : List Value} {T1 : Sts} {S1 : St} (ho : ops[m]? = some o) (hsz : ops.size = m + 1) (hop : o.op = .call c) (hcal : c.callee = .value (.func f)) (hg : o.guard = none) (hd : ops.toList.all (dstOk n) = true)
    (hrun : sOps E callF ops.toList (ops.toList.take m) T S = some (T1, S1)) (hev : evalL T1 c.args.toList = some args) (hw : WR σ S w) (hA : AR D σ n T a)
    (h : ∀ σ1 w1 a1, Post σ S w σ1 S1 w1 → AR D σ1 n T1 a1 → ∀ args', VRs σ1 args args' → UponR E.P (fun v w2 => Q .normal (a1.put o.dst v) w2) ((callFunc f args'.toArray).run E.P w1)) : (Code.region id ops false).wp E.P Q a w := by
  have hm : m < ops.size := by omega
  refine wp_region ?_
  have key := sOps_upto (Q := Q) (T' := T1) (S' := S1) hT hC hd (m := m) (by omega) m 0 (by omega) hw hA (by simpa using hrun) fun a1 w1 hgo => ?_
  · simpa using key
  · obtain ⟨σ1, q1, q2⟩ := hgo
    have e2 : (List.range ops.size).drop m = [m] := by
      rw [hsz, List.range_succ, List.drop_append_of_le_length (by simp)]
      simp
    rw [e2]
    have eo : ops[m] = o := by rw [Array.getElem?_eq_getElem hm] at ho; exact Option.some.inj ho
    simp only [wpOps, Array.getElem?_eq_getElem hm]
    rw [eo]
    have hwant := (q2.wanted (ops := ops) (o := o) (b := true) (by unfold wantedS; rw [hg]))
    rw [hwant]
    simp only [if_true]
    have he : (execOp a1.eval o).run E.P w1 = (callFunc f (c.args.map a1.eval)).run E.P w1 := by
      obtain ⟨dst, op', type, pos, after, guard⟩ := o
      simp only at hop
      subst hop
      simp only [execOp, resolve, hcal, Act.eval, Deferred.ofValue, Sem.run_bind]
      rw [show ∀ d : Deferred, (pure d : Sem Deferred).run E.P w1 = .ok d w1 from fun _ => rfl]
      simp only [Result.andThen, invoke]
      congr 2
      simp
    have := h σ1 w1 a1 q1 q2 _ (evalL_rel (ρ := a1.eval) (fun x hx => q2.aro o x (by simp [Op.operands, Call.operands, hop]; exact Or.inr (by simpa using hx))) hev)
    rw [show ((c.args.toList.map a1.eval).toArray : Array Value) = c.args.map a1.eval by apply Array.ext'; simp] at this
    rw [← he] at this
    exact Or.inl (UponR.upon (o := o) this fun v w2 hq => by simpa [wpOps] using hq)
end
end Go.Proofs.YtejebgdikoehmaaGreatDoor
/- Stretches of a law's body: other names behind them; the end; the whole of the memory as a list. -/
namespace Go.Proofs.YtejebgdikoehmaaGreatDoor
open Go Go.RowKit
set_option linter.unusedVariables false
set_option linter.unusedSimpArgs false
def stsL : List (Nat × Value) → Sts
  | [] => .nil
  | (t, v) :: r => .cons t v (stsL r)
def chkT (l : List (Nat × Nat)) (T1 : Sts) : List (Nat × Value) → Bool
  | [] => true
  | (t, u) :: r => (match T1.get t with | some v => mv (fun _ => none) idV (renL l) 1000 9 u v | none => false) && chkT l T1 r
noncomputable def segOk (cs : List Code) (T : List (Nat × Value)) (P : Part) (T' : List (Nat × Value)) (P' : Part) (l : List (Nat × Nat)) : Bool :=
  keysOk 1000 P && keysOk 1000 P' && newOk 1000 l && (match preX E0 callB cs (stsL T) ⟨ofP P, 1000⟩ with
    | some (T1, S') => chkO l 1000 P S' P' && chkT l T1 T'
    | none => false)
noncomputable def endOk (c : Code) (T : List (Nat × Value)) (P : Part) (r : Nat) : Bool :=
  keysOk 1000 P && (match xCode E0 callB c (stsL T) ⟨ofP P, 1000⟩ with
    | some (.ret, T1, S') => (match T1.get r with | some (.bool true) => true | _ => false)
    | _ => false)
theorem chkT_get {l : List (Nat × Nat)} {T1 : Sts} : ∀ {T' : List (Nat × Value)}, chkT l T1 T' = true → ∀ t u, (stsL T').get t = some u → ∃ v, T1.get t = some v ∧ mv (fun _ => none) idV (renL l) 1000 9 u v = true
  | [], _, t, u, q => by cases q
  | (t', u') :: r, h, t, u, q => by
    simp only [chkT, Bool.and_eq_true] at h
    simp only [stsL, Sts.get, nbeq] at q
    by_cases c : t' = t
    · subst c
      rw [decide_eq_true rfl, cond_true] at q
      cases q
      have h1 := h.1
      split at h1
      · rename_i v e
        exact ⟨v, e, h1⟩
      · cases h1
    · rw [decide_eq_false c, cond_false] at q
      exact chkT_get h.2 t u q
section
variable {D : List Deferred} {n : Nat} {σ : Rn} {H : Nat → Option SObj} {w : World} {a : Act} {Q : Exit → Act → World → Prop}
set_option maxRecDepth 100000 in
theorem seg_sound {cs : List Code} {rest : Code} {T T' : List (Nat × Value)} {P P' : Part} {l : List (Nat × Nat)} (hs : segOk cs T P T' P' l = true) (hk : cs.all (codeOk E0 n) = true) (hW : WF σ H 1000 w) (hH : ∀ i o, lookP P i = some o → H i = some o) (hA : AR D σ n (stsL T) a)
    (hq : ∀ a' w' σ', WF σ' (lookP P') 1000 w' → AR D σ' n (stsL T') a' → Fr (owns σ H) w w' → (∀ b, owns σ' (lookP P') b → owns σ H b ∨ w.heap.size ≤ b) → σ'.ω = σ.ω → rest.wp E0.P Q a' w') : (seqs cs rest).wp E0.P Q a w := by
  simp only [segOk, Bool.and_eq_true] at hs
  obtain ⟨⟨⟨k1, k2⟩, k3⟩, k5⟩ := hs
  split at k5
  case h_2 => cases k5
  rename_i T1 S' hrun
  simp only [Bool.and_eq_true] at k5
  obtain ⟨k5, k6⟩ := k5
  have hT' : ∀ i o, (ofP P).get i = some o → H i = some o := fun i o q => hH i o (by rw [← ofP_get (by omega) k1]; exact q)
  refine pre_wp hT hmix callB_ok cs hk hrun (hW.part hT') hA fun a' w' hg => ?_
  obtain ⟨σ1, q1, q2⟩ := hg
  have hVO : VarOk σ1 (ren σ1 (renL l) 1000 σ1.ω) (fun _ => none) idV := by
    refine ⟨fun j x h => (by cases h), fun j x v' hj hv' => ?_⟩
    cases hj
    cases hv' with
    | var e h => exact ⟨e, h⟩
  have hown : ∀ b, Own σ ⟨ofP P, 1000⟩ b → owns σ H b := by
    rintro b ⟨i, o, h1, h2⟩
    exact ⟨i, o, hT' i o h1, h2⟩
  refine hq a' w' (ren σ1 (renL l) 1000 σ1.ω) (WF.ren (WR.wf q1.wr) (by omega) (fun i u q => ?_) fun i j u v g1 g2 e => newOk_inj k3 i j (lookP_lt k2 i u g1) (lookP_lt k2 j v g2) e) ?_ (q1.fr.mono fun b _ h => hown b h) ?_ ?_
  · obtain ⟨h1, o, h2, h3⟩ := chkO_get k5 i u q
    exact ⟨lookP_lt k2 i u q, o, h2, fun b ob _ _ h => mo_sound h3 _ _ _ _ hVO h⟩
  · refine ⟨fun t u hu => ?_, q2.size, q2.small, q2.nod⟩
    obtain ⟨v, h1, h2⟩ := chkT_get k6 t u hu
    obtain ⟨v', h3, h4⟩ := q2.get t v h1
    exact ⟨v', h3, mv_sound hVO 9 u v v' h2 h4⟩
  · rintro b ⟨i, u, h1, h2⟩
    obtain ⟨g1, o, g2, g3⟩ := chkO_get k5 i u h1
    have h2 : (if i < 1000 then σ1 (renL l i) else none) = some b := h2
    rw [if_pos (lookP_lt k2 i u h1)] at h2
    rcases q1.own b ⟨_, o, g2, h2⟩ with k | k
    · exact .inl (hown b k)
    · exact .inr k
  · exact q1.le.ω
set_option maxRecDepth 100000 in
theorem end_sound {c : Code} {T : List (Nat × Value)} {P : Part} {r : Nat} (hs : endOk c T P r = true) (hk : codeOk E0 n c = true) (hW : WF σ H 1000 w) (hH : ∀ i o, lookP P i = some o → H i = some o) (hA : AR D σ n (stsL T) a)
    (hq : ∀ a' w', a'.tmps[r]? = some (.bool true) → a'.defers = D → Fr (owns σ H) w w' → Q .ret a' w') : c.wp E0.P Q a w := by
  simp only [endOk, Bool.and_eq_true] at hs
  obtain ⟨k1, k5⟩ := hs
  split at k5
  case h_2 => cases k5
  rename_i T1 S' hrun
  split at k5
  case h_2 => cases k5
  rename_i hr
  have hT' : ∀ i o, (ofP P).get i = some o → H i = some o := fun i o q => hH i o (by rw [← ofP_get (by omega) k1]; exact q)
  refine sCode_sound hT callB_ok hmix c hk (hW.part hT') hA (xCode_some hT _ hrun) fun a' w' hg => ?_
  obtain ⟨σ1, q1, q2⟩ := hg
  obtain ⟨v', h1, h2⟩ := q2.get r _ hr
  cases h2
  refine hq a' w' h1 q2.nod (q1.fr.mono ?_)
  rintro b _ ⟨i, o, h1, h2⟩
  exact ⟨i, o, hT' i o h1, h2⟩
end
/-- The whole as a list. -/
def Lay.full (L : Lay) (a : Abs) : Part := (0, rowO (rowC a.row)) :: (1, strO (strC a.hold)) :: (2, srvO (L.ev a.k a.win)) :: (6, crowO) :: (L.B a.k a.win ++ (L.C 0 (a.st 0) ++ (L.C 1 (a.st 1) ++ (L.C 2 (a.st 2) ++ L.C 3 (a.st 3)))))
theorem full_look {L : Lay} {a : Abs} (hB : wfB (L.B a.k a.win) = true) (hC : ∀ c, c < 4 → wfC c (L.C c (a.st c)) = true) (i : Nat) : lookP (L.full a) i = L.H a i := by
  have hd : ∀ c d, c < 4 → d < 4 → c ≠ d → inC c i = true → lookP (L.C d (a.st d)) i = none := fun c d hc hd hne h => by
    refine wfC_none (hC d hd) ?_
    cases e : inC d i with
    | false => rfl
    | true => have h1 := inC_of hc h; have h2 := inC_of hd e; omega
  have hl : lookP (L.full a) i = if i = 0 then some (rowO (rowC a.row)) else if i = 1 then some (strO (strC a.hold)) else if i = 2 then some (srvO (L.ev a.k a.win)) else if i = 6 then some crowO else
      match lookP (L.B a.k a.win) i with | some o => some o | none => match lookP (L.C 0 (a.st 0)) i with | some o => some o | none => match lookP (L.C 1 (a.st 1)) i with | some o => some o | none => match lookP (L.C 2 (a.st 2)) i with | some o => some o | none => lookP (L.C 3 (a.st 3)) i := by
    unfold Lay.full
    simp only [lookP, nbeq, lookP_append]
    by_cases h0 : i = 0
    · subst h0; rfl
    rw [decide_eq_false (fun e => h0 e.symm), if_neg h0]
    by_cases h1 : i = 1
    · subst h1; rfl
    rw [decide_eq_false (fun e => h1 e.symm), if_neg h1]
    by_cases h2 : i = 2
    · subst h2; rfl
    rw [decide_eq_false (fun e => h2 e.symm), if_neg h2]
    by_cases h6 : i = 6
    · subst h6; rfl
    rw [decide_eq_false (fun e => h6 e.symm), if_neg h6]
    rfl
  rw [hl]
  by_cases h0 : i = 0
  · rw [if_pos h0, h0]; rfl
  rw [if_neg h0]
  by_cases h1 : i = 1
  · rw [if_pos h1, h1]; rfl
  rw [if_neg h1]
  by_cases h2 : i = 2
  · rw [if_pos h2, h2]; rfl
  rw [if_neg h2]
  by_cases h6 : i = 6
  · rw [if_pos h6, h6]; rfl
  rw [if_neg h6]
  by_cases hb : inB i = true
  · have hi := hb
    rw [inB_iff] at hi
    have hn : ∀ c, c < 4 → lookP (L.C c (a.st c)) i = none := fun c hc => wfC_none (hC c hc) (not_inC (.inl (by unfold CID; omega)))
    rw [H_B hb, hn 0 (by omega), hn 1 (by omega), hn 2 (by omega), hn 3 (by omega)]
    cases lookP (L.B a.k a.win) i <;> rfl
  · have hb' : inB i = false := by cases e : inB i with | false => rfl | true => exact (hb e).elim
    rw [wfB_none hB hb']
    by_cases hc : ∃ c, c < 4 ∧ inC c i = true
    · obtain ⟨c, hc4, hci⟩ := hc
      rw [H_C hc4 hci]
      rcases (show c = 0 ∨ c = 1 ∨ c = 2 ∨ c = 3 by omega) with rfl | rfl | rfl | rfl
      · rw [hd 0 1 (by omega) (by omega) (by omega) hci, hd 0 2 (by omega) (by omega) (by omega) hci, hd 0 3 (by omega) (by omega) (by omega) hci]
        cases lookP (L.C 0 (a.st 0)) i <;> rfl
      · rw [hd 1 0 (by omega) (by omega) (by omega) hci, hd 1 2 (by omega) (by omega) (by omega) hci, hd 1 3 (by omega) (by omega) (by omega) hci]
        cases lookP (L.C 1 (a.st 1)) i <;> rfl
      · rw [hd 2 0 (by omega) (by omega) (by omega) hci, hd 2 1 (by omega) (by omega) (by omega) hci, hd 2 3 (by omega) (by omega) (by omega) hci]
        cases lookP (L.C 2 (a.st 2)) i <;> rfl
      · rw [hd 3 0 (by omega) (by omega) (by omega) hci, hd 3 1 (by omega) (by omega) (by omega) hci, hd 3 2 (by omega) (by omega) (by omega) hci]
    · have hn : ∀ c, c < 4 → lookP (L.C c (a.st c)) i = none := fun c hc4 => wfC_none (hC c hc4) (by cases e : inC c i with | false => rfl | true => exact (hc ⟨c, hc4, e⟩).elim)
      rw [hn 0 (by omega), hn 1 (by omega), hn 2 (by omega), hn 3 (by omega)]
      cases e : L.H a i with
      | none => rfl
      | some o =>
        rcases H_cases e with h | h | h | h | h | ⟨c, hc4, h⟩
        · exact (h0 h).elim
        · exact (h1 h).elim
        · exact (h2 h).elim
        · exact (h6 h).elim
        · exact (hb h).elim
        · exact (hc ⟨c, hc4, h⟩).elim
end Go.Proofs.YtejebgdikoehmaaGreatDoor
/- Four clients, four workers: picked stands in a law's body. -/
namespace Go.Proofs.YtejebgdikoehmaaGreatDoor
open Go Go.RowKit
set_option linter.unusedVariables false
set_option linter.unusedSimpArgs false
theorem all_mem {α : Type} {l : List α} {p : α → Bool} (h : l.all p = true) {x : α} (hx : x ∈ l) : p x = true := List.all_eq_true.1 h x hx
theorem four {c : Nat} (hc : c < 4) : c = 0 ∨ c = 1 ∨ c = 2 ∨ c = 3 := by omega
def r4 : List Nat := [0, 1, 2, 3]
theorem r4_all {p : Nat → Bool} (h : r4.all p = true) : ∀ c, c < 4 → p c = true := fun c hc => List.all_eq_true.1 h c (by
  rcases (show c = 0 ∨ c = 1 ∨ c = 2 ∨ c = 3 by omega) with rfl | rfl | rfl | rfl <;> simp [r4])
/-- Nothing is told of the heap: no ids. -/
def rn0 (v : Value) : Rn := ⟨fun _ => none, fun _ => 0, fun _ => v⟩
theorem wf0 (v : Value) (w : World) : WF (rn0 v) (lookP []) 1000 w := ⟨by omega, fun i b h => (by cases h), fun i b h => (by cases h), fun i o h => (by cases h), fun i j b oi oj h => (by cases h)⟩
theorem owns0 {σ : Rn} {b : Nat} : ¬ owns σ (lookP []) b := by
  rintro ⟨i, o, h, _⟩
  cases h
/-- What a law's body keeps in its slots: the numbers that came in, the server. -/
structure Two (n : Nat) (a : Act) (q p : Value) : Prop where
  at0 : a.tmps[0]? = some q
  at4 : a.tmps[4]? = some p
  size : a.tmps.size = n
  small : n ≤ 1000000
  nod : a.defers = []
def T04 : List (Nat × Value) := [(0, .chan (some 1)), (4, .pointer (some ⟨2, 0, none⟩))]
theorem Two.ar {σ : Rn} {n : Nat} {a : Act} {q p : Value} (h : Two n a q p) (h0 : VR σ (.chan (some 1)) q) (h4 : VR σ (.pointer (some ⟨2, 0, none⟩)) p) : AR [] σ n (stsL T04) a := by
  refine ⟨fun t u e => ?_, h.size, h.small, h.nod⟩
  simp only [T04, stsL, Sts.get, nbeq] at e
  by_cases e0 : 0 = t
  · subst e0
    rw [decide_eq_true rfl, cond_true] at e
    cases e
    exact ⟨q, h.at0, h0⟩
  · rw [decide_eq_false e0, cond_false] at e
    by_cases e4 : 4 = t
    · subst e4
      rw [decide_eq_true rfl, cond_true] at e
      cases e
      exact ⟨p, h.at4, h4⟩
    · rw [decide_eq_false e4] at e; cases e
theorem stsL_get1 {σ : Rn} {t : Nat} {v v' : Value} {n : Nat} {a : Act} (hs : a.tmps.size = n) (hn : n ≤ 1000000) (hd : a.defers = []) (h : a.tmps[t]? = some v') (hv : VR σ v v') : AR [] σ n (stsL [(t, v)]) a := by
  refine ⟨fun t' u q => ?_, hs, hn, hd⟩
  simp only [stsL, Sts.get, nbeq] at q
  by_cases e : t = t'
  · subst e
    rw [decide_eq_true rfl, cond_true] at q
    cases q
    exact ⟨v', h, hv⟩
  · rw [decide_eq_false e] at q; cases q
theorem AR.two {σ : Rn} {n bs : Nat} {a : Act} {q : Value} {T : List (Nat × Value)} (hA : AR [] σ n (stsL T) a) (e0 : (stsL T).get 0 = some (.chan (some 1))) (e4 : (stsL T).get 4 = some (.pointer (some ⟨2, 0, none⟩))) (hω : σ.ω 0 = q) (h2 : σ 2 = some bs) : Two n a q (.pointer (some ⟨bs, 0, none⟩)) := by
  refine ⟨?_, ?_, hA.size, hA.small, hA.nod⟩
  · obtain ⟨v', h1, h3⟩ := hA.get 0 _ e0
    cases h3 with
    | var e _ => rw [h1, ← e, hω]
  · obtain ⟨v', h1, h3⟩ := hA.get 4 _ e4
    cases h3 with
    | ptr e =>
      rw [show (⟨2, 0, none⟩ : Addr).block = 2 from rfl, h2] at e
      cases e
      exact h1
theorem H_ok {L : Lay} (hR : Runs L) {a : Abs} (hk : a.k ≤ 4) (hwin : a.win < 4) (hst : ∀ c, c < 4 → a.st c ≤ 6) (hrow : ∀ w, w < 4 → ∀ c, a.row w = some c → c < 4) {i : Nat} {o : SObj} (h : L.H a i = some o) : i < 1000 ∧ okO (fun i => Nat.blt i 1000) o = true := by
  obtain ⟨hB, hev⟩ := hR.wfB a.k a.win hk hwin
  have inBid : ∀ i, inB i = true → Nat.blt i 1000 = true := fun i hi => by rw [inB_iff] at hi; rw [nblt, decide_eq_true_eq]; omega
  rcases H_cases h with e | e | e | e | e | ⟨c, hc, e⟩
  · subst e; cases h
    exact ⟨by omega, okO_row fun j hj c hc => by have := hrow j hj c hc; rw [nblt, decide_eq_true_eq]; unfold CID; omega⟩
  · subst e; cases h; exact ⟨by omega, okO_str _⟩
  · subst e; cases h
    refine ⟨by omega, ?_⟩
    unfold evOk at hev
    rw [Bool.and_eq_true, Bool.and_eq_true] at hev
    show (srvC ++ [L.ev a.k a.win]).all (okV _ 9) = true
    rw [List.all_append, Bool.and_eq_true]
    refine ⟨by decide, ?_⟩
    simp only [List.all_cons, List.all_nil, Bool.and_true]
    exact okV_mono inBid 9 _ hev.1.1
  · subst e; cases h; exact ⟨by omega, by decide⟩
  · have hi := e
    rw [inB_iff] at hi
    rw [H_B e] at h
    exact ⟨by omega, okO_mono inBid (wfB_look hB h).2⟩
  · have hi := inC_of hc e
    rw [H_C hc e] at h
    exact ⟨by omega, okO_mono (fun i hi => by have := inC_of hc hi; rw [nblt, decide_eq_true_eq]; omega) (wfC_look (hR.wfC c hc _ (hst c hc)) h).2⟩
/-- Vars may stand for anything: none is in the heap. -/
theorem At.vars {L : Lay} (hR : Runs L) {a : Abs} (hk : a.k ≤ 4) (hwin : a.win < 4) (hst : ∀ c, c < 4 → a.st c ≤ 6) (hrow : ∀ w, w < 4 → ∀ c, a.row w = some c → c < 4) {w0 w : World} {bs : Nat} (h : At L w0 bs a w) (ω : Nat → Value) :
    ∃ σ, WF σ (L.H a) 1000 w ∧ σ 2 = some bs ∧ σ.ω = ω ∧ Fr (fun _ => False) w0 w ∧ ∀ b, owns σ (L.H a) b → w0.heap.size ≤ b := by
  obtain ⟨σ, h1, h2, h3, h4⟩ := h
  refine ⟨ren σ id 1000 ω, WF.ren h1 (by omega) (fun i u q => ?_) (fun i j _ _ _ _ e => e), (ren_id h1).2 h2, rfl, h3, ?_⟩
  · obtain ⟨g1, g2⟩ := H_ok hR hk hwin hst hrow q
    exact ⟨g1, u, q, fun b ob _ _ hO => okO_MO (θ := fun _ => none) (ζ := fun _ => none) (fun i hi => ⟨rfl, by rw [nblt, decide_eq_true_eq] at hi; exact hi, by rw [nblt, decide_eq_true_eq] at hi; omega⟩) g2 _ _ _ _ (VarOk.non _ _) hO⟩
  · rintro b ⟨i, u, q1, q2⟩
    exact h4 b ⟨i, u, q1, (ren_id h1).1 q2⟩
theorem full_a0 {L : Lay} (hR : Runs L) : lookP (L.full a0) = L.H a0 := funext (full_look (a := a0) (hR.wfB 0 0 (by omega) (by omega)).1 fun c hc => hR.wfC c hc 0 (by omega))
theorem full_fin {L : Lay} (hR : Runs L) {win : Nat} (hw : win < 4) : lookP (L.full (fin win)) = L.H (fin win) := funext (full_look (a := fin win) (hR.wfB 4 win (by omega) hw).1 fun c hc => hR.wfC c hc _ (by show (if c = win then 6 else 4) ≤ 6; split <;> omega))
/-- Behind a stretch the server lies as at the start of a picking. -/
theorem At.start {L : Lay} (hR : Runs L) {w0 w w' : World} {σ σ' : Rn} {H : Nat → Option SObj} (h0 : Fr (fun _ => False) w0 w) (h1 : ∀ b, owns σ H b → w0.heap.size ≤ b) (hW : WF σ' (lookP (L.full a0)) 1000 w') (hF : Fr (owns σ H) w w') (ho : ∀ b, owns σ' (lookP (L.full a0)) b → owns σ H b ∨ w.heap.size ≤ b) :
    ∃ bs, σ' 2 = some bs ∧ At L w0 bs a0 w' := by
  rw [full_a0 hR] at hW ho
  obtain ⟨bs, _, hbs, _, _⟩ := hW.obj 2 _ H_srv
  exact ⟨bs, hbs, At.step h0 h1 hF hW ho hbs⟩
theorem actPut_ne {a : Act} {d t : Nat} {v : Value} (h : t ≠ d) : (a.put (some d) v).tmps[t]? = a.tmps[t]? := by
  unfold Act.put
  simp only
  rw [Array.getElem?_setIfInBounds_ne (Ne.symm h)]
theorem actPut_size {a : Act} {d : Nat} {v : Value} : (a.put (some d) v).tmps.size = a.tmps.size := by
  unfold Act.put
  simp
theorem keysOk_of {n : Nat} {P : Part} (h : ∀ p, p ∈ P → p.1 < n) : keysOk n P = true := by
  induction P with
  | nil => rfl
  | cons p r ih =>
    simp only [keysOk, Bool.and_eq_true, nblt, decide_eq_true_eq]
    exact ⟨h p List.mem_cons_self, ih fun q hq => h q (List.mem_cons_of_mem _ hq)⟩
theorem lookP_some {P : Part} {p : Nat × SObj} (h : p ∈ P) : ∃ u, lookP P p.1 = some u := by
  induction P with
  | nil => cases h
  | cons q r ih =>
    obtain ⟨j, o⟩ := q
    simp only [lookP, nbeq]
    by_cases e : j = p.1
    · rw [decide_eq_true e]; exact ⟨o, rfl⟩
    · rw [decide_eq_false e]
      rcases List.mem_cons.1 h with h | h
      · subst h; exact (e rfl).elim
      · exact ih h
theorem picked_body : ∃ c, Tryz.f10.body = some c := ⟨_, rfl⟩
set_option maxRecDepth 100000 in
/-- The region that calls picked. -/
theorem picked_region {L : Lay} (hR : Runs L) {n id t1 t2 t3 : Nat} {ops : Array Oper} {o : Oper} {c : Call} {Q : Exit → Act → World → Prop} (ho : ops[2]? = some o) (hsz : ops.size = 3) (hop : o.op = .call c) (hcal : c.callee = .value (.func 10)) (hg : o.guard = none) (hdst : o.dst = some t3) (hd : ops.toList.all (dstOk n) = true)
    (hrun : ∀ S, sOps E0 callB ops.toList (ops.toList.take 2) (stsL T04) S = some (stsL ((t2, .chan (some 1)) :: (t1, .pointer (some ⟨2, 0, none⟩)) :: T04), S)) (hev : evalL (stsL ((t2, .chan (some 1)) :: (t1, .pointer (some ⟨2, 0, none⟩)) :: T04)) c.args.toList = some [.pointer (some ⟨2, 0, none⟩), .chan (some 1), .int .i64 20])
    (ht : 4 < t1 ∧ 4 < t2 ∧ 4 < t3) {w0 w : World} {bs : Nat} {a : Act} {a1 : Option Addr} {n1 c1 : Nat} (hA : Two n a (.slice a1 n1 c1) (.pointer (some ⟨bs, 0, none⟩))) (hAt : At L w0 bs a0 w) (w1 : n1 ≤ c1 ∧ ∀ i, i < n1 → InAt w0 a1 1 i isI)
    (hq : ∀ a' w' win, win < 4 → At L w0 bs (fin win) w' → Two n a' (.slice a1 n1 c1) (.pointer (some ⟨bs, 0, none⟩)) → Q .normal a' w') : (Code.region id ops false).wp E0.P Q a w := by
  obtain ⟨σ, h1, h2, h3, h4, h5⟩ := hAt.vars hR (by decide) (by decide) (fun c hc => by show (0 : Nat) ≤ 6; omega) (fun w hw c h => by cases h) (fun _ => .slice a1 n1 c1)
  have hAR : AR [] σ n (stsL T04) a := hA.ar (.var (by rw [h3]) rfl) (.ptr (a := ⟨2, 0, none⟩) h2)
  have hkeys : ∀ i o, (ofP (L.full a0)).get i = some o → L.H a0 i = some o := by
    intro i o q
    have hk : keysOk 1000 (L.full a0) = true := by
      refine keysOk_of fun p hp => ?_
      have hne : ∃ u, lookP (L.full a0) p.1 = some u := lookP_some hp
      obtain ⟨u, hu⟩ := hne
      rw [full_a0 hR] at hu
      exact (H_ok hR (a := a0) (by decide) (by decide) (fun c hc => by show (0 : Nat) ≤ 6; omega) (fun w hw c h => by cases h) hu).1
    rw [ofP_get (by omega) hk, full_a0 hR] at q
    exact q
  refine region_call hT callB_ok ho hsz hop hcal hg hd (hrun ⟨ofP (L.full a0), 1000⟩) hev (h1.part hkeys) hAR ?_
  intro σ1 y1 b1 hp1 hb1 args' hv
  have hW1 := h1.step hkeys hp1
  have hbs1 : σ1 2 = some bs := (hp1.le 2 bs h2).1
  have hown1 : ∀ b, Own σ ⟨ofP (L.full a0), 1000⟩ b → owns σ (L.H a0) b := by
    rintro b ⟨i, o, q1, q2⟩
    exact ⟨i, o, hkeys i o q1, q2⟩
  have hkeys' : ∀ i o, L.H a0 i = some o → (ofP (L.full a0)).get i = some o := by
    intro i o q
    have hk : keysOk 1000 (L.full a0) = true := by
      refine keysOk_of fun p hp => ?_
      obtain ⟨u, hu⟩ := lookP_some hp
      rw [full_a0 hR] at hu
      exact (H_ok hR (a := a0) (by decide) (by decide) (fun c hc => by show (0 : Nat) ≤ 6; omega) (fun w hw c h => by cases h) hu).1
    rw [ofP_get (by omega) hk, full_a0 hR]
    exact q
  have hAt1 : At L w0 bs a0 y1 := by
    refine ⟨σ1, (WR.wf hp1.wr).sub hkeys', hbs1, h4.trans (hp1.fr.mono fun b _ h => hown1 b h) fun i hi hs => absurd (h5 i hs) (by omega), fun b hb => ?_⟩
    obtain ⟨i, o, q1, q2⟩ := hb
    rcases hp1.own b ⟨i, o, hkeys' i o q1, q2⟩ with h | h
    · exact h5 b (hown1 b h)
    · have := h4.size; omega
  have hω1 : σ1.ω 0 = .slice a1 n1 c1 := by rw [hp1.le.ω, h3]
  cases hv with
  | cons g1 k1 =>
  cases k1 with
  | cons g2 k2 =>
  cases k2 with
  | cons g3 k3 =>
  cases k3
  cases g3
  cases g2 with
  | var e2 _ =>
  cases g1 with
  | ptr e1 =>
  rw [show (⟨2, 0, none⟩ : Addr).block = 2 from rfl, hbs1] at e1
  cases e1
  rw [← e2, hω1]
  obtain ⟨pb, hpb⟩ := picked_body
  have hb0 : Two n b1 (.slice a1 n1 c1) (.pointer (some ⟨bs, 0, none⟩)) := by
    refine hb1.two ?_ ?_ hω1 hbs1
    · simp only [stsL, T04, Sts.get, nbeq]
      rw [decide_eq_false (show ¬ t2 = 0 by omega), decide_eq_false (show ¬ t1 = 0 by omega)]; rfl
    · simp only [stsL, T04, Sts.get, nbeq]
      rw [decide_eq_false (show ¬ t2 = 4 by omega), decide_eq_false (show ¬ t1 = 4 by omega)]; rfl
  have hc := picked_at hR good_a0 hAt1 a1 n1 c1 w1
  show UponR E0.P _ ((callFunc 10 #[.pointer (some ⟨bs, 0, none⟩), .slice a1 n1 c1, .int .i64 20]).run E0.P y1)
  rw [enter_of (P := E0.P) Tryz.func10 hpb (by kernel_rfl)]
  refine hc.mono ?_
  rintro e w2 ⟨⟨v, rfl⟩, win, hwin, hAt2⟩
  refine ⟨v, rfl, hq _ _ win hwin hAt2 ?_⟩
  rw [hdst]
  exact ⟨by rw [actPut_ne (by omega)]; exact hb0.at0, by rw [actPut_ne (by omega)]; exact hb0.at4, by rw [actPut_size]; exact hb0.size, hb0.small, hb0.nod⟩
end Go.Proofs.YtejebgdikoehmaaGreatDoor
/- A step that is known by a run on some ids; one cell may be hidden. -/
namespace Go.Proofs.YtejebgdikoehmaaGreatDoor
open Go Go.RowKit
set_option linter.unusedVariables false
set_option linter.unusedSimpArgs false
def sel (K : Nat → Bool) (P : Part) : Part := P.filter fun p => K p.1
theorem sel_look {K : Nat → Bool} {P : Part} {i : Nat} : lookP (sel K P) i = if K i = true then lookP P i else none := by
  induction P with
  | nil => simp [sel, lookP]
  | cons p r ih =>
    obtain ⟨j, o⟩ := p
    unfold sel at ih ⊢
    by_cases hk : K j = true
    · rw [List.filter_cons_of_pos (by simpa using hk)]
      simp only [lookP, nbeq]
      by_cases e : j = i
      · subst e; rw [decide_eq_true rfl, if_pos hk]; rfl
      · rw [decide_eq_false e]; exact ih
    · rw [List.filter_cons_of_neg (by simpa using hk)]
      simp only [lookP, nbeq]
      by_cases e : j = i
      · subst e; rw [if_neg hk] at ih ⊢; exact ih
      · rw [decide_eq_false e]; exact ih
def okN : Nat → Bool := fun i => Nat.blt i 1000
theorem okN_iff {i : Nat} : okN i = true ↔ i < 1000 := by simp [okN, nblt]
set_option maxRecDepth 100000 in
/-- A step known by a run on the ids that K names. -/
theorem step_sel {f : FuncId} {args : List Value} {F F' : Part} {l : List (Nat × Nat)} {vok : Value → Bool} {K : Nat → Bool} (hs : stepOk callB f args F F' l 1000 vok = true)
    {σ : Rn} {H H' : Nat → Option SObj} {w : World} {args' : List Value} (hW : WF σ H 1000 w) (hF : ∀ i, lookP F i = if K i = true then H i else none) (hF' : ∀ i, lookP F' i = if K i = true then H' i else none) (hsame : ∀ i, K i = false → H' i = H i)
    (hok : ∀ i o, H i = some o → okO okN o = true) (hok' : ∀ i o, H' i = some o → okO okN o = true) (hrest : ∀ i o, K i = false → H i = some o → okO (kept 1000 l) o = true)
    (hv : ∀ ω, VRs (ren σ id 1000 ω) args args') :
    UponR E0.P (fun v' w' => (∃ σ1 v, vok v = true ∧ VR σ1 v v') ∧ Fr (owns σ H) w w' ∧ ∃ σ', WF σ' H' 1000 w' ∧ (∀ b, owns σ' H' b → owns σ H b ∨ w.heap.size ≤ b) ∧ ∀ i b, i ∉ srcs l → σ i = some b → σ' i = some b) ((callFunc f args'.toArray).run E0.P w) := by
  have pid : ∀ i, okN i = true → id i = i ∧ i < 1000 ∧ i < 1000000 := fun i hi => by rw [okN_iff] at hi; exact ⟨rfl, hi, by omega⟩
  refine stepOk_sound callB_ok (by omega) hs (ω := undefω) (ζ := fun _ => none) hW (fun j x h => by cases h) ?_ ?_ ?_ (hv _)
  · intro i o q
    rw [hF] at q
    split at q
    · exact ⟨o, q, fun b ob _ _ h => okO_MO (θ := fun _ => none) (ζ := fun _ => none) pid (hok i o q) _ _ _ _ (VarOk.non _ _) h⟩
    · cases q
  · intro i o q q'
    rw [hF] at q'
    split at q'
    · rw [q] at q'; cases q'
    · rename_i hk
      have hk : K i = false := by cases e : K i with | false => rfl | true => exact (hk e).elim
      refine ⟨by rw [hF', hk]; rfl, hrest i o hk q⟩
  · intro i u q
    cases e : K i with
    | true => left; exact ⟨u, by rw [hF', e, if_pos rfl]; exact q, okO_MO pid (hok' i u q)⟩
    | false =>
      right
      refine ⟨by rw [hF', e]; rfl, by rw [hF, e]; rfl, ?_⟩
      rw [← hsame i e]; exact q
/-- The first cell of one object is hidden. -/
def hideAt (c : Nat) (P : Part) : Part := P.map fun p => bif Nat.beq p.1 c then (p.1, match p.2 with | .cells (_ :: r) e lo hi op => .cells (.chan (some 1) :: r) e lo hi op | o => o) else p
theorem hideAt_look {c : Nat} {P : Part} {i : Nat} : lookP (hideAt c P) i = if i = c then (match lookP P i with | some (.cells (_ :: r) e lo hi op) => some (.cells (.chan (some 1) :: r) e lo hi op) | o => o) else lookP P i := by
  induction P with
  | nil => simp [hideAt, lookP]
  | cons p r ih =>
    obtain ⟨j, o⟩ := p
    unfold hideAt at ih ⊢
    rw [List.map_cons]
    by_cases hj : j = c
    · rw [nbeq, decide_eq_true hj, cond_true]
      simp only [lookP, nbeq] at ih ⊢
      by_cases e : j = i
      · rw [decide_eq_true e, cond_true, cond_true, if_pos (by omega)]
        split <;> simp_all
      · rw [decide_eq_false e, cond_false, cond_false]; exact ih
    · rw [nbeq, decide_eq_false hj, cond_false]
      simp only [lookP, nbeq] at ih ⊢
      by_cases e : j = i
      · rw [decide_eq_true e, cond_true, cond_true, if_neg (by omega)]
      · rw [decide_eq_false e, cond_false, cond_false]; exact ih
set_option maxRecDepth 100000 in
/-- The same, where the run does not see one cell (the first of id c), which stays as it is. -/
theorem step_hide {f : FuncId} {args : List Value} {F F' : Part} {l : List (Nat × Nat)} {vok : Value → Bool} {K : Nat → Bool} {c : Nat} (hs : stepOk callB f args (hideAt c F) (hideAt c F') l 1000 vok = true)
    {σ : Rn} {H H' : Nat → Option SObj} {w : World} {args' : List Value} (hW : WF σ H 1000 w) (hF : ∀ i, lookP F i = if K i = true then H i else none) (hF' : ∀ i, lookP F' i = if K i = true then H' i else none) (hsame : ∀ i, K i = false → H' i = H i)
    (hok : ∀ i o, H i = some o → okO okN o = true) (hok' : ∀ i o, H' i = some o → okO okN o = true) (hrest : ∀ i o, K i = false → H i = some o → okO (kept 1000 l) o = true)
    {x : Value} {r r' : List Value} {e lo hi op e' lo' hi' op' : Nat} (hc : H c = some (.cells (x :: r) e lo hi op)) (hc' : H' c = some (.cells (x :: r') e' lo' hi' op')) (hx : okV (kept 1000 l) 9 x = true) (hx1 : oneV x = true) (hxe : eqD x x = true)
    (hv : ∀ ω, VRs (ren σ id 1000 ω) args args') :
    UponR E0.P (fun v' w' => (∃ σ1 v, vok v = true ∧ VR σ1 v v') ∧ Fr (owns σ H) w w' ∧ ∃ σ', WF σ' H' 1000 w' ∧ (∀ b, owns σ' H' b → owns σ H b ∨ w.heap.size ≤ b) ∧ ∀ i b, i ∉ srcs l → σ i = some b → σ' i = some b) ((callFunc f args'.toArray).run E0.P w) := by
  have pid : ∀ i, okN i = true → id i = i ∧ i < 1000 ∧ i < 1000000 := fun i hi => by rw [okN_iff] at hi; exact ⟨rfl, hi, by omega⟩
  obtain ⟨bc, obc, s0, w0, o0⟩ := hW.obj c _ hc
  obtain ⟨c0, f0, rfl, r1, r2, r3⟩ := o0.cells_inv
  have hall : (x :: r).all (fun v => okV okN 9 v) = true := hok c _ hc
  have hall' : (x :: r').all (fun v => okV okN 9 v) = true := hok' c _ hc'
  rw [List.all_cons, Bool.and_eq_true] at hall hall'
  have hlen : ∀ y : Value, (y :: r).length = (x :: r).length := fun y => rfl
  generalize hl' : c0.toList.take (x :: r).length = L at r1
  cases r1 with
  | cons g1 g2 =>
  rename_i x' rr'
  refine stepOk_sound callB_ok (by omega) hs (ω := fun _ => x') (ζ := fun j => if j = 0 then some x else none) hW ?_ ?_ ?_ ?_ (hv _)
  · intro j y h
    by_cases hj : j = 0
    · rw [if_pos hj] at h; cases h; exact ⟨g1, hx⟩
    · rw [if_neg hj] at h; cases h
  · intro i o q
    rw [hideAt_look] at q
    by_cases ic : i = c
    · subst ic
      rw [if_pos rfl, hF] at q
      split at q
      · rename_i v2 r2' e2 lo2 hi2 op2 q2
        split at q2
        · rw [hc] at q2
          cases q2
          cases q
          refine ⟨_, hc, fun b ob hb hob hO => ?_⟩
          rw [s0] at hb; cases hb
          rw [w0] at hob; cases hob
          refine .cells ?_ r2 r3
          show VRs _ _ (c0.toList.take (x :: r).length)
          rw [hl']
          refine .cons (.var rfl (g1.one hx1)) ?_
          exact mvs_sound (f := mv (fun _ => none) (fun _ => none) id 1000 9) (fun u v v' => mv_sound (VarOk.non _ _) 9 u v v') (mvs_refl (okV_mv pid 9) hall.2) g2
        · cases q2
      · split at q
        · rename_i hne _
          exact (hne _ _ _ _ _ _ (by rw [if_pos (by assumption)]; exact hc)).elim
        · cases q
    · rw [if_neg ic, hF] at q
      split at q
      · exact ⟨o, q, fun b ob _ _ h => okO_MO (θ := fun _ => none) (ζ := fun _ => none) pid (hok i o q) _ _ _ _ (VarOk.non _ _) h⟩
      · cases q
  · intro i o q q'
    have hk : K i = false := by
      cases ek : K i with
      | false => rfl
      | true =>
        exfalso
        rw [hideAt_look, hF, ek, if_pos rfl, q] at q'
        split at q'
        · split at q' <;> cases q'
        · cases q'
    refine ⟨?_, hrest i o hk q⟩
    rw [hideAt_look, hF', hk]
    split <;> rfl
  · intro i u q
    cases ek : K i with
    | true =>
      left
      rw [hideAt_look, hF', ek, if_pos rfl]
      by_cases ic : i = c
      · subst ic
        rw [hc'] at q
        cases q
        rw [if_pos rfl, hc']
        refine ⟨_, rfl, ?_⟩
        apply mo_sound
        simp only [mo, Bool.and_eq_true, nbeq, decide_eq_true_eq]
        refine ⟨⟨⟨⟨?_, trivial⟩, trivial⟩, trivial⟩, trivial⟩
        have := hideC_out (θ := fun j => if j = 0 then some x else none) (ζ := fun _ => none) (ρ := id) (n := 1000) (p := okN) [some 0] (x :: r') (by rw [List.all_cons, Bool.and_eq_true]; exact hall') (fun m j v h1 h2 => by
          match m with
          | 0 => simp at h1 h2; subst h1; subst h2; exact ⟨by simp, hxe⟩
          | m + 1 => simp at h1) pid
        cases r' with
        | nil => exact this
        | cons a b => exact this
      · rw [if_neg ic]
        exact ⟨u, q, okO_MO pid (hok' i u q)⟩
    | false =>
      right
      refine ⟨by rw [hideAt_look, hF', ek]; split <;> rfl, by rw [hideAt_look, hF, ek]; split <;> rfl, ?_⟩
      rw [← hsame i ek]; exact q
end Go.Proofs.YtejebgdikoehmaaGreatDoor
