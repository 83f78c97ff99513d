/- The symbolic executor: the functions without a body. -/
import Derived.Test.YtejebgdikoehmaaGreatDoorToN
import Derived.Laws.Externs
import Derived.Lib.MakeNoZero
import Derived.Recover
namespace Go.Proofs.YtejebgdikoehmaaGreatDoor
open Go Go.RowKit
set_option linter.unusedVariables false
set_option linter.unusedSimpArgs false
/-- Where a byte stands first. -/
noncomputable def idxOfB (c : Nat) (l : List UInt8) : Nat → Int := List.rec (motive := fun _ => Nat → Int) (fun _ => -1) (fun b _ ih i => bq (Nat.beq b.toNat c) (Int.ofNat i) (ih (Nat.succ i))) l
noncomputable def cmpB (a : List UInt8) : List UInt8 → Int := List.rec (motive := fun _ => List UInt8 → Int) (fun b => List.rec (motive := fun _ => Int) 0 (fun _ _ _ => -1) b)
  (fun x _ ih b => List.rec (motive := fun _ => Int) 1 (fun y s _ => bq (Nat.beq x.toNat y.toNat) (ih s) (bq (Nat.blt x.toNat y.toNat) (-1) 1)) b) a
noncomputable def wilds (n : Nat) : List Value := Nat.rec (motive := fun _ => List Value) [] (fun _ ih => .chan (some 0) :: ih) n
noncomputable def hIdx (args : List Value) (S : St) : Option (Value × St) := match args with
  | [.string s, .int .u8 c] => bif decide (0 ≤ c) && decide (c < 256) then some (.int .i64 (idxOfB c.toNat s.data.toList 0), S) else none
  | _ => none
noncomputable def hCmp (args : List Value) (S : St) : Option (Value × St) := match args with
  | [.string s, .string t] => some (.int .i64 (cmpB s.data.toList t.data.toList), S)
  | _ => none
noncomputable def hSame (args : List Value) (S : St) : Option (Value × St) := match args with
  | [v] => some (v, S)
  | _ => none
noncomputable def hMake (args : List Value) (S : St) : Option (Value × St) := match args with
  | [.int .i64 (.ofNat n)] => bif Nat.ble n 1000000 then (match sNew S (.cells (wilds n) 5 0 0 1) with | some (i, S') => some (.slice (some ⟨i, 0, none⟩) n (UNK + n), S') | none => none) else none
  | _ => none
theorem ba_get! (s : List UInt8) (n : Nat) : (⟨⟨s⟩⟩ : ByteArray)[n]! = s[n]! := by
  rw [getElem!_def, getElem!_def, ba_get]
theorem idx_eq {c : Nat} {b : UInt8} (hb : b.toNat = c) : ∀ (l pre : List UInt8), idxOfB c l pre.length = (match (List.range' pre.length l.length).find? (fun i => (pre ++ l)[i]! == b) with | some i => Int.ofNat i | none => -1)
  | [], pre => by simp [idxOfB]
  | x :: l, pre => by
    have ih := idx_eq hb l (pre ++ [x])
    have e : idxOfB c (x :: l) pre.length = bq (Nat.beq x.toNat c) (Int.ofNat pre.length) (idxOfB c l (pre.length + 1)) := rfl
    rw [e, List.length_cons, List.range'_succ, List.find?_cons, bq_eq, nbeq]
    have hx : (pre ++ x :: l)[pre.length]! = x := by rw [getElem!_def]; simp
    rw [hx]
    by_cases h : x.toNat = c
    · rw [decide_eq_true h]
      have : x = b := UInt8.toNat_inj.1 (h.trans hb.symm)
      subst this
      simp
    · rw [decide_eq_false h, cond_false]
      have : (x == b) = false := by
        simp only [beq_eq_false_iff_ne]
        intro e
        exact h (e ▸ hb)
      rw [this]
      simp only [List.length_append, List.length_cons, List.length_nil, Nat.zero_add, List.append_assoc, List.cons_append, List.nil_append] at ih
      exact ih
theorem firstIdx_eq {c : Nat} {b : UInt8} (hb : b.toNat = c) (s : List UInt8) : firstIdx ⟨⟨s⟩⟩ b = idxOfB c s 0 := by
  have := idx_eq hb s []
  simp only [List.length_nil, List.nil_append] at this
  rw [this]
  unfold firstIdx
  have e : (⟨⟨s⟩⟩ : ByteArray).size = s.length := rfl
  rw [e, List.range_eq_range']
  simp only [ba_get!]
  rfl
theorem cmp_eq : ∀ (a b pa pb : List UInt8), pa = pb → cmpB a b = (match (List.range' pa.length (min a.length b.length)).find? (fun i => (pa ++ a)[i]! != (pb ++ b)[i]!) with
    | some i => if (pa ++ a)[i]! < (pb ++ b)[i]! then -1 else 1
    | none => if (pa ++ a).length < (pb ++ b).length then -1 else if (pa ++ a).length > (pb ++ b).length then 1 else 0)
  | [], [], pa, pb, h => by subst h; simp [cmpB]
  | [], y :: b, pa, pb, h => by subst h; simp [cmpB]
  | x :: a, [], pa, pb, h => by
    subst h
    simp [cmpB]
  | x :: a, y :: b, pa, pb, h => by
    subst h
    have e : cmpB (x :: a) (y :: b) = bq (Nat.beq x.toNat y.toNat) (cmpB a b) (bq (Nat.blt x.toNat y.toNat) (-1) 1) := rfl
    rw [e, List.length_cons, List.length_cons, Nat.succ_min_succ, List.range'_succ, List.find?_cons, bq_eq, bq_eq, nbeq, nblt]
    have hx : (pa ++ x :: a)[pa.length]! = x := by rw [getElem!_def]; simp
    have hy : (pa ++ y :: b)[pa.length]! = y := by rw [getElem!_def]; simp
    rw [hx, hy]
    by_cases q : x = y
    · subst q
      have ih := cmp_eq a b (pa ++ [x]) (pa ++ [x]) rfl
      simp only [List.length_append, List.length_cons, List.length_nil, Nat.zero_add, List.append_assoc, List.cons_append, List.nil_append] at ih
      simp only [decide_true, cond_true, bne_self_eq_false, List.length_append, List.length_cons]
      exact ih
    · have hne : (x != y) = true := by simpa using q
      rw [decide_eq_false (fun e => q (UInt8.toNat_inj.1 e)), cond_false, hne]
      simp only [hx, hy]
      by_cases l : x < y
      · rw [if_pos l, decide_eq_true (UInt8.lt_iff_toNat_lt.1 l)]; rfl
      · rw [if_neg l, decide_eq_false (fun e => l (UInt8.lt_iff_toNat_lt.2 e))]; rfl
theorem cmpS (a b : List UInt8) : Extern.BytealgCompare.cmp ⟨⟨a⟩⟩ ⟨⟨b⟩⟩ = cmpB a b := by
  rw [cmp_eq a b [] [] rfl]
  unfold Extern.BytealgCompare.cmp
  have e : ∀ s : List UInt8, (⟨⟨s⟩⟩ : ByteArray).size = s.length := fun _ => rfl
  simp only [e, List.range_eq_range', ba_get!, List.nil_append, List.length_nil]
  rfl
theorem digits_one : ∀ (n t : Nat) (acc : Array Value), (∀ v ∈ acc.toList, v.oneCell' = true) → ∀ v ∈ (Extern.BytealgMakeNoZero.digits n t acc).toList, v.oneCell' = true
  | 0, t, acc, h => h
  | n + 1, t, acc, h => by
    rw [Extern.BytealgMakeNoZero.digits]
    refine digits_one n _ _ fun v hv => ?_
    simp only [Array.toList_push, List.mem_append, List.mem_singleton] at hv
    rcases hv with hv | hv
    · exact h v hv
    · subst hv; rfl
theorem run_mk {P : Program} (w : World) (ps : Array TypeId) (t e : TypeId) (ht : P.underlying t = some (.slice e)) (n : Nat) (hn : n ≤ 1000000) :
    ∃ cap x, (Extern.BytealgMakeNoZero.makeNoZero ps #[t] #[.int .i64 n]).run P w = .ok (.slice (some ⟨w.heap.size, 0, none⟩) n cap) (w.drew.drew.alloc (.cells (Extern.BytealgMakeNoZero.digits cap x #[]) e)) ∧ n ≤ cap := by
  obtain ⟨r, hr⟩ : ∃ r, (Extern.BytealgMakeNoZero.makeNoZero ps #[t] #[.int .i64 n]).run P w = r := ⟨_, rfl⟩
  have hr' := hr
  rw [show Extern.BytealgMakeNoZero.makeNoZero ps #[t] #[.int .i64 n] = (_ >>= _) from rfl] at hr'
  have h1 : ¬ (n : Int) < 0 := by omega
  have h2 : ¬ (281474976710656 : Int) < (n : Int) := by omega
  simp [Go.run_underlying ht, h1, h2, Question.forced, newRow] at hr'
  exact ⟨_, _, hr.trans hr'.symm, (by simpa using grownCap_ge w n 0 e : n ≤ grownCap w n 0 e)⟩
theorem wilds_rel {σ : Rn} : ∀ (n : Nat) (l : List Value), l.length = n → (∀ v ∈ l, v.oneCell' = true) → VRs σ (wilds n) l
  | 0, l, h, _ => by
    have := List.eq_nil_of_length_eq_zero h
    subst this
    exact .nil
  | n + 1, [], h, _ => by cases h
  | n + 1, v :: l, h, hv => .cons (.wild (hv v List.mem_cons_self)) (wilds_rel n l (by simpa using h) fun u hu => hv u (List.mem_cons_of_mem _ hu))
theorem wilds_len : ∀ n, (wilds n).length = n
  | 0 => rfl
  | n + 1 => by
    show (wilds n).length + 1 = _
    rw [wilds_len n]
section
variable {σ : Rn} {S S' : St} {w : World} {v : Value} {args args' : List Value}
theorem sp_idx (h : hIdx args S = some (v, S')) (hw : WR σ S w) (hv : VRs σ args args') : UponR E0.P (Eff σ S w v S') ((callFunc 195 args'.toArray).run E0.P w) := by
  unfold hIdx at h
  split at h
  · rename_i s c
    cases hc : (decide (0 ≤ c) && decide (c < 256)) with
    | false => rw [hc] at h; cases h
    | true =>
      rw [hc, cond_true] at h
      cases h
      simp only [Bool.and_eq_true, decide_eq_true_eq] at hc
      cases hv with
      | cons h1 k => cases k with
        | cons h2 k =>
          cases k
          rw [h1.string', h2.int']
          rw [run_callFunc_extern (P := E0.P) Tryz.func195 (by kernel_rfl) (by kernel_rfl) (by kernel_rfl) (e := Extern.BytealgIndexByte.indexByte) (by kernel_rfl)]
          rw [show (#[Value.string s, Value.int .u8 c] : Array Value) = #[.string s, .int .u8 c] from rfl, run_indexByte_string]
          simp only [Result.andThen]
          have hb : (c.toNat.toUInt8).toNat = c.toNat := by simp; omega
          rw [firstIdx_eq hb s.data.toList]
          exact ⟨σ, .int _ _, Post.refl hw⟩
  · cases h
theorem sp_cmp (h : hCmp args S = some (v, S')) (hw : WR σ S w) (hv : VRs σ args args') : UponR E0.P (Eff σ S w v S') ((callFunc 248 args'.toArray).run E0.P w) := by
  unfold hCmp at h
  split at h
  · rename_i s t
    cases h
    cases hv with
    | cons h1 k => cases k with
      | cons h2 k =>
        cases k
        rw [h1.string', h2.string']
        rw [run_callFunc_extern (P := E0.P) Tryz.func248 (by kernel_rfl) (by kernel_rfl) (by kernel_rfl) (e := Extern.BytealgCompare.compare) (by kernel_rfl)]
        have : (Extern.BytealgCompare.compare #[.string s, .string t]).run E0.P w = .ok (goInt (Extern.BytealgCompare.cmp s t)) w := rfl
        rw [show ([Value.string s, Value.string t].toArray : Array Value) = #[.string s, .string t] from rfl, this]
        simp only [Result.andThen]
        have e := cmpS s.data.toList t.data.toList
        refine ⟨σ, ?_, Post.refl hw⟩
        rw [show Extern.BytealgCompare.cmp s t = cmpB s.data.toList t.data.toList from e]
        exact .int _ _
  · cases h
theorem sp_same (h : hSame args S = some (v, S')) (hw : WR σ S w) (hv : VRs σ args args') : UponR E0.P (Eff σ S w v S') ((callFunc 206 args'.toArray).run E0.P w) := by
  unfold hSame at h
  split at h
  · rename_i u
    cases h
    cases hv with
    | cons h1 k =>
      cases k
      rename_i u'
      rw [run_callFunc_extern (P := E0.P) Tryz.func206 (by kernel_rfl) (by kernel_rfl) (by kernel_rfl) (e := Extern.AbiNoEscape.same) (by kernel_rfl)]
      have : (Extern.AbiNoEscape.same #[u']).run E0.P w = .ok u' w := rfl
      rw [show ([u'].toArray : Array Value) = #[u'] from rfl, this]
      simp only [Result.andThen]
      exact ⟨σ, h1, Post.refl hw⟩
  · cases h
set_option maxRecDepth 100000 in
theorem sp_make (h : hMake args S = some (v, S')) (hw : WR σ S w) (hv : VRs σ args args') : UponR E0.P (Eff σ S w v S') ((callFunc 278 args'.toArray).run E0.P w) := by
  unfold hMake at h
  split at h
  · rename_i n
    cases hn : Nat.ble n 1000000 with
    | false => rw [hn] at h; cases h
    | true =>
      rw [hn, cond_true] at h
      rw [nble, decide_eq_true_eq] at hn
      split at h
      · rename_i i S1 hs
        cases h
        cases hv with
        | cons h1 k =>
          cases k
          rw [h1.int']
          rw [run_callFunc_extern (P := E0.P) Tryz.func278 (by kernel_rfl) (by kernel_rfl) (by kernel_rfl) (e := Extern.BytealgMakeNoZero.makeNoZero #[3] #[138]) (by kernel_rfl)]
          obtain ⟨cap, x, g1, g2⟩ := run_mk (P := E0.P) w #[3] 138 5 (by kernel_rfl) n hn
          rw [show ([Value.int .i64 (Int.ofNat n)].toArray : Array Value) = #[.int .i64 n] from rfl, g1]
          simp only [Result.andThen]
          have hsz : (Extern.BytealgMakeNoZero.digits cap x #[]).size = cap := by rw [Lib.size_digits]; simp
          have hL : Laid E0 σ w (idSlice n (UNK + n)) (.cells (wilds n) 5 0 0 1) (.slice (some ⟨w.heap.size, 0, none⟩) n cap) (w.drew.drew.alloc (.cells (Extern.BytealgMakeNoZero.digits cap x #[]) 5)) := by
            refine ⟨⟨.cells (Extern.BytealgMakeNoZero.digits cap x #[]) 5, cap, heap_alloc_new w.drew.drew _, fun σ' id h1 h2 h3 => ⟨?_, VR.idSlice' h2 g2 ?_⟩⟩, by simp, fun k hk => heap_alloc_old (w := w.drew.drew) _ hk, rfl, rfl, rfl⟩
            · refine .cells ?_ ⟨fun q => (by cases q), fun _ => (by rw [hsz]; omega)⟩ ?_
              · rw [wilds_len]
                refine wilds_rel n _ ?_ fun v hv => ?_
                · rw [List.length_take, Array.length_toList, hsz]; omega
                · exact digits_one cap x #[] (by simp) v (List.mem_of_mem_take hv)
              · unfold FR; simp
            · rw [h3]
              unfold capR
              rw [if_neg (by omega)]
              omega
          exact sNew_sound (f := idSlice n (UNK + n)) hT hw hL hs
      · cases h
  · cases h
end
end Go.Proofs.YtejebgdikoehmaaGreatDoor
/- The symbolic executor: text.line.read, which defers. -/
namespace Go.Proofs.YtejebgdikoehmaaGreatDoor
open Go Go.RowKit
set_option linter.unusedVariables false
set_option linter.unusedSimpArgs false
def headOf : Code → Code
  | .seq a _ => a
  | c => c
def tailOf : Code → Code
  | .seq _ c => c
  | c => c
def opsOf : Code → Array Oper
  | .region _ ops _ => ops
  | _ => #[]
noncomputable def cRead : Code := (Tryz.f153.body).getD .skip
noncomputable def cRec : Code := (Tryz.f200.body).getD .skip
theorem cRead_eq : Tryz.f153.body = some (.seq (headOf cRead) (.seq (.region 1 (opsOf (headOf (tailOf cRead))) false) (tailOf (tailOf cRead)))) := by kernel_rfl
theorem cRec_eq : Tryz.f200.body = some (.seq (.region 0 (opsOf (headOf cRec)) false) (tailOf cRec)) := by kernel_rfl
noncomputable def hRead (callF : CallF) (args : List Value) (S : St) : Option (Value × St) :=
  bq (Nat.ble (lenX args) Tryz.f153.ntmps)
  (ob (xCode E0 callF (headOf cRead) (initX args 0 .nil) S) fun p => exX
    (ob (sg 2 p.2.1) fun p2 => ob (sg 3 p.2.1) fun p3 => ob (xCode E0 callF (tailOf (tailOf cRead)) (.cons 4 (.func (.func 200) #[] #[p2, p3]) p.2.1) p.2.2) fun q => exX none
      (ob (xCode E0 callF (tailOf cRec) (.cons 5 .nilIface (initX [p2, p3] 0 .nil)) q.2.2) fun r => exX
        (ob (resX E0 q.2.1 r.2.2 Tryz.f153.results.toList) fun vs => some (tupX vs, r.2.2)) none (fun _ => none) r.1)
      (fun _ => none) q.1)
    none (fun _ => none) p.1) none
section
variable {callF : CallF} {σ : Rn} {S S' : St} {w : World} {v : Value} {args args' : List Value}
theorem AR.slot {D : List Deferred} {n : Nat} {T : Sts} {a : Act} (h : AR D σ n T a) {t : Nat} {v v' : Value} (ht : t < n) (hv : VR σ v v') : AR D σ n (.cons t v T) (a.put (some t) v') :=
  h.putT (o := { dst := some t, op := .move (.tmp 0), type := 0, pos := "", after := #[], guard := none }) (by simp only [dstOk, nblt, decide_eq_true_eq]; exact ht) hv
theorem AR.forget {D D' : List Deferred} {n : Nat} {T : Sts} {a : Act} (h : AR D σ n T a) : AR D' σ n T { a with defers := D' } := ⟨h.get, h.size, h.small, rfl⟩
set_option maxRecDepth 100000 in
theorem sp_read (hC : CallOk E0.P callF) (h : hRead callF args S = some (v, S')) (hw : WR σ S w) (hv : VRs σ args args') : UponR E0.P (Eff σ S w v S') ((callFunc 153 args'.toArray).run E0.P w) := by
  obtain ⟨h1, h2⟩ := bq_some h
  obtain ⟨⟨e1, T1, S1⟩, h3, h4⟩ := ob_some h2
  have hle := Nat.le_of_ble_eq_true h1
  rw [lenX_eq] at hle
  rw [initX_eq] at h3
  have c1 := xCode_some hT _ h3
  cases e1 with
  | ret => cases h4
  | exit i => cases h4
  | normal =>
  dsimp only [exX] at h4
  obtain ⟨p2, h5, h6⟩ := ob_some h4
  obtain ⟨p3, h7, h8⟩ := ob_some h6
  obtain ⟨⟨e2, T2, S2⟩, h9, h10⟩ := ob_some h8
  have c2 := xCode_some hT _ h9
  cases e2 with
  | normal => cases h10
  | exit i => cases h10
  | ret =>
  dsimp only [exX] at h10
  obtain ⟨⟨e3, T3, S3⟩, h11, h12⟩ := ob_some h10
  have c3 := xCode_some hT _ h11
  cases e3 with
  | ret => cases h12
  | exit i => cases h12
  | normal =>
  dsimp only [exX] at h12
  obtain ⟨vs, h13, h14⟩ := ob_some h12
  cases h14
  rw [sg_eq] at h5 h7
  have hn : Tryz.f153.ntmps ≤ 1000000 := by decide
  have k1 : codeOk E0 Tryz.f153.ntmps (headOf cRead) = true := by kernel_rfl
  have k2 : codeOk E0 Tryz.f153.ntmps (tailOf (tailOf cRead)) = true := by kernel_rfl
  have k3 : codeOk E0 Tryz.f200.ntmps (tailOf cRec) = true := by kernel_rfl
  rw [enter_of (P := E0.P) Tryz.func153 cRead_eq (by kernel_rfl)]
  refine calls_of_wp_defers (P := E0.P) Tryz.func153 cRead_eq ?_
  refine wp_seq (sCode_sound (D := []) hT hC hmix _ k1 hw (AR.init hv hle hn) c1 fun a1 w1 hg1 => ?_)
  obtain ⟨σ1, q1, r1⟩ := hg1
  refine wp_seq (wp_region ?_)
  obtain ⟨p2', g2, v2⟩ := r1.get 2 p2 h5
  obtain ⟨p3', g3, v3⟩ := r1.get 3 p3 h7
  have hsz := r1.size
  have hs4 : 4 < a1.tmps.size := by rw [hsz]; decide
  obtain ⟨t0, s0, x0, o0⟩ : ∃ t s x, (opsOf (headOf (tailOf cRead)))[0]? = some ⟨some 4, .makeFunc (.func 200) #[] #[.tmp 2, .tmp 3], t, s, x, none⟩ := ⟨(opsOf (headOf (tailOf cRead)))[0]!.type, (opsOf (headOf (tailOf cRead)))[0]!.pos, (opsOf (headOf (tailOf cRead)))[0]!.after, by kernel_rfl⟩
  obtain ⟨t1, s1, x1, o1⟩ : ∃ t s x, (opsOf (headOf (tailOf cRead)))[1]? = some ⟨none, .defer ⟨.value (.tmp 4), #[], #[]⟩, t, s, x, none⟩ := ⟨(opsOf (headOf (tailOf cRead)))[1]!.type, (opsOf (headOf (tailOf cRead)))[1]!.pos, (opsOf (headOf (tailOf cRead)))[1]!.after, by kernel_rfl⟩
  have osz : List.range (opsOf (headOf (tailOf cRead))).size = [0, 1] := by kernel_rfl
  rw [osz]
  simp only [wpOps, o0, o1, Region.wanted, if_true]
  refine Or.inl ?_
  have ev2 : a1.eval (.tmp 2) = p2' := by simp [Act.eval, Array.getD_eq_getD_getElem?, g2]
  have ev3 : a1.eval (.tmp 3) = p3' := by simp [Act.eval, Array.getD_eq_getD_getElem?, g3]
  have run0 : (execOp a1.eval ⟨some 4, .makeFunc (.func 200) #[] #[.tmp 2, .tmp 3], t0, s0, x0, none⟩).run E0.P w1 = .ok (.value (.func (.func 200) #[] #[p2', p3'])) w1 := by
    simp [execOp, Instr.makeFunc, go_sem, g2, g3]
  unfold Oper.wp
  rw [run0, Oper.upon_value]
  refine Or.inl ?_
  have hfv : VR σ1 (.func (.func 200) #[] #[p2, p3]) (.func (.func 200) #[] #[p2', p3']) := VR.func _ (x := []) (x' := []) (y := [p2, p3]) (y' := [p2', p3']) .nil (.cons v2 (.cons v3 .nil))
  have r2 := r1.slot (t := 4) (by decide) hfv
  have g4 : (a1.put (some 4) (.func (.func 200) #[] #[p2', p3'])).tmps[4]? = some (.func (.func 200) #[] #[p2', p3']) := by
    simp [Act.put, hs4]
  obtain ⟨a2, ha2⟩ : ∃ a2, a1.put (some 4) (.func (.func 200) #[] #[p2', p3']) = a2 := ⟨_, rfl⟩
  rw [ha2] at r2 g4 ⊢
  have hd2 : a2.defers = [] := r2.nod
  have run1 : (execOp a2.eval ⟨none, .defer ⟨.value (.tmp 4), #[], #[]⟩, t1, s1, x1, none⟩).run E0.P w1 = .ok (.defer { target := .fn (.func 200) #[p2', p3'], args := #[] }) w1 := by
    simp [execOp, resolve, Deferred.ofValue, go_sem, g4]
  rw [run1, Oper.upon_defer]
  have r3 : AR [{ target := .fn (.func 200) #[p2', p3'], args := #[] }] σ1 Tryz.f153.ntmps (.cons 4 (.func (.func 200) #[] #[p2, p3]) T1) ({ a2 with defers := { target := .fn (.func 200) #[p2', p3'], args := #[] } :: a2.defers }.put none undef) := by
    rw [hd2]; exact r2.forget
  refine sCode_sound (D := [{ target := .fn (.func 200) #[p2', p3'], args := #[] }]) hT hC hmix _ k2 q1.wr r3 c2 fun a3 w2 hg2 => ?_
  obtain ⟨σ2, q2, r4⟩ := hg2
  -- what was deferred runs
  show Leaves E0.P _ a3.tmps _ a3.defers .returning w2
  rw [r4.nod]
  have hv23 : VRs σ2 [p2, p3] [p2', p3'] := (VRs.cons v2 (.cons v3 .nil)).mono q2.le
  refine leaves_cons (f := 200) (args := [p2', p3'].toArray) (by simp) ?_ ?_
  · have : (invoke (.fn (.func 200) #[p2', p3']) #[]).run E0.P w2 = (callFunc 200 [p2', p3'].toArray).run E0.P w2 := by simp [invoke]
    rw [this]
    exact enter_of (P := E0.P) Tryz.func200 cRec_eq (by kernel_rfl)
  refine callsD_of_wpS (P := E0.P) Tryz.func200 cRec_eq fun c0 cs hu => ?_
  refine wpS_seq (wpS_region ?_)
  obtain ⟨t5, s5, x5, o5⟩ : ∃ t s x, (opsOf (headOf cRec))[0]? = some ⟨some 5, .call ⟨.builtin .recover, #[], #[]⟩, t, s, x, none⟩ := ⟨(opsOf (headOf cRec))[0]!.type, (opsOf (headOf cRec))[0]!.pos, (opsOf (headOf cRec))[0]!.after, by kernel_rfl⟩
  have osz5 : List.range (opsOf (headOf cRec)).size = [0] := by kernel_rfl
  rw [osz5]
  have r5 : AR [] σ2 Tryz.f200.ntmps (initT [p2, p3] 0 .nil) { tmps := [p2', p3'].toArray ++ Array.replicate (Tryz.f200.ntmps - [p2', p3'].toArray.size) undef, defers := [] } := AR.init hv23 (show 2 ≤ Tryz.f200.ntmps by decide) (by decide)
  obtain ⟨a5, ha5⟩ : ∃ a5 : Act, ({ tmps := [p2', p3'].toArray ++ Array.replicate (Tryz.f200.ntmps - [p2', p3'].toArray.size) undef, defers := [] } : Act) = a5 := ⟨_, rfl⟩
  rw [ha5] at r5 ⊢
  simp only [wpOpsS, o5, Region.wanted, if_true]
  have run5 : (execOp a5.eval ⟨some 5, .call ⟨.builtin .recover, #[], #[]⟩, t5, s5, x5, none⟩).run E0.P w2 = .ok .recover w2 := by
    simp [execOp, resolve, invoke, builtin, go_sem]
  have hrec : recoverD (c0 :: cs) = none := by simp only [recoverD, hu]
  rw [run5]
  simp only [hrec]
  have r6 := r5.slot (t := 5) (v := .nilIface) (by decide) .nilIface
  rw [initX_eq] at c3
  refine wpS_of_wp (sCode_sound (D := []) hT hC hmix _ k3 q2.wr r6 c3 fun a6 w3 hg3 => ?_)
  obtain ⟨σ3, q3, r7⟩ := hg3
  refine ⟨r7.nod, .returning, by rw [← hu], undef, ?_, ?_⟩
  · have : Tryz.f200.results = #[] := by kernel_rfl
    unfold results
    rw [this]
    simp [go_sem]
    rfl
  · obtain ⟨v', m1, m2⟩ := results_sound (fn := Tryz.f153) hT q3.wr (r4.mono q3.le) (resX_some h13)
    exact ⟨v', m2, v', rfl, σ3, by rw [tupX_eq]; exact m1, (q1.trans q2).trans q3⟩
end
end Go.Proofs.YtejebgdikoehmaaGreatDoor
