/- Regions of reads before one store or call: a map's entry is read. -/
import Derived.Test.YtemdhnolccnnfaaMem
import Derived.StillTailTactics
namespace Go.Proofs.Ytemdhnolccnnfaa
open Go.RowKit
set_option linter.unusedVariables false
theorem wpStill_lookup_imap {P : Program} {w : World} {ops : Array Oper} {rest : List Oper} {o : Oper} {a : Act} {Q : Act → Prop} (hw : Region.wanted o (yielded ops a.tmps) = true)
    (m x : Operand) (t : TypeId) (hop : o.op = Op.lookup t m x false) (k e : TypeId) (q : IntKind) (ht : P.underlying t = some (.map k e)) (hk : P.underlying k = some (.int q))
    (z : Value) (hz : (zeroValue e).run P w = .ok z w) (b : Nat) (hm : a.eval m = .map (some b)) (ob : Obj) (l : List (Int × Value)) (hb : w.heap[b]? = some ob) (ho : MapBlk q l ob) (n : Int) (hx : a.eval x = .int q n)
    (hK : wpStill P ops w Q rest (a.put o.dst ((aget l n).getD z))) : wpStill P ops w Q (o :: rest) a := by
  refine wpStill_step fun K' hK' => ?_
  rw [if_pos hw]
  unfold Oper.still
  simp [execOp, hop, hm, hx, run_lookup_imap ht hk hb ho n false hz, Result.andThen, Oper.stillUpon]
  exact hK' _ hK
theorem run_max_int {P : Program} (w : World) (a : Array TypeId) (t : TypeId) (q : IntKind) (x y : Int) : (Builtin.max_ a t #[.int q x, .int q y]).run P w = .ok (.int q (max x y)) w := by
  have h : (if y > x then y else x) = max x y := by split <;> omega
  simp [Builtin.max_, List.foldlM, Builtin.max2, h]
theorem wpList_max_int {P : Program} {w : World} {ops : Array Oper} {rest : List Oper} {o : Oper} {a : Act} {Q : Exit → Act → World → Prop} (hg : o.guard = none) (x y : Operand) (ts : Array TypeId)
    (hop : o.op = Op.call { callee := Callee.builtin Builtin.max, args := #[x, y], argTypes := ts }) (q : IntKind) (m n : Int) (hx : a.eval x = .int q m) (hy : a.eval y = .int q n)
    (hK : wpList P ops Q rest (a.put o.dst (.int q (max m n))) w) : wpList P ops Q (o :: rest) a w := by
  refine wpList_plain hg fun K' hK' => ?_
  unfold Oper.wp
  simp [execOp, hop, resolve, invoke, builtin, hx, hy, run_max_int (P := P) w ts o.type, Result.andThen]
  exact hK' _ _ hK
theorem wpStill_max_int {P : Program} {w : World} {ops : Array Oper} {rest : List Oper} {o : Oper} {a : Act} {Q : Act → Prop} (hw : Region.wanted o (yielded ops a.tmps) = true) (x y : Operand) (ts : Array TypeId)
    (hop : o.op = Op.call { callee := Callee.builtin Builtin.max, args := #[x, y], argTypes := ts }) (q : IntKind) (m n : Int) (hx : a.eval x = .int q m) (hy : a.eval y = .int q n)
    (hK : wpStill P ops w Q rest (a.put o.dst (.int q (max m n)))) : wpStill P ops w Q (o :: rest) a := by
  refine wpStill_step fun K' hK' => ?_
  rw [if_pos hw]
  unfold Oper.still
  simp [execOp, hop, resolve, invoke, builtin, hx, hy, run_max_int (P := P) w ts o.type, Result.andThen, Oper.stillUpon]
  exact hK' _ hK
theorem run_min_int {P : Program} (w : World) (a : Array TypeId) (t : TypeId) (q : IntKind) (x y : Int) : (Builtin.min_ a t #[.int q x, .int q y]).run P w = .ok (.int q (min x y)) w := by
  have h : (if y < x then y else x) = min x y := by split <;> omega
  simp [Builtin.min_, List.foldlM, Builtin.min2, h]
theorem wpList_min_int {P : Program} {w : World} {ops : Array Oper} {rest : List Oper} {o : Oper} {a : Act} {Q : Exit → Act → World → Prop} (hg : o.guard = none) (x y : Operand) (ts : Array TypeId)
    (hop : o.op = Op.call { callee := Callee.builtin Builtin.min, args := #[x, y], argTypes := ts }) (q : IntKind) (m n : Int) (hx : a.eval x = .int q m) (hy : a.eval y = .int q n)
    (hK : wpList P ops Q rest (a.put o.dst (.int q (min m n))) w) : wpList P ops Q (o :: rest) a w := by
  refine wpList_plain hg fun K' hK' => ?_
  unfold Oper.wp
  simp [execOp, hop, resolve, invoke, builtin, hx, hy, run_min_int (P := P) w ts o.type, Result.andThen]
  exact hK' _ _ hK
theorem wpStill_min_int {P : Program} {w : World} {ops : Array Oper} {rest : List Oper} {o : Oper} {a : Act} {Q : Act → Prop} (hw : Region.wanted o (yielded ops a.tmps) = true) (x y : Operand) (ts : Array TypeId)
    (hop : o.op = Op.call { callee := Callee.builtin Builtin.min, args := #[x, y], argTypes := ts }) (q : IntKind) (m n : Int) (hx : a.eval x = .int q m) (hy : a.eval y = .int q n)
    (hK : wpStill P ops w Q rest (a.put o.dst (.int q (min m n)))) : wpStill P ops w Q (o :: rest) a := by
  refine wpStill_step fun K' hK' => ?_
  rw [if_pos hw]
  unfold Oper.still
  simp [execOp, hop, resolve, invoke, builtin, hx, hy, run_min_int (P := P) w ts o.type, Result.andThen, Oper.stillUpon]
  exact hK' _ hK
end Go.Proofs.Ytemdhnolccnnfaa
