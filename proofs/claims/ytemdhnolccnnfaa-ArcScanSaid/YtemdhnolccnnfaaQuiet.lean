/- Small laws for regions whose operations only read, in whatever order. -/
import Derived.Test.YtemdhnolccnnfaaMem
import Derived.Deep.QuietTactic
import Derived.BigQuiet
namespace Go.Proofs.Ytemdhnolccnnfaa
open Go.RowKit
set_option linter.unusedVariables false
theorem wpQuiet_len_imap {P : Program} {ops : Array Oper} {C : World → Prop} {Q : Act → Prop} {a : Act} {o : Oper} {rest : List Oper} (hw : Region.wanted o (yielded ops a.tmps) = true)
    (m : Operand) (t : TypeId) (hop : o.op = Op.call { callee := Callee.builtin Builtin.len, args := #[m], argTypes := #[t] }) (k e : TypeId) (q : IntKind) (ht : P.underlying t = some (.map k e))
    (b : Nat) (hm : a.eval m = .map (some b)) (ob : Obj) (l : List (Int × Value)) (hb : ∀ W, C W → W.heap[b]? = some ob) (ho : MapBlk q l ob)
    (h : wpQuiet P ops C Q rest (a.put o.dst (.int .i64 l.length))) : wpQuiet P ops C Q (o :: rest) a :=
  BigFrame.wpQuiet_want hw fun K hK => ⟨_, fun w hw' => by
    unfold Oper.quietAt
    simp [execOp, hop, resolve, invoke, builtin, hm, run_len_imap (P := P) ht (hb w hw') ho o.type, Result.andThen, Oper.quietUpon], hK _ h⟩
end Go.Proofs.Ytemdhnolccnnfaa
