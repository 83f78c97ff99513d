/- The zero of an integer, and what an integer's place takes. -/
import Derived.Test.YtemdhnolccnnfaaRows
import Derived.WalkKit
namespace Go.Proofs.Ytemdhnolccnnfaa
open Go.RowKit
theorem zero_i64 (w : World) : (zeroValue 3).run Try.prog w = .ok (.int .i64 0) w := by kernel_rfl
theorem info_i64 : (Try.prog.info? 3).map (fun i => (i.zero, i.size, i.bytes)) = some (some (.int .i64 0), 1, 8) := by kernel_rfl
end Go.Proofs.Ytemdhnolccnnfaa
