/- Layer 15 (policy): where each kind's methods go. -/
import Derived.Test.YtldnacphfoagnafPolA
import Derived.Test.YtldnacphfoagnafWrap
namespace Go.Proofs.Ytldnacphfoagnaf
open Go.RowKit
set_option linter.unusedVariables false
@[reducible] def ptr (g : Nat) : Value := .pointer (some ⟨g, 0, none⟩)
@[reducible] def one (g : Nat) : Value := .agg #[.pointer (some ⟨g, 0, none⟩)]
section
variable (w : World) (g q : Nat)
theorem goes0_cap : Goes 41 (one q) "Cap" 42 (one q) w := ⟨fun D => by kernel_rfl, fun av => by kernel_rfl⟩
theorem goes0_insert : Goes 41 (one q) "Insert" 44 (one q) w := ⟨fun D => by kernel_rfl, fun av => by kernel_rfl⟩
theorem goes0_touch : Goes 41 (one q) "Touch" 46 (one q) w := ⟨fun D => by kernel_rfl, fun av => by kernel_rfl⟩
theorem goes0_remove : Goes 41 (one q) "Remove" 45 (one q) w := ⟨fun D => by kernel_rfl, fun av => by kernel_rfl⟩
theorem goes0_victim : Goes 41 (one q) "Victim" 47 (one q) w := ⟨fun D => by kernel_rfl, fun av => by kernel_rfl⟩
theorem goes0_evict : Goes 41 (one q) "Evict" 43 (one q) w := ⟨fun D => by kernel_rfl, fun av => by kernel_rfl⟩
theorem goes0_row (D : Nat) : (method (D + 1) 41 (one g) "Row").run Try.prog w = .ok (40, ptr g) w := by kernel_rfl
theorem goes0_len (D : Nat) : (method (D + 1) 41 (one g) "Len").run Try.prog w = .ok (39, ptr g) w := by kernel_rfl
theorem goes1_cap : Goes 49 (one q) "Cap" 57 (one q) w := ⟨fun D => by kernel_rfl, fun av => by kernel_rfl⟩
theorem goes1_insert : Goes 49 (one q) "Insert" 59 (one q) w := ⟨fun D => by kernel_rfl, fun av => by kernel_rfl⟩
theorem goes1_evict : Goes 49 (one q) "Evict" 58 (one q) w := ⟨fun D => by kernel_rfl, fun av => by kernel_rfl⟩
theorem goes1_victim : Goes 49 (one q) "Victim" 60 (one q) w := ⟨fun D => by kernel_rfl, fun av => by kernel_rfl⟩
theorem goes1_touch : Goes 49 (one q) "Touch" 55 (ptr q) w := ⟨fun D => by kernel_rfl, fun av => by kernel_rfl⟩
theorem goes1_remove : Goes 49 (one q) "Remove" 53 (ptr q) w := ⟨fun D => by kernel_rfl, fun av => by kernel_rfl⟩
theorem goes1_row (hc : w.cell? ⟨q, 0, none⟩ = some (ptr g)) (D : Nat) : (method (D + 1) 49 (one q) "Row").run Try.prog w = .ok (40, ptr g) w := by
  have e : (method (D + 1) 49 (one q) "Row").run Try.prog w = ((loadVar 38 ⟨q, 0, none⟩ >>= fun v => pure (40, v)) : Sem (FuncId × Value)).run Try.prog w := by kernel_rfl
  rw [e]
  simp [go_sem, hc]
theorem goes1_len (hc : w.cell? ⟨q, 0, none⟩ = some (ptr g)) (D : Nat) : (method (D + 1) 49 (one q) "Len").run Try.prog w = .ok (39, ptr g) w := by
  have e : (method (D + 1) 49 (one q) "Len").run Try.prog w = ((loadVar 38 ⟨q, 0, none⟩ >>= fun v => pure (39, v)) : Sem (FuncId × Value)).run Try.prog w := by kernel_rfl
  rw [e]
  simp [go_sem, hc]
theorem goes2_cap : Goes 50 (ptr q) "Cap" 62 (ptr q) w := ⟨fun D => by kernel_rfl, fun av => by kernel_rfl⟩
theorem goes2_insert : Goes 50 (ptr q) "Insert" 64 (ptr q) w := ⟨fun D => by kernel_rfl, fun av => by kernel_rfl⟩
theorem goes2_touch : Goes 50 (ptr q) "Touch" 66 (ptr q) w := ⟨fun D => by kernel_rfl, fun av => by kernel_rfl⟩
theorem goes2_remove : Goes 50 (ptr q) "Remove" 65 (ptr q) w := ⟨fun D => by kernel_rfl, fun av => by kernel_rfl⟩
theorem goes2_victim : Goes 50 (ptr q) "Victim" 67 (ptr q) w := ⟨fun D => by kernel_rfl, fun av => by kernel_rfl⟩
theorem goes2_evict : Goes 50 (ptr q) "Evict" 63 (ptr q) w := ⟨fun D => by kernel_rfl, fun av => by kernel_rfl⟩
theorem goes2_row (hc : w.cell? ⟨q, 0, none⟩ = some (ptr g)) (D : Nat) : (method (D + 1) 50 (ptr q) "Row").run Try.prog w = .ok (40, ptr g) w := by
  have e : (method (D + 1) 50 (ptr q) "Row").run Try.prog w = ((loadVar 38 ⟨q, 0, none⟩ >>= fun v => pure (40, v)) : Sem (FuncId × Value)).run Try.prog w := by kernel_rfl
  rw [e]
  simp [go_sem, hc]
theorem goes2_len (hc : w.cell? ⟨q, 0, none⟩ = some (ptr g)) (D : Nat) : (method (D + 1) 50 (ptr q) "Len").run Try.prog w = .ok (39, ptr g) w := by
  have e : (method (D + 1) 50 (ptr q) "Len").run Try.prog w = ((loadVar 38 ⟨q, 0, none⟩ >>= fun v => pure (39, v)) : Sem (FuncId × Value)).run Try.prog w := by kernel_rfl
  rw [e]
  simp [go_sem, hc]
theorem goes3_cap : Goes 55 (one q) "Cap" 74 (ptr q) w := ⟨fun D => by kernel_rfl, fun av => by kernel_rfl⟩
theorem goes3_insert : Goes 55 (one q) "Insert" 76 (ptr q) w := ⟨fun D => by kernel_rfl, fun av => by kernel_rfl⟩
theorem goes3_touch : Goes 55 (one q) "Touch" 78 (ptr q) w := ⟨fun D => by kernel_rfl, fun av => by kernel_rfl⟩
theorem goes3_remove : Goes 55 (one q) "Remove" 77 (ptr q) w := ⟨fun D => by kernel_rfl, fun av => by kernel_rfl⟩
theorem goes3_evict : Goes 55 (one q) "Evict" 75 (ptr q) w := ⟨fun D => by kernel_rfl, fun av => by kernel_rfl⟩
theorem goes3_victim : Goes 55 (one q) "Victim" 80 (one q) w := ⟨fun D => by kernel_rfl, fun av => by kernel_rfl⟩
theorem goes3_row (hc : w.cell? ⟨q, 0, none⟩ = some (ptr g)) (D : Nat) : (method (D + 1) 55 (one q) "Row").run Try.prog w = .ok (40, ptr g) w := by
  have e : (method (D + 1) 55 (one q) "Row").run Try.prog w = ((loadVar 38 ⟨q, 0, none⟩ >>= fun v => pure (40, v)) : Sem (FuncId × Value)).run Try.prog w := by kernel_rfl
  rw [e]
  simp [go_sem, hc]
theorem goes3_len (hc : w.cell? ⟨q, 0, none⟩ = some (ptr g)) (D : Nat) : (method (D + 1) 55 (one q) "Len").run Try.prog w = .ok (39, ptr g) w := by
  have e : (method (D + 1) 55 (one q) "Len").run Try.prog w = ((loadVar 38 ⟨q, 0, none⟩ >>= fun v => pure (39, v)) : Sem (FuncId × Value)).run Try.prog w := by kernel_rfl
  rw [e]
  simp [go_sem, hc]
end
end Go.Proofs.Ytldnacphfoagnaf
