/- Layer 15 (policy): where each kind's methods go. -/
import Derived.Test.YtgdlndpjfejmcaaGreatPolA
import Derived.Test.YtgdlndpjfejmcaaGreatWrap
namespace Go.Proofs.YtgdlndpjfejmcaaGreat
open Go.RowKit
set_option linter.unusedVariables false
set_option maxRecDepth 100000
@[reducible] def ptr (g : Nat) : Value := .pointer (some ⟨g, 0, none⟩)
@[reducible] def one (g : Nat) : Value := .agg #[.pointer (some ⟨g, 0, none⟩)]
section
variable (w : World) (g q : Nat)
theorem goes0_cap : Goes 40 (one q) "Cap" 86 (one q) w := ⟨fun D => by kernel_rfl, fun av => by kernel_rfl⟩
theorem goes0_insert : Goes 40 (one q) "Insert" 88 (one q) w := ⟨fun D => by kernel_rfl, fun av => by kernel_rfl⟩
theorem goes0_touch : Goes 40 (one q) "Touch" 90 (one q) w := ⟨fun D => by kernel_rfl, fun av => by kernel_rfl⟩
theorem goes0_remove : Goes 40 (one q) "Remove" 89 (one q) w := ⟨fun D => by kernel_rfl, fun av => by kernel_rfl⟩
theorem goes0_victim : Goes 40 (one q) "Victim" 91 (one q) w := ⟨fun D => by kernel_rfl, fun av => by kernel_rfl⟩
theorem goes0_evict : Goes 40 (one q) "Evict" 87 (one q) w := ⟨fun D => by kernel_rfl, fun av => by kernel_rfl⟩
theorem goes0_row (D : Nat) : (method (D + 1) 40 (one g) "Row").run Tryz.prog w = .ok (84, ptr g) w := by kernel_rfl
theorem goes0_len (D : Nat) : (method (D + 1) 40 (one g) "Len").run Tryz.prog w = .ok (83, ptr g) w := by kernel_rfl
theorem goes1_cap : Goes 48 (one q) "Cap" 101 (one q) w := ⟨fun D => by kernel_rfl, fun av => by kernel_rfl⟩
theorem goes1_insert : Goes 48 (one q) "Insert" 103 (one q) w := ⟨fun D => by kernel_rfl, fun av => by kernel_rfl⟩
theorem goes1_evict : Goes 48 (one q) "Evict" 102 (one q) w := ⟨fun D => by kernel_rfl, fun av => by kernel_rfl⟩
theorem goes1_victim : Goes 48 (one q) "Victim" 104 (one q) w := ⟨fun D => by kernel_rfl, fun av => by kernel_rfl⟩
theorem goes1_touch : Goes 48 (one q) "Touch" 99 (ptr q) w := ⟨fun D => by kernel_rfl, fun av => by kernel_rfl⟩
theorem goes1_remove : Goes 48 (one q) "Remove" 97 (ptr q) w := ⟨fun D => by kernel_rfl, fun av => by kernel_rfl⟩
theorem goes1_row (hc : w.cell? ⟨q, 0, none⟩ = some (ptr g)) (D : Nat) : (method (D + 1) 48 (one q) "Row").run Tryz.prog w = .ok (84, ptr g) w := by
  have e : (method (D + 1) 48 (one q) "Row").run Tryz.prog w = ((loadVar 37 ⟨q, 0, none⟩ >>= fun v => pure (84, v)) : Sem (FuncId × Value)).run Tryz.prog w := by kernel_rfl
  rw [e]
  simp [go_sem, hc]
theorem goes1_len (hc : w.cell? ⟨q, 0, none⟩ = some (ptr g)) (D : Nat) : (method (D + 1) 48 (one q) "Len").run Tryz.prog w = .ok (83, ptr g) w := by
  have e : (method (D + 1) 48 (one q) "Len").run Tryz.prog w = ((loadVar 37 ⟨q, 0, none⟩ >>= fun v => pure (83, v)) : Sem (FuncId × Value)).run Tryz.prog w := by kernel_rfl
  rw [e]
  simp [go_sem, hc]
theorem goes2_cap : Goes 49 (ptr q) "Cap" 106 (ptr q) w := ⟨fun D => by kernel_rfl, fun av => by kernel_rfl⟩
theorem goes2_insert : Goes 49 (ptr q) "Insert" 108 (ptr q) w := ⟨fun D => by kernel_rfl, fun av => by kernel_rfl⟩
theorem goes2_touch : Goes 49 (ptr q) "Touch" 110 (ptr q) w := ⟨fun D => by kernel_rfl, fun av => by kernel_rfl⟩
theorem goes2_remove : Goes 49 (ptr q) "Remove" 109 (ptr q) w := ⟨fun D => by kernel_rfl, fun av => by kernel_rfl⟩
theorem goes2_victim : Goes 49 (ptr q) "Victim" 111 (ptr q) w := ⟨fun D => by kernel_rfl, fun av => by kernel_rfl⟩
theorem goes2_evict : Goes 49 (ptr q) "Evict" 107 (ptr q) w := ⟨fun D => by kernel_rfl, fun av => by kernel_rfl⟩
theorem goes2_row (hc : w.cell? ⟨q, 0, none⟩ = some (ptr g)) (D : Nat) : (method (D + 1) 49 (ptr q) "Row").run Tryz.prog w = .ok (84, ptr g) w := by
  have e : (method (D + 1) 49 (ptr q) "Row").run Tryz.prog w = ((loadVar 37 ⟨q, 0, none⟩ >>= fun v => pure (84, v)) : Sem (FuncId × Value)).run Tryz.prog w := by kernel_rfl
  rw [e]
  simp [go_sem, hc]
theorem goes2_len (hc : w.cell? ⟨q, 0, none⟩ = some (ptr g)) (D : Nat) : (method (D + 1) 49 (ptr q) "Len").run Tryz.prog w = .ok (83, ptr g) w := by
  have e : (method (D + 1) 49 (ptr q) "Len").run Tryz.prog w = ((loadVar 37 ⟨q, 0, none⟩ >>= fun v => pure (83, v)) : Sem (FuncId × Value)).run Tryz.prog w := by kernel_rfl
  rw [e]
  simp [go_sem, hc]
theorem goes3_cap : Goes 54 (one q) "Cap" 118 (ptr q) w := ⟨fun D => by kernel_rfl, fun av => by kernel_rfl⟩
theorem goes3_insert : Goes 54 (one q) "Insert" 120 (ptr q) w := ⟨fun D => by kernel_rfl, fun av => by kernel_rfl⟩
theorem goes3_touch : Goes 54 (one q) "Touch" 122 (ptr q) w := ⟨fun D => by kernel_rfl, fun av => by kernel_rfl⟩
theorem goes3_remove : Goes 54 (one q) "Remove" 121 (ptr q) w := ⟨fun D => by kernel_rfl, fun av => by kernel_rfl⟩
theorem goes3_evict : Goes 54 (one q) "Evict" 119 (ptr q) w := ⟨fun D => by kernel_rfl, fun av => by kernel_rfl⟩
theorem goes3_victim : Goes 54 (one q) "Victim" 124 (one q) w := ⟨fun D => by kernel_rfl, fun av => by kernel_rfl⟩
theorem goes3_row (hc : w.cell? ⟨q, 0, none⟩ = some (ptr g)) (D : Nat) : (method (D + 1) 54 (one q) "Row").run Tryz.prog w = .ok (84, ptr g) w := by
  have e : (method (D + 1) 54 (one q) "Row").run Tryz.prog w = ((loadVar 37 ⟨q, 0, none⟩ >>= fun v => pure (84, v)) : Sem (FuncId × Value)).run Tryz.prog w := by kernel_rfl
  rw [e]
  simp [go_sem, hc]
theorem goes3_len (hc : w.cell? ⟨q, 0, none⟩ = some (ptr g)) (D : Nat) : (method (D + 1) 54 (one q) "Len").run Tryz.prog w = .ok (83, ptr g) w := by
  have e : (method (D + 1) 54 (one q) "Len").run Tryz.prog w = ((loadVar 37 ⟨q, 0, none⟩ >>= fun v => pure (83, v)) : Sem (FuncId × Value)).run Tryz.prog w := by kernel_rfl
  rw [e]
  simp [go_sem, hc]
end
end Go.Proofs.YtgdlndpjfejmcaaGreat
