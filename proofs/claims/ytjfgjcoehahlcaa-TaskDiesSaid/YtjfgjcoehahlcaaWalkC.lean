/-
  The contract of the document's Check.
-/
import Derived.Test.YtjfgjcoehahlcaaWalkA
namespace Go.Proofs.Ytjfgjcoehahlcaa
open Go.RowKit
set_option linter.unusedVariables false

set_option maxHeartbeats 1600000 in
theorem rcheck_any (l : Lf) (w : World) : Calls Try.prog 14 #[lv l] w fun e w' => e = .returned (.int .i64 (errL l)) ∧ Below w.heap.size w w' := by
  have HR := Lib.hid (errL_or l)
  generalize errL l = r at *
  obtain ⟨s, g, c⟩ := l
  unfold lv OkL at *
  dsimp only at *
  go_enter Try.func14, Try.ntmps14
  go_wp2_with fail
  all_goals
    go_ret
    refine ⟨ret_i ?_, below_alloc w _⟩
    have h := HR.out
    simp only [beq_iff_eq, Bool.not_eq_true', Bool.not_eq_false', beq_eq_false_iff_ne, bne_iff_ne, bne_eq_false_iff_eq, ne_eq] at *
    omega
end Go.Proofs.Ytjfgjcoehahlcaa
