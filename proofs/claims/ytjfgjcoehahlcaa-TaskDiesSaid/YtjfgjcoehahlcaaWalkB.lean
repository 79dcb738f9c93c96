/-
  The contracts of fine.
-/
import Derived.Test.YtjfgjcoehahlcaaWalkA
namespace Go.Proofs.Ytjfgjcoehahlcaa
open Go.RowKit
set_option linter.unusedVariables false

set_option maxHeartbeats 1600000 in
theorem fine_any (h : Hp) (w : World) : Calls Try.prog 21 #[hv h] w fun e w' => e = .returned (.bool (okH h)) ∧ Below w.heap.size w w' := by
  have HR := Lib.hid (okH_or h)
  generalize okH h = r at *
  obtain ⟨k, n, c⟩ := h
  unfold hv OkH at *
  dsimp only at *
  go_enter Try.func21, Try.ntmps21
  go_wp2_with fail
  all_goals
    go_ret
    refine ⟨ret_b ?_, below_alloc w _⟩
    have h := HR.out
    simp only [beq_iff_eq, beq_eq_false_iff_ne, ne_eq] at *
    rcases h with ⟨h, hr⟩ | ⟨h, hr⟩
    all_goals
      rw [hr] <;> first
        | (exfalso; omega)
        | (rw [beq_iff_eq]; omega)
        | (rw [beq_eq_false_iff_ne]; omega)
        | (rw [decide_eq_true_eq]; omega)
        | (rw [decide_eq_false_iff_not]; omega)

set_option maxHeartbeats 1600000 in
theorem rfine_any (h : Hp) (w : World) : Calls Try.prog 23 #[hv h] w fun e w' => e = .returned (.bool (okH h)) ∧ Below w.heap.size w w' := by
  have HR := Lib.hid (okH_or h)
  generalize okH h = r at *
  obtain ⟨k, n, c⟩ := h
  unfold hv OkH at *
  dsimp only at *
  go_enter Try.func23, Try.ntmps23
  go_wp2_with fail
  all_goals
    go_ret
    refine ⟨ret_b ?_, below_alloc w _⟩
    have h := HR.out
    simp only [ne_eq] at *
    rcases h with ⟨h, hr⟩ | ⟨h, hr⟩
    all_goals
      rw [hr] <;> first
        | (exfalso; omega)
        | (rw [beq_iff_eq]; omega)
        | (rw [beq_eq_false_iff_ne]; omega)
        | (rw [decide_eq_true_eq]; omega)
        | (rw [decide_eq_false_iff_not]; omega)
end Go.Proofs.Ytjfgjcoehahlcaa
