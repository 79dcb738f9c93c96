/-
  The contracts of Check and fine.
-/
import Derived.Test.YtjfgjcoehahlcaaChecked
import Derived.Test.YtjfgjcoehahlcaaPlain
import Derived.WalkKit
import Derived.Lib.Hide
import Derived.KernelRfl
import Derived.Below
namespace Go.Proofs.Ytjfgjcoehahlcaa
open Go.RowKit
set_option linter.unusedVariables false

/-- a life, a happening as values -/
def lv (l : Lf) : Value := .agg #[.int .i64 l.s, .int .i64 l.g, .int .i64 l.c]
def hv (h : Hp) : Value := .agg #[.int .i64 h.k, .int .i64 h.n, .int .i64 h.c]

theorem below_alloc (w : World) (o : Obj) : Below w.heap.size w (w.alloc o) := (Below.refl _ _).alloc (Nat.le_refl _) o

theorem ret_i {a b : Int} (h : a = b) : Ending.returned (.int .i64 a) = .returned (.int .i64 b) := by rw [h]
theorem ret_b {a b : Bool} (h : a = b) : Ending.returned (.bool a) = .returned (.bool b) := by rw [h]

set_option maxHeartbeats 1600000 in
theorem check_any (l : Lf) (w : World) : Calls Try.prog 8 #[lv l] w fun e w' => e = .returned (.int .i64 (errL l)) ∧ Below w.heap.size w w' := by
  have HR := Lib.hid (errL_or l)
  generalize errL l = r at *
  obtain ⟨s, g, c⟩ := l
  unfold lv OkL at *
  dsimp only at *
  go_enter Try.func8, Try.ntmps8
  go_wp2_with fail
  all_goals
    go_ret
    refine ⟨ret_i ?_, below_alloc w _⟩
    have h := HR.out
    simp only [beq_iff_eq, Bool.not_eq_true', Bool.not_eq_false', beq_eq_false_iff_ne, decide_eq_false_iff_not, decide_eq_true_eq, ne_eq] at *
    omega

end Go.Proofs.Ytjfgjcoehahlcaa
