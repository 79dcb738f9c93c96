/-
  Plain: what is dead stays so, nothing is set up again.
-/
import Derived.Test.YtjfgjcoehahlcaaHRow
import Derived.Test.YtjfgjcoehahlcaaWalkD
namespace Go.Proofs.Ytjfgjcoehahlcaa
set_option linter.unusedVariables false

set_option maxHeartbeats 8000000 in
theorem dies_step {x y : Lf} {h : Hp} (hh : happen x h = (y, 0)) : OkL y ∧
    ((x.s = 4 ∧ y = x) ∨ (x.s = 1 ∧ y.s = 1 ∧ y.c = 0) ∨ (x.s = 1 ∧ y.s = 2 ∧ h.k = 1 ∧ y.c = 0) ∨ (x.s = 2 ∧ y.s = 2 ∧ y.c = 0) ∨ ((x.s = 2 ∨ x.s = 3) ∧ y.s = 3 ∧ y.c = 0) ∨ ((x.s = 1 ∨ x.s = 2 ∨ x.s = 3) ∧ y.s = 4)) := by
  have hw := happen_whole x h
  rw [hh] at hw
  obtain ⟨xs, xg, xc⟩ := x
  obtain ⟨ys, yg, yc⟩ := y
  obtain ⟨k, n, d⟩ := h
  simp only [Lf.mk.injEq]
  rcases hw with ⟨_, hi⟩ | ⟨⟨hl, hk⟩, hw⟩
  · unfold Is at hi
    have := hi.2.2.2
    dsimp only at this
    omega
  · unfold OkL at hl ⊢
    unfold OkH at hk
    unfold Way Is at hw
    dsimp only at *
    have hx : xs = 1 ∨ xs = 2 ∨ xs = 3 ∨ xs = 4 := by omega
    rcases hx with rfl | rfl | rfl | rfl <;> rcases hw with hw | hw | hw | hw | hw | hw | hw | hw | hw | hw | hw | hw | hw | hw
    all_goals first
      | (exfalso; omega)
      | (refine ⟨by omega, ?_⟩
         first
           | exact .inl (by omega)
           | exact .inr (.inl (by omega))
           | exact .inr (.inr (.inl (by omega)))
           | exact .inr (.inr (.inr (.inl (by omega))))
           | exact .inr (.inr (.inr (.inr (.inl (by omega)))))
           | exact .inr (.inr (.inr (.inr (.inr (by omega))))))

theorem takes_f {l : Lf} (h : l.s = 4) : takes l = false := by
  unfold takes; exact decide_eq_false (fun k => k.2 h)
theorem takes_t {l : Lf} (h : OkL l) (h4 : l.s ≠ 4) : takes l = true := by
  unfold takes; exact decide_eq_true ⟨h, h4⟩
end Go.Proofs.Ytjfgjcoehahlcaa
