/-
  Plain: who is to stop, and what ticks leave of its grace.
-/
import Derived.Test.YtjfgjcoehahlcaaHRow
import Derived.Test.YtjfgjcoehahlcaaWalkD
namespace Go.Proofs.Ytjfgjcoehahlcaa
set_option linter.unusedVariables false

def Stp (B : Int) (x : Lf) (t : Int) : Prop := x.s = 4 ∨ (x.s = 3 ∧ 1 ≤ x.g ∧ x.g = B - t)

theorem stp_start (l : Lf) (hl : OkL l) : ∃ x, happen l ⟨3, 0, 0⟩ = (x, 0) ∧ Stp (bound l) x 0 := by
  have h1 : OkL l ∧ OkH ⟨3, 0, 0⟩ := ⟨hl, by decide⟩
  have hw := happen_way l ⟨3, 0, 0⟩ h1
  have hb := bound_or l
  refine ⟨(happen l ⟨3, 0, 0⟩).1, ?_, ?_⟩
  · have e : (happen l ⟨3, 0, 0⟩).2 = 0 := by
      unfold Way Is at hw
      unfold OkL at hl
      dsimp only at hw
      omega
    exact Prod.ext rfl e
  · unfold Stp
    unfold Way Is at hw
    unfold OkL at hl
    dsimp only at hw
    generalize (happen l ⟨3, 0, 0⟩).1.s = a at *
    generalize (happen l ⟨3, 0, 0⟩).1.g = b at *
    generalize (happen l ⟨3, 0, 0⟩).1.c = c at *
    generalize bound l = B at *
    omega

theorem stp_step {B t : Int} {x y : Lf} {h : Hp} (hs : Stp B x t) (ht : 0 ≤ t) (hh : happen x h = (y, 0)) :
    (h.k = 4 → 0 ≤ h.n ∧ h.n ≤ 1048576 ∧ Stp B y (t + h.n)) ∧ (h.k ≠ 4 → Stp B y t) := by
  have hw := happen_whole x h
  rw [hh] at hw
  unfold Stp at *
  rcases hw with ⟨_, hi⟩ | ⟨⟨hl, hk⟩, hw⟩
  · unfold Is at hi
    have := hi.2.2.2
    dsimp only at this
    omega
  · unfold OkL at hl
    unfold OkH at hk
    unfold Way Is at hw
    dsimp only at hw
    rcases hw with hw | hw | hw | hw | hw | hw | hw | hw | hw | hw | hw | hw | hw | hw <;> omega
end Go.Proofs.Ytjfgjcoehahlcaa
