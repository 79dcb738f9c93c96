/-
  Plain: what a happening makes of a life, case by case, in numbers.
-/
import Derived.Test.YtjfgjcoehahlcaaPlain
namespace Go.Proofs.Ytjfgjcoehahlcaa
set_option linter.unusedVariables false

/-- the life and the error in numbers -/
def Is (r : Lf × Nat) (a b c e : Int) : Prop := r.1.s = a ∧ r.1.g = b ∧ r.1.c = c ∧ (r.2 : Int) = e

theorem happen_some {l : Lf} {h : Hp} (h1 : OkL l ∧ OkH h) {x : Lf} (hs : step l h = some x) : happen l h = (x, 0) := by
  unfold happen; rw [if_pos h1, hs]
theorem happen_none {l : Lf} {h : Hp} (h1 : OkL l ∧ OkH h) (hs : step l h = none) : happen l h = (none', 13) := by
  unfold happen; rw [if_pos h1, hs]
theorem happen_bad {l : Lf} {h : Hp} (h1 : ¬ (OkL l ∧ OkH h)) : happen l h = (none', 2) := by
  unfold happen; rw [if_neg h1]

/-- the way that a happening goes -/
def Way (l : Lf) (h : Hp) (r : Lf × Nat) : Prop :=
  (l.s = 4 ∧ (h.k = 1 ∨ h.k = 2) ∧ Is r 0 0 0 13) ∨ (l.s = 4 ∧ h.k ≠ 1 ∧ h.k ≠ 2 ∧ Is r l.s l.g l.c 0) ∨
  (l.s ≠ 4 ∧ h.k = 1 ∧ l.s = 1 ∧ Is r 2 0 0 0) ∨ (l.s ≠ 4 ∧ h.k = 1 ∧ l.s ≠ 1 ∧ Is r 0 0 0 13) ∨
  (l.s ≠ 4 ∧ h.k = 2 ∧ l.s = 3 ∧ Is r 4 0 256 0) ∨ (l.s ≠ 4 ∧ h.k = 2 ∧ l.s ≠ 3 ∧ Is r 4 0 h.c 0) ∨
  (l.s ≠ 4 ∧ h.k = 3 ∧ l.s = 1 ∧ Is r 4 0 256 0) ∨ (l.s ≠ 4 ∧ h.k = 3 ∧ l.s = 2 ∧ Is r 3 5 0 0) ∨ (l.s ≠ 4 ∧ h.k = 3 ∧ l.s ≠ 1 ∧ l.s ≠ 2 ∧ Is r l.s l.g l.c 0) ∨
  (l.s ≠ 4 ∧ h.k = 4 ∧ l.s = 3 ∧ l.g ≤ h.n ∧ Is r 4 0 256 0) ∨ (l.s ≠ 4 ∧ h.k = 4 ∧ l.s = 3 ∧ h.n < l.g ∧ Is r l.s (l.g - h.n) l.c 0) ∨ (l.s ≠ 4 ∧ h.k = 4 ∧ l.s ≠ 3 ∧ Is r l.s l.g l.c 0) ∨
  (l.s ≠ 4 ∧ h.k = 5 ∧ Is r 4 0 257 0) ∨ (l.s ≠ 4 ∧ h.k = 6 ∧ Is r 4 0 258 0)

theorem happen_way (l : Lf) (h : Hp) (h1 : OkL l ∧ OkH h) : Way l h (happen l h) := by
  have hl := h1.1
  have hh := h1.2
  unfold OkL at hl
  unfold OkH at hh
  unfold Way
  by_cases h4 : l.s = 4
  · by_cases hk : h.k = 1 ∨ h.k = 2
    · rw [happen_none h1 (by unfold step; rw [if_pos h4, if_pos hk])]
      exact .inl ⟨h4, hk, rfl, rfl, rfl, rfl⟩
    · rw [happen_some h1 (x := l) (by unfold step; rw [if_pos h4, if_neg hk])]
      exact .inr (.inl ⟨h4, fun e => hk (.inl e), fun e => hk (.inr e), rfl, rfl, rfl, rfl⟩)
  iterate 2 right
  by_cases k1 : h.k = 1
  · by_cases h1' : l.s = 1
    · rw [happen_some h1 (x := ⟨2, 0, 0⟩) (by unfold step; rw [if_neg h4, if_pos k1, if_pos h1'])]
      exact .inl ⟨h4, k1, h1', rfl, rfl, rfl, rfl⟩
    · rw [happen_none h1 (by unfold step; rw [if_neg h4, if_pos k1, if_neg h1'])]
      exact .inr (.inl ⟨h4, k1, h1', rfl, rfl, rfl, rfl⟩)
  iterate 2 right
  by_cases k2 : h.k = 2
  · by_cases h3 : l.s = 3
    · rw [happen_some h1 (x := dead 256) (by unfold step; rw [if_neg h4, if_neg k1, if_pos k2, if_pos h3])]
      exact .inl ⟨h4, k2, h3, rfl, rfl, rfl, rfl⟩
    · rw [happen_some h1 (x := dead h.c) (by unfold step; rw [if_neg h4, if_neg k1, if_pos k2, if_neg h3])]
      exact .inr (.inl ⟨h4, k2, h3, rfl, rfl, rfl, rfl⟩)
  iterate 2 right
  by_cases k3 : h.k = 3
  · by_cases h1' : l.s = 1
    · rw [happen_some h1 (x := dead 256) (by unfold step; rw [if_neg h4, if_neg k1, if_neg k2, if_pos k3, if_pos h1'])]
      exact .inl ⟨h4, k3, h1', rfl, rfl, rfl, rfl⟩
    · by_cases h2 : l.s = 2
      · rw [happen_some h1 (x := ⟨3, 5, 0⟩) (by unfold step; rw [if_neg h4, if_neg k1, if_neg k2, if_pos k3, if_neg h1', if_pos h2])]
        exact .inr (.inl ⟨h4, k3, h2, rfl, rfl, rfl, rfl⟩)
      · rw [happen_some h1 (x := l) (by unfold step; rw [if_neg h4, if_neg k1, if_neg k2, if_pos k3, if_neg h1', if_neg h2])]
        exact .inr (.inr (.inl ⟨h4, k3, h1', h2, rfl, rfl, rfl, rfl⟩))
  iterate 3 right
  by_cases k4 : h.k = 4
  · by_cases h3 : l.s = 3
    · by_cases hg : l.g ≤ h.n
      · rw [happen_some h1 (x := dead 256) (by unfold step; rw [if_neg h4, if_neg k1, if_neg k2, if_neg k3, if_pos k4, if_pos h3, if_pos hg])]
        exact .inl ⟨h4, k4, h3, hg, rfl, rfl, rfl, rfl⟩
      · rw [happen_some h1 (x := ⟨l.s, l.g - h.n, l.c⟩) (by unfold step; rw [if_neg h4, if_neg k1, if_neg k2, if_neg k3, if_pos k4, if_pos h3, if_neg hg])]
        exact .inr (.inl ⟨h4, k4, h3, by omega, rfl, rfl, rfl, rfl⟩)
    · rw [happen_some h1 (x := l) (by unfold step; rw [if_neg h4, if_neg k1, if_neg k2, if_neg k3, if_pos k4, if_neg h3])]
      exact .inr (.inr (.inl ⟨h4, k4, h3, rfl, rfl, rfl, rfl⟩))
  iterate 3 right
  by_cases k5 : h.k = 5
  · rw [happen_some h1 (x := dead 257) (by unfold step; rw [if_neg h4, if_neg k1, if_neg k2, if_neg k3, if_neg k4, if_pos k5])]
    exact .inl ⟨h4, k5, rfl, rfl, rfl, rfl⟩
  · rw [happen_some h1 (x := dead 258) (by unfold step; rw [if_neg h4, if_neg k1, if_neg k2, if_neg k3, if_neg k4, if_neg k5])]
    exact .inr ⟨h4, by omega, rfl, rfl, rfl, rfl⟩

/-- all of it -/
def Whole (l : Lf) (h : Hp) (r : Lf × Nat) : Prop := (¬ (OkL l ∧ OkH h) ∧ Is r 0 0 0 2) ∨ ((OkL l ∧ OkH h) ∧ Way l h r)

theorem happen_whole (l : Lf) (h : Hp) : Whole l h (happen l h) := by
  by_cases h1 : OkL l ∧ OkH h
  · exact .inr ⟨h1, happen_way l h h1⟩
  · exact .inl ⟨h1, by rw [happen_bad h1]; exact ⟨rfl, rfl, rfl, rfl⟩⟩
end Go.Proofs.Ytjfgjcoehahlcaa
