/-
  The contracts of Takes and Bound, the program's and the document's.
-/
import Derived.Test.YtjfgjcoehahlcaaWalkC
namespace Go.Proofs.Ytjfgjcoehahlcaa
open Go.RowKit
set_option linter.unusedVariables false

theorem below_into {w1 w2 w3 : World} (h : Below w1.heap.size w1 w2) (k : Below w2.heap.size w2 w3) : Below w1.heap.size w1 w3 := h.trans (k.mono h.size)

theorem takes_or (l : Lf) : (OkL l ∧ l.s ≠ 4 ∧ takes l = true) ∨ (OkL l ∧ l.s = 4 ∧ takes l = false) ∨ (¬ OkL l ∧ takes l = false) := by
  unfold takes
  by_cases h : OkL l
  · by_cases h4 : l.s = 4
    · exact .inr (.inl ⟨h, h4, decide_eq_false (fun h => h.2 h4)⟩)
    · exact .inl ⟨h, h4, decide_eq_true ⟨h, h4⟩⟩
  · exact .inr (.inr ⟨h, decide_eq_false (fun k => h k.1)⟩)

set_option maxHeartbeats 800000 in
theorem takes_any (l : Lf) (w : World) : Calls Try.prog 10 #[lv l] w fun e w' => e = .returned (.bool (takes l)) ∧ Below w.heap.size w w' := by
  have HC := Lib.hid (check_any l)
  rcases takes_or l with ⟨h1, h4, h⟩ | ⟨h1, h4, h⟩ | ⟨h1, h⟩
  all_goals
    have hE := errL_or l
    rw [h]
    clear h
    generalize errL l = r at *
  · obtain rfl : r = 0 := by rcases hE with h | h; exact h.2; exact absurd h1 h.1
    clear hE h1
    obtain ⟨s, g, c⟩ := l
    unfold lv at *
    dsimp only at *
    have h4' : decide (s = 4) = false := decide_eq_false h4
    go_enter Try.func10, Try.ntmps10
    go_wp2_with fail
    refine (HC.out _).mono ?_
    rintro e w1 ⟨rfl, hb1⟩
    have HB := hb1.cell (p := ⟨w.heap.size, 0, none⟩) (by simp)
    have h0 : w1.cell? ⟨w.heap.size, 0, none⟩ = some (.int .i64 s) := by rw [HB]; simp
    go_wp2_with fail
    go_ret
    exact ⟨ret_b (by rw [bne_iff_ne]; exact h4), below_into (below_alloc w _) hb1⟩
  · obtain rfl : r = 0 := by rcases hE with h | h; exact h.2; exact absurd h1 h.1
    clear hE h1
    obtain ⟨s, g, c⟩ := l
    unfold lv at *
    dsimp only at *
    subst h4
    go_enter Try.func10, Try.ntmps10
    go_wp2_with fail
    refine (HC.out _).mono ?_
    rintro e w1 ⟨rfl, hb1⟩
    have HB := hb1.cell (p := ⟨w.heap.size, 0, none⟩) (by simp)
    have h0 : w1.cell? ⟨w.heap.size, 0, none⟩ = some (.int .i64 4) := by rw [HB]; simp
    go_wp2_with fail
    go_ret
    exact ⟨rfl, below_into (below_alloc w _) hb1⟩
  · obtain rfl : r = 2 := by rcases hE with h | h; exact absurd h.1 h1; exact h.2
    clear hE h1
    obtain ⟨s, g, c⟩ := l
    unfold lv at *
    dsimp only at *
    go_enter Try.func10, Try.ntmps10
    go_wp2_with fail
    refine (HC.out _).mono ?_
    rintro e w1 ⟨rfl, hb1⟩
    go_wp2_with fail
    go_ret
    exact ⟨rfl, below_into (below_alloc w _) hb1⟩
set_option maxHeartbeats 800000 in
theorem rtakes_any (l : Lf) (w : World) : Calls Try.prog 15 #[lv l] w fun e w' => e = .returned (.bool (takes l)) ∧ Below w.heap.size w w' := by
  have HC := Lib.hid (rcheck_any l)
  rcases takes_or l with ⟨h1, h4, h⟩ | ⟨h1, h4, h⟩ | ⟨h1, h⟩
  all_goals
    have hE := errL_or l
    rw [h]
    clear h
    generalize errL l = r at *
  · obtain rfl : r = 0 := by rcases hE with h | h; exact h.2; exact absurd h1 h.1
    clear hE h1
    obtain ⟨s, g, c⟩ := l
    unfold lv at *
    dsimp only at *
    have h4' : decide (s = 4) = false := decide_eq_false h4
    go_enter Try.func15, Try.ntmps15
    go_wp2_with fail
    refine (HC.out _).mono ?_
    rintro e w1 ⟨rfl, hb1⟩
    have HB := hb1.cell (p := ⟨w.heap.size, 0, none⟩) (by simp)
    have h0 : w1.cell? ⟨w.heap.size, 0, none⟩ = some (.int .i64 s) := by rw [HB]; simp
    go_wp2_with fail
    go_ret
    exact ⟨ret_b (by rw [bne_iff_ne]; exact h4), below_into (below_alloc w _) hb1⟩
  · obtain rfl : r = 0 := by rcases hE with h | h; exact h.2; exact absurd h1 h.1
    clear hE h1
    obtain ⟨s, g, c⟩ := l
    unfold lv at *
    dsimp only at *
    subst h4
    go_enter Try.func15, Try.ntmps15
    go_wp2_with fail
    refine (HC.out _).mono ?_
    rintro e w1 ⟨rfl, hb1⟩
    have HB := hb1.cell (p := ⟨w.heap.size, 0, none⟩) (by simp)
    have h0 : w1.cell? ⟨w.heap.size, 0, none⟩ = some (.int .i64 4) := by rw [HB]; simp
    go_wp2_with fail
    go_ret
    exact ⟨rfl, below_into (below_alloc w _) hb1⟩
  · obtain rfl : r = 2 := by rcases hE with h | h; exact absurd h.1 h1; exact h.2
    clear hE h1
    obtain ⟨s, g, c⟩ := l
    unfold lv at *
    dsimp only at *
    go_enter Try.func15, Try.ntmps15
    go_wp2_with fail
    refine (HC.out _).mono ?_
    rintro e w1 ⟨rfl, hb1⟩
    go_wp2_with fail
    go_ret
    exact ⟨rfl, below_into (below_alloc w _) hb1⟩

theorem bound_or (l : Lf) : (l.s = 3 ∧ bound l = l.g) ∨ (l.s = 2 ∧ bound l = 5) ∨ (l.s ≠ 3 ∧ l.s ≠ 2 ∧ bound l = 0) := by
  unfold bound
  by_cases h3 : l.s = 3
  · exact .inl ⟨h3, if_pos h3⟩
  · by_cases h2 : l.s = 2
    · exact .inr (.inl ⟨h2, by rw [if_neg h3, if_pos h2]⟩)
    · exact .inr (.inr ⟨h3, h2, by rw [if_neg h3, if_neg h2]⟩)

set_option maxHeartbeats 800000 in
theorem bound_any (l : Lf) (w : World) : Calls Try.prog 13 #[lv l] w fun e w' => e = .returned (.int .i64 (bound l)) ∧ Below w.heap.size w w' := by
  have HR := Lib.hid (bound_or l)
  generalize bound l = r at *
  obtain ⟨s, g, c⟩ := l
  unfold lv at *
  dsimp only at *
  go_enter Try.func13, Try.ntmps13
  go_wp2_with fail
  all_goals
    go_ret
    refine ⟨ret_i ?_, below_alloc w _⟩
    have h := HR.out
    simp only [beq_iff_eq, beq_eq_false_iff_ne, ne_eq] at *
    omega

set_option maxHeartbeats 800000 in
theorem rbound_any (l : Lf) (w : World) : Calls Try.prog 16 #[lv l] w fun e w' => e = .returned (.int .i64 (bound l)) ∧ Below w.heap.size w w' := by
  have HR := Lib.hid (bound_or l)
  generalize bound l = r at *
  obtain ⟨s, g, c⟩ := l
  unfold lv at *
  dsimp only at *
  go_enter Try.func16, Try.ntmps16
  go_wp2_with fail
  all_goals
    go_ret
    refine ⟨ret_i ?_, below_alloc w _⟩
    have h := HR.out
    simp only [beq_iff_eq, beq_eq_false_iff_ne, ne_eq] at *
    omega

end Go.Proofs.Ytjfgjcoehahlcaa
