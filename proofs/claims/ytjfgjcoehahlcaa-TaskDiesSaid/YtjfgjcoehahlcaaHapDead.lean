/-
  The contract of Happen: a change that dead laid.
-/
import Derived.Test.YtjfgjcoehahlcaaHapKit
import Derived.Deep.Cut
namespace Go.Proofs.Ytjfgjcoehahlcaa
open Go.RowKit
set_option linter.unusedVariables false

set_option maxRecDepth 100000 in
set_option maxHeartbeats 4000000 in
theorem hap_dead (s g c k n d y : Int) (w : World) (hl : errL ⟨s, g, c⟩ = 0) (hh : okH ⟨k, n, d⟩ = true) (row : Nat → Nat → Nat → Array Value) (sel : Nat → Nat → Nat → Nat)
    (hi1 : ∀ (p1 p2 p3 : Nat) (w : World), (Instr.index 45 (.agg (tabC p1 p2 p3)) (.int .i64 (IntKind.i64.wrap (s - 1)))).run Try.prog w = .ok (.agg (row p1 p2 p3)) w)
    (hi2 : ∀ (p1 p2 p3 : Nat) (w : World), (Instr.index 44 (.agg (row p1 p2 p3)) (.int .i64 (IntKind.i64.wrap (k - 1)))).run Try.prog w = .ok (.func (.func 32) #[] #[.pointer (some ⟨sel p1 p2 p3, 0, none⟩)]) w)
    (hsel : ∀ (p1 p2 p3 : Nat) (w : World), w.cell? ⟨p1, 0, none⟩ = some (.int .i64 256) → w.cell? ⟨p2, 0, none⟩ = some (.int .i64 257) → w.cell? ⟨p3, 0, none⟩ = some (.int .i64 258) → w.cell? ⟨sel p1 p2 p3, 0, none⟩ = some (.int .i64 y)) :
    Calls Try.prog 9 #[lv ⟨s, g, c⟩, hv ⟨k, n, d⟩] w (HapPost w ⟨4, 0, y⟩ 0) := by
  have HC := Lib.hid (check_any ⟨s, g, c⟩)
  have HF := Lib.hid (fine_any ⟨k, n, d⟩)
  rw [hl] at HC
  rw [hh] at HF
  have HSEL := Lib.hid hsel
  clear hl hh hsel
  unfold lv hv
  dsimp only
  go_enter Try.func9, Try.ntmps9
  go_wp2_with fail
  refine (HC.out _).mono ?_
  rintro e w1 ⟨rfl, hb1⟩
  have a1 := box_cells hb1 (boxA w (.int .i64 s) (.int .i64 g) (.int .i64 c) (.cells #[.int .i64 k, .int .i64 n, .int .i64 d] 31) (.cells #[z3, z3, z3] 23))
  obtain ⟨b0, b1, b2⟩ := box_cells hb1 (boxB w (.int .i64 k) (.int .i64 n) (.int .i64 d) (.cells #[.int .i64 s, .int .i64 g, .int .i64 c] 23) (.cells #[z3, z3, z3] 23))
  have f1 := RBox.below (rboxC w (.cells #[.int .i64 s, .int .i64 g, .int .i64 c] 23) (.cells #[.int .i64 k, .int .i64 n, .int .i64 d] 31)) hb1
  have hbw1 := below_into (below3 w _ _ _) hb1
  have hs1 : w.heap.size + 3 ≤ w1.heap.size := by have := hb1.size; simp at this; omega
  have HA1 := Lib.hid a1
  have HF1 := Lib.hid f1
  clear hb1 a1 f1
  go_wp2_with fail
  refine (HF.out _).mono ?_
  rintro e w2 ⟨rfl, hb2⟩
  have HB := Lib.hid (below_into hbw1 hb2)
  have HA2 := Lib.hid (box_cells hb2 HA1.out)
  have HB2 := Lib.hid (box_cells hb2 ⟨b0, b1, b2⟩)
  have HF2 := Lib.hid (HF1.out.below hb2)
  have hs2 : w.heap.size + 3 ≤ w2.heap.size := by have := hb2.size; omega
  clear hb2 hbw1 HA1 HF1 b0 b1 b2
  go_wp2_with fail
  go_cut [6, 7] from 17 (fun s6 s7 wx => ∃ b, s6 = .pointer (some ⟨b, 0, none⟩) ∧ s7 = .bool true ∧ RBox wx b (.int .i64 4) (.int .i64 0) (.int .i64 y) ∧ RBox wx (w.heap.size + 1 + 1) z3 z3 z3 ∧ Below w.heap.size w wx)
  case first =>
    go_region_held3 (fun w' => (w'.cell? ⟨w.heap.size, 0, none⟩ = some (.int .i64 s) ∧ w'.cell? ⟨w.heap.size, 1, none⟩ = some (.int .i64 g) ∧ w'.cell? ⟨w.heap.size, 2, none⟩ = some (.int .i64 c) ∧ w'.cell? ⟨w.heap.size + 1, 0, none⟩ = some (.int .i64 k) ∧ w'.cell? ⟨w.heap.size + 1, 1, none⟩ = some (.int .i64 n) ∧ w'.cell? ⟨w.heap.size + 1, 2, none⟩ = some (.int .i64 d)) ∧ Below w2.heap.size w2 w')
      ((refine six_of ?_ HA2.out HB2.out
        (repeat (first | refine Below.drew ?_ | refine below_fl hb4 ?_ | refine below_fl hb3 ?_ | refine below_fl (below_alloc _ _) ?_ | refine below_st (Nat.le_refl _) ?_ | refine below_st hz3 ?_))
        exact Below.refl _ _))
      (first
        | (go_at_call 22; refine (table_any _).mono ?_; rintro e w3 ⟨p1, p2, p3, rfl, c1, c2, c3, hb3⟩; have hz3 : w2.heap.size ≤ w3.heap.size := Nat.le_trans (by simp) hb3.size; (first | have u3 : RBox w3 (w.heap.size + 1 + 1) z3 z3 z3 := HF2.out.drew.below hb3 | have u3 : RBox w3 (w.heap.size + 1 + 1) z3 z3 z3 := (HF2.out.below (below_alloc _ _)).drew.below hb3); (try (have x := (RBox.below (rbox_alloc w2 z3 z3 z3).drew hb3 : RBox w3 w2.heap.size _ _ _))); have hc := HSEL.out _ _ _ _ c1 c2 c3)
        | (go_at_call 32; refine (dead1_any ⟨s, g, c⟩ ⟨k, n, d⟩ _ y _ ?_).mono ?_; (first | exact hc | exact ((below_alloc w3 _).cell (p := ⟨_, 0, none⟩) (World.block_lt_of_cell? _ _ hc)).trans hc); rintro e w4 ⟨rfl, hb4⟩; (first | have u4 := u3.below hb4 | have u4 := (u3.below (below_alloc _ _)).below hb4); (try (have yy := (RBox.below (rbox_alloc w3 z3 z3 z3) hb4 : RBox w4 w3.heap.size _ _ _); obtain ⟨y0, y1, y2, y3, y4, y5⟩ := yy.f)); (try (have yy := (x.below hb4 : RBox w4 w2.heap.size _ _ _); obtain ⟨y0, y1, y2, y3, y4, y5⟩ := yy.f)); unfold lv))
    all_goals
      go_wp2_with fail
      go_meet
      first
        | (refine ⟨_, rfl, rfl, rbox_alloc w4 _ _ _, u4.below (below_alloc _ _), ?_⟩
           (repeat (first | refine Below.drew ?_ | refine below_fl hb4 ?_ | refine below_fl hb3 ?_ | refine below_fl (below_alloc _ _) ?_))
           exact HB.out)
        | (refine ⟨_, rfl, rfl, yy.set3 _ _ _, u4.other3 (by omega) _ _ _, ?_⟩
           refine below_set3 (by omega) ?_ _ _ _
           (repeat (first | refine Below.drew ?_ | refine below_fl hb4 ?_ | refine below_fl hb3 ?_ | refine below_fl (below_alloc _ _) ?_))
           exact HB.out)
  case rest =>
    obtain ⟨b, rfl, rfl, r6, r4, hbc⟩ := hcut
    obtain ⟨x0, x1, x2, _, _, _⟩ := r6.f
    obtain ⟨t0, t1, t2, t3, t4, t5⟩ := r4.f
    have HBC := Lib.hid hbc
    clear hbc r6 r4
    go_wp2_with fail
    refine bodyPost_ret (v := .tuple #[.agg #[.int .i64 4, .int .i64 0, .int .i64 y], .int .i64 0]) (by simp [results, Try.results9, go_sem, t0, t1, t2]) rfl ⟨rfl, ?_⟩
    exact below_set3 (by omega) HBC.out _ _ _
end Go.Proofs.Ytjfgjcoehahlcaa
