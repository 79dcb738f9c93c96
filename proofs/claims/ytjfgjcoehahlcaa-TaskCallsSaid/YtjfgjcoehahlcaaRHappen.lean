/-
  The contract of the document's Happen: every life, every happening.
-/
import Derived.Test.YtjfgjcoehahlcaaHappen
namespace Go.Proofs.Ytjfgjcoehahlcaa
open Go.RowKit
set_option linter.unusedVariables false

theorem rboxA (w : World) (x y z : Value) (o1 o2 : Obj) : RBox (((w.alloc (.cells #[x, y, z] 23)).alloc o1).alloc o2) w.heap.size x y z :=
  ((below_alloc _ _).block _ (by simp; omega)).trans (((below_alloc _ _).block _ (by simp)).trans (alloc_block w (.cells #[x, y, z] 23)))

set_option maxHeartbeats 400000 in
theorem rdead_any (x : Int) (w : World) : Calls Try.prog 24 #[.int .i64 x] w fun e w' => e = .returned (.agg #[.int .i64 4, .int .i64 0, .int .i64 x]) ∧ Below w.heap.size w w' := by
  go_enter Try.func24, Try.ntmps24
  go_wp2_with fail
  exact bodyPost_ret (v := .agg #[.int .i64 4, .int .i64 0, .int .i64 x]) (by simp [results, Try.results24, go_sem]) rfl ⟨rfl, below_alloc w _⟩

set_option maxHeartbeats 800000 in
theorem rh11 (g c n d : Int) (h1 : OkL ⟨1, g, c⟩ ∧ OkH ⟨1, n, d⟩) (w : World) : Calls Try.prog 20 #[lv ⟨1, g, c⟩, hv ⟨1, n, d⟩] w (HapPost w (happen ⟨1, g, c⟩ ⟨1, n, d⟩).1 (happen ⟨1, g, c⟩ ⟨1, n, d⟩).2) := by
  rw [happen_some h1 (x := ⟨2, 0, 0⟩) (by simp [step])]
  have HC := Lib.hid (rcheck_any ⟨1, g, c⟩)
  have HF := Lib.hid (rfine_any ⟨1, n, d⟩)
  rw [errL_ok h1.1] at HC
  rw [okH_ok h1.2] at HF
  clear h1
  unfold lv hv at *
  dsimp only at *
  go_enter Try.func20, Try.ntmps20
  go_wp2_with fail
  refine (HC.out _).mono ?_
  rintro e w1 ⟨rfl, hb1⟩
  have a1 := (rboxA w (.int .i64 1) (.int .i64 g) (.int .i64 c) (.cells #[.int .i64 1, .int .i64 n, .int .i64 d] 31) (.cells #[z3, z3, z3] 23)).below hb1
  have b1 := box_cells hb1 (boxB w (.int .i64 1) (.int .i64 n) (.int .i64 d) (.cells #[.int .i64 1, .int .i64 g, .int .i64 c] 23) (.cells #[z3, z3, z3] 23))
  have r1 := RBox.below (rboxC w (.cells #[.int .i64 1, .int .i64 g, .int .i64 c] 23) (.cells #[.int .i64 1, .int .i64 n, .int .i64 d] 31)) hb1
  have hbw1 := below_into (below3 w _ _ _) hb1
  have HA1 := Lib.hid a1
  have HR1 := Lib.hid r1
  obtain ⟨b10, b11, b12⟩ := b1
  clear hb1 a1 r1
  go_wp2_with fail
  refine (HF.out _).mono ?_
  rintro e w2 ⟨rfl, hb2⟩
  have HB := Lib.hid (below_into hbw1 hb2)
  have HR := Lib.hid (HR1.out.below hb2)
  obtain ⟨a0, a1, a2, a3, a4, a5⟩ := (HA1.out.below hb2).f
  obtain ⟨b0, b1, b2⟩ := box_cells hb2 ⟨b10, b11, b12⟩
  obtain ⟨t0, t1, t2, t3, t4, t5⟩ := HR.out.f
  clear hb2 hbw1 HA1 HR1 b10 b11 b12
  go_wp2_with fail
  refine bodyPost_ret (v := .tuple #[.agg #[.int .i64 2, .int .i64 0, .int .i64 0], .int .i64 0]) (by simp [results, Try.results20, go_sem, t0, t1, t2]) rfl ⟨rfl, ?_⟩
  exact below_set3 (by omega) HB.out _ _ _

set_option maxHeartbeats 800000 in
theorem rh12 (g c n d : Int) (h1 : OkL ⟨1, g, c⟩ ∧ OkH ⟨2, n, d⟩) (w : World) : Calls Try.prog 20 #[lv ⟨1, g, c⟩, hv ⟨2, n, d⟩] w (HapPost w (happen ⟨1, g, c⟩ ⟨2, n, d⟩).1 (happen ⟨1, g, c⟩ ⟨2, n, d⟩).2) := by
  rw [happen_some h1 (x := ⟨4, 0, d⟩) (by simp [step, dead])]
  have HC := Lib.hid (rcheck_any ⟨1, g, c⟩)
  have HF := Lib.hid (rfine_any ⟨2, n, d⟩)
  rw [errL_ok h1.1] at HC
  rw [okH_ok h1.2] at HF
  clear h1
  unfold lv hv at *
  dsimp only at *
  go_enter Try.func20, Try.ntmps20
  go_wp2_with fail
  refine (HC.out _).mono ?_
  rintro e w1 ⟨rfl, hb1⟩
  have a1 := (rboxA w (.int .i64 1) (.int .i64 g) (.int .i64 c) (.cells #[.int .i64 2, .int .i64 n, .int .i64 d] 31) (.cells #[z3, z3, z3] 23)).below hb1
  have b1 := box_cells hb1 (boxB w (.int .i64 2) (.int .i64 n) (.int .i64 d) (.cells #[.int .i64 1, .int .i64 g, .int .i64 c] 23) (.cells #[z3, z3, z3] 23))
  have r1 := RBox.below (rboxC w (.cells #[.int .i64 1, .int .i64 g, .int .i64 c] 23) (.cells #[.int .i64 2, .int .i64 n, .int .i64 d] 31)) hb1
  have hbw1 := below_into (below3 w _ _ _) hb1
  have HA1 := Lib.hid a1
  have HR1 := Lib.hid r1
  obtain ⟨b10, b11, b12⟩ := b1
  clear hb1 a1 r1
  go_wp2_with fail
  refine (HF.out _).mono ?_
  rintro e w2 ⟨rfl, hb2⟩
  have HB := Lib.hid (below_into hbw1 hb2)
  have HR := Lib.hid (HR1.out.below hb2)
  obtain ⟨a0, a1, a2, a3, a4, a5⟩ := (HA1.out.below hb2).f
  obtain ⟨b0, b1, b2⟩ := box_cells hb2 ⟨b10, b11, b12⟩
  obtain ⟨t0, t1, t2, t3, t4, t5⟩ := HR.out.f
  clear hb2 hbw1 HA1 HR1 b10 b11 b12
  go_wp2_with (go_at_call 24; refine (rdead_any _ _).mono ?_; rintro e w3 ⟨rfl, hb3⟩; obtain ⟨y0, y1, y2, y3, y4, y5⟩ := (HR.out.below hb3).f)
  refine bodyPost_ret (v := .tuple #[.agg #[.int .i64 4, .int .i64 0, .int .i64 d], .int .i64 0]) (by simp [results, Try.results20, go_sem, y0, y1, y2]) rfl ⟨rfl, ?_⟩
  exact below_set3 (by omega) (below_fl hb3 HB.out) _ _ _

set_option maxHeartbeats 800000 in
theorem rh13 (g c n d : Int) (h1 : OkL ⟨1, g, c⟩ ∧ OkH ⟨3, n, d⟩) (w : World) : Calls Try.prog 20 #[lv ⟨1, g, c⟩, hv ⟨3, n, d⟩] w (HapPost w (happen ⟨1, g, c⟩ ⟨3, n, d⟩).1 (happen ⟨1, g, c⟩ ⟨3, n, d⟩).2) := by
  rw [happen_some h1 (x := ⟨4, 0, 256⟩) (by simp [step, dead])]
  have HC := Lib.hid (rcheck_any ⟨1, g, c⟩)
  have HF := Lib.hid (rfine_any ⟨3, n, d⟩)
  rw [errL_ok h1.1] at HC
  rw [okH_ok h1.2] at HF
  clear h1
  unfold lv hv at *
  dsimp only at *
  go_enter Try.func20, Try.ntmps20
  go_wp2_with fail
  refine (HC.out _).mono ?_
  rintro e w1 ⟨rfl, hb1⟩
  have a1 := (rboxA w (.int .i64 1) (.int .i64 g) (.int .i64 c) (.cells #[.int .i64 3, .int .i64 n, .int .i64 d] 31) (.cells #[z3, z3, z3] 23)).below hb1
  have b1 := box_cells hb1 (boxB w (.int .i64 3) (.int .i64 n) (.int .i64 d) (.cells #[.int .i64 1, .int .i64 g, .int .i64 c] 23) (.cells #[z3, z3, z3] 23))
  have r1 := RBox.below (rboxC w (.cells #[.int .i64 1, .int .i64 g, .int .i64 c] 23) (.cells #[.int .i64 3, .int .i64 n, .int .i64 d] 31)) hb1
  have hbw1 := below_into (below3 w _ _ _) hb1
  have HA1 := Lib.hid a1
  have HR1 := Lib.hid r1
  obtain ⟨b10, b11, b12⟩ := b1
  clear hb1 a1 r1
  go_wp2_with fail
  refine (HF.out _).mono ?_
  rintro e w2 ⟨rfl, hb2⟩
  have HB := Lib.hid (below_into hbw1 hb2)
  have HR := Lib.hid (HR1.out.below hb2)
  obtain ⟨a0, a1, a2, a3, a4, a5⟩ := (HA1.out.below hb2).f
  obtain ⟨b0, b1, b2⟩ := box_cells hb2 ⟨b10, b11, b12⟩
  obtain ⟨t0, t1, t2, t3, t4, t5⟩ := HR.out.f
  clear hb2 hbw1 HA1 HR1 b10 b11 b12
  go_wp2_with (go_at_call 24; refine (rdead_any _ _).mono ?_; rintro e w3 ⟨rfl, hb3⟩; obtain ⟨y0, y1, y2, y3, y4, y5⟩ := (HR.out.below hb3).f)
  refine bodyPost_ret (v := .tuple #[.agg #[.int .i64 4, .int .i64 0, .int .i64 256], .int .i64 0]) (by simp [results, Try.results20, go_sem, y0, y1, y2]) rfl ⟨rfl, ?_⟩
  exact below_set3 (by omega) (below_fl hb3 HB.out) _ _ _

set_option maxHeartbeats 800000 in
theorem rh14 (g c n d : Int) (h1 : OkL ⟨1, g, c⟩ ∧ OkH ⟨4, n, d⟩) (w : World) : Calls Try.prog 20 #[lv ⟨1, g, c⟩, hv ⟨4, n, d⟩] w (HapPost w (happen ⟨1, g, c⟩ ⟨4, n, d⟩).1 (happen ⟨1, g, c⟩ ⟨4, n, d⟩).2) := by
  rw [happen_some h1 (x := ⟨1, g, c⟩) (by simp [step])]
  have HC := Lib.hid (rcheck_any ⟨1, g, c⟩)
  have HF := Lib.hid (rfine_any ⟨4, n, d⟩)
  rw [errL_ok h1.1] at HC
  rw [okH_ok h1.2] at HF
  clear h1
  unfold lv hv at *
  dsimp only at *
  go_enter Try.func20, Try.ntmps20
  go_wp2_with fail
  refine (HC.out _).mono ?_
  rintro e w1 ⟨rfl, hb1⟩
  have a1 := (rboxA w (.int .i64 1) (.int .i64 g) (.int .i64 c) (.cells #[.int .i64 4, .int .i64 n, .int .i64 d] 31) (.cells #[z3, z3, z3] 23)).below hb1
  have b1 := box_cells hb1 (boxB w (.int .i64 4) (.int .i64 n) (.int .i64 d) (.cells #[.int .i64 1, .int .i64 g, .int .i64 c] 23) (.cells #[z3, z3, z3] 23))
  have r1 := RBox.below (rboxC w (.cells #[.int .i64 1, .int .i64 g, .int .i64 c] 23) (.cells #[.int .i64 4, .int .i64 n, .int .i64 d] 31)) hb1
  have hbw1 := below_into (below3 w _ _ _) hb1
  have HA1 := Lib.hid a1
  have HR1 := Lib.hid r1
  obtain ⟨b10, b11, b12⟩ := b1
  clear hb1 a1 r1
  go_wp2_with fail
  refine (HF.out _).mono ?_
  rintro e w2 ⟨rfl, hb2⟩
  have HB := Lib.hid (below_into hbw1 hb2)
  have HR := Lib.hid (HR1.out.below hb2)
  obtain ⟨a0, a1, a2, a3, a4, a5⟩ := (HA1.out.below hb2).f
  obtain ⟨b0, b1, b2⟩ := box_cells hb2 ⟨b10, b11, b12⟩
  obtain ⟨t0, t1, t2, t3, t4, t5⟩ := HR.out.f
  clear hb2 hbw1 HA1 HR1 b10 b11 b12
  go_wp2_with fail
  refine bodyPost_ret (v := .tuple #[.agg #[.int .i64 1, .int .i64 g, .int .i64 c], .int .i64 0]) (by simp [results, Try.results20, go_sem, t0, t1, t2]) rfl ⟨rfl, ?_⟩
  exact below_set3 (by omega) HB.out _ _ _

set_option maxHeartbeats 800000 in
theorem rh15 (g c n d : Int) (h1 : OkL ⟨1, g, c⟩ ∧ OkH ⟨5, n, d⟩) (w : World) : Calls Try.prog 20 #[lv ⟨1, g, c⟩, hv ⟨5, n, d⟩] w (HapPost w (happen ⟨1, g, c⟩ ⟨5, n, d⟩).1 (happen ⟨1, g, c⟩ ⟨5, n, d⟩).2) := by
  rw [happen_some h1 (x := ⟨4, 0, 257⟩) (by simp [step, dead])]
  have HC := Lib.hid (rcheck_any ⟨1, g, c⟩)
  have HF := Lib.hid (rfine_any ⟨5, n, d⟩)
  rw [errL_ok h1.1] at HC
  rw [okH_ok h1.2] at HF
  clear h1
  unfold lv hv at *
  dsimp only at *
  go_enter Try.func20, Try.ntmps20
  go_wp2_with fail
  refine (HC.out _).mono ?_
  rintro e w1 ⟨rfl, hb1⟩
  have a1 := (rboxA w (.int .i64 1) (.int .i64 g) (.int .i64 c) (.cells #[.int .i64 5, .int .i64 n, .int .i64 d] 31) (.cells #[z3, z3, z3] 23)).below hb1
  have b1 := box_cells hb1 (boxB w (.int .i64 5) (.int .i64 n) (.int .i64 d) (.cells #[.int .i64 1, .int .i64 g, .int .i64 c] 23) (.cells #[z3, z3, z3] 23))
  have r1 := RBox.below (rboxC w (.cells #[.int .i64 1, .int .i64 g, .int .i64 c] 23) (.cells #[.int .i64 5, .int .i64 n, .int .i64 d] 31)) hb1
  have hbw1 := below_into (below3 w _ _ _) hb1
  have HA1 := Lib.hid a1
  have HR1 := Lib.hid r1
  obtain ⟨b10, b11, b12⟩ := b1
  clear hb1 a1 r1
  go_wp2_with fail
  refine (HF.out _).mono ?_
  rintro e w2 ⟨rfl, hb2⟩
  have HB := Lib.hid (below_into hbw1 hb2)
  have HR := Lib.hid (HR1.out.below hb2)
  obtain ⟨a0, a1, a2, a3, a4, a5⟩ := (HA1.out.below hb2).f
  obtain ⟨b0, b1, b2⟩ := box_cells hb2 ⟨b10, b11, b12⟩
  obtain ⟨t0, t1, t2, t3, t4, t5⟩ := HR.out.f
  clear hb2 hbw1 HA1 HR1 b10 b11 b12
  go_wp2_with (go_at_call 24; refine (rdead_any _ _).mono ?_; rintro e w3 ⟨rfl, hb3⟩; obtain ⟨y0, y1, y2, y3, y4, y5⟩ := (HR.out.below hb3).f)
  refine bodyPost_ret (v := .tuple #[.agg #[.int .i64 4, .int .i64 0, .int .i64 257], .int .i64 0]) (by simp [results, Try.results20, go_sem, y0, y1, y2]) rfl ⟨rfl, ?_⟩
  exact below_set3 (by omega) (below_fl hb3 HB.out) _ _ _

set_option maxHeartbeats 800000 in
theorem rh16 (g c n d : Int) (h1 : OkL ⟨1, g, c⟩ ∧ OkH ⟨6, n, d⟩) (w : World) : Calls Try.prog 20 #[lv ⟨1, g, c⟩, hv ⟨6, n, d⟩] w (HapPost w (happen ⟨1, g, c⟩ ⟨6, n, d⟩).1 (happen ⟨1, g, c⟩ ⟨6, n, d⟩).2) := by
  rw [happen_some h1 (x := ⟨4, 0, 258⟩) (by simp [step, dead])]
  have HC := Lib.hid (rcheck_any ⟨1, g, c⟩)
  have HF := Lib.hid (rfine_any ⟨6, n, d⟩)
  rw [errL_ok h1.1] at HC
  rw [okH_ok h1.2] at HF
  clear h1
  unfold lv hv at *
  dsimp only at *
  go_enter Try.func20, Try.ntmps20
  go_wp2_with fail
  refine (HC.out _).mono ?_
  rintro e w1 ⟨rfl, hb1⟩
  have a1 := (rboxA w (.int .i64 1) (.int .i64 g) (.int .i64 c) (.cells #[.int .i64 6, .int .i64 n, .int .i64 d] 31) (.cells #[z3, z3, z3] 23)).below hb1
  have b1 := box_cells hb1 (boxB w (.int .i64 6) (.int .i64 n) (.int .i64 d) (.cells #[.int .i64 1, .int .i64 g, .int .i64 c] 23) (.cells #[z3, z3, z3] 23))
  have r1 := RBox.below (rboxC w (.cells #[.int .i64 1, .int .i64 g, .int .i64 c] 23) (.cells #[.int .i64 6, .int .i64 n, .int .i64 d] 31)) hb1
  have hbw1 := below_into (below3 w _ _ _) hb1
  have HA1 := Lib.hid a1
  have HR1 := Lib.hid r1
  obtain ⟨b10, b11, b12⟩ := b1
  clear hb1 a1 r1
  go_wp2_with fail
  refine (HF.out _).mono ?_
  rintro e w2 ⟨rfl, hb2⟩
  have HB := Lib.hid (below_into hbw1 hb2)
  have HR := Lib.hid (HR1.out.below hb2)
  obtain ⟨a0, a1, a2, a3, a4, a5⟩ := (HA1.out.below hb2).f
  obtain ⟨b0, b1, b2⟩ := box_cells hb2 ⟨b10, b11, b12⟩
  obtain ⟨t0, t1, t2, t3, t4, t5⟩ := HR.out.f
  clear hb2 hbw1 HA1 HR1 b10 b11 b12
  go_wp2_with (go_at_call 24; refine (rdead_any _ _).mono ?_; rintro e w3 ⟨rfl, hb3⟩; obtain ⟨y0, y1, y2, y3, y4, y5⟩ := (HR.out.below hb3).f)
  refine bodyPost_ret (v := .tuple #[.agg #[.int .i64 4, .int .i64 0, .int .i64 258], .int .i64 0]) (by simp [results, Try.results20, go_sem, y0, y1, y2]) rfl ⟨rfl, ?_⟩
  exact below_set3 (by omega) (below_fl hb3 HB.out) _ _ _

set_option maxHeartbeats 800000 in
theorem rh21 (g c n d : Int) (h1 : OkL ⟨2, g, c⟩ ∧ OkH ⟨1, n, d⟩) (w : World) : Calls Try.prog 20 #[lv ⟨2, g, c⟩, hv ⟨1, n, d⟩] w (HapPost w (happen ⟨2, g, c⟩ ⟨1, n, d⟩).1 (happen ⟨2, g, c⟩ ⟨1, n, d⟩).2) := by
  rw [happen_none h1 (by simp [step])]
  have HC := Lib.hid (rcheck_any ⟨2, g, c⟩)
  have HF := Lib.hid (rfine_any ⟨1, n, d⟩)
  rw [errL_ok h1.1] at HC
  rw [okH_ok h1.2] at HF
  clear h1
  unfold lv hv at *
  dsimp only at *
  go_enter Try.func20, Try.ntmps20
  go_wp2_with fail
  refine (HC.out _).mono ?_
  rintro e w1 ⟨rfl, hb1⟩
  have a1 := (rboxA w (.int .i64 2) (.int .i64 g) (.int .i64 c) (.cells #[.int .i64 1, .int .i64 n, .int .i64 d] 31) (.cells #[z3, z3, z3] 23)).below hb1
  have b1 := box_cells hb1 (boxB w (.int .i64 1) (.int .i64 n) (.int .i64 d) (.cells #[.int .i64 2, .int .i64 g, .int .i64 c] 23) (.cells #[z3, z3, z3] 23))
  have r1 := RBox.below (rboxC w (.cells #[.int .i64 2, .int .i64 g, .int .i64 c] 23) (.cells #[.int .i64 1, .int .i64 n, .int .i64 d] 31)) hb1
  have hbw1 := below_into (below3 w _ _ _) hb1
  have HA1 := Lib.hid a1
  have HR1 := Lib.hid r1
  obtain ⟨b10, b11, b12⟩ := b1
  clear hb1 a1 r1
  go_wp2_with fail
  refine (HF.out _).mono ?_
  rintro e w2 ⟨rfl, hb2⟩
  have HB := Lib.hid (below_into hbw1 hb2)
  have HR := Lib.hid (HR1.out.below hb2)
  obtain ⟨a0, a1, a2, a3, a4, a5⟩ := (HA1.out.below hb2).f
  obtain ⟨b0, b1, b2⟩ := box_cells hb2 ⟨b10, b11, b12⟩
  obtain ⟨t0, t1, t2, t3, t4, t5⟩ := HR.out.f
  clear hb2 hbw1 HA1 HR1 b10 b11 b12
  go_wp2_with fail
  refine bodyPost_ret (v := .tuple #[.agg #[.int .i64 0, .int .i64 0, .int .i64 0], .int .i64 13]) (by simp [results, Try.results20, go_sem, t0, t1, t2]) rfl ⟨rfl, ?_⟩
  exact below_set3 (by omega) HB.out _ _ _

set_option maxHeartbeats 800000 in
theorem rh22 (g c n d : Int) (h1 : OkL ⟨2, g, c⟩ ∧ OkH ⟨2, n, d⟩) (w : World) : Calls Try.prog 20 #[lv ⟨2, g, c⟩, hv ⟨2, n, d⟩] w (HapPost w (happen ⟨2, g, c⟩ ⟨2, n, d⟩).1 (happen ⟨2, g, c⟩ ⟨2, n, d⟩).2) := by
  rw [happen_some h1 (x := ⟨4, 0, d⟩) (by simp [step, dead])]
  have HC := Lib.hid (rcheck_any ⟨2, g, c⟩)
  have HF := Lib.hid (rfine_any ⟨2, n, d⟩)
  rw [errL_ok h1.1] at HC
  rw [okH_ok h1.2] at HF
  clear h1
  unfold lv hv at *
  dsimp only at *
  go_enter Try.func20, Try.ntmps20
  go_wp2_with fail
  refine (HC.out _).mono ?_
  rintro e w1 ⟨rfl, hb1⟩
  have a1 := (rboxA w (.int .i64 2) (.int .i64 g) (.int .i64 c) (.cells #[.int .i64 2, .int .i64 n, .int .i64 d] 31) (.cells #[z3, z3, z3] 23)).below hb1
  have b1 := box_cells hb1 (boxB w (.int .i64 2) (.int .i64 n) (.int .i64 d) (.cells #[.int .i64 2, .int .i64 g, .int .i64 c] 23) (.cells #[z3, z3, z3] 23))
  have r1 := RBox.below (rboxC w (.cells #[.int .i64 2, .int .i64 g, .int .i64 c] 23) (.cells #[.int .i64 2, .int .i64 n, .int .i64 d] 31)) hb1
  have hbw1 := below_into (below3 w _ _ _) hb1
  have HA1 := Lib.hid a1
  have HR1 := Lib.hid r1
  obtain ⟨b10, b11, b12⟩ := b1
  clear hb1 a1 r1
  go_wp2_with fail
  refine (HF.out _).mono ?_
  rintro e w2 ⟨rfl, hb2⟩
  have HB := Lib.hid (below_into hbw1 hb2)
  have HR := Lib.hid (HR1.out.below hb2)
  obtain ⟨a0, a1, a2, a3, a4, a5⟩ := (HA1.out.below hb2).f
  obtain ⟨b0, b1, b2⟩ := box_cells hb2 ⟨b10, b11, b12⟩
  obtain ⟨t0, t1, t2, t3, t4, t5⟩ := HR.out.f
  clear hb2 hbw1 HA1 HR1 b10 b11 b12
  go_wp2_with (go_at_call 24; refine (rdead_any _ _).mono ?_; rintro e w3 ⟨rfl, hb3⟩; obtain ⟨y0, y1, y2, y3, y4, y5⟩ := (HR.out.below hb3).f)
  refine bodyPost_ret (v := .tuple #[.agg #[.int .i64 4, .int .i64 0, .int .i64 d], .int .i64 0]) (by simp [results, Try.results20, go_sem, y0, y1, y2]) rfl ⟨rfl, ?_⟩
  exact below_set3 (by omega) (below_fl hb3 HB.out) _ _ _

set_option maxHeartbeats 800000 in
theorem rh23 (g c n d : Int) (h1 : OkL ⟨2, g, c⟩ ∧ OkH ⟨3, n, d⟩) (w : World) : Calls Try.prog 20 #[lv ⟨2, g, c⟩, hv ⟨3, n, d⟩] w (HapPost w (happen ⟨2, g, c⟩ ⟨3, n, d⟩).1 (happen ⟨2, g, c⟩ ⟨3, n, d⟩).2) := by
  rw [happen_some h1 (x := ⟨3, 5, 0⟩) (by simp [step])]
  have HC := Lib.hid (rcheck_any ⟨2, g, c⟩)
  have HF := Lib.hid (rfine_any ⟨3, n, d⟩)
  rw [errL_ok h1.1] at HC
  rw [okH_ok h1.2] at HF
  clear h1
  unfold lv hv at *
  dsimp only at *
  go_enter Try.func20, Try.ntmps20
  go_wp2_with fail
  refine (HC.out _).mono ?_
  rintro e w1 ⟨rfl, hb1⟩
  have a1 := (rboxA w (.int .i64 2) (.int .i64 g) (.int .i64 c) (.cells #[.int .i64 3, .int .i64 n, .int .i64 d] 31) (.cells #[z3, z3, z3] 23)).below hb1
  have b1 := box_cells hb1 (boxB w (.int .i64 3) (.int .i64 n) (.int .i64 d) (.cells #[.int .i64 2, .int .i64 g, .int .i64 c] 23) (.cells #[z3, z3, z3] 23))
  have r1 := RBox.below (rboxC w (.cells #[.int .i64 2, .int .i64 g, .int .i64 c] 23) (.cells #[.int .i64 3, .int .i64 n, .int .i64 d] 31)) hb1
  have hbw1 := below_into (below3 w _ _ _) hb1
  have HA1 := Lib.hid a1
  have HR1 := Lib.hid r1
  obtain ⟨b10, b11, b12⟩ := b1
  clear hb1 a1 r1
  go_wp2_with fail
  refine (HF.out _).mono ?_
  rintro e w2 ⟨rfl, hb2⟩
  have HB := Lib.hid (below_into hbw1 hb2)
  have HR := Lib.hid (HR1.out.below hb2)
  obtain ⟨a0, a1, a2, a3, a4, a5⟩ := (HA1.out.below hb2).f
  obtain ⟨b0, b1, b2⟩ := box_cells hb2 ⟨b10, b11, b12⟩
  obtain ⟨t0, t1, t2, t3, t4, t5⟩ := HR.out.f
  clear hb2 hbw1 HA1 HR1 b10 b11 b12
  go_wp2_with fail
  refine bodyPost_ret (v := .tuple #[.agg #[.int .i64 3, .int .i64 5, .int .i64 0], .int .i64 0]) (by simp [results, Try.results20, go_sem, t0, t1, t2]) rfl ⟨rfl, ?_⟩
  exact below_set3 (by omega) HB.out _ _ _

set_option maxHeartbeats 800000 in
theorem rh24 (g c n d : Int) (h1 : OkL ⟨2, g, c⟩ ∧ OkH ⟨4, n, d⟩) (w : World) : Calls Try.prog 20 #[lv ⟨2, g, c⟩, hv ⟨4, n, d⟩] w (HapPost w (happen ⟨2, g, c⟩ ⟨4, n, d⟩).1 (happen ⟨2, g, c⟩ ⟨4, n, d⟩).2) := by
  rw [happen_some h1 (x := ⟨2, g, c⟩) (by simp [step])]
  have HC := Lib.hid (rcheck_any ⟨2, g, c⟩)
  have HF := Lib.hid (rfine_any ⟨4, n, d⟩)
  rw [errL_ok h1.1] at HC
  rw [okH_ok h1.2] at HF
  clear h1
  unfold lv hv at *
  dsimp only at *
  go_enter Try.func20, Try.ntmps20
  go_wp2_with fail
  refine (HC.out _).mono ?_
  rintro e w1 ⟨rfl, hb1⟩
  have a1 := (rboxA w (.int .i64 2) (.int .i64 g) (.int .i64 c) (.cells #[.int .i64 4, .int .i64 n, .int .i64 d] 31) (.cells #[z3, z3, z3] 23)).below hb1
  have b1 := box_cells hb1 (boxB w (.int .i64 4) (.int .i64 n) (.int .i64 d) (.cells #[.int .i64 2, .int .i64 g, .int .i64 c] 23) (.cells #[z3, z3, z3] 23))
  have r1 := RBox.below (rboxC w (.cells #[.int .i64 2, .int .i64 g, .int .i64 c] 23) (.cells #[.int .i64 4, .int .i64 n, .int .i64 d] 31)) hb1
  have hbw1 := below_into (below3 w _ _ _) hb1
  have HA1 := Lib.hid a1
  have HR1 := Lib.hid r1
  obtain ⟨b10, b11, b12⟩ := b1
  clear hb1 a1 r1
  go_wp2_with fail
  refine (HF.out _).mono ?_
  rintro e w2 ⟨rfl, hb2⟩
  have HB := Lib.hid (below_into hbw1 hb2)
  have HR := Lib.hid (HR1.out.below hb2)
  obtain ⟨a0, a1, a2, a3, a4, a5⟩ := (HA1.out.below hb2).f
  obtain ⟨b0, b1, b2⟩ := box_cells hb2 ⟨b10, b11, b12⟩
  obtain ⟨t0, t1, t2, t3, t4, t5⟩ := HR.out.f
  clear hb2 hbw1 HA1 HR1 b10 b11 b12
  go_wp2_with fail
  refine bodyPost_ret (v := .tuple #[.agg #[.int .i64 2, .int .i64 g, .int .i64 c], .int .i64 0]) (by simp [results, Try.results20, go_sem, t0, t1, t2]) rfl ⟨rfl, ?_⟩
  exact below_set3 (by omega) HB.out _ _ _

set_option maxHeartbeats 800000 in
theorem rh25 (g c n d : Int) (h1 : OkL ⟨2, g, c⟩ ∧ OkH ⟨5, n, d⟩) (w : World) : Calls Try.prog 20 #[lv ⟨2, g, c⟩, hv ⟨5, n, d⟩] w (HapPost w (happen ⟨2, g, c⟩ ⟨5, n, d⟩).1 (happen ⟨2, g, c⟩ ⟨5, n, d⟩).2) := by
  rw [happen_some h1 (x := ⟨4, 0, 257⟩) (by simp [step, dead])]
  have HC := Lib.hid (rcheck_any ⟨2, g, c⟩)
  have HF := Lib.hid (rfine_any ⟨5, n, d⟩)
  rw [errL_ok h1.1] at HC
  rw [okH_ok h1.2] at HF
  clear h1
  unfold lv hv at *
  dsimp only at *
  go_enter Try.func20, Try.ntmps20
  go_wp2_with fail
  refine (HC.out _).mono ?_
  rintro e w1 ⟨rfl, hb1⟩
  have a1 := (rboxA w (.int .i64 2) (.int .i64 g) (.int .i64 c) (.cells #[.int .i64 5, .int .i64 n, .int .i64 d] 31) (.cells #[z3, z3, z3] 23)).below hb1
  have b1 := box_cells hb1 (boxB w (.int .i64 5) (.int .i64 n) (.int .i64 d) (.cells #[.int .i64 2, .int .i64 g, .int .i64 c] 23) (.cells #[z3, z3, z3] 23))
  have r1 := RBox.below (rboxC w (.cells #[.int .i64 2, .int .i64 g, .int .i64 c] 23) (.cells #[.int .i64 5, .int .i64 n, .int .i64 d] 31)) hb1
  have hbw1 := below_into (below3 w _ _ _) hb1
  have HA1 := Lib.hid a1
  have HR1 := Lib.hid r1
  obtain ⟨b10, b11, b12⟩ := b1
  clear hb1 a1 r1
  go_wp2_with fail
  refine (HF.out _).mono ?_
  rintro e w2 ⟨rfl, hb2⟩
  have HB := Lib.hid (below_into hbw1 hb2)
  have HR := Lib.hid (HR1.out.below hb2)
  obtain ⟨a0, a1, a2, a3, a4, a5⟩ := (HA1.out.below hb2).f
  obtain ⟨b0, b1, b2⟩ := box_cells hb2 ⟨b10, b11, b12⟩
  obtain ⟨t0, t1, t2, t3, t4, t5⟩ := HR.out.f
  clear hb2 hbw1 HA1 HR1 b10 b11 b12
  go_wp2_with (go_at_call 24; refine (rdead_any _ _).mono ?_; rintro e w3 ⟨rfl, hb3⟩; obtain ⟨y0, y1, y2, y3, y4, y5⟩ := (HR.out.below hb3).f)
  refine bodyPost_ret (v := .tuple #[.agg #[.int .i64 4, .int .i64 0, .int .i64 257], .int .i64 0]) (by simp [results, Try.results20, go_sem, y0, y1, y2]) rfl ⟨rfl, ?_⟩
  exact below_set3 (by omega) (below_fl hb3 HB.out) _ _ _

set_option maxHeartbeats 800000 in
theorem rh26 (g c n d : Int) (h1 : OkL ⟨2, g, c⟩ ∧ OkH ⟨6, n, d⟩) (w : World) : Calls Try.prog 20 #[lv ⟨2, g, c⟩, hv ⟨6, n, d⟩] w (HapPost w (happen ⟨2, g, c⟩ ⟨6, n, d⟩).1 (happen ⟨2, g, c⟩ ⟨6, n, d⟩).2) := by
  rw [happen_some h1 (x := ⟨4, 0, 258⟩) (by simp [step, dead])]
  have HC := Lib.hid (rcheck_any ⟨2, g, c⟩)
  have HF := Lib.hid (rfine_any ⟨6, n, d⟩)
  rw [errL_ok h1.1] at HC
  rw [okH_ok h1.2] at HF
  clear h1
  unfold lv hv at *
  dsimp only at *
  go_enter Try.func20, Try.ntmps20
  go_wp2_with fail
  refine (HC.out _).mono ?_
  rintro e w1 ⟨rfl, hb1⟩
  have a1 := (rboxA w (.int .i64 2) (.int .i64 g) (.int .i64 c) (.cells #[.int .i64 6, .int .i64 n, .int .i64 d] 31) (.cells #[z3, z3, z3] 23)).below hb1
  have b1 := box_cells hb1 (boxB w (.int .i64 6) (.int .i64 n) (.int .i64 d) (.cells #[.int .i64 2, .int .i64 g, .int .i64 c] 23) (.cells #[z3, z3, z3] 23))
  have r1 := RBox.below (rboxC w (.cells #[.int .i64 2, .int .i64 g, .int .i64 c] 23) (.cells #[.int .i64 6, .int .i64 n, .int .i64 d] 31)) hb1
  have hbw1 := below_into (below3 w _ _ _) hb1
  have HA1 := Lib.hid a1
  have HR1 := Lib.hid r1
  obtain ⟨b10, b11, b12⟩ := b1
  clear hb1 a1 r1
  go_wp2_with fail
  refine (HF.out _).mono ?_
  rintro e w2 ⟨rfl, hb2⟩
  have HB := Lib.hid (below_into hbw1 hb2)
  have HR := Lib.hid (HR1.out.below hb2)
  obtain ⟨a0, a1, a2, a3, a4, a5⟩ := (HA1.out.below hb2).f
  obtain ⟨b0, b1, b2⟩ := box_cells hb2 ⟨b10, b11, b12⟩
  obtain ⟨t0, t1, t2, t3, t4, t5⟩ := HR.out.f
  clear hb2 hbw1 HA1 HR1 b10 b11 b12
  go_wp2_with (go_at_call 24; refine (rdead_any _ _).mono ?_; rintro e w3 ⟨rfl, hb3⟩; obtain ⟨y0, y1, y2, y3, y4, y5⟩ := (HR.out.below hb3).f)
  refine bodyPost_ret (v := .tuple #[.agg #[.int .i64 4, .int .i64 0, .int .i64 258], .int .i64 0]) (by simp [results, Try.results20, go_sem, y0, y1, y2]) rfl ⟨rfl, ?_⟩
  exact below_set3 (by omega) (below_fl hb3 HB.out) _ _ _

set_option maxHeartbeats 800000 in
theorem rh31 (g c n d : Int) (h1 : OkL ⟨3, g, c⟩ ∧ OkH ⟨1, n, d⟩) (w : World) : Calls Try.prog 20 #[lv ⟨3, g, c⟩, hv ⟨1, n, d⟩] w (HapPost w (happen ⟨3, g, c⟩ ⟨1, n, d⟩).1 (happen ⟨3, g, c⟩ ⟨1, n, d⟩).2) := by
  rw [happen_none h1 (by simp [step])]
  have HC := Lib.hid (rcheck_any ⟨3, g, c⟩)
  have HF := Lib.hid (rfine_any ⟨1, n, d⟩)
  rw [errL_ok h1.1] at HC
  rw [okH_ok h1.2] at HF
  clear h1
  unfold lv hv at *
  dsimp only at *
  go_enter Try.func20, Try.ntmps20
  go_wp2_with fail
  refine (HC.out _).mono ?_
  rintro e w1 ⟨rfl, hb1⟩
  have a1 := (rboxA w (.int .i64 3) (.int .i64 g) (.int .i64 c) (.cells #[.int .i64 1, .int .i64 n, .int .i64 d] 31) (.cells #[z3, z3, z3] 23)).below hb1
  have b1 := box_cells hb1 (boxB w (.int .i64 1) (.int .i64 n) (.int .i64 d) (.cells #[.int .i64 3, .int .i64 g, .int .i64 c] 23) (.cells #[z3, z3, z3] 23))
  have r1 := RBox.below (rboxC w (.cells #[.int .i64 3, .int .i64 g, .int .i64 c] 23) (.cells #[.int .i64 1, .int .i64 n, .int .i64 d] 31)) hb1
  have hbw1 := below_into (below3 w _ _ _) hb1
  have HA1 := Lib.hid a1
  have HR1 := Lib.hid r1
  obtain ⟨b10, b11, b12⟩ := b1
  clear hb1 a1 r1
  go_wp2_with fail
  refine (HF.out _).mono ?_
  rintro e w2 ⟨rfl, hb2⟩
  have HB := Lib.hid (below_into hbw1 hb2)
  have HR := Lib.hid (HR1.out.below hb2)
  obtain ⟨a0, a1, a2, a3, a4, a5⟩ := (HA1.out.below hb2).f
  obtain ⟨b0, b1, b2⟩ := box_cells hb2 ⟨b10, b11, b12⟩
  obtain ⟨t0, t1, t2, t3, t4, t5⟩ := HR.out.f
  clear hb2 hbw1 HA1 HR1 b10 b11 b12
  go_wp2_with fail
  refine bodyPost_ret (v := .tuple #[.agg #[.int .i64 0, .int .i64 0, .int .i64 0], .int .i64 13]) (by simp [results, Try.results20, go_sem, t0, t1, t2]) rfl ⟨rfl, ?_⟩
  exact below_set3 (by omega) HB.out _ _ _

set_option maxHeartbeats 800000 in
theorem rh32 (g c n d : Int) (h1 : OkL ⟨3, g, c⟩ ∧ OkH ⟨2, n, d⟩) (w : World) : Calls Try.prog 20 #[lv ⟨3, g, c⟩, hv ⟨2, n, d⟩] w (HapPost w (happen ⟨3, g, c⟩ ⟨2, n, d⟩).1 (happen ⟨3, g, c⟩ ⟨2, n, d⟩).2) := by
  rw [happen_some h1 (x := ⟨4, 0, 256⟩) (by simp [step, dead])]
  have HC := Lib.hid (rcheck_any ⟨3, g, c⟩)
  have HF := Lib.hid (rfine_any ⟨2, n, d⟩)
  rw [errL_ok h1.1] at HC
  rw [okH_ok h1.2] at HF
  clear h1
  unfold lv hv at *
  dsimp only at *
  go_enter Try.func20, Try.ntmps20
  go_wp2_with fail
  refine (HC.out _).mono ?_
  rintro e w1 ⟨rfl, hb1⟩
  have a1 := (rboxA w (.int .i64 3) (.int .i64 g) (.int .i64 c) (.cells #[.int .i64 2, .int .i64 n, .int .i64 d] 31) (.cells #[z3, z3, z3] 23)).below hb1
  have b1 := box_cells hb1 (boxB w (.int .i64 2) (.int .i64 n) (.int .i64 d) (.cells #[.int .i64 3, .int .i64 g, .int .i64 c] 23) (.cells #[z3, z3, z3] 23))
  have r1 := RBox.below (rboxC w (.cells #[.int .i64 3, .int .i64 g, .int .i64 c] 23) (.cells #[.int .i64 2, .int .i64 n, .int .i64 d] 31)) hb1
  have hbw1 := below_into (below3 w _ _ _) hb1
  have HA1 := Lib.hid a1
  have HR1 := Lib.hid r1
  obtain ⟨b10, b11, b12⟩ := b1
  clear hb1 a1 r1
  go_wp2_with fail
  refine (HF.out _).mono ?_
  rintro e w2 ⟨rfl, hb2⟩
  have HB := Lib.hid (below_into hbw1 hb2)
  have HR := Lib.hid (HR1.out.below hb2)
  obtain ⟨a0, a1, a2, a3, a4, a5⟩ := (HA1.out.below hb2).f
  obtain ⟨b0, b1, b2⟩ := box_cells hb2 ⟨b10, b11, b12⟩
  obtain ⟨t0, t1, t2, t3, t4, t5⟩ := HR.out.f
  clear hb2 hbw1 HA1 HR1 b10 b11 b12
  go_wp2_with (go_at_call 24; refine (rdead_any _ _).mono ?_; rintro e w3 ⟨rfl, hb3⟩; obtain ⟨y0, y1, y2, y3, y4, y5⟩ := (HR.out.below hb3).f)
  refine bodyPost_ret (v := .tuple #[.agg #[.int .i64 4, .int .i64 0, .int .i64 256], .int .i64 0]) (by simp [results, Try.results20, go_sem, y0, y1, y2]) rfl ⟨rfl, ?_⟩
  exact below_set3 (by omega) (below_fl hb3 HB.out) _ _ _

set_option maxHeartbeats 800000 in
theorem rh33 (g c n d : Int) (h1 : OkL ⟨3, g, c⟩ ∧ OkH ⟨3, n, d⟩) (w : World) : Calls Try.prog 20 #[lv ⟨3, g, c⟩, hv ⟨3, n, d⟩] w (HapPost w (happen ⟨3, g, c⟩ ⟨3, n, d⟩).1 (happen ⟨3, g, c⟩ ⟨3, n, d⟩).2) := by
  rw [happen_some h1 (x := ⟨3, g, c⟩) (by simp [step])]
  have HC := Lib.hid (rcheck_any ⟨3, g, c⟩)
  have HF := Lib.hid (rfine_any ⟨3, n, d⟩)
  rw [errL_ok h1.1] at HC
  rw [okH_ok h1.2] at HF
  clear h1
  unfold lv hv at *
  dsimp only at *
  go_enter Try.func20, Try.ntmps20
  go_wp2_with fail
  refine (HC.out _).mono ?_
  rintro e w1 ⟨rfl, hb1⟩
  have a1 := (rboxA w (.int .i64 3) (.int .i64 g) (.int .i64 c) (.cells #[.int .i64 3, .int .i64 n, .int .i64 d] 31) (.cells #[z3, z3, z3] 23)).below hb1
  have b1 := box_cells hb1 (boxB w (.int .i64 3) (.int .i64 n) (.int .i64 d) (.cells #[.int .i64 3, .int .i64 g, .int .i64 c] 23) (.cells #[z3, z3, z3] 23))
  have r1 := RBox.below (rboxC w (.cells #[.int .i64 3, .int .i64 g, .int .i64 c] 23) (.cells #[.int .i64 3, .int .i64 n, .int .i64 d] 31)) hb1
  have hbw1 := below_into (below3 w _ _ _) hb1
  have HA1 := Lib.hid a1
  have HR1 := Lib.hid r1
  obtain ⟨b10, b11, b12⟩ := b1
  clear hb1 a1 r1
  go_wp2_with fail
  refine (HF.out _).mono ?_
  rintro e w2 ⟨rfl, hb2⟩
  have HB := Lib.hid (below_into hbw1 hb2)
  have HR := Lib.hid (HR1.out.below hb2)
  obtain ⟨a0, a1, a2, a3, a4, a5⟩ := (HA1.out.below hb2).f
  obtain ⟨b0, b1, b2⟩ := box_cells hb2 ⟨b10, b11, b12⟩
  obtain ⟨t0, t1, t2, t3, t4, t5⟩ := HR.out.f
  clear hb2 hbw1 HA1 HR1 b10 b11 b12
  go_wp2_with fail
  refine bodyPost_ret (v := .tuple #[.agg #[.int .i64 3, .int .i64 g, .int .i64 c], .int .i64 0]) (by simp [results, Try.results20, go_sem, t0, t1, t2]) rfl ⟨rfl, ?_⟩
  exact below_set3 (by omega) HB.out _ _ _

set_option maxHeartbeats 800000 in
theorem rh34D (g c n d : Int) (h1 : OkL ⟨3, g, c⟩ ∧ OkH ⟨4, n, d⟩) (hg : g ≤ n) (w : World) : Calls Try.prog 20 #[lv ⟨3, g, c⟩, hv ⟨4, n, d⟩] w (HapPost w (happen ⟨3, g, c⟩ ⟨4, n, d⟩).1 (happen ⟨3, g, c⟩ ⟨4, n, d⟩).2) := by
  rw [happen_some h1 (x := ⟨4, 0, 256⟩) (by unfold step; simp [dead]; exact hg)]
  have HC := Lib.hid (rcheck_any ⟨3, g, c⟩)
  have HF := Lib.hid (rfine_any ⟨4, n, d⟩)
  rw [errL_ok h1.1] at HC
  rw [okH_ok h1.2] at HF
  clear h1
  unfold lv hv at *
  dsimp only at *
  go_enter Try.func20, Try.ntmps20
  go_wp2_with fail
  refine (HC.out _).mono ?_
  rintro e w1 ⟨rfl, hb1⟩
  have a1 := (rboxA w (.int .i64 3) (.int .i64 g) (.int .i64 c) (.cells #[.int .i64 4, .int .i64 n, .int .i64 d] 31) (.cells #[z3, z3, z3] 23)).below hb1
  have b1 := box_cells hb1 (boxB w (.int .i64 4) (.int .i64 n) (.int .i64 d) (.cells #[.int .i64 3, .int .i64 g, .int .i64 c] 23) (.cells #[z3, z3, z3] 23))
  have r1 := RBox.below (rboxC w (.cells #[.int .i64 3, .int .i64 g, .int .i64 c] 23) (.cells #[.int .i64 4, .int .i64 n, .int .i64 d] 31)) hb1
  have hbw1 := below_into (below3 w _ _ _) hb1
  have HA1 := Lib.hid a1
  have HR1 := Lib.hid r1
  obtain ⟨b10, b11, b12⟩ := b1
  clear hb1 a1 r1
  go_wp2_with fail
  refine (HF.out _).mono ?_
  rintro e w2 ⟨rfl, hb2⟩
  have HB := Lib.hid (below_into hbw1 hb2)
  have HR := Lib.hid (HR1.out.below hb2)
  obtain ⟨a0, a1, a2, a3, a4, a5⟩ := (HA1.out.below hb2).f
  obtain ⟨b0, b1, b2⟩ := box_cells hb2 ⟨b10, b11, b12⟩
  obtain ⟨t0, t1, t2, t3, t4, t5⟩ := HR.out.f
  clear hb2 hbw1 HA1 HR1 b10 b11 b12
  go_wp2_with (go_at_call 24; refine (rdead_any _ _).mono ?_; rintro e w3 ⟨rfl, hb3⟩; obtain ⟨y0, y1, y2, y3, y4, y5⟩ := (HR.out.below hb3).f)
  refine bodyPost_ret (v := .tuple #[.agg #[.int .i64 4, .int .i64 0, .int .i64 256], .int .i64 0]) (by simp [results, Try.results20, go_sem, y0, y1, y2]) rfl ⟨rfl, ?_⟩
  exact below_set3 (by omega) (below_fl hb3 HB.out) _ _ _

set_option maxHeartbeats 800000 in
theorem rh34O (g c n d : Int) (h1 : OkL ⟨3, g, c⟩ ∧ OkH ⟨4, n, d⟩) (hg : n < g) (h0 : 0 ≤ n) (h5 : g ≤ 5) (w : World) : Calls Try.prog 20 #[lv ⟨3, g, c⟩, hv ⟨4, n, d⟩] w (HapPost w (happen ⟨3, g, c⟩ ⟨4, n, d⟩).1 (happen ⟨3, g, c⟩ ⟨4, n, d⟩).2) := by
  rw [happen_some h1 (x := ⟨3, g - n, c⟩) (by unfold step; simp; omega)]
  have HC := Lib.hid (rcheck_any ⟨3, g, c⟩)
  have HF := Lib.hid (rfine_any ⟨4, n, d⟩)
  rw [errL_ok h1.1] at HC
  rw [okH_ok h1.2] at HF
  clear h1
  unfold lv hv at *
  dsimp only at *
  go_enter Try.func20, Try.ntmps20
  go_wp2_with fail
  refine (HC.out _).mono ?_
  rintro e w1 ⟨rfl, hb1⟩
  have a1 := (rboxA w (.int .i64 3) (.int .i64 g) (.int .i64 c) (.cells #[.int .i64 4, .int .i64 n, .int .i64 d] 31) (.cells #[z3, z3, z3] 23)).below hb1
  have b1 := box_cells hb1 (boxB w (.int .i64 4) (.int .i64 n) (.int .i64 d) (.cells #[.int .i64 3, .int .i64 g, .int .i64 c] 23) (.cells #[z3, z3, z3] 23))
  have r1 := RBox.below (rboxC w (.cells #[.int .i64 3, .int .i64 g, .int .i64 c] 23) (.cells #[.int .i64 4, .int .i64 n, .int .i64 d] 31)) hb1
  have hbw1 := below_into (below3 w _ _ _) hb1
  have HA1 := Lib.hid a1
  have HR1 := Lib.hid r1
  obtain ⟨b10, b11, b12⟩ := b1
  clear hb1 a1 r1
  go_wp2_with fail
  refine (HF.out _).mono ?_
  rintro e w2 ⟨rfl, hb2⟩
  have HB := Lib.hid (below_into hbw1 hb2)
  have HR := Lib.hid (HR1.out.below hb2)
  obtain ⟨a0, a1, a2, a3, a4, a5⟩ := (HA1.out.below hb2).f
  obtain ⟨b0, b1, b2⟩ := box_cells hb2 ⟨b10, b11, b12⟩
  obtain ⟨t0, t1, t2, t3, t4, t5⟩ := HR.out.f
  clear hb2 hbw1 HA1 HR1 b10 b11 b12
  go_wp2_with fail
  refine bodyPost_ret (v := .tuple #[.agg #[.int .i64 3, .int .i64 (g - n), .int .i64 c], .int .i64 0]) (by simp [results, Try.results20, go_sem, t0, t1, t2]) rfl ⟨rfl, ?_⟩
  exact below_set3 (by omega) (HB.out.setCell (Nat.le_refl _) _) _ _ _

set_option maxHeartbeats 800000 in
theorem rh35 (g c n d : Int) (h1 : OkL ⟨3, g, c⟩ ∧ OkH ⟨5, n, d⟩) (w : World) : Calls Try.prog 20 #[lv ⟨3, g, c⟩, hv ⟨5, n, d⟩] w (HapPost w (happen ⟨3, g, c⟩ ⟨5, n, d⟩).1 (happen ⟨3, g, c⟩ ⟨5, n, d⟩).2) := by
  rw [happen_some h1 (x := ⟨4, 0, 257⟩) (by simp [step, dead])]
  have HC := Lib.hid (rcheck_any ⟨3, g, c⟩)
  have HF := Lib.hid (rfine_any ⟨5, n, d⟩)
  rw [errL_ok h1.1] at HC
  rw [okH_ok h1.2] at HF
  clear h1
  unfold lv hv at *
  dsimp only at *
  go_enter Try.func20, Try.ntmps20
  go_wp2_with fail
  refine (HC.out _).mono ?_
  rintro e w1 ⟨rfl, hb1⟩
  have a1 := (rboxA w (.int .i64 3) (.int .i64 g) (.int .i64 c) (.cells #[.int .i64 5, .int .i64 n, .int .i64 d] 31) (.cells #[z3, z3, z3] 23)).below hb1
  have b1 := box_cells hb1 (boxB w (.int .i64 5) (.int .i64 n) (.int .i64 d) (.cells #[.int .i64 3, .int .i64 g, .int .i64 c] 23) (.cells #[z3, z3, z3] 23))
  have r1 := RBox.below (rboxC w (.cells #[.int .i64 3, .int .i64 g, .int .i64 c] 23) (.cells #[.int .i64 5, .int .i64 n, .int .i64 d] 31)) hb1
  have hbw1 := below_into (below3 w _ _ _) hb1
  have HA1 := Lib.hid a1
  have HR1 := Lib.hid r1
  obtain ⟨b10, b11, b12⟩ := b1
  clear hb1 a1 r1
  go_wp2_with fail
  refine (HF.out _).mono ?_
  rintro e w2 ⟨rfl, hb2⟩
  have HB := Lib.hid (below_into hbw1 hb2)
  have HR := Lib.hid (HR1.out.below hb2)
  obtain ⟨a0, a1, a2, a3, a4, a5⟩ := (HA1.out.below hb2).f
  obtain ⟨b0, b1, b2⟩ := box_cells hb2 ⟨b10, b11, b12⟩
  obtain ⟨t0, t1, t2, t3, t4, t5⟩ := HR.out.f
  clear hb2 hbw1 HA1 HR1 b10 b11 b12
  go_wp2_with (go_at_call 24; refine (rdead_any _ _).mono ?_; rintro e w3 ⟨rfl, hb3⟩; obtain ⟨y0, y1, y2, y3, y4, y5⟩ := (HR.out.below hb3).f)
  refine bodyPost_ret (v := .tuple #[.agg #[.int .i64 4, .int .i64 0, .int .i64 257], .int .i64 0]) (by simp [results, Try.results20, go_sem, y0, y1, y2]) rfl ⟨rfl, ?_⟩
  exact below_set3 (by omega) (below_fl hb3 HB.out) _ _ _

set_option maxHeartbeats 800000 in
theorem rh36 (g c n d : Int) (h1 : OkL ⟨3, g, c⟩ ∧ OkH ⟨6, n, d⟩) (w : World) : Calls Try.prog 20 #[lv ⟨3, g, c⟩, hv ⟨6, n, d⟩] w (HapPost w (happen ⟨3, g, c⟩ ⟨6, n, d⟩).1 (happen ⟨3, g, c⟩ ⟨6, n, d⟩).2) := by
  rw [happen_some h1 (x := ⟨4, 0, 258⟩) (by simp [step, dead])]
  have HC := Lib.hid (rcheck_any ⟨3, g, c⟩)
  have HF := Lib.hid (rfine_any ⟨6, n, d⟩)
  rw [errL_ok h1.1] at HC
  rw [okH_ok h1.2] at HF
  clear h1
  unfold lv hv at *
  dsimp only at *
  go_enter Try.func20, Try.ntmps20
  go_wp2_with fail
  refine (HC.out _).mono ?_
  rintro e w1 ⟨rfl, hb1⟩
  have a1 := (rboxA w (.int .i64 3) (.int .i64 g) (.int .i64 c) (.cells #[.int .i64 6, .int .i64 n, .int .i64 d] 31) (.cells #[z3, z3, z3] 23)).below hb1
  have b1 := box_cells hb1 (boxB w (.int .i64 6) (.int .i64 n) (.int .i64 d) (.cells #[.int .i64 3, .int .i64 g, .int .i64 c] 23) (.cells #[z3, z3, z3] 23))
  have r1 := RBox.below (rboxC w (.cells #[.int .i64 3, .int .i64 g, .int .i64 c] 23) (.cells #[.int .i64 6, .int .i64 n, .int .i64 d] 31)) hb1
  have hbw1 := below_into (below3 w _ _ _) hb1
  have HA1 := Lib.hid a1
  have HR1 := Lib.hid r1
  obtain ⟨b10, b11, b12⟩ := b1
  clear hb1 a1 r1
  go_wp2_with fail
  refine (HF.out _).mono ?_
  rintro e w2 ⟨rfl, hb2⟩
  have HB := Lib.hid (below_into hbw1 hb2)
  have HR := Lib.hid (HR1.out.below hb2)
  obtain ⟨a0, a1, a2, a3, a4, a5⟩ := (HA1.out.below hb2).f
  obtain ⟨b0, b1, b2⟩ := box_cells hb2 ⟨b10, b11, b12⟩
  obtain ⟨t0, t1, t2, t3, t4, t5⟩ := HR.out.f
  clear hb2 hbw1 HA1 HR1 b10 b11 b12
  go_wp2_with (go_at_call 24; refine (rdead_any _ _).mono ?_; rintro e w3 ⟨rfl, hb3⟩; obtain ⟨y0, y1, y2, y3, y4, y5⟩ := (HR.out.below hb3).f)
  refine bodyPost_ret (v := .tuple #[.agg #[.int .i64 4, .int .i64 0, .int .i64 258], .int .i64 0]) (by simp [results, Try.results20, go_sem, y0, y1, y2]) rfl ⟨rfl, ?_⟩
  exact below_set3 (by omega) (below_fl hb3 HB.out) _ _ _

set_option maxHeartbeats 800000 in
theorem rh41 (g c n d : Int) (h1 : OkL ⟨4, g, c⟩ ∧ OkH ⟨1, n, d⟩) (w : World) : Calls Try.prog 20 #[lv ⟨4, g, c⟩, hv ⟨1, n, d⟩] w (HapPost w (happen ⟨4, g, c⟩ ⟨1, n, d⟩).1 (happen ⟨4, g, c⟩ ⟨1, n, d⟩).2) := by
  rw [happen_none h1 (by simp [step])]
  have HC := Lib.hid (rcheck_any ⟨4, g, c⟩)
  have HF := Lib.hid (rfine_any ⟨1, n, d⟩)
  rw [errL_ok h1.1] at HC
  rw [okH_ok h1.2] at HF
  clear h1
  unfold lv hv at *
  dsimp only at *
  go_enter Try.func20, Try.ntmps20
  go_wp2_with fail
  refine (HC.out _).mono ?_
  rintro e w1 ⟨rfl, hb1⟩
  have a1 := (rboxA w (.int .i64 4) (.int .i64 g) (.int .i64 c) (.cells #[.int .i64 1, .int .i64 n, .int .i64 d] 31) (.cells #[z3, z3, z3] 23)).below hb1
  have b1 := box_cells hb1 (boxB w (.int .i64 1) (.int .i64 n) (.int .i64 d) (.cells #[.int .i64 4, .int .i64 g, .int .i64 c] 23) (.cells #[z3, z3, z3] 23))
  have r1 := RBox.below (rboxC w (.cells #[.int .i64 4, .int .i64 g, .int .i64 c] 23) (.cells #[.int .i64 1, .int .i64 n, .int .i64 d] 31)) hb1
  have hbw1 := below_into (below3 w _ _ _) hb1
  have HA1 := Lib.hid a1
  have HR1 := Lib.hid r1
  obtain ⟨b10, b11, b12⟩ := b1
  clear hb1 a1 r1
  go_wp2_with fail
  refine (HF.out _).mono ?_
  rintro e w2 ⟨rfl, hb2⟩
  have HB := Lib.hid (below_into hbw1 hb2)
  have HR := Lib.hid (HR1.out.below hb2)
  obtain ⟨a0, a1, a2, a3, a4, a5⟩ := (HA1.out.below hb2).f
  obtain ⟨b0, b1, b2⟩ := box_cells hb2 ⟨b10, b11, b12⟩
  obtain ⟨t0, t1, t2, t3, t4, t5⟩ := HR.out.f
  clear hb2 hbw1 HA1 HR1 b10 b11 b12
  go_wp2_with fail
  refine bodyPost_ret (v := .tuple #[.agg #[.int .i64 0, .int .i64 0, .int .i64 0], .int .i64 13]) (by simp [results, Try.results20, go_sem, t0, t1, t2]) rfl ⟨rfl, ?_⟩
  exact below_set3 (by omega) HB.out _ _ _

set_option maxHeartbeats 800000 in
theorem rh42 (g c n d : Int) (h1 : OkL ⟨4, g, c⟩ ∧ OkH ⟨2, n, d⟩) (w : World) : Calls Try.prog 20 #[lv ⟨4, g, c⟩, hv ⟨2, n, d⟩] w (HapPost w (happen ⟨4, g, c⟩ ⟨2, n, d⟩).1 (happen ⟨4, g, c⟩ ⟨2, n, d⟩).2) := by
  rw [happen_none h1 (by simp [step])]
  have HC := Lib.hid (rcheck_any ⟨4, g, c⟩)
  have HF := Lib.hid (rfine_any ⟨2, n, d⟩)
  rw [errL_ok h1.1] at HC
  rw [okH_ok h1.2] at HF
  clear h1
  unfold lv hv at *
  dsimp only at *
  go_enter Try.func20, Try.ntmps20
  go_wp2_with fail
  refine (HC.out _).mono ?_
  rintro e w1 ⟨rfl, hb1⟩
  have a1 := (rboxA w (.int .i64 4) (.int .i64 g) (.int .i64 c) (.cells #[.int .i64 2, .int .i64 n, .int .i64 d] 31) (.cells #[z3, z3, z3] 23)).below hb1
  have b1 := box_cells hb1 (boxB w (.int .i64 2) (.int .i64 n) (.int .i64 d) (.cells #[.int .i64 4, .int .i64 g, .int .i64 c] 23) (.cells #[z3, z3, z3] 23))
  have r1 := RBox.below (rboxC w (.cells #[.int .i64 4, .int .i64 g, .int .i64 c] 23) (.cells #[.int .i64 2, .int .i64 n, .int .i64 d] 31)) hb1
  have hbw1 := below_into (below3 w _ _ _) hb1
  have HA1 := Lib.hid a1
  have HR1 := Lib.hid r1
  obtain ⟨b10, b11, b12⟩ := b1
  clear hb1 a1 r1
  go_wp2_with fail
  refine (HF.out _).mono ?_
  rintro e w2 ⟨rfl, hb2⟩
  have HB := Lib.hid (below_into hbw1 hb2)
  have HR := Lib.hid (HR1.out.below hb2)
  obtain ⟨a0, a1, a2, a3, a4, a5⟩ := (HA1.out.below hb2).f
  obtain ⟨b0, b1, b2⟩ := box_cells hb2 ⟨b10, b11, b12⟩
  obtain ⟨t0, t1, t2, t3, t4, t5⟩ := HR.out.f
  clear hb2 hbw1 HA1 HR1 b10 b11 b12
  go_wp2_with fail
  refine bodyPost_ret (v := .tuple #[.agg #[.int .i64 0, .int .i64 0, .int .i64 0], .int .i64 13]) (by simp [results, Try.results20, go_sem, t0, t1, t2]) rfl ⟨rfl, ?_⟩
  exact below_set3 (by omega) HB.out _ _ _

set_option maxHeartbeats 800000 in
theorem rh43 (g c n d : Int) (h1 : OkL ⟨4, g, c⟩ ∧ OkH ⟨3, n, d⟩) (w : World) : Calls Try.prog 20 #[lv ⟨4, g, c⟩, hv ⟨3, n, d⟩] w (HapPost w (happen ⟨4, g, c⟩ ⟨3, n, d⟩).1 (happen ⟨4, g, c⟩ ⟨3, n, d⟩).2) := by
  rw [happen_some h1 (x := ⟨4, g, c⟩) (by simp [step])]
  have HC := Lib.hid (rcheck_any ⟨4, g, c⟩)
  have HF := Lib.hid (rfine_any ⟨3, n, d⟩)
  rw [errL_ok h1.1] at HC
  rw [okH_ok h1.2] at HF
  clear h1
  unfold lv hv at *
  dsimp only at *
  go_enter Try.func20, Try.ntmps20
  go_wp2_with fail
  refine (HC.out _).mono ?_
  rintro e w1 ⟨rfl, hb1⟩
  have a1 := (rboxA w (.int .i64 4) (.int .i64 g) (.int .i64 c) (.cells #[.int .i64 3, .int .i64 n, .int .i64 d] 31) (.cells #[z3, z3, z3] 23)).below hb1
  have b1 := box_cells hb1 (boxB w (.int .i64 3) (.int .i64 n) (.int .i64 d) (.cells #[.int .i64 4, .int .i64 g, .int .i64 c] 23) (.cells #[z3, z3, z3] 23))
  have r1 := RBox.below (rboxC w (.cells #[.int .i64 4, .int .i64 g, .int .i64 c] 23) (.cells #[.int .i64 3, .int .i64 n, .int .i64 d] 31)) hb1
  have hbw1 := below_into (below3 w _ _ _) hb1
  have HA1 := Lib.hid a1
  have HR1 := Lib.hid r1
  obtain ⟨b10, b11, b12⟩ := b1
  clear hb1 a1 r1
  go_wp2_with fail
  refine (HF.out _).mono ?_
  rintro e w2 ⟨rfl, hb2⟩
  have HB := Lib.hid (below_into hbw1 hb2)
  have HR := Lib.hid (HR1.out.below hb2)
  obtain ⟨a0, a1, a2, a3, a4, a5⟩ := (HA1.out.below hb2).f
  obtain ⟨b0, b1, b2⟩ := box_cells hb2 ⟨b10, b11, b12⟩
  obtain ⟨t0, t1, t2, t3, t4, t5⟩ := HR.out.f
  clear hb2 hbw1 HA1 HR1 b10 b11 b12
  go_wp2_with fail
  refine bodyPost_ret (v := .tuple #[.agg #[.int .i64 4, .int .i64 g, .int .i64 c], .int .i64 0]) (by simp [results, Try.results20, go_sem, t0, t1, t2]) rfl ⟨rfl, ?_⟩
  exact below_set3 (by omega) HB.out _ _ _

set_option maxHeartbeats 800000 in
theorem rh44 (g c n d : Int) (h1 : OkL ⟨4, g, c⟩ ∧ OkH ⟨4, n, d⟩) (w : World) : Calls Try.prog 20 #[lv ⟨4, g, c⟩, hv ⟨4, n, d⟩] w (HapPost w (happen ⟨4, g, c⟩ ⟨4, n, d⟩).1 (happen ⟨4, g, c⟩ ⟨4, n, d⟩).2) := by
  rw [happen_some h1 (x := ⟨4, g, c⟩) (by simp [step])]
  have HC := Lib.hid (rcheck_any ⟨4, g, c⟩)
  have HF := Lib.hid (rfine_any ⟨4, n, d⟩)
  rw [errL_ok h1.1] at HC
  rw [okH_ok h1.2] at HF
  clear h1
  unfold lv hv at *
  dsimp only at *
  go_enter Try.func20, Try.ntmps20
  go_wp2_with fail
  refine (HC.out _).mono ?_
  rintro e w1 ⟨rfl, hb1⟩
  have a1 := (rboxA w (.int .i64 4) (.int .i64 g) (.int .i64 c) (.cells #[.int .i64 4, .int .i64 n, .int .i64 d] 31) (.cells #[z3, z3, z3] 23)).below hb1
  have b1 := box_cells hb1 (boxB w (.int .i64 4) (.int .i64 n) (.int .i64 d) (.cells #[.int .i64 4, .int .i64 g, .int .i64 c] 23) (.cells #[z3, z3, z3] 23))
  have r1 := RBox.below (rboxC w (.cells #[.int .i64 4, .int .i64 g, .int .i64 c] 23) (.cells #[.int .i64 4, .int .i64 n, .int .i64 d] 31)) hb1
  have hbw1 := below_into (below3 w _ _ _) hb1
  have HA1 := Lib.hid a1
  have HR1 := Lib.hid r1
  obtain ⟨b10, b11, b12⟩ := b1
  clear hb1 a1 r1
  go_wp2_with fail
  refine (HF.out _).mono ?_
  rintro e w2 ⟨rfl, hb2⟩
  have HB := Lib.hid (below_into hbw1 hb2)
  have HR := Lib.hid (HR1.out.below hb2)
  obtain ⟨a0, a1, a2, a3, a4, a5⟩ := (HA1.out.below hb2).f
  obtain ⟨b0, b1, b2⟩ := box_cells hb2 ⟨b10, b11, b12⟩
  obtain ⟨t0, t1, t2, t3, t4, t5⟩ := HR.out.f
  clear hb2 hbw1 HA1 HR1 b10 b11 b12
  go_wp2_with fail
  refine bodyPost_ret (v := .tuple #[.agg #[.int .i64 4, .int .i64 g, .int .i64 c], .int .i64 0]) (by simp [results, Try.results20, go_sem, t0, t1, t2]) rfl ⟨rfl, ?_⟩
  exact below_set3 (by omega) HB.out _ _ _

set_option maxHeartbeats 800000 in
theorem rh45 (g c n d : Int) (h1 : OkL ⟨4, g, c⟩ ∧ OkH ⟨5, n, d⟩) (w : World) : Calls Try.prog 20 #[lv ⟨4, g, c⟩, hv ⟨5, n, d⟩] w (HapPost w (happen ⟨4, g, c⟩ ⟨5, n, d⟩).1 (happen ⟨4, g, c⟩ ⟨5, n, d⟩).2) := by
  rw [happen_some h1 (x := ⟨4, g, c⟩) (by simp [step])]
  have HC := Lib.hid (rcheck_any ⟨4, g, c⟩)
  have HF := Lib.hid (rfine_any ⟨5, n, d⟩)
  rw [errL_ok h1.1] at HC
  rw [okH_ok h1.2] at HF
  clear h1
  unfold lv hv at *
  dsimp only at *
  go_enter Try.func20, Try.ntmps20
  go_wp2_with fail
  refine (HC.out _).mono ?_
  rintro e w1 ⟨rfl, hb1⟩
  have a1 := (rboxA w (.int .i64 4) (.int .i64 g) (.int .i64 c) (.cells #[.int .i64 5, .int .i64 n, .int .i64 d] 31) (.cells #[z3, z3, z3] 23)).below hb1
  have b1 := box_cells hb1 (boxB w (.int .i64 5) (.int .i64 n) (.int .i64 d) (.cells #[.int .i64 4, .int .i64 g, .int .i64 c] 23) (.cells #[z3, z3, z3] 23))
  have r1 := RBox.below (rboxC w (.cells #[.int .i64 4, .int .i64 g, .int .i64 c] 23) (.cells #[.int .i64 5, .int .i64 n, .int .i64 d] 31)) hb1
  have hbw1 := below_into (below3 w _ _ _) hb1
  have HA1 := Lib.hid a1
  have HR1 := Lib.hid r1
  obtain ⟨b10, b11, b12⟩ := b1
  clear hb1 a1 r1
  go_wp2_with fail
  refine (HF.out _).mono ?_
  rintro e w2 ⟨rfl, hb2⟩
  have HB := Lib.hid (below_into hbw1 hb2)
  have HR := Lib.hid (HR1.out.below hb2)
  obtain ⟨a0, a1, a2, a3, a4, a5⟩ := (HA1.out.below hb2).f
  obtain ⟨b0, b1, b2⟩ := box_cells hb2 ⟨b10, b11, b12⟩
  obtain ⟨t0, t1, t2, t3, t4, t5⟩ := HR.out.f
  clear hb2 hbw1 HA1 HR1 b10 b11 b12
  go_wp2_with fail
  refine bodyPost_ret (v := .tuple #[.agg #[.int .i64 4, .int .i64 g, .int .i64 c], .int .i64 0]) (by simp [results, Try.results20, go_sem, t0, t1, t2]) rfl ⟨rfl, ?_⟩
  exact below_set3 (by omega) HB.out _ _ _

set_option maxHeartbeats 800000 in
theorem rh46 (g c n d : Int) (h1 : OkL ⟨4, g, c⟩ ∧ OkH ⟨6, n, d⟩) (w : World) : Calls Try.prog 20 #[lv ⟨4, g, c⟩, hv ⟨6, n, d⟩] w (HapPost w (happen ⟨4, g, c⟩ ⟨6, n, d⟩).1 (happen ⟨4, g, c⟩ ⟨6, n, d⟩).2) := by
  rw [happen_some h1 (x := ⟨4, g, c⟩) (by simp [step])]
  have HC := Lib.hid (rcheck_any ⟨4, g, c⟩)
  have HF := Lib.hid (rfine_any ⟨6, n, d⟩)
  rw [errL_ok h1.1] at HC
  rw [okH_ok h1.2] at HF
  clear h1
  unfold lv hv at *
  dsimp only at *
  go_enter Try.func20, Try.ntmps20
  go_wp2_with fail
  refine (HC.out _).mono ?_
  rintro e w1 ⟨rfl, hb1⟩
  have a1 := (rboxA w (.int .i64 4) (.int .i64 g) (.int .i64 c) (.cells #[.int .i64 6, .int .i64 n, .int .i64 d] 31) (.cells #[z3, z3, z3] 23)).below hb1
  have b1 := box_cells hb1 (boxB w (.int .i64 6) (.int .i64 n) (.int .i64 d) (.cells #[.int .i64 4, .int .i64 g, .int .i64 c] 23) (.cells #[z3, z3, z3] 23))
  have r1 := RBox.below (rboxC w (.cells #[.int .i64 4, .int .i64 g, .int .i64 c] 23) (.cells #[.int .i64 6, .int .i64 n, .int .i64 d] 31)) hb1
  have hbw1 := below_into (below3 w _ _ _) hb1
  have HA1 := Lib.hid a1
  have HR1 := Lib.hid r1
  obtain ⟨b10, b11, b12⟩ := b1
  clear hb1 a1 r1
  go_wp2_with fail
  refine (HF.out _).mono ?_
  rintro e w2 ⟨rfl, hb2⟩
  have HB := Lib.hid (below_into hbw1 hb2)
  have HR := Lib.hid (HR1.out.below hb2)
  obtain ⟨a0, a1, a2, a3, a4, a5⟩ := (HA1.out.below hb2).f
  obtain ⟨b0, b1, b2⟩ := box_cells hb2 ⟨b10, b11, b12⟩
  obtain ⟨t0, t1, t2, t3, t4, t5⟩ := HR.out.f
  clear hb2 hbw1 HA1 HR1 b10 b11 b12
  go_wp2_with fail
  refine bodyPost_ret (v := .tuple #[.agg #[.int .i64 4, .int .i64 g, .int .i64 c], .int .i64 0]) (by simp [results, Try.results20, go_sem, t0, t1, t2]) rfl ⟨rfl, ?_⟩
  exact below_set3 (by omega) HB.out _ _ _

theorem rhappen_ok (l : Lf) (h : Hp) (h1 : OkL l ∧ OkH h) (w : World) : Calls Try.prog 20 #[lv l, hv h] w (HapPost w (happen l h).1 (happen l h).2) := by
  have hl := h1.1
  have hh := h1.2
  obtain ⟨s, g, c⟩ := l
  obtain ⟨k, n, d⟩ := h
  unfold OkL at hl
  unfold OkH at hh
  dsimp only at hl hh
  have hs : s = 1 ∨ s = 2 ∨ s = 3 ∨ s = 4 := by omega
  have hk : k = 1 ∨ k = 2 ∨ k = 3 ∨ k = 4 ∨ k = 5 ∨ k = 6 := by omega
  rcases hs with rfl | rfl | rfl | rfl <;> rcases hk with rfl | rfl | rfl | rfl | rfl | rfl
  · exact rh11 g c n d h1 w
  · exact rh12 g c n d h1 w
  · exact rh13 g c n d h1 w
  · exact rh14 g c n d h1 w
  · exact rh15 g c n d h1 w
  · exact rh16 g c n d h1 w
  · exact rh21 g c n d h1 w
  · exact rh22 g c n d h1 w
  · exact rh23 g c n d h1 w
  · exact rh24 g c n d h1 w
  · exact rh25 g c n d h1 w
  · exact rh26 g c n d h1 w
  · exact rh31 g c n d h1 w
  · exact rh32 g c n d h1 w
  · exact rh33 g c n d h1 w
  · by_cases hg : g ≤ n
    · exact rh34D g c n d h1 hg w
    · exact rh34O g c n d h1 (by omega) (by omega) (by omega) w
  · exact rh35 g c n d h1 w
  · exact rh36 g c n d h1 w
  · exact rh41 g c n d h1 w
  · exact rh42 g c n d h1 w
  · exact rh43 g c n d h1 w
  · exact rh44 g c n d h1 w
  · exact rh45 g c n d h1 w
  · exact rh46 g c n d h1 w
set_option maxHeartbeats 800000 in
theorem rhappen_ba (l : Lf) (h : Hp) (h1 : ¬ (OkL l ∧ OkH h)) (w : World) : Calls Try.prog 20 #[lv l, hv h] w (HapPost w none' 2) := by
  have HC := Lib.hid (rcheck_any l)
  have HF := Lib.hid (rfine_any h)
  rcases errL_or l with ⟨hl, e⟩ | ⟨hl, e⟩
  · have e2 : okH h = false := by
      rcases okH_or h with ⟨hh, e2⟩ | ⟨hh, e2⟩
      · exact absurd ⟨hl, hh⟩ h1
      · exact e2
    rw [e] at HC
    rw [e2] at HF
    clear e e2 hl h1
    obtain ⟨s, g, c⟩ := l
    obtain ⟨k, n, d⟩ := h
    unfold lv hv at *
    dsimp only at *
    go_enter Try.func20, Try.ntmps20
    go_wp2_with fail
    refine (HC.out _).mono ?_
    rintro e w1 ⟨rfl, hb1⟩
    obtain ⟨b0, b1, b2⟩ := box_cells hb1 (boxB w (.int .i64 k) (.int .i64 n) (.int .i64 d) (.cells #[.int .i64 s, .int .i64 g, .int .i64 c] 23) (.cells #[z3, z3, z3] 23))
    have r1 := RBox.below (rboxC w (.cells #[.int .i64 s, .int .i64 g, .int .i64 c] 23) (.cells #[.int .i64 k, .int .i64 n, .int .i64 d] 31)) hb1
    have hbw1 := below_into (below3 w _ _ _) hb1
    have HR1 := Lib.hid r1
    clear hb1 r1
    go_wp2_with fail
    refine (HF.out _).mono ?_
    rintro e w2 ⟨rfl, hb2⟩
    have HB := Lib.hid (below_into hbw1 hb2)
    obtain ⟨t0, t1, t2, t3, t4, t5⟩ := (HR1.out.below hb2).f
    clear hb2 hbw1 b0 b1 b2
    go_wp2_with fail
    refine bodyPost_ret (v := .tuple #[.agg #[.int .i64 0, .int .i64 0, .int .i64 0], .int .i64 2]) (by simp [results, Try.results20, go_sem, t0, t1, t2]) rfl ⟨rfl, ?_⟩
    exact below_set3 (by omega) HB.out _ _ _
  · rw [e] at HC
    clear e hl h1
    obtain ⟨s, g, c⟩ := l
    obtain ⟨k, n, d⟩ := h
    unfold lv hv at *
    dsimp only at *
    go_enter Try.func20, Try.ntmps20
    go_wp2_with fail
    refine (HC.out _).mono ?_
    rintro e w1 ⟨rfl, hb1⟩
    have HB := Lib.hid (below_into (below3 w _ _ _) hb1)
    obtain ⟨t0, t1, t2, t3, t4, t5⟩ := (RBox.below (rboxC w (.cells #[.int .i64 s, .int .i64 g, .int .i64 c] 23) (.cells #[.int .i64 k, .int .i64 n, .int .i64 d] 31)) hb1).f
    clear hb1
    go_wp2_with fail
    refine bodyPost_ret (v := .tuple #[.agg #[.int .i64 0, .int .i64 0, .int .i64 0], .int .i64 2]) (by simp [results, Try.results20, go_sem, t0, t1, t2]) rfl ⟨rfl, ?_⟩
    exact below_set3 (by omega) HB.out _ _ _

theorem rhappen_any (l : Lf) (h : Hp) (w : World) : Calls Try.prog 20 #[lv l, hv h] w (HapPost w (happen l h).1 (happen l h).2) := by
  by_cases h1 : OkL l ∧ OkH h
  · exact rhappen_ok l h h1 w
  · rw [happen_bad h1]
    exact rhappen_ba l h h1 w

end Go.Proofs.Ytjfgjcoehahlcaa
