/-
  The contracts of the law's run and lives.
-/
import Derived.Test.YtjfgjcoehahlcaaAll
namespace Go.Proofs.Ytjfgjcoehahlcaa
open Go.RowKit
set_option linter.unusedVariables false

theorem all_to (l : Lf) (a : Option Addr) (n c : Nat) (G : List Hp) (w : World) (hn : n ≤ 4194304) (hG : HRow w a n G) {x : Lf} {m er : Nat} (h : all l G = (x, m, er)) : Calls Try.prog 18 #[lv l, .slice a n c] w (AllPost w (x, m, er)) := by
  have := all_any l a n c G w hn hG
  rw [h] at this
  exact this

set_option maxRecDepth 100000 in
set_option maxHeartbeats 800000 in
theorem run_any (l : Lf) (a : Option Addr) (n c : Nat) (G : List Hp) (w : World) (hn : n ≤ 4194304) (hG : HRow w a n G) {x : Lf} {m er : Nat} (h : all l G = (x, m, er)) :
    Calls Try.prog 11 #[lv l, .slice a n c] w fun e w' => e = .returned (lv x) ∧ Below w.heap.size w w' := by
  have HH := Lib.hid h
  have HG := Lib.hid hG
  clear h hG
  obtain ⟨s, g, d⟩ := l
  unfold lv at *
  dsimp only at *
  go_enter Try.func11, Try.ntmps11
  go_wp2_with fail
  refine (all_to ⟨s, g, d⟩ _ _ _ G _ hn (HG.out.below (below2 w _ _)) HH.out).mono ?_
  rintro e w1 ⟨rfl, hb1⟩
  have rb := (rbox2 w (.cells #[.int .i64 s, .int .i64 g, .int .i64 d] 23)).below hb1
  obtain ⟨t0, t1, t2, t3, t4, t5⟩ := (rb.below (below_alloc w1 (.cells #[.int .i64 x.s, .int .i64 x.g, .int .i64 x.c] 23))).f
  have HW := Lib.hid (below_into (below2 w _ _) hb1)
  clear hb1 rb
  unfold lv
  dsimp only
  go_wp2_with fail
  refine bodyPost_ret (v := .agg #[.int .i64 x.s, .int .i64 x.g, .int .i64 x.c]) (by simp [results, Try.results11, go_sem, t0, t1, t2]) rfl ⟨rfl, below_set3 (by omega) (below_fl (below_alloc _ _) HW.out) _ _ _⟩

/-- happenings that were written out -/
theorem hrow1 (w : World) (k n d : Int) : HRow (w.alloc (.cells #[.int .i64 k, .int .i64 n, .int .i64 d] 31)) (some ⟨w.heap.size, 0, none⟩) 1 [⟨k, n, d⟩] := by
  have h := alloc_block w (.cells #[.int .i64 k, .int .i64 n, .int .i64 d] 31)
  refine ⟨rfl, fun _ => ⟨_, _, rfl, fun i hi => ?_⟩⟩
  obtain rfl : i = 0 := by omega
  refine ⟨?_, ?_, ?_⟩ <;> rw [cell_of_row _ _ _ _ _ _ h] <;> rfl
theorem hrow2 (w : World) (k n d k' n' d' : Int) : HRow (w.alloc (.cells #[.int .i64 k, .int .i64 n, .int .i64 d, .int .i64 k', .int .i64 n', .int .i64 d'] 31)) (some ⟨w.heap.size, 0, none⟩) 2 [⟨k, n, d⟩, ⟨k', n', d'⟩] := by
  have h := alloc_block w (.cells #[.int .i64 k, .int .i64 n, .int .i64 d, .int .i64 k', .int .i64 n', .int .i64 d'] 31)
  refine ⟨rfl, fun _ => ⟨_, _, rfl, fun i hi => ?_⟩⟩
  rcases (by omega : i = 0 ∨ i = 1) with rfl | rfl <;> refine ⟨?_, ?_, ?_⟩ <;> rw [cell_of_row _ _ _ _ _ _ h] <;> rfl
theorem hrow3 (w : World) (k n d k' n' d' k2 n2 d2 : Int) : HRow (w.alloc (.cells #[.int .i64 k, .int .i64 n, .int .i64 d, .int .i64 k', .int .i64 n', .int .i64 d', .int .i64 k2, .int .i64 n2, .int .i64 d2] 31)) (some ⟨w.heap.size, 0, none⟩) 3 [⟨k, n, d⟩, ⟨k', n', d'⟩, ⟨k2, n2, d2⟩] := by
  have h := alloc_block w (.cells #[.int .i64 k, .int .i64 n, .int .i64 d, .int .i64 k', .int .i64 n', .int .i64 d', .int .i64 k2, .int .i64 n2, .int .i64 d2] 31)
  refine ⟨rfl, fun _ => ⟨_, _, rfl, fun i hi => ?_⟩⟩
  rcases (by omega : i = 0 ∨ i = 1 ∨ i = 2) with rfl | rfl | rfl <;> refine ⟨?_, ?_, ?_⟩ <;> rw [cell_of_row _ _ _ _ _ _ h] <;> rfl

set_option maxRecDepth 100000 in
set_option maxHeartbeats 1600000 in
theorem lives_any (w : World) : Calls Try.prog 7 #[] w fun e w' => e = .returned (.bool true) ∧ Below w.heap.size w w' := by
  have R1 := Lib.hid (run_any ⟨1, 0, 0⟩ (some ⟨w.heap.size, 0, none⟩) 3 3 [⟨1, 0, 0⟩, ⟨3, 0, 0⟩, ⟨4, 3, 0⟩] (x := ⟨3, 2, 0⟩) (m := 0) (er := 0) _ (by decide) (hrow3 w 1 0 0 3 0 0 4 3 0) (by decide +kernel))
  go_enter Try.func7, Try.ntmps7
  go_wp2_with fail
  refine (R1.out).mono ?_
  rintro e w1 ⟨rfl, hb1⟩
  have HB1 := Lib.hid (below_into (below_alloc w _) hb1)
  clear hb1
  unfold lv
  go_wp2_with fail
  have hr := hrow1 (w1.alloc (.cells #[.int .i64 3, .int .i64 2, .int .i64 0] 23)) 4 2 0
  rw [show (w1.alloc (.cells #[.int .i64 3, .int .i64 2, .int .i64 0] 23)).heap.size = w1.heap.size + 1 by simp] at hr
  refine (run_any ⟨3, 2, 0⟩ _ 1 1 [⟨4, 2, 0⟩] (x := ⟨4, 0, 256⟩) (m := 0) (er := 0) _ (by decide) hr (by decide +kernel)).mono ?_
  rintro e w2 ⟨rfl, hb2⟩
  have HB2 := Lib.hid (below_into HB1.out (below_into (below2 w1 _ _) hb2))
  clear hb2 hr
  unfold lv
  go_wp2_with fail
  go_ret
  exact ⟨rfl, HB2.out⟩
end Go.Proofs.Ytjfgjcoehahlcaa
