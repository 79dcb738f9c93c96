/-
  The walk of TaskNames.
-/
import Derived.Test.YtjfgjcoehahlcaaRun
import Derived.Deep.RegionHeld3
namespace Go.Proofs.Ytjfgjcoehahlcaa
open Go.RowKit
set_option linter.unusedVariables false

def nameB (s : Int) : List UInt8 := if s = 1 then [115, 101, 116, 117, 112] else if s = 2 then [114, 117, 110, 110, 105, 110, 103] else if s = 3 then [115, 116, 111, 112, 112, 105, 110, 103] else if s = 4 then [100, 101, 97, 100] else []

set_option maxRecDepth 100000 in
set_option maxHeartbeats 800000 in
theorem name_1 (w : World) : Calls Try.prog 12 #[.int .i64 1] w fun e w' => e = .returned (.string { data := #[115, 101, 116, 117, 112] }) ∧ Below w.heap.size w w' := by
  go_enter Try.func12, Try.ntmps12
  go_wp2_with fail
  go_ret
  exact ⟨rfl, below_alloc w _⟩
set_option maxRecDepth 100000 in
set_option maxHeartbeats 800000 in
theorem name_4 (w : World) : Calls Try.prog 12 #[.int .i64 4] w fun e w' => e = .returned (.string { data := #[100, 101, 97, 100] }) ∧ Below w.heap.size w w' := by
  go_enter Try.func12, Try.ntmps12
  go_wp2_with fail
  go_ret
  exact ⟨rfl, below_alloc w _⟩
set_option maxRecDepth 100000 in
set_option maxHeartbeats 800000 in
theorem name_5 (w : World) : Calls Try.prog 12 #[.int .i64 5] w fun e w' => e = .returned (.string { data := #[] }) ∧ Below w.heap.size w w' := by
  go_enter Try.func12, Try.ntmps12
  go_wp2_with fail
  go_ret
  exact ⟨rfl, below_alloc w _⟩

theorem hrow2' (w : World) (N : Nat) (hN : w.heap.size = N) (k n d k' n' d' : Int) : HRow (w.alloc (.cells #[.int .i64 k, .int .i64 n, .int .i64 d, .int .i64 k', .int .i64 n', .int .i64 d'] 31)) (some ⟨N, 0, none⟩) 2 [⟨k, n, d⟩, ⟨k', n', d'⟩] := by
  subst hN; exact hrow2 w k n d k' n' d'
theorem hrow1' (w : World) (N : Nat) (hN : w.heap.size = N) (k n d : Int) : HRow (w.alloc (.cells #[.int .i64 k, .int .i64 n, .int .i64 d] 31)) (some ⟨N, 0, none⟩) 1 [⟨k, n, d⟩] := by
  subst hN; exact hrow1 w k n d

theorem hrow_drew {w : World} {a : Option Addr} {n : Nat} {G : List Hp} (h : HRow w a n G) : HRow w.drew a n G := h

def tw (p q r t : Nat) (w : World) : Prop := Box w p (.int .i64 2) (.int .i64 0) (.int .i64 0) ∧ Box w q (.int .i64 4) (.int .i64 0) (.int .i64 7) ∧ Box w r (.int .i64 4) (.int .i64 0) (.int .i64 256) ∧ Box w t (.int .i64 4) (.int .i64 0) (.int .i64 256)

theorem tw_of {p q r t : Nat} {w2 w : World} (hb : Below w2.heap.size w2 w) (h : tw p q r t w2) :
    (w.cell? ⟨p, 0, none⟩ = some (.int .i64 2) ∧ w.cell? ⟨p, 1, none⟩ = some (.int .i64 0) ∧ w.cell? ⟨p, 2, none⟩ = some (.int .i64 0) ∧ w.cell? ⟨q, 0, none⟩ = some (.int .i64 4) ∧ w.cell? ⟨q, 1, none⟩ = some (.int .i64 0) ∧ w.cell? ⟨q, 2, none⟩ = some (.int .i64 7) ∧
     w.cell? ⟨r, 0, none⟩ = some (.int .i64 4) ∧ w.cell? ⟨r, 1, none⟩ = some (.int .i64 0) ∧ w.cell? ⟨r, 2, none⟩ = some (.int .i64 256) ∧ w.cell? ⟨t, 0, none⟩ = some (.int .i64 4) ∧ w.cell? ⟨t, 1, none⟩ = some (.int .i64 0) ∧ w.cell? ⟨t, 2, none⟩ = some (.int .i64 256)) ∧ Below w2.heap.size w2 w := by
  obtain ⟨h1, h2, h3, h4⟩ := h
  obtain ⟨a0, a1, a2⟩ := box_cells hb h1
  obtain ⟨b0, b1, b2⟩ := box_cells hb h2
  obtain ⟨c0, c1, c2⟩ := box_cells hb h3
  obtain ⟨d0, d1, d2⟩ := box_cells hb h4
  exact ⟨⟨a0, a1, a2, b0, b1, b2, c0, c1, c2, d0, d1, d2⟩, hb⟩
theorem RBox.b {w : World} {b : Nat} {x y z : Value} (h : RBox w b x y z) : Box w b x y z := box_row h

set_option maxRecDepth 100000 in
set_option maxHeartbeats 4000000 in
theorem taskNames_any (w : World) : Calls Try.prog 4 #[] w fun e w' => e = .returned (.bool true) ∧ Below w.heap.size w w' := by
  go_enter Try.func4, Try.ntmps4
  go_wp2_with fail
  refine (lives_any _).mono ?_
  rintro e w1 ⟨rfl, hb1⟩
  have HB1 := Lib.hid hb1
  clear hb1
  go_wp2_with fail
  refine (run_any ⟨2, 0, 0⟩ _ 2 2 [⟨2, 0, 7⟩, ⟨5, 0, 0⟩] (x := ⟨4, 0, 7⟩) (m := 0) (er := 0) _ (by decide) (hrow2' _ _ (by simp) 2 0 7 5 0 0) (by decide +kernel)).mono ?_
  rintro e w2 ⟨rfl, hb2⟩
  have r2 := (rbox1 w1 (.int .i64 2) (.int .i64 0) (.int .i64 0) (.cells #[.int .i64 2, .int .i64 0, .int .i64 7, .int .i64 5, .int .i64 0, .int .i64 0] 31)).below hb2
  have HB2 := Lib.hid (below_into (below2 w1 _ _) hb2)
  have R2 := Lib.hid r2
  clear hb2 r2
  unfold lv
  go_wp2_with fail
  refine (happen_to ⟨4, 0, 7⟩ ⟨1, 0, 0⟩ _ (y := none') (er := 13) (by decide +kernel) (en := 13) rfl).mono ?_
  rintro e w3 ⟨rfl, hb3⟩
  have r3 := (rbox_alloc w2 (.int .i64 4) (.int .i64 0) (.int .i64 7)).below hb3
  have R23 := Lib.hid ((R2.out.below (below_alloc _ _)).below hb3)
  have R3 := Lib.hid r3
  have HB3 := Lib.hid (below_into (below_alloc w2 _) hb3)
  clear hb3 r3
  unfold lv none'
  go_wp2_with fail
  refine (run_any ⟨1, 0, 0⟩ _ 1 1 [⟨3, 0, 0⟩] (x := ⟨4, 0, 256⟩) (m := 0) (er := 0) _ (by decide) (hrow1' _ _ (by simp) 3 0 0) (by decide +kernel)).mono ?_
  rintro e w4 ⟨rfl, hb4⟩
  have HB4 := Lib.hid (below_into (below2 w3 _ _) hb4)
  clear hb4
  unfold lv
  go_wp2_with fail
  refine (run_any ⟨3, 5, 0⟩ _ 1 1 [⟨2, 0, 0⟩] (x := ⟨4, 0, 256⟩) (m := 0) (er := 0) _ (by decide) (hrow1' _ _ (by simp) 2 0 0) (by decide +kernel)).mono ?_
  rintro e w5 ⟨rfl, hb5⟩
  have HB5 := Lib.hid (below_into (below2 w4 (.cells #[.int .i64 4, .int .i64 0, .int .i64 256] 23) _) hb5)
  have R64 := Lib.hid ((rbox1 w4 (.int .i64 4) (.int .i64 0) (.int .i64 256) (.cells #[.int .i64 2, .int .i64 0, .int .i64 0] 31)).below hb5)
  clear hb5
  unfold lv
  go_wp2_with fail
  have TW : Hid (tw w1.heap.size w2.heap.size w4.heap.size w5.heap.size (w5.alloc (.cells #[.int .i64 4, .int .i64 0, .int .i64 256] 23))) :=
    ⟨((R23.out.below (below_into HB4.out HB5.out)).below (below_alloc _ _)).b, ((R3.out.below (below_into HB4.out HB5.out)).below (below_alloc _ _)).b, (R64.out.below (below_alloc _ _)).b, (rbox_alloc w5 _ _ _).b⟩
  have HW : Hid (Below w.heap.size w (w5.alloc (.cells #[.int .i64 4, .int .i64 0, .int .i64 256] 23))) :=
    below_into HB1.out (below_into HB2.out (below_into HB3.out (below_into HB4.out (below_into HB5.out (below_alloc _ _)))))
  clear HB1 HB2 HB3 HB4 HB5 R2 R23 R3 R64
  obtain ⟨N5, hN5⟩ : ∃ N, w5.heap.size = N := ⟨_, rfl⟩
  rw [hN5] at TW ⊢
  clear hN5
  generalize w5.alloc (.cells #[.int .i64 4, .int .i64 0, .int .i64 256] 23) = w6 at *
  go_region_held3 (fun w' => (w'.cell? ⟨w1.heap.size, 0, none⟩ = some (.int .i64 2) ∧ w'.cell? ⟨w1.heap.size, 1, none⟩ = some (.int .i64 0) ∧ w'.cell? ⟨w1.heap.size, 2, none⟩ = some (.int .i64 0) ∧ w'.cell? ⟨w2.heap.size, 0, none⟩ = some (.int .i64 4) ∧ w'.cell? ⟨w2.heap.size, 1, none⟩ = some (.int .i64 0) ∧ w'.cell? ⟨w2.heap.size, 2, none⟩ = some (.int .i64 7) ∧ w'.cell? ⟨w4.heap.size, 0, none⟩ = some (.int .i64 4) ∧ w'.cell? ⟨w4.heap.size, 1, none⟩ = some (.int .i64 0) ∧ w'.cell? ⟨w4.heap.size, 2, none⟩ = some (.int .i64 256) ∧ w'.cell? ⟨N5, 0, none⟩ = some (.int .i64 4) ∧ w'.cell? ⟨N5, 1, none⟩ = some (.int .i64 0) ∧ w'.cell? ⟨N5, 2, none⟩ = some (.int .i64 256)) ∧ Below w6.heap.size w6 w')
    ((refine tw_of ?_ TW.out
      (repeat (first | refine Below.drew ?_ | refine below_fl hb10 ?_ | refine below_fl hb9 ?_ | refine below_fl hb8 ?_ | refine below_fl hb7 ?_ | refine below_fl (below_alloc _ _) ?_))
      exact Below.refl _ _))
    (first
      | (go_at_call 11; refine (run_any ⟨2, 0, 0⟩ _ 1 1 [⟨4, 2, 0⟩] (x := ⟨2, 0, 0⟩) (m := 0) (er := 0) _ (by decide) ?_ (by decide +kernel)).mono ?_; (first | exact hrow1' _ _ rfl 4 2 0 | exact hrow_drew (hrow1' _ _ rfl 4 2 0)); rintro e w7 ⟨rfl, hb7⟩; unfold lv)
      | (go_at_call_of 12 (Value.int IntKind.i64 1); refine (name_1 _).mono ?_; rintro e w8 ⟨rfl, hb8⟩)
      | (go_at_call_of 12 (Value.int IntKind.i64 4); refine (name_4 _).mono ?_; rintro e w9 ⟨rfl, hb9⟩)
      | (go_at_call_of 12 (Value.int IntKind.i64 5); refine (name_5 _).mono ?_; rintro e w10 ⟨rfl, hb10⟩))
  all_goals
    go_wp2_with fail
    go_ret
    refine ⟨rfl, ?_⟩
    (repeat (first | refine Below.drew ?_ | refine below_fl hb10 ?_ | refine below_fl hb9 ?_ | refine below_fl hb8 ?_ | refine below_fl hb7 ?_ | refine below_fl (below_alloc _ _) ?_))
    exact HW.out
end Go.Proofs.Ytjfgjcoehahlcaa
