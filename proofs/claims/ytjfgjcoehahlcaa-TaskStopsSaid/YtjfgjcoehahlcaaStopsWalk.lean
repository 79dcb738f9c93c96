/-
  The walk of TaskStops.
-/
import Derived.Test.YtjfgjcoehahlcaaStopsPlain
import Derived.Test.YtjfgjcoehahlcaaRun
import Derived.Deep.RegionHeld3
namespace Go.Proofs.Ytjfgjcoehahlcaa
open Go.RowKit
set_option linter.unusedVariables false

theorem cell_other3 {w : World} {b p : Nat} (hp : b ≠ p) (x y z : Value) (i : Nat) : (((w.setCell ⟨p, 0, none⟩ x).setCell ⟨p, 1, none⟩ y).setCell ⟨p, 2, none⟩ z).cell? ⟨b, i, none⟩ = w.cell? ⟨b, i, none⟩ := by
  have h : (((w.setCell ⟨p, 0, none⟩ x).setCell ⟨p, 1, none⟩ y).setCell ⟨p, 2, none⟩ z).heap[b]? = w.heap[b]? := (heap_setCell_other _ _ _ _ hp).trans ((heap_setCell_other _ _ _ _ hp).trans (heap_setCell_other _ _ _ _ hp))
  unfold World.cell?
  rw [h]

set_option maxRecDepth 100000 in
set_option maxHeartbeats 12000000 in
theorem taskStops_any (l : Lf) (a : Option Addr) (n c : Nat) (G : List Hp) (w : World) (hG : HRow w a n G) (hn48 : n ≤ 140737488351232) :
    Calls Try.prog 5 #[lv l, .slice a n c] w fun e w' => e = .returned (.bool true) ∧ Below w.heap.size w w' := by
  have HC := Lib.hid (check_any l)
  have HBD := Lib.hid (bound_any l)
  have HG := Lib.hid hG
  have HL := Lib.hid hG.1
  have hE := errL_or l
  clear hG
  by_cases h200 : 200 < n
  · obtain ⟨s, g, d⟩ := l
    unfold lv at *
    dsimp only at *
    clear hE
    go_enter Try.func5, Try.ntmps5
    go_wp2_with fail
    refine (lives_any _).mono ?_
    rintro e w1 ⟨rfl, hb1⟩
    have HW := Lib.hid (below_into (below_alloc w _) hb1)
    clear hb1
    go_wp2_with fail
    go_ret
    exact ⟨rfl, HW.out⟩
  · rcases hE with ⟨hok, he⟩ | ⟨hok, he⟩
    · obtain ⟨x0, hx0, hst⟩ := stp_start l hok
      rw [he] at HC
      have HX0 := Lib.hid hx0
      have HST := Lib.hid hst
      clear hok he hx0 hst
      generalize bound l = B at *
      obtain ⟨s, g, d⟩ := l
      unfold lv at *
      dsimp only at *
      go_enter Try.func5, Try.ntmps5
      go_wp2_with fail
      refine (lives_any _).mono ?_
      rintro e w1 ⟨rfl, hb1⟩
      have R1 := Lib.hid ((rbox_alloc w (.int .i64 s) (.int .i64 g) (.int .i64 d)).below hb1)
      have HW1 := Lib.hid (below_into (below_alloc w _) hb1)
      obtain ⟨f0, f1, f2, _, _, _⟩ := R1.out.f
      clear hb1
      go_wp2_with fail
      refine (HC.out _).mono ?_
      rintro e w2 ⟨rfl, hb2⟩
      have R2 := Lib.hid (R1.out.below hb2)
      have HW2 := Lib.hid (below_into HW1.out hb2)
      clear hb2 f0 f1 f2
      obtain ⟨f0, f1, f2, _, _, _⟩ := R2.out.f
      go_wp2_with fail
      refine (HBD.out _).mono ?_
      rintro e w3 ⟨rfl, hb3⟩
      have R3 := Lib.hid (R2.out.below hb3)
      have HW3 := Lib.hid (below_into HW2.out hb3)
      clear hb3 f0 f1 f2
      obtain ⟨f0, f1, f2, _, _, _⟩ := R3.out.f
      go_wp2_with fail
      refine (happen_to ⟨s, g, d⟩ ⟨3, 0, 0⟩ _ HX0.out (en := 0) rfl).mono ?_
      rintro e w4 ⟨rfl, hb4⟩
      have HW4 := Lib.hid (below_into HW3.out hb4)
      have hp6 : w.heap.size ≤ w4.heap.size := HW4.out.size
      clear hb4 f0 f1 f2 R1 R2 R3 HW1 HW2 HW3
      unfold lv
      dsimp only
      go_wp2_with fail
      have RB := Lib.hid (rbox_alloc w4 (.int .i64 x0.s) (.int .i64 x0.g) (.int .i64 x0.c))
      have HW5 := Lib.hid (below_into HW4.out (below_alloc w4 (.cells #[.int .i64 x0.s, .int .i64 x0.g, .int .i64 x0.c] 23)))
      generalize w4.alloc (.cells #[.int .i64 x0.s, .int .i64 x0.g, .int .i64 x0.c] 23) = w5 at *
      generalize w4.heap.size = p6 at *
      go_loopw [8, 9] (fun tv i wr => ∃ (k : Nat) (t : Int) (x : Lf), k ≤ n ∧ i = .int .i64 k ∧ tv = .int .i64 t ∧ 0 ≤ t ∧ t ≤ k * 1048576 ∧ Stp B x t ∧ RBox wr p6 (.int .i64 x.s) (.int .i64 x.g) (.int .i64 x.c) ∧ Below w.heap.size w wr) (fun _ i _ => n - (intOf i).toNat)
      case atStart => exact ⟨0, 0, x0, by omega, rfl, rfl, by omega, by omega, HST.out, RB.out, HW5.out⟩
      case round =>
        clear RB HW5 HW4 HST HX0 w5 HC HBD
        obtain ⟨k, t, x, hk, rfl, rfl, ht0, ht1, hst, hra, hbr⟩ := hrel
        by_cases hlt : k < n
        · obtain ⟨b, o, rfl, hbl, c0, c1, c2⟩ := (HG.out.below hbr).at k hlt
          have hbw : b < w.heap.size := by
            obtain ⟨b', o', e', hb', _⟩ := HG.out.at k hlt
            simp only [Option.some.injEq, Addr.mk.injEq, and_true] at e'
            rw [e'.1]; exact hb'
          have i1 : (0 : Int) ≤ (k : Int) := by omega
          have i2 : (k : Int) < (n : Int) := by omega
          generalize G.getD k hp0 = h0 at *
          obtain ⟨hk, hn, hc⟩ := h0
          obtain ⟨xs, xg, xc⟩ := x
          dsimp only at *
          obtain ⟨f0, f1, f2, f3, f4, f5⟩ := hra.f
          have C0 := Lib.hid c0
          have C1 := Lib.hid c1
          have C2 := Lib.hid c2
          have F0 := Lib.hid f0
          have F1 := Lib.hid f1
          have F2 := Lib.hid f2
          have RA := Lib.hid hra
          have HBR := Lib.hid hbr
          have hps : p6 < wr.heap.size := hra.lt
          have hws : w.heap.size ≤ wr.heap.size := hbr.size
          clear hra hbr f3 f4 f5
          rcases happen_ends ⟨xs, xg, xc⟩ ⟨hk, hn, hc⟩ with ⟨y, hy, _, _⟩ | ⟨hy, _, _⟩ | ⟨hy, _⟩
          · have hs := stp_step hst ht0 hy
            obtain ⟨ys, yg, yc⟩ := y
            dsimp only at hs
            have HS := Lib.hid hs
            have HH := Lib.hid hy
            clear hy hst hs
            go_wp2_with fail
            go_region_held3 (fun w' => (w'.cell? ⟨p6, 0, none⟩ = some (.int .i64 xs) ∧ w'.cell? ⟨p6, 1, none⟩ = some (.int .i64 xg) ∧ w'.cell? ⟨p6, 2, none⟩ = some (.int .i64 xc) ∧ w'.cell? ⟨b, o + k * 3, none⟩ = some (.int .i64 hk) ∧ w'.cell? ⟨b, o + k * 3 + 1, none⟩ = some (.int .i64 hn) ∧ w'.cell? ⟨b, o + k * 3 + 2, none⟩ = some (.int .i64 hc)) ∧ Below wr.heap.size wr w')
              ((refine six_any ?_ F0.out F1.out F2.out C0.out C1.out C2.out
                (repeat (first | refine Below.drew ?_ | refine below_fl hb4 ?_ | refine below_fl (below_alloc _ _) ?_ | refine below_st (Nat.le_refl _) ?_))
                exact Below.refl _ _))
              (first
                | (go_at_call 9; refine (happen_to ⟨xs, xg, xc⟩ ⟨hk, hn, hc⟩ _ HH.out (en := 0) rfl).mono ?_; rintro e w4 ⟨rfl, hb4⟩; (first | have u2 := RA.out.drew.below hb4 | have u2 := (RA.out.below (below_alloc _ _)).drew.below hb4); (try (have yy := (RBox.below (rbox_alloc wr z3 z3 z3).drew hb4 : RBox w4 wr.heap.size _ _ _); obtain ⟨y0, y1, y2, y3, y4, y5⟩ := yy.f)); unfold lv))
            all_goals
              first
                | (obtain ⟨wx, hwx⟩ : ∃ wx, w4.alloc (.cells #[.int .i64 ys, .int .i64 yg, .int .i64 yc] 23) = wx := ⟨_, rfl⟩
                   rw [hwx]
                   have q1 : RBox wx w4.heap.size (.int .i64 ys) (.int .i64 yg) (.int .i64 yc) := by rw [← hwx]; exact rbox_alloc w4 _ _ _
                   have q2 : RBox wx p6 (.int .i64 xs) (.int .i64 xg) (.int .i64 xc) := by rw [← hwx]; exact u2.below (below_alloc _ _)
                   have q3 : Below wr.heap.size wr wx := by
                     rw [← hwx]
                     (repeat (first | refine Below.drew ?_ | refine below_fl hb4 ?_ | refine below_fl (below_alloc _ _) ?_))
                     exact Below.refl _ _
                   obtain ⟨p10, hp10⟩ : ∃ p, w4.heap.size = p := ⟨_, rfl⟩
                   rw [hp10] at q1 ⊢
                   clear hwx hp10)
                | (obtain ⟨wx, hwx⟩ : ∃ wx, ((w4.setCell ⟨wr.heap.size, 0, none⟩ (.int .i64 ys)).setCell ⟨wr.heap.size, 1, none⟩ (.int .i64 yg)).setCell ⟨wr.heap.size, 2, none⟩ (.int .i64 yc) = wx := ⟨_, rfl⟩
                   rw [hwx]
                   have q1 : RBox wx wr.heap.size (.int .i64 ys) (.int .i64 yg) (.int .i64 yc) := by rw [← hwx]; exact yy.set3 _ _ _
                   have q2 : RBox wx p6 (.int .i64 xs) (.int .i64 xg) (.int .i64 xc) := by rw [← hwx]; exact u2.other3 (by omega) _ _ _
                   have q3 : Below wr.heap.size wr wx := by
                     rw [← hwx]
                     refine below_set3 (Nat.le_refl _) ?_ _ _ _
                     (repeat (first | refine Below.drew ?_ | refine below_fl hb4 ?_ | refine below_fl (below_alloc _ _) ?_))
                     exact Below.refl _ _
                   obtain ⟨p10, hp10⟩ : ∃ p, wr.heap.size = p := ⟨_, rfl⟩
                   rw [hp10] at q1 ⊢
                   clear hwx hp10)
              obtain ⟨⟨g0, g1, g2, k0, k1, k2⟩, _⟩ := six_any q3 F0.out F1.out F2.out C0.out C1.out C2.out
              obtain ⟨m0, m1, m2, m3, m4, m5⟩ := q1.f
              obtain ⟨n0, n1, n2, n3, n4, n5⟩ := q2.f
              have z0 := (cell_other3 (w := wx) (b := b) (p := p6) (by omega) (.int .i64 ys) (.int .i64 yg) (.int .i64 yc) (o + k * 3)).trans k0
              have z1 := (cell_other3 (w := wx) (b := b) (p := p6) (by omega) (.int .i64 ys) (.int .i64 yg) (.int .i64 yc) (o + k * 3 + 1)).trans k1
              have r6 := q2.set3 (.int .i64 ys) (.int .i64 yg) (.int .i64 yc)
              obtain ⟨r60, r61, r62, _, _, _⟩ := r6.f
              have R6 := Lib.hid r6
              have HW6 := Lib.hid (below_set3 hp6 (below_fl q3 HBR.out) (.int .i64 ys) (.int .i64 yg) (.int .i64 yc))
              clear q1 q2 q3 r6 hb4 u2
              by_cases hk4 : hk = 4
              · obtain ⟨hn0, hn1, hs4⟩ := HS.out.1 hk4
                have HS4 := Lib.hid hs4
                subst hk4
                rcases hs4 with hs4 | ⟨hs4, hg4, hb4'⟩
                all_goals
                  dsimp only at hs4
                  subst hs4
                · go_wp2_with fail
                  all_goals
                    go_roundw
                    case rel => exact ⟨k + 1, t + hn, ⟨4, yg, yc⟩, by omega, by go_num, by go_num, by omega, by omega, HS4.out, R6.out, HW6.out⟩
                    case measure => simp [intOf]; omega
                · dsimp only at hg4 hb4'
                  have hlt4 : t + hn < B := by omega
                  have hdec : decide (B ≤ t + hn) = false := decide_eq_false (by omega)
                  clear hb4' hg4
                  go_wp2_with fail
                  go_roundw
                  case rel => exact ⟨k + 1, t + hn, ⟨3, yg, yc⟩, by omega, by go_num, by go_num, by omega, by omega, HS4.out, R6.out, HW6.out⟩
                  case measure => simp [intOf]; omega
              · have hs4 := HS.out.2 hk4
                have HS4 := Lib.hid hs4
                have hdk : (hk == 4) = false := by rw [beq_eq_false_iff_ne]; exact hk4
                rcases hs4 with hs4 | ⟨hs4, hg4, hb4'⟩
                all_goals
                  dsimp only at hs4
                  subst hs4
                · go_wp2_with fail
                  all_goals
                    go_roundw
                    case rel => exact ⟨k + 1, t, ⟨4, yg, yc⟩, by omega, by go_num, rfl, by omega, by omega, HS4.out, R6.out, HW6.out⟩
                    case measure => simp [intOf]; omega
                · dsimp only at hg4 hb4'
                  have hlt4 : t < B := by omega
                  have hdec : decide (B ≤ t) = false := decide_eq_false (by omega)
                  clear hb4' hg4
                  go_wp2_with fail
                  go_roundw
                  case rel => exact ⟨k + 1, t, ⟨3, yg, yc⟩, by omega, by go_num, rfl, by omega, by omega, HS4.out, R6.out, HW6.out⟩
                  case measure => simp [intOf]; omega
          · have HH := Lib.hid hy
            have HST := Lib.hid hst
            clear hy hst
            go_wp2_with fail
            go_region_held3 (fun w' => (w'.cell? ⟨p6, 0, none⟩ = some (.int .i64 xs) ∧ w'.cell? ⟨p6, 1, none⟩ = some (.int .i64 xg) ∧ w'.cell? ⟨p6, 2, none⟩ = some (.int .i64 xc) ∧ w'.cell? ⟨b, o + k * 3, none⟩ = some (.int .i64 hk) ∧ w'.cell? ⟨b, o + k * 3 + 1, none⟩ = some (.int .i64 hn) ∧ w'.cell? ⟨b, o + k * 3 + 2, none⟩ = some (.int .i64 hc)) ∧ Below wr.heap.size wr w')
              ((refine six_any ?_ F0.out F1.out F2.out C0.out C1.out C2.out
                (repeat (first | refine Below.drew ?_ | refine below_fl hb4 ?_ | refine below_fl (below_alloc _ _) ?_ | refine below_st (Nat.le_refl _) ?_))
                exact Below.refl _ _))
              (first
                | (go_at_call 9; refine (happen_to ⟨xs, xg, xc⟩ ⟨hk, hn, hc⟩ _ HH.out (en := 13) rfl).mono ?_; rintro e w4 ⟨rfl, hb4⟩; (first | have u2 := RA.out.drew.below hb4 | have u2 := (RA.out.below (below_alloc _ _)).drew.below hb4); (try (have yy := (RBox.below (rbox_alloc wr z3 z3 z3).drew hb4 : RBox w4 wr.heap.size _ _ _); obtain ⟨y0, y1, y2, y3, y4, y5⟩ := yy.f)); unfold lv none'))
            all_goals
              first
                | (obtain ⟨wx, hwx⟩ : ∃ wx, w4.alloc (.cells #[.int .i64 0, .int .i64 0, .int .i64 0] 23) = wx := ⟨_, rfl⟩
                   rw [hwx]
                   have q1 : RBox wx w4.heap.size (.int .i64 0) (.int .i64 0) (.int .i64 0) := by rw [← hwx]; exact rbox_alloc w4 _ _ _
                   have q2 : RBox wx p6 (.int .i64 xs) (.int .i64 xg) (.int .i64 xc) := by rw [← hwx]; exact u2.below (below_alloc _ _)
                   have q3 : Below wr.heap.size wr wx := by
                     rw [← hwx]
                     (repeat (first | refine Below.drew ?_ | refine below_fl hb4 ?_ | refine below_fl (below_alloc _ _) ?_))
                     exact Below.refl _ _
                   obtain ⟨p10, hp10⟩ : ∃ p, w4.heap.size = p := ⟨_, rfl⟩
                   rw [hp10] at q1 ⊢
                   clear hwx hp10)
                | (obtain ⟨wx, hwx⟩ : ∃ wx, ((w4.setCell ⟨wr.heap.size, 0, none⟩ (.int .i64 0)).setCell ⟨wr.heap.size, 1, none⟩ (.int .i64 0)).setCell ⟨wr.heap.size, 2, none⟩ (.int .i64 0) = wx := ⟨_, rfl⟩
                   rw [hwx]
                   have q1 : RBox wx wr.heap.size (.int .i64 0) (.int .i64 0) (.int .i64 0) := by rw [← hwx]; exact yy.set3 _ _ _
                   have q2 : RBox wx p6 (.int .i64 xs) (.int .i64 xg) (.int .i64 xc) := by rw [← hwx]; exact u2.other3 (by omega) _ _ _
                   have q3 : Below wr.heap.size wr wx := by
                     rw [← hwx]
                     refine below_set3 (Nat.le_refl _) ?_ _ _ _
                     (repeat (first | refine Below.drew ?_ | refine below_fl hb4 ?_ | refine below_fl (below_alloc _ _) ?_))
                     exact Below.refl _ _
                   obtain ⟨p10, hp10⟩ : ∃ p, wr.heap.size = p := ⟨_, rfl⟩
                   rw [hp10] at q1 ⊢
                   clear hwx hp10)
              have R6 := Lib.hid q2
              have HW6 := Lib.hid (below_fl q3 HBR.out)
              clear q1 q2 q3 hb4 u2
              go_wp2_with fail
              go_roundw
              case rel => exact ⟨k + 1, t, ⟨xs, xg, xc⟩, by omega, by go_num, rfl, by omega, by omega, HST.out, R6.out, HW6.out⟩
              case measure => simp [intOf]; omega
          · have HH := Lib.hid hy
            have HST := Lib.hid hst
            clear hy hst
            go_wp2_with fail
            go_region_held3 (fun w' => (w'.cell? ⟨p6, 0, none⟩ = some (.int .i64 xs) ∧ w'.cell? ⟨p6, 1, none⟩ = some (.int .i64 xg) ∧ w'.cell? ⟨p6, 2, none⟩ = some (.int .i64 xc) ∧ w'.cell? ⟨b, o + k * 3, none⟩ = some (.int .i64 hk) ∧ w'.cell? ⟨b, o + k * 3 + 1, none⟩ = some (.int .i64 hn) ∧ w'.cell? ⟨b, o + k * 3 + 2, none⟩ = some (.int .i64 hc)) ∧ Below wr.heap.size wr w')
              ((refine six_any ?_ F0.out F1.out F2.out C0.out C1.out C2.out
                (repeat (first | refine Below.drew ?_ | refine below_fl hb4 ?_ | refine below_fl (below_alloc _ _) ?_ | refine below_st (Nat.le_refl _) ?_))
                exact Below.refl _ _))
              (first
                | (go_at_call 9; refine (happen_to ⟨xs, xg, xc⟩ ⟨hk, hn, hc⟩ _ HH.out (en := 2) rfl).mono ?_; rintro e w4 ⟨rfl, hb4⟩; (first | have u2 := RA.out.drew.below hb4 | have u2 := (RA.out.below (below_alloc _ _)).drew.below hb4); (try (have yy := (RBox.below (rbox_alloc wr z3 z3 z3).drew hb4 : RBox w4 wr.heap.size _ _ _); obtain ⟨y0, y1, y2, y3, y4, y5⟩ := yy.f)); unfold lv none'))
            all_goals
              first
                | (obtain ⟨wx, hwx⟩ : ∃ wx, w4.alloc (.cells #[.int .i64 0, .int .i64 0, .int .i64 0] 23) = wx := ⟨_, rfl⟩
                   rw [hwx]
                   have q1 : RBox wx w4.heap.size (.int .i64 0) (.int .i64 0) (.int .i64 0) := by rw [← hwx]; exact rbox_alloc w4 _ _ _
                   have q2 : RBox wx p6 (.int .i64 xs) (.int .i64 xg) (.int .i64 xc) := by rw [← hwx]; exact u2.below (below_alloc _ _)
                   have q3 : Below wr.heap.size wr wx := by
                     rw [← hwx]
                     (repeat (first | refine Below.drew ?_ | refine below_fl hb4 ?_ | refine below_fl (below_alloc _ _) ?_))
                     exact Below.refl _ _
                   obtain ⟨p10, hp10⟩ : ∃ p, w4.heap.size = p := ⟨_, rfl⟩
                   rw [hp10] at q1 ⊢
                   clear hwx hp10)
                | (obtain ⟨wx, hwx⟩ : ∃ wx, ((w4.setCell ⟨wr.heap.size, 0, none⟩ (.int .i64 0)).setCell ⟨wr.heap.size, 1, none⟩ (.int .i64 0)).setCell ⟨wr.heap.size, 2, none⟩ (.int .i64 0) = wx := ⟨_, rfl⟩
                   rw [hwx]
                   have q1 : RBox wx wr.heap.size (.int .i64 0) (.int .i64 0) (.int .i64 0) := by rw [← hwx]; exact yy.set3 _ _ _
                   have q2 : RBox wx p6 (.int .i64 xs) (.int .i64 xg) (.int .i64 xc) := by rw [← hwx]; exact u2.other3 (by omega) _ _ _
                   have q3 : Below wr.heap.size wr wx := by
                     rw [← hwx]
                     refine below_set3 (Nat.le_refl _) ?_ _ _ _
                     (repeat (first | refine Below.drew ?_ | refine below_fl hb4 ?_ | refine below_fl (below_alloc _ _) ?_))
                     exact Below.refl _ _
                   obtain ⟨p10, hp10⟩ : ∃ p, wr.heap.size = p := ⟨_, rfl⟩
                   rw [hp10] at q1 ⊢
                   clear hwx hp10)
              have R6 := Lib.hid q2
              have HW6 := Lib.hid (below_fl q3 HBR.out)
              clear q1 q2 q3 hb4 u2
              go_wp2_with fail
              go_roundw
              case rel => exact ⟨k + 1, t, ⟨xs, xg, xc⟩, by omega, by go_num, rfl, by omega, by omega, HST.out, R6.out, HW6.out⟩
              case measure => simp [intOf]; omega
        · obtain ⟨xs, xg, xc⟩ := x
          dsimp only at *
          obtain ⟨f0, f1, f2, f3, f4, f5⟩ := hra.f
          have HBR := Lib.hid hbr
          clear hra hbr
          rcases hst with hs4 | ⟨hs4, hg4, hb4'⟩
          all_goals
            dsimp only at hs4
            subst hs4
          · go_wp2_with fail
            all_goals
              go_ret
              exact ⟨rfl, HBR.out⟩
          · dsimp only at hg4 hb4'
            have hB0 : 0 < B := by omega
            have hdec : decide (0 < B) = true := decide_eq_true hB0
            clear hb4' hg4
            go_wp2_with fail
            go_ret
            exact ⟨rfl, HBR.out⟩
    · rw [he] at HC
      clear he hok
      obtain ⟨s, g, d⟩ := l
      unfold lv at *
      dsimp only at *
      go_enter Try.func5, Try.ntmps5
      go_wp2_with fail
      refine (lives_any _).mono ?_
      rintro e w1 ⟨rfl, hb1⟩
      obtain ⟨f0, f1, f2, _, _, _⟩ := ((rbox_alloc w (.int .i64 s) (.int .i64 g) (.int .i64 d)).below hb1).f
      have HW1 := Lib.hid (below_into (below_alloc w _) hb1)
      clear hb1
      go_wp2_with fail
      refine (HC.out _).mono ?_
      rintro e w2 ⟨rfl, hb2⟩
      have HW2 := Lib.hid (below_into HW1.out hb2)
      clear hb2
      go_wp2_with fail
      go_ret
      exact ⟨rfl, HW2.out⟩
end Go.Proofs.Ytjfgjcoehahlcaa
