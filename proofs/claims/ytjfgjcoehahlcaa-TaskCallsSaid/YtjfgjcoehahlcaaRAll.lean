/-
  The contract of the document's All.
-/
import Derived.Test.YtjfgjcoehahlcaaRHappen
import Derived.Test.YtjfgjcoehahlcaaAll
import Derived.Deep.RegionHeld3
namespace Go.Proofs.Ytjfgjcoehahlcaa
open Go.RowKit
set_option linter.unusedVariables false

theorem rhappen_to (l : Lf) (h : Hp) (w : World) {y : Lf} {er : Nat} (hh : happen l h = (y, er)) {en : Int} (he : (er : Int) = en) : Calls Try.prog 20 #[lv l, hv h] w (HapPost w y en) := by
  have := rhappen_any l h w
  rw [hh] at this
  subst he
  exact this

set_option maxRecDepth 100000 in
set_option maxHeartbeats 12000000 in
theorem rall_any (l : Lf) (a : Option Addr) (n c : Nat) (G : List Hp) (w : World) (hn : n ≤ 4194304) (hG : HRow w a n G) : Calls Try.prog 19 #[lv l, .slice a n c] w (AllPost w (all l G)) := by
  have HC := Lib.hid (rcheck_any l)
  have HG := Lib.hid hG
  have HL := Lib.hid hG.1
  clear hG
  by_cases hok : OkL l
  · rw [errL_ok hok] at HC
    have HOK := Lib.hid hok
    have HR0 := Lib.hid (runAt_start l G)
    obtain ⟨R, hR⟩ : ∃ R, run l 0 G = R := ⟨_, rfl⟩
    rw [hR] at HR0
    have HRR := Lib.hid hR
    clear hok hR
    obtain ⟨s, g, d⟩ := l
    unfold lv at *
    dsimp only at *
    go_enter Try.func19, Try.ntmps19
    go_wp2_with fail
    refine (HC.out _).mono ?_
    rintro e w1 ⟨rfl, hb1⟩
    have HA := Lib.hid ((rbox1 w (.int .i64 s) (.int .i64 g) (.int .i64 d) (.cells #[z3, z3, z3] 23)).below hb1)
    have HB := Lib.hid ((rbox2 w (.cells #[.int .i64 s, .int .i64 g, .int .i64 d] 23)).below hb1)
    have HW := Lib.hid (below_into (below2 w _ _) hb1)
    clear hb1
    go_wp2_with fail
    obtain ⟨p2, hp2⟩ : ∃ p, w.heap.size = p := ⟨_, rfl⟩
    rw [hp2] at HA HB ⊢
    have hpw : w.heap.size ≤ p2 := by omega
    go_loopw [7, 8] (fun cnt i wr => ∃ (k m : Nat) (x : Lf), k ≤ n ∧ i = .int .i64 k ∧ cnt = .int .i64 m ∧ m ≤ k ∧ RunAt G R k x m ∧ RBox wr p2 (.int .i64 x.s) (.int .i64 x.g) (.int .i64 x.c) ∧ RBox wr (p2 + 1) z3 z3 z3 ∧ Below w.heap.size w wr) (fun _ i _ => n - (intOf i).toNat)
    case atStart => exact ⟨0, 0, ⟨s, g, d⟩, by omega, rfl, rfl, by omega, HR0.out, HA.out, HB.out, HW.out⟩
    case round =>
      clear HA HB HW w1 hp2
      obtain ⟨k, m, x, hk, rfl, rfl, hm, hra, hra2, hrb, hbr⟩ := hrel
      by_cases hlt : k < n
      · obtain ⟨b, o, rfl, hbl, c0, c1, c2⟩ := (HG.out.below hbr).at k hlt
        have hkl : k < G.length := by rw [← HL.out]; exact hlt
        have i1 : (0 : Int) ≤ (k : Int) := by omega
        have i2 : (k : Int) < (n : Int) := by omega
        have HST : Hid ((∀ y, happen x (G.getD k hp0) = (y, 0) → RunAt G R (k + 1) y m) ∧ (∀ y, happen x (G.getD k hp0) = (y, 13) → RunAt G R (k + 1) x (m + 1)) ∧ (∀ y, happen x (G.getD k hp0) = (y, 2) → R = none)) :=
          ⟨fun y hy => runAt_ok hra hkl hy, fun y hy => runAt_no hra hkl hy, fun y hy => runAt_bad hra hkl hy⟩
        clear hra hkl
        generalize G.getD k hp0 = h0 at *
        obtain ⟨hk, hn, hc⟩ := h0
        obtain ⟨xs, xg, xc⟩ := x
        dsimp only at *
        obtain ⟨f0, f1, f2, f3, f4, f5⟩ := hra2.f
        have C0 := Lib.hid c0
        have C1 := Lib.hid c1
        have C2 := Lib.hid c2
        have F0 := Lib.hid f0
        have F1 := Lib.hid f1
        have F2 := Lib.hid f2
        have RA := Lib.hid hra2
        have RB := Lib.hid hrb
        have HBR := Lib.hid hbr
        have hps : p2 < wr.heap.size := hra2.lt
        clear hra2 hrb hbr f3 f4 f5
        rcases happen_ends ⟨xs, xg, xc⟩ ⟨hk, hn, hc⟩ with ⟨y, hy, _, _⟩ | ⟨hy, _, _⟩ | ⟨hy, _⟩
        · have HY := Lib.hid (HST.out.1 y hy)
          obtain ⟨ys, yg, yc⟩ := y
          have HH := Lib.hid hy
          clear hy HST
          go_wp2_with fail
          go_region_held3 (fun w' => (w'.cell? ⟨p2, 0, none⟩ = some (.int .i64 xs) ∧ w'.cell? ⟨p2, 1, none⟩ = some (.int .i64 xg) ∧ w'.cell? ⟨p2, 2, none⟩ = some (.int .i64 xc) ∧ w'.cell? ⟨b, o + k * 3, none⟩ = some (.int .i64 hk) ∧ w'.cell? ⟨b, o + k * 3 + 1, none⟩ = some (.int .i64 hn) ∧ w'.cell? ⟨b, o + k * 3 + 2, none⟩ = some (.int .i64 hc)) ∧ Below wr.heap.size wr w')
            ((refine six_any ?_ F0.out F1.out F2.out C0.out C1.out C2.out
              (repeat (first | refine Below.drew ?_ | refine below_fl hb4 ?_ | refine below_fl (below_alloc _ _) ?_ | refine below_st (Nat.le_refl _) ?_))
              exact Below.refl _ _))
            (first
              | (go_at_call 20; refine (rhappen_to ⟨xs, xg, xc⟩ ⟨hk, hn, hc⟩ _ HH.out (en := 0) rfl).mono ?_; rintro e w4 ⟨rfl, hb4⟩; (first | have u2 := RA.out.drew.below hb4 | have u2 := (RA.out.below (below_alloc _ _)).drew.below hb4); (try (have yy := (RBox.below (rbox_alloc wr z3 z3 z3).drew hb4 : RBox w4 wr.heap.size _ _ _); obtain ⟨y0, y1, y2, y3, y4, y5⟩ := yy.f)); unfold lv))
          all_goals
            first
              | (obtain ⟨wx, hwx⟩ : ∃ wx, w4.alloc (.cells #[.int .i64 ys, .int .i64 yg, .int .i64 yc] 23) = wx := ⟨_, rfl⟩
                 rw [hwx]
                 have q1 : RBox wx w4.heap.size (.int .i64 ys) (.int .i64 yg) (.int .i64 yc) := by rw [← hwx]; exact rbox_alloc w4 _ _ _
                 have q2 : RBox wx p2 (.int .i64 xs) (.int .i64 xg) (.int .i64 xc) := by rw [← hwx]; exact u2.below (below_alloc _ _)
                 have q3 : Below wr.heap.size wr wx := by
                   rw [← hwx]
                   (repeat (first | refine Below.drew ?_ | refine below_fl hb4 ?_ | refine below_fl (below_alloc _ _) ?_))
                   exact Below.refl _ _
                 obtain ⟨p10, hp10⟩ : ∃ p, w4.heap.size = p := ⟨_, rfl⟩
                 rw [hp10] at q1 ⊢
                 clear hwx hp10)
              | (obtain ⟨wx, hwx⟩ : ∃ wx, ((w4.setCell ⟨wr.heap.size, 0, none⟩ (.int .i64 ys)).setCell ⟨wr.heap.size, 1, none⟩ (.int .i64 yg)).setCell ⟨wr.heap.size, 2, none⟩ (.int .i64 yc) = wx := ⟨_, rfl⟩
                 rw [hwx]
                 have q1 : RBox wx wr.heap.size (.int .i64 ys) (.int .i64 yg) (.int .i64 yc) := by rw [← hwx]; exact yy.set3 _ _ _
                 have q2 : RBox wx p2 (.int .i64 xs) (.int .i64 xg) (.int .i64 xc) := by rw [← hwx]; exact u2.other3 (by omega) _ _ _
                 have q3 : Below wr.heap.size wr wx := by
                   rw [← hwx]
                   refine below_set3 (Nat.le_refl _) ?_ _ _ _
                   (repeat (first | refine Below.drew ?_ | refine below_fl hb4 ?_ | refine below_fl (below_alloc _ _) ?_))
                   exact Below.refl _ _
                 obtain ⟨p10, hp10⟩ : ∃ p, wr.heap.size = p := ⟨_, rfl⟩
                 rw [hp10] at q1 ⊢
                 clear hwx hp10)
            obtain ⟨m0, m1, m2, m3, m4, m5⟩ := q1.f
            obtain ⟨n0, n1, n2, n3, n4, n5⟩ := q2.f
            have R6 := Lib.hid (q2.set3 (.int .i64 ys) (.int .i64 yg) (.int .i64 yc))
            have RB6 := Lib.hid ((RB.out.below q3).other3 (p := p2) (by omega) (.int .i64 ys) (.int .i64 yg) (.int .i64 yc))
            have HW6 := Lib.hid (below_set3 hpw (below_fl q3 HBR.out) (.int .i64 ys) (.int .i64 yg) (.int .i64 yc))
            clear q1 q2 q3 hb4 u2
            go_wp2_with fail
            go_roundw
            case rel => exact ⟨k + 1, m, ⟨ys, yg, yc⟩, by omega, by go_num, rfl, by omega, HY.out, R6.out, RB6.out, HW6.out⟩
            case measure => simp [intOf]; omega
        · have HY := Lib.hid (HST.out.2.1 none' hy)
          have HH := Lib.hid hy
          clear hy HST
          go_wp2_with fail
          go_region_held3 (fun w' => (w'.cell? ⟨p2, 0, none⟩ = some (.int .i64 xs) ∧ w'.cell? ⟨p2, 1, none⟩ = some (.int .i64 xg) ∧ w'.cell? ⟨p2, 2, none⟩ = some (.int .i64 xc) ∧ w'.cell? ⟨b, o + k * 3, none⟩ = some (.int .i64 hk) ∧ w'.cell? ⟨b, o + k * 3 + 1, none⟩ = some (.int .i64 hn) ∧ w'.cell? ⟨b, o + k * 3 + 2, none⟩ = some (.int .i64 hc)) ∧ Below wr.heap.size wr w')
            ((refine six_any ?_ F0.out F1.out F2.out C0.out C1.out C2.out
              (repeat (first | refine Below.drew ?_ | refine below_fl hb4 ?_ | refine below_fl (below_alloc _ _) ?_ | refine below_st (Nat.le_refl _) ?_))
              exact Below.refl _ _))
            (first
              | (go_at_call 20; refine (rhappen_to ⟨xs, xg, xc⟩ ⟨hk, hn, hc⟩ _ HH.out (en := 13) rfl).mono ?_; rintro e w4 ⟨rfl, hb4⟩; (first | have u2 := RA.out.drew.below hb4 | have u2 := (RA.out.below (below_alloc _ _)).drew.below hb4); (try (have yy := (RBox.below (rbox_alloc wr z3 z3 z3).drew hb4 : RBox w4 wr.heap.size _ _ _); obtain ⟨y0, y1, y2, y3, y4, y5⟩ := yy.f)); unfold lv none'))
          all_goals
            first
              | (obtain ⟨wx, hwx⟩ : ∃ wx, w4.alloc (.cells #[.int .i64 0, .int .i64 0, .int .i64 0] 23) = wx := ⟨_, rfl⟩
                 rw [hwx]
                 have q1 : RBox wx w4.heap.size (.int .i64 0) (.int .i64 0) (.int .i64 0) := by rw [← hwx]; exact rbox_alloc w4 _ _ _
                 have q2 : RBox wx p2 (.int .i64 xs) (.int .i64 xg) (.int .i64 xc) := by rw [← hwx]; exact u2.below (below_alloc _ _)
                 have q3 : Below wr.heap.size wr wx := by
                   rw [← hwx]
                   (repeat (first | refine Below.drew ?_ | refine below_fl hb4 ?_ | refine below_fl (below_alloc _ _) ?_))
                   exact Below.refl _ _
                 obtain ⟨p10, hp10⟩ : ∃ p, w4.heap.size = p := ⟨_, rfl⟩
                 rw [hp10] at q1 ⊢
                 clear hwx hp10)
              | (obtain ⟨wx, hwx⟩ : ∃ wx, ((w4.setCell ⟨wr.heap.size, 0, none⟩ (.int .i64 0)).setCell ⟨wr.heap.size, 1, none⟩ (.int .i64 0)).setCell ⟨wr.heap.size, 2, none⟩ (.int .i64 0) = wx := ⟨_, rfl⟩
                 rw [hwx]
                 have q1 : RBox wx wr.heap.size (.int .i64 0) (.int .i64 0) (.int .i64 0) := by rw [← hwx]; exact yy.set3 _ _ _
                 have q2 : RBox wx p2 (.int .i64 xs) (.int .i64 xg) (.int .i64 xc) := by rw [← hwx]; exact u2.other3 (by omega) _ _ _
                 have q3 : Below wr.heap.size wr wx := by
                   rw [← hwx]
                   refine below_set3 (Nat.le_refl _) ?_ _ _ _
                   (repeat (first | refine Below.drew ?_ | refine below_fl hb4 ?_ | refine below_fl (below_alloc _ _) ?_))
                   exact Below.refl _ _
                 obtain ⟨p10, hp10⟩ : ∃ p, wr.heap.size = p := ⟨_, rfl⟩
                 rw [hp10] at q1 ⊢
                 clear hwx hp10)
            obtain ⟨m0, m1, m2, m3, m4, m5⟩ := q1.f
            have R6 := Lib.hid q2
            have RB6 := Lib.hid (RB.out.below q3)
            have HW6 := Lib.hid (below_fl q3 HBR.out)
            clear q1 q2 q3 hb4 u2
            go_wp2_with fail
            go_roundw
            case rel => exact ⟨k + 1, m + 1, ⟨xs, xg, xc⟩, by omega, by go_num, by go_num, by omega, HY.out, R6.out, RB6.out, HW6.out⟩
            case measure => simp [intOf]; omega
        · have HY := Lib.hid (all_none HOK.out (HRR.out.trans (HST.out.2.2 none' hy)))
          have HH := Lib.hid hy
          clear hy HST
          go_wp2_with fail
          go_region_held3 (fun w' => (w'.cell? ⟨p2, 0, none⟩ = some (.int .i64 xs) ∧ w'.cell? ⟨p2, 1, none⟩ = some (.int .i64 xg) ∧ w'.cell? ⟨p2, 2, none⟩ = some (.int .i64 xc) ∧ w'.cell? ⟨b, o + k * 3, none⟩ = some (.int .i64 hk) ∧ w'.cell? ⟨b, o + k * 3 + 1, none⟩ = some (.int .i64 hn) ∧ w'.cell? ⟨b, o + k * 3 + 2, none⟩ = some (.int .i64 hc)) ∧ Below wr.heap.size wr w')
            ((refine six_any ?_ F0.out F1.out F2.out C0.out C1.out C2.out
              (repeat (first | refine Below.drew ?_ | refine below_fl hb4 ?_ | refine below_fl (below_alloc _ _) ?_ | refine below_st (Nat.le_refl _) ?_))
              exact Below.refl _ _))
            (first
              | (go_at_call 20; refine (rhappen_to ⟨xs, xg, xc⟩ ⟨hk, hn, hc⟩ _ HH.out (en := 2) rfl).mono ?_; rintro e w4 ⟨rfl, hb4⟩; (first | have u2 := RA.out.drew.below hb4 | have u2 := (RA.out.below (below_alloc _ _)).drew.below hb4); (try (have yy := (RBox.below (rbox_alloc wr z3 z3 z3).drew hb4 : RBox w4 wr.heap.size _ _ _); obtain ⟨y0, y1, y2, y3, y4, y5⟩ := yy.f)); unfold lv none'))
          all_goals
            first
              | (obtain ⟨wx, hwx⟩ : ∃ wx, w4.alloc (.cells #[.int .i64 0, .int .i64 0, .int .i64 0] 23) = wx := ⟨_, rfl⟩
                 rw [hwx]
                 have q1 : RBox wx w4.heap.size (.int .i64 0) (.int .i64 0) (.int .i64 0) := by rw [← hwx]; exact rbox_alloc w4 _ _ _
                 have q2 : RBox wx p2 (.int .i64 xs) (.int .i64 xg) (.int .i64 xc) := by rw [← hwx]; exact u2.below (below_alloc _ _)
                 have q3 : Below wr.heap.size wr wx := by
                   rw [← hwx]
                   (repeat (first | refine Below.drew ?_ | refine below_fl hb4 ?_ | refine below_fl (below_alloc _ _) ?_))
                   exact Below.refl _ _
                 obtain ⟨p10, hp10⟩ : ∃ p, w4.heap.size = p := ⟨_, rfl⟩
                 rw [hp10] at q1 ⊢
                 clear hwx hp10)
              | (obtain ⟨wx, hwx⟩ : ∃ wx, ((w4.setCell ⟨wr.heap.size, 0, none⟩ (.int .i64 0)).setCell ⟨wr.heap.size, 1, none⟩ (.int .i64 0)).setCell ⟨wr.heap.size, 2, none⟩ (.int .i64 0) = wx := ⟨_, rfl⟩
                 rw [hwx]
                 have q1 : RBox wx wr.heap.size (.int .i64 0) (.int .i64 0) (.int .i64 0) := by rw [← hwx]; exact yy.set3 _ _ _
                 have q2 : RBox wx p2 (.int .i64 xs) (.int .i64 xg) (.int .i64 xc) := by rw [← hwx]; exact u2.other3 (by omega) _ _ _
                 have q3 : Below wr.heap.size wr wx := by
                   rw [← hwx]
                   refine below_set3 (Nat.le_refl _) ?_ _ _ _
                   (repeat (first | refine Below.drew ?_ | refine below_fl hb4 ?_ | refine below_fl (below_alloc _ _) ?_))
                   exact Below.refl _ _
                 obtain ⟨p10, hp10⟩ : ∃ p, wr.heap.size = p := ⟨_, rfl⟩
                 rw [hp10] at q1 ⊢
                 clear hwx hp10)
            obtain ⟨t0, t1, t2, t3, t4, t5⟩ := (RB.out.below q3).f
            have HW6 := Lib.hid (below_fl q3 HBR.out)
            clear q1 q2 q3 hb4 u2
            go_wp2_with fail
            refine bodyPost_ret (v := .tuple #[.agg #[.int .i64 0, .int .i64 0, .int .i64 0], .int .i64 0, .int .i64 2]) (by simp [results, Try.results19, go_sem, t0, t1, t2]) rfl (by rw [HY.out]; exact ⟨rfl, below_set3 (by omega) HW6.out _ _ _⟩)
      · have HY := Lib.hid (all_some HOK.out (HRR.out.trans (runAt_end hra (by rw [← HL.out]; omega))))
        obtain ⟨f0, f1, f2, f3, f4, f5⟩ := hra2.f
        obtain ⟨t0, t1, t2, t3, t4, t5⟩ := hrb.f
        have HBR := Lib.hid hbr
        clear hra hra2 hrb hbr
        go_wp2_with fail
        refine bodyPost_ret (v := .tuple #[.agg #[.int .i64 x.s, .int .i64 x.g, .int .i64 x.c], .int .i64 m, .int .i64 0]) (by simp [results, Try.results19, go_sem, t0, t1, t2]) rfl (by rw [HY.out]; exact ⟨rfl, below_set3 (by omega) HBR.out _ _ _⟩)
  · have he : errL l = 2 := if_neg hok
    rw [he] at HC
    rw [all_bad hok]
    clear he hok
    obtain ⟨s, g, d⟩ := l
    unfold lv at *
    dsimp only at *
    go_enter Try.func19, Try.ntmps19
    go_wp2_with fail
    refine (HC.out _).mono ?_
    rintro e w1 ⟨rfl, hb1⟩
    obtain ⟨t0, t1, t2, t3, t4, t5⟩ := ((rbox2 w (.cells #[.int .i64 s, .int .i64 g, .int .i64 d] 23)).below hb1).f
    have HW := Lib.hid (below_into (below2 w _ _) hb1)
    clear hb1
    go_wp2_with fail
    exact bodyPost_ret (v := .tuple #[.agg #[.int .i64 0, .int .i64 0, .int .i64 0], .int .i64 0, .int .i64 2]) (by simp [results, Try.results19, go_sem, t0, t1, t2]) rfl ⟨rfl, below_set3 (by omega) HW.out _ _ _⟩
end Go.Proofs.Ytjfgjcoehahlcaa

