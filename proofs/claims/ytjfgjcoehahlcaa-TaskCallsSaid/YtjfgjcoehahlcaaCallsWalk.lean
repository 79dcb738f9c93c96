/-
  The walk of TaskCalls.
-/
import Derived.Test.YtjfgjcoehahlcaaRAll
import Derived.Test.YtjfgjcoehahlcaaRun
import Derived.Test.YtjfgjcoehahlcaaNameAny
import Derived.Test.YtjfgjcoehahlcaaHapStep
import Derived.Deep.RegionHeld3
import Derived.Deep.Cut
import Derived.BigQuiet
namespace Go.Proofs.Ytjfgjcoehahlcaa
open Go.RowKit
set_option linter.unusedVariables false

theorem below_drewN {B : Nat} {a w : World} (h : Below B a w) (n : Nat) : Below B a (w.drewN n) := ⟨h.os, h.tape, h.output, h.size, h.block⟩

theorem nameOf_str (s : Int) : ∃ x, nameOf s = .string x := by
  unfold nameOf
  repeat' split
  all_goals exact ⟨_, rfl⟩

theorem own31_drew {w : World} {base : Nat} {v : Value} {n : Nat} {xs : List Value} (h : w.ownsRow base 31 3 v n xs) : w.drew.ownsRow base 31 3 v n xs := h

theorem own_e' (w : World) (N base : Nat) (hN : w.heap.size = N) (hb : base ≤ w.heap.size) : (w.alloc (.cells #[] 31)).ownsRow base 31 3 (.slice (some ⟨N, 0, none⟩) 0 0) 0 [] := by
  subst hN; exact own_e w base hb

theorem three_any {w2 w : World} {p : Nat} {x y z : Value} (hb : Below w2.heap.size w2 w) (h : Box w2 p x y z) : (w.cell? ⟨p, 0, none⟩ = some x ∧ w.cell? ⟨p, 1, none⟩ = some y ∧ w.cell? ⟨p, 2, none⟩ = some z) ∧ Below w2.heap.size w2 w :=
  ⟨box_cells hb h, hb⟩

set_option maxRecDepth 100000 in
set_option maxHeartbeats 16000000 in
theorem taskCalls_any (l : Lf) (a : Option Addr) (n c : Nat) (G : List Hp) (st : Int) (w : World) (hG : HRow w a n G) (hnil : a = none → c = 0) (hn48 : n ≤ 140737488351232) :
    Calls Try.prog 6 #[lv l, .slice a n c, .int .i64 st] w fun e w' => e = .returned (.bool true) ∧ Below w.heap.size w w' := by
  have HG := Lib.hid hG
  have HL := Lib.hid hG.1
  have HNIL := Lib.hid hnil
  have HC1 := Lib.hid (check_any l)
  have HC2 := Lib.hid (rcheck_any l)
  have HT1 := Lib.hid (takes_any l)
  have HT2 := Lib.hid (rtakes_any l)
  have HB1 := Lib.hid (bound_any l)
  have HB2 := Lib.hid (rbound_any l)
  have HN1 := Lib.hid (name_any st)
  have HN2 := Lib.hid (rname_any st)
  clear hG hnil
  generalize errL l = r at *
  generalize takes l = tk at *
  generalize bound l = bd at *
  obtain ⟨nb, hnb⟩ := nameOf_str st
  rw [hnb] at HN1 HN2
  clear hnb
  obtain ⟨⟨ax, am, ae⟩, hall⟩ : ∃ q, all l G = q := ⟨_, rfl⟩
  have HALL := Lib.hid hall
  clear hall
  obtain ⟨s, g, d⟩ := l
  unfold lv at *
  dsimp only at *
  go_enter Try.func6, Try.ntmps6
  go_wp2_with fail
  refine (lives_any _).mono ?_
  rintro e w1 ⟨rfl, hb1⟩
  have R1 := Lib.hid ((rbox_alloc w (.int .i64 s) (.int .i64 g) (.int .i64 d)).below hb1)
  have HW1 := Lib.hid (below_into (below_alloc w _) hb1)
  obtain ⟨f0, f1, f2, _, _, _⟩ := R1.out.f
  obtain ⟨p3, hp3⟩ : ∃ p, w.heap.size = p := ⟨_, rfl⟩
  have hpw : w.heap.size ≤ p3 := by omega
  clear hb1
  go_wp2_with fail
  try rw [hp3] at R1
  try rw [hp3] at f0
  try rw [hp3] at f1
  try rw [hp3] at f2
  try rw [hp3]
  clear hp3
  have Q1 := Lib.hid (box_row R1.out)
  by_cases h200 : 200 < n
  · have hd : decide ((200 : Int) < (n : Int)) = true := decide_eq_true (by omega)
    go_quiet (fail)
    go_wp2_with fail
    go_ret
    exact ⟨rfl, below_drewN HW1.out _⟩
  · have hd : decide ((200 : Int) < (n : Int)) = false := decide_eq_false (by omega)
    go_region_held3 (fun w' => (w'.cell? ⟨p3, 0, none⟩ = some (.int .i64 s) ∧ w'.cell? ⟨p3, 1, none⟩ = some (.int .i64 g) ∧ w'.cell? ⟨p3, 2, none⟩ = some (.int .i64 d)) ∧ Below w1.heap.size w1 w')
      ((refine three_any ?_ Q1.out
        (repeat (first | refine Below.drew ?_ | refine below_fl hb17 ?_ | refine below_fl hb12 ?_ | refine below_fl hb16 ?_ | refine below_fl hb13 ?_ | refine below_fl hb15 ?_ | refine below_fl hb10 ?_ | refine below_fl hb14 ?_ | refine below_fl hb8 ?_))
        exact Below.refl _ _))
      (first
        | (go_at_call 8; refine (HC1.out _).mono ?_; rintro e w8 ⟨rfl, hb8⟩)
        | (go_at_call 14; refine (HC2.out _).mono ?_; rintro e w14 ⟨rfl, hb14⟩)
        | (go_at_call 10; refine (HT1.out _).mono ?_; rintro e w10 ⟨rfl, hb10⟩)
        | (go_at_call 15; refine (HT2.out _).mono ?_; rintro e w15 ⟨rfl, hb15⟩)
        | (go_at_call 13; refine (HB1.out _).mono ?_; rintro e w13 ⟨rfl, hb13⟩)
        | (go_at_call 16; refine (HB2.out _).mono ?_; rintro e w16 ⟨rfl, hb16⟩)
        | (go_at_call 12; refine (HN1.out _).mono ?_; rintro e w12 ⟨rfl, hb12⟩)
        | (go_at_call 17; refine (HN2.out _).mono ?_; rintro e w17 ⟨rfl, hb17⟩))
    have HALL' := HALL
    all_goals
      obtain ⟨w3, hw3⟩ : ∃ x, w17 = x := ⟨_, rfl⟩
      have q3 : Below w1.heap.size w1 w3 := by
        rw [← hw3]
        (repeat (first | refine Below.drew ?_ | refine below_fl hb17 ?_ | refine below_fl hb12 ?_ | refine below_fl hb16 ?_ | refine below_fl hb13 ?_ | refine below_fl hb15 ?_ | refine below_fl hb10 ?_ | refine below_fl hb14 ?_ | refine below_fl hb8 ?_))
        exact Below.refl _ _
      rw [hw3]
      clear hw3
      have R3 := Lib.hid (R1.out.below q3)
      have HW3 := Lib.hid (below_into HW1.out q3)
      have Q3 := Lib.hid (box_row R3.out)
      have HG3 := Lib.hid (HG.out.below HW3.out)
      clear q3 f0 f1 f2 Q1
      obtain ⟨f0, f1, f2, _, _, _⟩ := R3.out.f
      go_wp2_with fail
      have hn4 : n ≤ 4194304 := by omega
      have e1 : (w3.alloc (.cells #[z3, z3, z3] 23)).heap.size = w3.heap.size + 1 := by simp
      have e2 : (w3.alloc (.cells #[] 31)).heap.size = w3.heap.size + 1 := by simp
      have E1 := Lib.hid e1
      have E2 := Lib.hid e2
      have B1 := Lib.hid (below_alloc w3 (.cells #[z3, z3, z3] 23))
      have B2 := Lib.hid (below_alloc w3 (.cells #[] 31))
      have L1 := Lib.hid B1.out.size
      have B3 : Hid (Below w3.heap.size w3 ((w3.alloc (.cells #[z3, z3, z3] 23)).alloc (.cells #[] 31)).drew) := (below_fl (below_alloc (w3.alloc (.cells #[z3, z3, z3] 23)) (.cells #[] 31)) B1.out).drew
      have B4 : Hid (Below w3.heap.size w3 ((w3.alloc (.cells #[] 31)).alloc (.cells #[z3, z3, z3] 23)).drew) := (below_fl (below_alloc (w3.alloc (.cells #[] 31)) (.cells #[z3, z3, z3] 23)) B2.out).drew
      have O3 : Hid (((w3.alloc (.cells #[z3, z3, z3] 23)).alloc (.cells #[] 31)).drew.ownsRow w3.heap.size 31 3 (.slice (some ⟨w3.heap.size + 1, 0, none⟩) 0 0) 0 []) := own_e' (w3.alloc (.cells #[z3, z3, z3] 23)) (w3.heap.size + 1) w3.heap.size E1.out L1.out
      have O4 : Hid (((w3.alloc (.cells #[] 31)).alloc (.cells #[z3, z3, z3] 23)).drew.ownsRow w3.heap.size 31 3 (.slice (some ⟨w3.heap.size, 0, none⟩) 0 0) 0 []) := own31_drew (own31_below (own_e w3 _ (Nat.le_refl _)) (below_alloc (w3.alloc (.cells #[] 31)) (.cells #[z3, z3, z3] 23)))
      have X3 : Hid (RBox ((w3.alloc (.cells #[z3, z3, z3] 23)).alloc (.cells #[] 31)).drew w3.heap.size z3 z3 z3) := ((rbox_alloc w3 z3 z3 z3).below (below_alloc (w3.alloc (.cells #[z3, z3, z3] 23)) (.cells #[] 31))).drew
      have X4 : Hid (RBox ((w3.alloc (.cells #[] 31)).alloc (.cells #[z3, z3, z3] 23)).drew (w3.heap.size + 1) z3 z3 z3) := by
        have h := (rbox_alloc (w3.alloc (.cells #[] 31)) z3 z3 z3).drew
        rw [E2.out] at h
        exact h
      clear e1 e2
      go_cut [7, 8, 9] from 51 (fun s7 s8 s9 wx => ∃ p7, s7 = .pointer (some ⟨p7, 0, none⟩) ∧ s8 = .int .i64 am ∧ s9 = .int .i64 ae ∧ RBox wx p7 (.int .i64 ax.s) (.int .i64 ax.g) (.int .i64 ax.c) ∧ RBox wx p3 (.int .i64 s) (.int .i64 g) (.int .i64 d) ∧ Below w.heap.size w wx)
      case first =>
        go_region_held3 (fun w' => (w'.cell? ⟨p3, 0, none⟩ = some (.int .i64 s) ∧ w'.cell? ⟨p3, 1, none⟩ = some (.int .i64 g) ∧ w'.cell? ⟨p3, 2, none⟩ = some (.int .i64 d)) ∧ Below w3.heap.size w3 w')
          ((refine three_any ?_ Q3.out
            (repeat (first | refine Below.drew ?_ | refine below_fl hb9 ?_ | refine below_fl (below_alloc _ _) ?_ | refine below_st (Nat.le_refl _) ?_ | refine below_st (Nat.le_succ _) ?_ | refine below_st hz7 ?_))
            (first | exact hb7 | exact Below.refl _ _)))
          (first
            | (refine step_hap rfl (.tmp 56) (.tmp 57) rfl (w0 := w3) (w := (w3.alloc (.cells #[] 31)).drew) _ rfl B2.out.drew (own_e w3 _ (Nat.le_refl _)) _ _ _ G rfl HG3.out HNIL.out hn4 ?_; intro va vc w7 hrow hb7 hkeep hsz7; have hz7 : w3.heap.size ≤ w7.heap.size := hb7.size)
            | (refine step_hap rfl (.tmp 56) (.tmp 57) rfl (w0 := w3) _ rfl B3.out O3.out _ _ _ G rfl HG3.out HNIL.out hn4 ?_; intro va vc w7 hrow hb7 hkeep hsz7; have hz7 : w3.heap.size ≤ w7.heap.size := hb7.size; have x := hkeep _ _ _ _ X3.out)
            | (refine step_hap rfl (.tmp 56) (.tmp 57) rfl (w0 := w3) _ rfl B4.out O4.out _ _ _ G rfl HG3.out HNIL.out hn4 ?_; intro va vc w7 hrow hb7 hkeep hsz7; have hz7 : w3.heap.size ≤ w7.heap.size := hb7.size; have x := hkeep _ _ _ _ X4.out)
            | (go_at_call 18; refine (all_to ⟨s, g, d⟩ va n vc G _ hn4 ?_ HALL.out).mono ?_; (first | exact hrow | exact hrow.below (below_alloc _ _)); rintro e w9 ⟨rfl, hb9⟩; (try (have yy := x.below hb9; obtain ⟨y0, y1, y2, y3, y4, y5⟩ := yy.f)); (try (have yy := (RBox.below (rbox_alloc w7 z3 z3 z3) hb9 : RBox w9 w7.heap.size _ _ _); obtain ⟨y0, y1, y2, y3, y4, y5⟩ := yy.f)); unfold lv))
        all_goals
          have u9 : RBox w9 p3 (.int .i64 s) (.int .i64 g) (.int .i64 d) := by
            first
              | exact (R3.out.below hb7).below hb9
              | exact ((R3.out.below hb7).below (below_alloc _ _)).below hb9
          have v9 : Below w3.heap.size w3 w9 := by
            (repeat (first | refine Below.drew ?_ | refine below_fl hb9 ?_ | refine below_fl (below_alloc _ _) ?_))
            exact hb7
          have hp3 := R3.out.lt
          go_wp2_with fail
          go_meet
          first
            | (refine ⟨_, rfl, rfl, rfl, rbox_alloc w9 _ _ _, u9.below (below_alloc _ _), ?_⟩
               exact below_into HW3.out (below_fl (below_alloc _ _) v9))
            | (refine ⟨_, rfl, rfl, rfl, yy.set3 _ _ _, u9.other3 (by omega) _ _ _, ?_⟩
               first
                 | exact below_into HW3.out (below_set3 (Nat.le_refl _) v9 _ _ _)
                 | exact below_into HW3.out (below_set3 (Nat.le_succ _) v9 _ _ _)
                 | exact below_into HW3.out (below_set3 hz7 v9 _ _ _))
      case rest =>
        obtain ⟨p7, rfl, rfl, rfl, q1, q2, hW7⟩ := hcut
        have R7 := Lib.hid q1
        have R37 := Lib.hid q2
        have HW7 := Lib.hid hW7
        have HG7 := Lib.hid (HG.out.below HW7.out)
        clear f0 f1 f2
        obtain ⟨g0, g1, g2, _, _, _⟩ := q2.f
        clear q1 q2 hW7
        go_wp2_with fail
        refine (rall_any ⟨s, g, d⟩ _ _ _ G _ hn4 HG7.out).mono ?_
        rintro e wb ⟨rfl, hbb⟩
        rw [HALL.out]
        have R7b := Lib.hid ((R7.out.below hbb).below (below_alloc wb (.cells #[.int .i64 ax.s, .int .i64 ax.g, .int .i64 ax.c] 23)))
        have R3b := Lib.hid ((R37.out.below hbb).below (below_alloc wb (.cells #[.int .i64 ax.s, .int .i64 ax.g, .int .i64 ax.c] 23)))
        have HWb := Lib.hid (below_into (below_into HW7.out hbb) (below_alloc wb (.cells #[.int .i64 ax.s, .int .i64 ax.g, .int .i64 ax.c] 23)))
        obtain ⟨k0, k1, k2, _, _, _⟩ := R7b.out.f
        unfold lv
        dsimp only
        clear g0 g1 g2 hbb
        go_wp2_with fail
        go_loopw [13] (fun i wr => ∃ (k : Nat) (x : Lf), k ≤ n ∧ i = .int .i64 k ∧ RBox wr p3 (.int .i64 x.s) (.int .i64 x.g) (.int .i64 x.c) ∧ Below w.heap.size w wr) (fun i _ => n - (intOf i).toNat)
        case atStart => exact ⟨0, ⟨s, g, d⟩, by omega, rfl, R3b.out, HWb.out⟩
        case round =>
          obtain ⟨k, x, hk, rfl, hra, hbr⟩ := hrel
          by_cases hlt : k < n
          · obtain ⟨b, o, rfl, hbl, c0, c1, c2⟩ := (HG.out.below hbr).at k hlt
            have i1 : (0 : Int) ≤ (k : Int) := by omega
            have i2 : (k : Int) < (n : Int) := by omega
            generalize G.getD k hp0 = h0 at *
            obtain ⟨hk, hn, hc⟩ := h0
            obtain ⟨xs, xg, xc⟩ := x
            dsimp only at *
            obtain ⟨f0, f1, f2, f3, f4, f5⟩ := hra.f
            have C0 := Lib.hid c0
            have C1 := Lib.hid c1
            have C2 := Lib.hid c2
            have F0 := Lib.hid f0
            have F1 := Lib.hid f1
            have F2 := Lib.hid f2
            have RA := Lib.hid hra
            have HBR := Lib.hid hbr
            have hps : p3 < wr.heap.size := hra.lt
            clear hra hbr f3 f4 f5 k0 k1 k2
            rcases happen_ends ⟨xs, xg, xc⟩ ⟨hk, hn, hc⟩ with ⟨y, hy, _, _⟩ | ⟨hy, _, _⟩ | ⟨hy, _⟩
            · obtain ⟨ys, yg, yc⟩ := y
              have HH := Lib.hid hy
              clear hy
              go_wp2_with fail
              go_region_held3 (fun w' => (w'.cell? ⟨p3, 0, none⟩ = some (.int .i64 xs) ∧ w'.cell? ⟨p3, 1, none⟩ = some (.int .i64 xg) ∧ w'.cell? ⟨p3, 2, none⟩ = some (.int .i64 xc) ∧ w'.cell? ⟨b, o + k * 3, none⟩ = some (.int .i64 hk) ∧ w'.cell? ⟨b, o + k * 3 + 1, none⟩ = some (.int .i64 hn) ∧ w'.cell? ⟨b, o + k * 3 + 2, none⟩ = some (.int .i64 hc)) ∧ Below wr.heap.size wr w')
                ((refine six_any ?_ F0.out F1.out F2.out C0.out C1.out C2.out
                  (repeat (first | refine Below.drew ?_ | refine below_fl hb4 ?_ | refine below_fl (below_alloc _ _) ?_ | refine below_st (Nat.le_refl _) ?_))
                  exact Below.refl _ _))
                (first
                  | (go_at_call 9; refine (happen_to ⟨xs, xg, xc⟩ ⟨hk, hn, hc⟩ _ HH.out (en := 0) rfl).mono ?_; rintro e w4 ⟨rfl, hb4⟩; (first | have u2 := RA.out.drew.below hb4 | have u2 := (RA.out.below (below_alloc _ _)).drew.below hb4); (try (have yy := (RBox.below (rbox_alloc wr z3 z3 z3).drew hb4 : RBox w4 wr.heap.size _ _ _); obtain ⟨y0, y1, y2, y3, y4, y5⟩ := yy.f)); unfold lv))
              all_goals
                first
                  | (obtain ⟨wx, hwx⟩ : ∃ wx, w4.alloc (.cells #[.int .i64 ys, .int .i64 yg, .int .i64 yc] 23) = wx := ⟨_, rfl⟩
                     rw [hwx]
                     have q1 : RBox wx w4.heap.size (.int .i64 ys) (.int .i64 yg) (.int .i64 yc) := by rw [← hwx]; exact rbox_alloc w4 _ _ _
                     have q2 : RBox wx p3 (.int .i64 xs) (.int .i64 xg) (.int .i64 xc) := by rw [← hwx]; exact u2.below (below_alloc _ _)
                     have q3 : Below wr.heap.size wr wx := by
                       rw [← hwx]
                       (repeat (first | refine Below.drew ?_ | refine below_fl hb4 ?_ | refine below_fl (below_alloc _ _) ?_))
                       exact Below.refl _ _
                     obtain ⟨p10, hp10⟩ : ∃ p, w4.heap.size = p := ⟨_, rfl⟩
                     rw [hp10] at q1 ⊢
                     clear hwx hp10)
                  | (obtain ⟨wx, hwx⟩ : ∃ wx, ((w4.setCell ⟨wr.heap.size, 0, none⟩ (.int .i64 ys)).setCell ⟨wr.heap.size, 1, none⟩ (.int .i64 yg)).setCell ⟨wr.heap.size, 2, none⟩ (.int .i64 yc) = wx := ⟨_, rfl⟩
                     rw [hwx]
                     have q1 : RBox wx wr.heap.size (.int .i64 ys) (.int .i64 yg) (.int .i64 yc) := by rw [← hwx]; exact yy.set3 _ _ _
                     have q2 : RBox wx p3 (.int .i64 xs) (.int .i64 xg) (.int .i64 xc) := by rw [← hwx]; exact u2.other3 (by omega) _ _ _
                     have q3 : Below wr.heap.size wr wx := by
                       rw [← hwx]
                       refine below_set3 (Nat.le_refl _) ?_ _ _ _
                       (repeat (first | refine Below.drew ?_ | refine below_fl hb4 ?_ | refine below_fl (below_alloc _ _) ?_))
                       exact Below.refl _ _
                     obtain ⟨p10, hp10⟩ : ∃ p, wr.heap.size = p := ⟨_, rfl⟩
                     rw [hp10] at q1 ⊢
                     clear hwx hp10)
                have Q1 := Lib.hid q1
                have RA2 := Lib.hid q2
                have HBR2 := Lib.hid (below_fl q3 HBR.out)
                have hps2 : p3 < wx.heap.size := q2.lt
                obtain ⟨⟨g0, g1, g2, k0, k1, k2⟩, _⟩ := six_any q3 F0.out F1.out F2.out C0.out C1.out C2.out
                have F20 := Lib.hid g0
                have F21 := Lib.hid g1
                have F22 := Lib.hid g2
                have C20 := Lib.hid k0
                have C21 := Lib.hid k1
                have C22 := Lib.hid k2
                clear q1 q2 q3 hb4 u2
                go_wp2_with fail
                go_region_held3 (fun w' => (w'.cell? ⟨p3, 0, none⟩ = some (.int .i64 xs) ∧ w'.cell? ⟨p3, 1, none⟩ = some (.int .i64 xg) ∧ w'.cell? ⟨p3, 2, none⟩ = some (.int .i64 xc) ∧ w'.cell? ⟨b, o + k * 3, none⟩ = some (.int .i64 hk) ∧ w'.cell? ⟨b, o + k * 3 + 1, none⟩ = some (.int .i64 hn) ∧ w'.cell? ⟨b, o + k * 3 + 2, none⟩ = some (.int .i64 hc)) ∧ Below wx.heap.size wx w')
                  ((refine six_any ?_ F20.out F21.out F22.out C20.out C21.out C22.out
                    (repeat (first | refine Below.drew ?_ | refine below_fl hb5 ?_ | refine below_fl (below_alloc _ _) ?_ | refine below_st (Nat.le_refl _) ?_))
                    exact Below.refl _ _))
                  (first
                    | (go_at_call 20; refine (rhappen_to ⟨xs, xg, xc⟩ ⟨hk, hn, hc⟩ _ HH.out (en := 0) rfl).mono ?_; rintro e w5 ⟨rfl, hb5⟩; (first | have u3 := RA2.out.drew.below hb5 | have u3 := (RA2.out.below (below_alloc _ _)).drew.below hb5); (try (have zz := (RBox.below (rbox_alloc wx z3 z3 z3).drew hb5 : RBox w5 wx.heap.size _ _ _); obtain ⟨zy0, zy1, zy2, zy3, zy4, zy5⟩ := zz.f)); unfold lv))
                all_goals
                  first
                    | (obtain ⟨wz, hwz⟩ : ∃ wz, w5.alloc (.cells #[.int .i64 ys, .int .i64 yg, .int .i64 yc] 23) = wz := ⟨_, rfl⟩
                       rw [hwz]
                       have r1 : RBox wz w5.heap.size (.int .i64 ys) (.int .i64 yg) (.int .i64 yc) := by rw [← hwz]; exact rbox_alloc w5 _ _ _
                       have r2 : RBox wz p3 (.int .i64 xs) (.int .i64 xg) (.int .i64 xc) := by rw [← hwz]; exact u3.below (below_alloc _ _)
                       have r3 : Below wx.heap.size wx wz := by
                         rw [← hwz]
                         (repeat (first | refine Below.drew ?_ | refine below_fl hb5 ?_ | refine below_fl (below_alloc _ _) ?_))
                         exact Below.refl _ _
                       obtain ⟨p16, hp16⟩ : ∃ p, w5.heap.size = p := ⟨_, rfl⟩
                       rw [hp16] at r1 ⊢
                       clear hwz hp16)
                    | (obtain ⟨wz, hwz⟩ : ∃ wz, ((w5.setCell ⟨wx.heap.size, 0, none⟩ (.int .i64 ys)).setCell ⟨wx.heap.size, 1, none⟩ (.int .i64 yg)).setCell ⟨wx.heap.size, 2, none⟩ (.int .i64 yc) = wz := ⟨_, rfl⟩
                       rw [hwz]
                       have r1 : RBox wz wx.heap.size (.int .i64 ys) (.int .i64 yg) (.int .i64 yc) := by rw [← hwz]; exact zz.set3 _ _ _
                       have r2 : RBox wz p3 (.int .i64 xs) (.int .i64 xg) (.int .i64 xc) := by rw [← hwz]; exact u3.other3 (by omega) _ _ _
                       have r3 : Below wx.heap.size wx wz := by
                         rw [← hwz]
                         refine below_set3 (Nat.le_refl _) ?_ _ _ _
                         (repeat (first | refine Below.drew ?_ | refine below_fl hb5 ?_ | refine below_fl (below_alloc _ _) ?_))
                         exact Below.refl _ _
                       obtain ⟨p16, hp16⟩ : ∃ p, wx.heap.size = p := ⟨_, rfl⟩
                       rw [hp16] at r1 ⊢
                       clear hwz hp16)
                  have Q1z := Q1.out.below r3
                  obtain ⟨m0, m1, m2, _, _, _⟩ := r1.f
                  obtain ⟨l0, l1, l2, _, _, _⟩ := Q1z.f
                  obtain ⟨n0, n1, n2, n3, n4, n5⟩ := r2.f
                  have R6 := Lib.hid (r2.set3 (.int .i64 ys) (.int .i64 yg) (.int .i64 yc))
                  have HW6 := Lib.hid (below_set3 hpw (below_fl r3 HBR2.out) (.int .i64 ys) (.int .i64 yg) (.int .i64 yc))
                  clear r1 r2 r3 hb5 u3 Q1z
                  go_wp2_with fail
                  go_roundw
                  case rel => exact ⟨k + 1, ⟨ys, yg, yc⟩, by omega, by go_num, R6.out, HW6.out⟩
                  case measure => simp [intOf]; omega
            · have HH := Lib.hid hy
              clear hy
              go_wp2_with fail
              go_region_held3 (fun w' => (w'.cell? ⟨p3, 0, none⟩ = some (.int .i64 xs) ∧ w'.cell? ⟨p3, 1, none⟩ = some (.int .i64 xg) ∧ w'.cell? ⟨p3, 2, none⟩ = some (.int .i64 xc) ∧ w'.cell? ⟨b, o + k * 3, none⟩ = some (.int .i64 hk) ∧ w'.cell? ⟨b, o + k * 3 + 1, none⟩ = some (.int .i64 hn) ∧ w'.cell? ⟨b, o + k * 3 + 2, none⟩ = some (.int .i64 hc)) ∧ Below wr.heap.size wr w')
                ((refine six_any ?_ F0.out F1.out F2.out C0.out C1.out C2.out
                  (repeat (first | refine Below.drew ?_ | refine below_fl hb4 ?_ | refine below_fl (below_alloc _ _) ?_ | refine below_st (Nat.le_refl _) ?_))
                  exact Below.refl _ _))
                (first
                  | (go_at_call 9; refine (happen_to ⟨xs, xg, xc⟩ ⟨hk, hn, hc⟩ _ HH.out (en := 13) rfl).mono ?_; rintro e w4 ⟨rfl, hb4⟩; (first | have u2 := RA.out.drew.below hb4 | have u2 := (RA.out.below (below_alloc _ _)).drew.below hb4); (try (have yy := (RBox.below (rbox_alloc wr z3 z3 z3).drew hb4 : RBox w4 wr.heap.size _ _ _); obtain ⟨y0, y1, y2, y3, y4, y5⟩ := yy.f)); unfold lv none'))
              all_goals
                first
                  | (obtain ⟨wx, hwx⟩ : ∃ wx, w4.alloc (.cells #[.int .i64 0, .int .i64 0, .int .i64 0] 23) = wx := ⟨_, rfl⟩
                     rw [hwx]
                     have q1 : RBox wx w4.heap.size (.int .i64 0) (.int .i64 0) (.int .i64 0) := by rw [← hwx]; exact rbox_alloc w4 _ _ _
                     have q2 : RBox wx p3 (.int .i64 xs) (.int .i64 xg) (.int .i64 xc) := by rw [← hwx]; exact u2.below (below_alloc _ _)
                     have q3 : Below wr.heap.size wr wx := by
                       rw [← hwx]
                       (repeat (first | refine Below.drew ?_ | refine below_fl hb4 ?_ | refine below_fl (below_alloc _ _) ?_))
                       exact Below.refl _ _
                     obtain ⟨p10, hp10⟩ : ∃ p, w4.heap.size = p := ⟨_, rfl⟩
                     rw [hp10] at q1 ⊢
                     clear hwx hp10)
                  | (obtain ⟨wx, hwx⟩ : ∃ wx, ((w4.setCell ⟨wr.heap.size, 0, none⟩ (.int .i64 0)).setCell ⟨wr.heap.size, 1, none⟩ (.int .i64 0)).setCell ⟨wr.heap.size, 2, none⟩ (.int .i64 0) = wx := ⟨_, rfl⟩
                     rw [hwx]
                     have q1 : RBox wx wr.heap.size (.int .i64 0) (.int .i64 0) (.int .i64 0) := by rw [← hwx]; exact yy.set3 _ _ _
                     have q2 : RBox wx p3 (.int .i64 xs) (.int .i64 xg) (.int .i64 xc) := by rw [← hwx]; exact u2.other3 (by omega) _ _ _
                     have q3 : Below wr.heap.size wr wx := by
                       rw [← hwx]
                       refine below_set3 (Nat.le_refl _) ?_ _ _ _
                       (repeat (first | refine Below.drew ?_ | refine below_fl hb4 ?_ | refine below_fl (below_alloc _ _) ?_))
                       exact Below.refl _ _
                     obtain ⟨p10, hp10⟩ : ∃ p, wr.heap.size = p := ⟨_, rfl⟩
                     rw [hp10] at q1 ⊢
                     clear hwx hp10)
                have Q1 := Lib.hid q1
                have RA2 := Lib.hid q2
                have HBR2 := Lib.hid (below_fl q3 HBR.out)
                have hps2 : p3 < wx.heap.size := q2.lt
                obtain ⟨⟨g0, g1, g2, k0, k1, k2⟩, _⟩ := six_any q3 F0.out F1.out F2.out C0.out C1.out C2.out
                have F20 := Lib.hid g0
                have F21 := Lib.hid g1
                have F22 := Lib.hid g2
                have C20 := Lib.hid k0
                have C21 := Lib.hid k1
                have C22 := Lib.hid k2
                clear q1 q2 q3 hb4 u2
                go_wp2_with fail
                go_region_held3 (fun w' => (w'.cell? ⟨p3, 0, none⟩ = some (.int .i64 xs) ∧ w'.cell? ⟨p3, 1, none⟩ = some (.int .i64 xg) ∧ w'.cell? ⟨p3, 2, none⟩ = some (.int .i64 xc) ∧ w'.cell? ⟨b, o + k * 3, none⟩ = some (.int .i64 hk) ∧ w'.cell? ⟨b, o + k * 3 + 1, none⟩ = some (.int .i64 hn) ∧ w'.cell? ⟨b, o + k * 3 + 2, none⟩ = some (.int .i64 hc)) ∧ Below wx.heap.size wx w')
                  ((refine six_any ?_ F20.out F21.out F22.out C20.out C21.out C22.out
                    (repeat (first | refine Below.drew ?_ | refine below_fl hb5 ?_ | refine below_fl (below_alloc _ _) ?_ | refine below_st (Nat.le_refl _) ?_))
                    exact Below.refl _ _))
                  (first
                    | (go_at_call 20; refine (rhappen_to ⟨xs, xg, xc⟩ ⟨hk, hn, hc⟩ _ HH.out (en := 13) rfl).mono ?_; rintro e w5 ⟨rfl, hb5⟩; (first | have u3 := RA2.out.drew.below hb5 | have u3 := (RA2.out.below (below_alloc _ _)).drew.below hb5); (try (have zz := (RBox.below (rbox_alloc wx z3 z3 z3).drew hb5 : RBox w5 wx.heap.size _ _ _); obtain ⟨zy0, zy1, zy2, zy3, zy4, zy5⟩ := zz.f)); unfold lv none'))
                all_goals
                  first
                    | (obtain ⟨wz, hwz⟩ : ∃ wz, w5.alloc (.cells #[.int .i64 0, .int .i64 0, .int .i64 0] 23) = wz := ⟨_, rfl⟩
                       rw [hwz]
                       have r1 : RBox wz w5.heap.size (.int .i64 0) (.int .i64 0) (.int .i64 0) := by rw [← hwz]; exact rbox_alloc w5 _ _ _
                       have r2 : RBox wz p3 (.int .i64 xs) (.int .i64 xg) (.int .i64 xc) := by rw [← hwz]; exact u3.below (below_alloc _ _)
                       have r3 : Below wx.heap.size wx wz := by
                         rw [← hwz]
                         (repeat (first | refine Below.drew ?_ | refine below_fl hb5 ?_ | refine below_fl (below_alloc _ _) ?_))
                         exact Below.refl _ _
                       obtain ⟨p16, hp16⟩ : ∃ p, w5.heap.size = p := ⟨_, rfl⟩
                       rw [hp16] at r1 ⊢
                       clear hwz hp16)
                    | (obtain ⟨wz, hwz⟩ : ∃ wz, ((w5.setCell ⟨wx.heap.size, 0, none⟩ (.int .i64 0)).setCell ⟨wx.heap.size, 1, none⟩ (.int .i64 0)).setCell ⟨wx.heap.size, 2, none⟩ (.int .i64 0) = wz := ⟨_, rfl⟩
                       rw [hwz]
                       have r1 : RBox wz wx.heap.size (.int .i64 0) (.int .i64 0) (.int .i64 0) := by rw [← hwz]; exact zz.set3 _ _ _
                       have r2 : RBox wz p3 (.int .i64 xs) (.int .i64 xg) (.int .i64 xc) := by rw [← hwz]; exact u3.other3 (by omega) _ _ _
                       have r3 : Below wx.heap.size wx wz := by
                         rw [← hwz]
                         refine below_set3 (Nat.le_refl _) ?_ _ _ _
                         (repeat (first | refine Below.drew ?_ | refine below_fl hb5 ?_ | refine below_fl (below_alloc _ _) ?_))
                         exact Below.refl _ _
                       obtain ⟨p16, hp16⟩ : ∃ p, wx.heap.size = p := ⟨_, rfl⟩
                       rw [hp16] at r1 ⊢
                       clear hwz hp16)
                  have Q1z := Q1.out.below r3
                  obtain ⟨m0, m1, m2, _, _, _⟩ := r1.f
                  obtain ⟨l0, l1, l2, _, _, _⟩ := Q1z.f
                  obtain ⟨n0, n1, n2, n3, n4, n5⟩ := r2.f
                  have R6 := Lib.hid r2
                  have HW6 := Lib.hid (below_fl r3 HBR2.out)
                  clear r1 r2 r3 hb5 u3 Q1z
                  go_wp2_with fail
                  go_roundw
                  case rel => exact ⟨k + 1, ⟨xs, xg, xc⟩, by omega, by go_num, R6.out, HW6.out⟩
                  case measure => simp [intOf]; omega
            · have HH := Lib.hid hy
              clear hy
              go_wp2_with fail
              go_region_held3 (fun w' => (w'.cell? ⟨p3, 0, none⟩ = some (.int .i64 xs) ∧ w'.cell? ⟨p3, 1, none⟩ = some (.int .i64 xg) ∧ w'.cell? ⟨p3, 2, none⟩ = some (.int .i64 xc) ∧ w'.cell? ⟨b, o + k * 3, none⟩ = some (.int .i64 hk) ∧ w'.cell? ⟨b, o + k * 3 + 1, none⟩ = some (.int .i64 hn) ∧ w'.cell? ⟨b, o + k * 3 + 2, none⟩ = some (.int .i64 hc)) ∧ Below wr.heap.size wr w')
                ((refine six_any ?_ F0.out F1.out F2.out C0.out C1.out C2.out
                  (repeat (first | refine Below.drew ?_ | refine below_fl hb4 ?_ | refine below_fl (below_alloc _ _) ?_ | refine below_st (Nat.le_refl _) ?_))
                  exact Below.refl _ _))
                (first
                  | (go_at_call 9; refine (happen_to ⟨xs, xg, xc⟩ ⟨hk, hn, hc⟩ _ HH.out (en := 2) rfl).mono ?_; rintro e w4 ⟨rfl, hb4⟩; (first | have u2 := RA.out.drew.below hb4 | have u2 := (RA.out.below (below_alloc _ _)).drew.below hb4); (try (have yy := (RBox.below (rbox_alloc wr z3 z3 z3).drew hb4 : RBox w4 wr.heap.size _ _ _); obtain ⟨y0, y1, y2, y3, y4, y5⟩ := yy.f)); unfold lv none'))
              all_goals
                first
                  | (obtain ⟨wx, hwx⟩ : ∃ wx, w4.alloc (.cells #[.int .i64 0, .int .i64 0, .int .i64 0] 23) = wx := ⟨_, rfl⟩
                     rw [hwx]
                     have q1 : RBox wx w4.heap.size (.int .i64 0) (.int .i64 0) (.int .i64 0) := by rw [← hwx]; exact rbox_alloc w4 _ _ _
                     have q2 : RBox wx p3 (.int .i64 xs) (.int .i64 xg) (.int .i64 xc) := by rw [← hwx]; exact u2.below (below_alloc _ _)
                     have q3 : Below wr.heap.size wr wx := by
                       rw [← hwx]
                       (repeat (first | refine Below.drew ?_ | refine below_fl hb4 ?_ | refine below_fl (below_alloc _ _) ?_))
                       exact Below.refl _ _
                     obtain ⟨p10, hp10⟩ : ∃ p, w4.heap.size = p := ⟨_, rfl⟩
                     rw [hp10] at q1 ⊢
                     clear hwx hp10)
                  | (obtain ⟨wx, hwx⟩ : ∃ wx, ((w4.setCell ⟨wr.heap.size, 0, none⟩ (.int .i64 0)).setCell ⟨wr.heap.size, 1, none⟩ (.int .i64 0)).setCell ⟨wr.heap.size, 2, none⟩ (.int .i64 0) = wx := ⟨_, rfl⟩
                     rw [hwx]
                     have q1 : RBox wx wr.heap.size (.int .i64 0) (.int .i64 0) (.int .i64 0) := by rw [← hwx]; exact yy.set3 _ _ _
                     have q2 : RBox wx p3 (.int .i64 xs) (.int .i64 xg) (.int .i64 xc) := by rw [← hwx]; exact u2.other3 (by omega) _ _ _
                     have q3 : Below wr.heap.size wr wx := by
                       rw [← hwx]
                       refine below_set3 (Nat.le_refl _) ?_ _ _ _
                       (repeat (first | refine Below.drew ?_ | refine below_fl hb4 ?_ | refine below_fl (below_alloc _ _) ?_))
                       exact Below.refl _ _
                     obtain ⟨p10, hp10⟩ : ∃ p, wr.heap.size = p := ⟨_, rfl⟩
                     rw [hp10] at q1 ⊢
                     clear hwx hp10)
                have Q1 := Lib.hid q1
                have RA2 := Lib.hid q2
                have HBR2 := Lib.hid (below_fl q3 HBR.out)
                have hps2 : p3 < wx.heap.size := q2.lt
                obtain ⟨⟨g0, g1, g2, k0, k1, k2⟩, _⟩ := six_any q3 F0.out F1.out F2.out C0.out C1.out C2.out
                have F20 := Lib.hid g0
                have F21 := Lib.hid g1
                have F22 := Lib.hid g2
                have C20 := Lib.hid k0
                have C21 := Lib.hid k1
                have C22 := Lib.hid k2
                clear q1 q2 q3 hb4 u2
                go_wp2_with fail
                go_region_held3 (fun w' => (w'.cell? ⟨p3, 0, none⟩ = some (.int .i64 xs) ∧ w'.cell? ⟨p3, 1, none⟩ = some (.int .i64 xg) ∧ w'.cell? ⟨p3, 2, none⟩ = some (.int .i64 xc) ∧ w'.cell? ⟨b, o + k * 3, none⟩ = some (.int .i64 hk) ∧ w'.cell? ⟨b, o + k * 3 + 1, none⟩ = some (.int .i64 hn) ∧ w'.cell? ⟨b, o + k * 3 + 2, none⟩ = some (.int .i64 hc)) ∧ Below wx.heap.size wx w')
                  ((refine six_any ?_ F20.out F21.out F22.out C20.out C21.out C22.out
                    (repeat (first | refine Below.drew ?_ | refine below_fl hb5 ?_ | refine below_fl (below_alloc _ _) ?_ | refine below_st (Nat.le_refl _) ?_))
                    exact Below.refl _ _))
                  (first
                    | (go_at_call 20; refine (rhappen_to ⟨xs, xg, xc⟩ ⟨hk, hn, hc⟩ _ HH.out (en := 2) rfl).mono ?_; rintro e w5 ⟨rfl, hb5⟩; (first | have u3 := RA2.out.drew.below hb5 | have u3 := (RA2.out.below (below_alloc _ _)).drew.below hb5); (try (have zz := (RBox.below (rbox_alloc wx z3 z3 z3).drew hb5 : RBox w5 wx.heap.size _ _ _); obtain ⟨zy0, zy1, zy2, zy3, zy4, zy5⟩ := zz.f)); unfold lv none'))
                all_goals
                  first
                    | (obtain ⟨wz, hwz⟩ : ∃ wz, w5.alloc (.cells #[.int .i64 0, .int .i64 0, .int .i64 0] 23) = wz := ⟨_, rfl⟩
                       rw [hwz]
                       have r1 : RBox wz w5.heap.size (.int .i64 0) (.int .i64 0) (.int .i64 0) := by rw [← hwz]; exact rbox_alloc w5 _ _ _
                       have r2 : RBox wz p3 (.int .i64 xs) (.int .i64 xg) (.int .i64 xc) := by rw [← hwz]; exact u3.below (below_alloc _ _)
                       have r3 : Below wx.heap.size wx wz := by
                         rw [← hwz]
                         (repeat (first | refine Below.drew ?_ | refine below_fl hb5 ?_ | refine below_fl (below_alloc _ _) ?_))
                         exact Below.refl _ _
                       obtain ⟨p16, hp16⟩ : ∃ p, w5.heap.size = p := ⟨_, rfl⟩
                       rw [hp16] at r1 ⊢
                       clear hwz hp16)
                    | (obtain ⟨wz, hwz⟩ : ∃ wz, ((w5.setCell ⟨wx.heap.size, 0, none⟩ (.int .i64 0)).setCell ⟨wx.heap.size, 1, none⟩ (.int .i64 0)).setCell ⟨wx.heap.size, 2, none⟩ (.int .i64 0) = wz := ⟨_, rfl⟩
                       rw [hwz]
                       have r1 : RBox wz wx.heap.size (.int .i64 0) (.int .i64 0) (.int .i64 0) := by rw [← hwz]; exact zz.set3 _ _ _
                       have r2 : RBox wz p3 (.int .i64 xs) (.int .i64 xg) (.int .i64 xc) := by rw [← hwz]; exact u3.other3 (by omega) _ _ _
                       have r3 : Below wx.heap.size wx wz := by
                         rw [← hwz]
                         refine below_set3 (Nat.le_refl _) ?_ _ _ _
                         (repeat (first | refine Below.drew ?_ | refine below_fl hb5 ?_ | refine below_fl (below_alloc _ _) ?_))
                         exact Below.refl _ _
                       obtain ⟨p16, hp16⟩ : ∃ p, wx.heap.size = p := ⟨_, rfl⟩
                       rw [hp16] at r1 ⊢
                       clear hwz hp16)
                  have Q1z := Q1.out.below r3
                  obtain ⟨m0, m1, m2, _, _, _⟩ := r1.f
                  obtain ⟨l0, l1, l2, _, _, _⟩ := Q1z.f
                  obtain ⟨n0, n1, n2, n3, n4, n5⟩ := r2.f
                  have R6 := Lib.hid r2
                  have HW6 := Lib.hid (below_fl r3 HBR2.out)
                  clear r1 r2 r3 hb5 u3 Q1z
                  go_wp2_with fail
                  go_roundw
                  case rel => exact ⟨k + 1, ⟨xs, xg, xc⟩, by omega, by go_num, R6.out, HW6.out⟩
                  case measure => simp [intOf]; omega
          · have HBR := Lib.hid hbr
            clear hra hbr
            go_wp2_with fail
            go_ret
            exact ⟨rfl, HBR.out⟩
end Go.Proofs.Ytjfgjcoehahlcaa
