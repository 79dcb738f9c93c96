/-
  The contract of All.
-/
import Derived.Test.YtjfgjcoehahlcaaHRow
namespace Go.Proofs.Ytjfgjcoehahlcaa
open Go.RowKit
set_option linter.unusedVariables false

theorem happen_to (l : Lf) (h : Hp) (w : World) {y : Lf} {er : Nat} (hh : happen l h = (y, er)) {en : Int} (he : (er : Int) = en) : Calls Try.prog 9 #[lv l, hv h] w (HapPost w y en) := by
  have := happen_any l h w
  rw [hh] at this
  subst he
  exact this

theorem rbox2 (w : World) (o : Obj) : RBox ((w.alloc o).alloc (.cells #[z3, z3, z3] 23)) (w.heap.size + 1) z3 z3 z3 := by
  have h := rbox_alloc (w.alloc o) z3 z3 z3
  rwa [show (w.alloc o).heap.size = w.heap.size + 1 by simp] at h
theorem rbox1 (w : World) (x y z : Value) (o : Obj) : RBox ((w.alloc (.cells #[x, y, z] 23)).alloc o) w.heap.size x y z :=
  ((below_alloc _ _).block _ (by simp)).trans (alloc_block w (.cells #[x, y, z] 23))
theorem below2 (w : World) (a b : Obj) : Below w.heap.size w ((w.alloc a).alloc b) := ((Below.refl _ _).alloc (Nat.le_refl _) a).alloc (by simp) b


set_option maxRecDepth 100000 in
set_option maxHeartbeats 1600000 in
theorem all_any (l : Lf) (a : Option Addr) (n c : Nat) (G : List Hp) (w : World) (hn : n ≤ 4194304) (hG : HRow w a n G) : Calls Try.prog 18 #[lv l, .slice a n c] w (AllPost w (all l G)) := by
  have HC := Lib.hid (check_any l)
  have HG := Lib.hid hG
  have HL := Lib.hid hG.1
  clear hG
  by_cases hok : OkL l
  · rw [errL_ok hok] at HC
    have HOK := Lib.hid hok
    have HR0 := Lib.hid (runAt_start l G)
    obtain ⟨R, hR⟩ : ∃ R, run l 0 G = R := ⟨_, rfl⟩
    rw [hR] at HR0
    have HRR := Lib.hid hR
    clear hok hR
    obtain ⟨s, g, d⟩ := l
    unfold lv at *
    dsimp only at *
    go_enter Try.func18, Try.ntmps18
    go_wp2_with fail
    refine (HC.out _).mono ?_
    rintro e w1 ⟨rfl, hb1⟩
    have HA := Lib.hid ((rbox1 w (.int .i64 s) (.int .i64 g) (.int .i64 d) (.cells #[z3, z3, z3] 23)).below hb1)
    have HB := Lib.hid ((rbox2 w (.cells #[.int .i64 s, .int .i64 g, .int .i64 d] 23)).below hb1)
    have HW := Lib.hid (below_into (below2 w _ _) hb1)
    clear hb1
    go_wp2_with fail
    go_loopw [8, 21] (fun cnt i wr => ∃ (k m : Nat) (x : Lf), k ≤ n ∧ i = .int .i64 k ∧ cnt = .int .i64 m ∧ m ≤ k ∧ RunAt G R k x m ∧ RBox wr w.heap.size (.int .i64 x.s) (.int .i64 x.g) (.int .i64 x.c) ∧ RBox wr (w.heap.size + 1) z3 z3 z3 ∧ Below w.heap.size w wr) (fun _ i _ => n - (intOf i).toNat)
    case atStart => exact ⟨0, 0, ⟨s, g, d⟩, by omega, rfl, rfl, by omega, HR0.out, HA.out, HB.out, HW.out⟩
    case round =>
      clear HA HB HW w1
      obtain ⟨k, m, x, hk, rfl, rfl, hm, hra, hra2, hrb, hbr⟩ := hrel
      by_cases hlt : k < n
      · obtain ⟨b, o, rfl, hbl, c0, c1, c2⟩ := (HG.out.below hbr).at k hlt
        have hkl : k < G.length := by rw [← HL.out]; exact hlt
        have i1 : (0 : Int) ≤ (k : Int) := by omega
        have i2 : (k : Int) < (n : Int) := by omega
        have HST : Hid ((∀ y, happen x (G.getD k hp0) = (y, 0) → RunAt G R (k + 1) y m) ∧ (∀ y, happen x (G.getD k hp0) = (y, 13) → RunAt G R (k + 1) x (m + 1)) ∧ (∀ y, happen x (G.getD k hp0) = (y, 2) → R = none)) :=
          ⟨fun y hy => runAt_ok hra hkl hy, fun y hy => runAt_no hra hkl hy, fun y hy => runAt_bad hra hkl hy⟩
        clear hra hkl
        generalize G.getD k hp0 = h at *
        obtain ⟨f0, f1, f2, f3, f4, f5⟩ := (hra2.below (below_alloc wr (.cells #[.int .i64 h.k, .int .i64 h.n, .int .i64 h.c] 31))).f
        have RA := Lib.hid hra2
        have RB := Lib.hid hrb
        have HBR := Lib.hid hbr
        have hsz : w.heap.size + 1 < wr.heap.size := hrb.lt
        clear hra2 hrb hbr
        rcases happen_ends x h with ⟨y, hy, _, _⟩ | ⟨hy, _, _⟩ | ⟨hy, _⟩
        · have HY := Lib.hid (HST.out.1 y hy)
          have HH := Lib.hid hy
          clear hy HST
          go_wp2_with fail
          refine (happen_to x h _ HH.out (en := 0) rfl).mono ?_
          rintro e w2 ⟨rfl, hb2⟩
          have ra2 := (RA.out.below (below_alloc wr (.cells #[.int .i64 h.k, .int .i64 h.n, .int .i64 h.c] 31))).below hb2
          have rb2 := (RB.out.below (below_alloc wr (.cells #[.int .i64 h.k, .int .i64 h.n, .int .i64 h.c] 31))).below hb2
          have hbw2 := below_fl hb2 (below_fl (below_alloc wr (.cells #[.int .i64 h.k, .int .i64 h.n, .int .i64 h.c] 31)) HBR.out)
          obtain ⟨e0, e1, e2, e3, e4, e5⟩ := (ra2.below (below_alloc w2 (.cells #[.int .i64 y.s, .int .i64 y.g, .int .i64 y.c] 23))).f
          have RA2 := Lib.hid ra2
          have RB2 := Lib.hid rb2
          have HW2 := Lib.hid hbw2
          clear hb2 ra2 rb2 hbw2 f0 f1 f2 f3 f4 f5
          unfold lv
          go_wp2_with fail
          go_roundw
          case rel => exact ⟨k + 1, m, y, by omega, by go_num, rfl, by omega, HY.out, (RA2.out.below (below_alloc _ _)).set3 _ _ _, (RB2.out.below (below_alloc _ _)).other3 (by omega) _ _ _, below_set3 (Nat.le_refl _) (below_fl (below_alloc _ _) HW2.out) _ _ _⟩
          case measure => simp [intOf]; omega
        · have HY := Lib.hid (HST.out.2.1 none' hy)
          have HH := Lib.hid hy
          clear hy HST
          go_wp2_with fail
          refine (happen_to x h _ HH.out (en := 13) rfl).mono ?_
          rintro e w2 ⟨rfl, hb2⟩
          have ra2 := (RA.out.below (below_alloc wr (.cells #[.int .i64 h.k, .int .i64 h.n, .int .i64 h.c] 31))).below hb2
          have rb2 := (RB.out.below (below_alloc wr (.cells #[.int .i64 h.k, .int .i64 h.n, .int .i64 h.c] 31))).below hb2
          have hbw2 := below_fl hb2 (below_fl (below_alloc wr (.cells #[.int .i64 h.k, .int .i64 h.n, .int .i64 h.c] 31)) HBR.out)
          have RA2 := Lib.hid ra2
          have RB2 := Lib.hid rb2
          have HW2 := Lib.hid hbw2
          clear hb2 ra2 rb2 hbw2 f0 f1 f2 f3 f4 f5
          unfold lv none'
          go_wp2_with fail
          go_roundw
          case rel => exact ⟨k + 1, m + 1, x, by omega, by go_num, by go_num, by omega, HY.out, RA2.out.below (below_alloc _ _), RB2.out.below (below_alloc _ _), below_fl (below_alloc _ _) HW2.out⟩
          case measure => simp [intOf]; omega
        · have HY := Lib.hid (all_none HOK.out (HRR.out.trans (HST.out.2.2 none' hy)))
          have HH := Lib.hid hy
          clear hy HST
          go_wp2_with fail
          refine (happen_to x h _ HH.out (en := 2) rfl).mono ?_
          rintro e w2 ⟨rfl, hb2⟩
          have rb2 := (RB.out.below (below_alloc wr (.cells #[.int .i64 h.k, .int .i64 h.n, .int .i64 h.c] 31))).below hb2
          have hbw2 := below_fl hb2 (below_fl (below_alloc wr (.cells #[.int .i64 h.k, .int .i64 h.n, .int .i64 h.c] 31)) HBR.out)
          obtain ⟨t0, t1, t2, t3, t4, t5⟩ := (rb2.below (below_alloc w2 (.cells #[z3, z3, z3] 23))).f
          have HW2 := Lib.hid hbw2
          clear hb2 rb2 hbw2 f0 f1 f2 f3 f4 f5
          unfold lv none'
          go_wp2_with fail
          refine bodyPost_ret (v := .tuple #[.agg #[.int .i64 0, .int .i64 0, .int .i64 0], .int .i64 0, .int .i64 2]) (by simp [results, Try.results18, go_sem, t0, t1, t2]) rfl (by rw [HY.out]; exact ⟨rfl, below_set3 (by omega) (below_fl (below_alloc _ _) HW2.out) _ _ _⟩)
      · have HY := Lib.hid (all_some HOK.out (HRR.out.trans (runAt_end hra (by rw [← HL.out]; omega))))
        obtain ⟨f0, f1, f2, f3, f4, f5⟩ := hra2.f
        obtain ⟨t0, t1, t2, t3, t4, t5⟩ := hrb.f
        have HBR := Lib.hid hbr
        clear hra hra2 hrb hbr
        go_wp2_with fail
        refine bodyPost_ret (v := .tuple #[.agg #[.int .i64 x.s, .int .i64 x.g, .int .i64 x.c], .int .i64 m, .int .i64 0]) (by simp [results, Try.results18, go_sem, t0, t1, t2]) rfl (by rw [HY.out]; exact ⟨rfl, below_set3 (by omega) HBR.out _ _ _⟩)
  · have he : errL l = 2 := if_neg hok
    rw [he] at HC
    rw [all_bad hok]
    clear he hok
    obtain ⟨s, g, d⟩ := l
    unfold lv at *
    dsimp only at *
    go_enter Try.func18, Try.ntmps18
    go_wp2_with fail
    refine (HC.out _).mono ?_
    rintro e w1 ⟨rfl, hb1⟩
    obtain ⟨t0, t1, t2, t3, t4, t5⟩ := ((rbox2 w (.cells #[.int .i64 s, .int .i64 g, .int .i64 d] 23)).below hb1).f
    have HW := Lib.hid (below_into (below2 w _ _) hb1)
    clear hb1
    go_wp2_with fail
    exact bodyPost_ret (v := .tuple #[.agg #[.int .i64 0, .int .i64 0, .int .i64 0], .int .i64 0, .int .i64 2]) (by simp [results, Try.results18, go_sem, t0, t1, t2]) rfl ⟨rfl, below_set3 (by omega) HW.out _ _ _⟩
end Go.Proofs.Ytjfgjcoehahlcaa
