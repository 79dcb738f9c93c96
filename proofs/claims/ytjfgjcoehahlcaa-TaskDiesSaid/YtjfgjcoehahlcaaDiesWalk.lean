/-
  The walk of TaskDies.
-/
import Derived.Test.YtjfgjcoehahlcaaDiesPlain
import Derived.Test.YtjfgjcoehahlcaaRun
import Derived.Deep.RegionHeld3
import Derived.Deep.CutRange
namespace Go.Proofs.Ytjfgjcoehahlcaa
open Go.RowKit
set_option linter.unusedVariables false

theorem nine_any {w2 w : World} {p q : Nat} {a0 : Addr} {x y z x' y' z' k : Value} (hb : Below w2.heap.size w2 w) (h : Box w2 p x y z) (h' : Box w2 q x' y' z') (k0 : w2.cell? a0 = some k) :
    (w.cell? ⟨p, 0, none⟩ = some x ∧ w.cell? ⟨p, 1, none⟩ = some y ∧ w.cell? ⟨p, 2, none⟩ = some z ∧ w.cell? ⟨q, 0, none⟩ = some x' ∧ w.cell? ⟨q, 1, none⟩ = some y' ∧ w.cell? ⟨q, 2, none⟩ = some z' ∧ w.cell? a0 = some k) ∧ Below w2.heap.size w2 w := by
  obtain ⟨h0, h1, h2⟩ := box_cells hb h
  obtain ⟨h3, h4, h5⟩ := box_cells hb h'
  exact ⟨⟨h0, h1, h2, h3, h4, h5, (hb.cell (World.block_lt_of_cell? _ _ k0)).trans k0⟩, hb⟩

theorem box_of {w : World} {b : Nat} {x y z : Value} (h : RBox w b x y z) : Box w b x y z := box_row h

section
variable {P : Program} {ops : Array Oper} {Q : Exit → Act → World → Prop} {md : Region.Mode} {S : World → Prop}
theorem take_in (i d : Nat) (v : Value) {oi : Oper} {fuel : Nat} {listed : Array Bool} {a : Act} {w : World} (hi : ops[i]? = some oi) (hd : oi.dst = some d)
    (hs : Region.noSelect ops = true) (hf : Region.free md ops listed i = true) (hr : (Region.ready md ops listed).contains i = true)
    (hQ : ∀ c a w, Q (.panic c) (a.put (some d) v) w → Q (.panic c) a w) (hw : Region.wanted oi (yielded ops a.tmps) = true) (hy : ∀ w, S w → (execOp a.eval oi).run P w = .ok (.value v) w) (hS : S w)
    (h : wpAnyH P md ops Q S fuel (listed.setIfInBounds i true) (a.put (some d) v) w) : wpAnyH P md ops Q S (fuel + 1) listed a w :=
  wpAnyH_take hi hs hf hr (hd ▸ hQ) (Or.inl ⟨hw, hy⟩) hS (hd ▸ h)
theorem take_out (i d : Nat) {oi : Oper} {fuel : Nat} {listed : Array Bool} {a : Act} {w : World} (hi : ops[i]? = some oi) (hd : oi.dst = some d)
    (hs : Region.noSelect ops = true) (hf : Region.free md ops listed i = true) (hr : (Region.ready md ops listed).contains i = true)
    (hQ : ∀ c a w, Q (.panic c) (a.put (some d) undef) w → Q (.panic c) a w) (hw : Region.wanted oi (yielded ops a.tmps) = false) (hS : S w)
    (h : wpAnyH P md ops Q S fuel (listed.setIfInBounds i true) (a.put (some d) undef) w) : wpAnyH P md ops Q S (fuel + 1) listed a w :=
  wpAnyH_take hi hs hf hr (hd ▸ hQ) (Or.inr ⟨hw, rfl⟩) hS (hd ▸ h)
end

set_option maxRecDepth 100000 in
set_option maxHeartbeats 16000000 in
theorem taskDies_any (l : Lf) (a : Option Addr) (n c : Nat) (G : List Hp) (w : World) (hG : HRow w a n G) (hn48 : n ≤ 140737488351232) :
    Calls Try.prog 3 #[lv l, .slice a n c] w fun e w' => e = .returned (.bool true) ∧ Below w.heap.size w w' := by
  have HC := Lib.hid (check_any l)
  have HG := Lib.hid hG
  have HL := Lib.hid hG.1
  have hE := errL_or l
  clear hG
  by_cases h200 : 200 < n
  · obtain ⟨s, g, d⟩ := l
    unfold lv at *
    dsimp only at *
    clear hE
    go_enter Try.func3, Try.ntmps3
    go_wp2_with fail
    refine (lives_any _).mono ?_
    rintro e w1 ⟨rfl, hb1⟩
    have HW := Lib.hid (below_into (below_alloc w _) hb1)
    clear hb1
    go_wp2_with fail
    go_ret
    exact ⟨rfl, HW.out⟩
  · rcases hE with ⟨hok, he⟩ | ⟨hok, he⟩
    · rw [he] at HC
      have HOK := Lib.hid hok
      clear hok he
      obtain ⟨s, g, d⟩ := l
      unfold lv at *
      dsimp only at *
      go_enter Try.func3, Try.ntmps3
      go_wp2_with fail
      refine (lives_any _).mono ?_
      rintro e w1 ⟨rfl, hb1⟩
      have R1 := Lib.hid ((rbox_alloc w (.int .i64 s) (.int .i64 g) (.int .i64 d)).below hb1)
      have HW1 := Lib.hid (below_into (below_alloc w _) hb1)
      obtain ⟨f0, f1, f2, _, _, _⟩ := R1.out.f
      clear hb1
      go_wp2_with fail
      refine (HC.out _).mono ?_
      rintro e w2 ⟨rfl, hb2⟩
      have RB := Lib.hid (R1.out.below hb2)
      have HW5 := Lib.hid (below_into HW1.out hb2)
      clear hb2 f0 f1 f2 R1 HW1
      go_wp2_with fail
      obtain ⟨p2, hp2⟩ : ∃ p, w.heap.size = p := ⟨_, rfl⟩
      rw [hp2] at RB ⊢
      have hpw : w.heap.size ≤ p2 := by omega
      clear hp2
      go_loopw [5] (fun i wr => ∃ (k : Nat) (x : Lf), k ≤ n ∧ i = .int .i64 k ∧ OkL x ∧ RBox wr p2 (.int .i64 x.s) (.int .i64 x.g) (.int .i64 x.c) ∧ Below w.heap.size w wr) (fun i _ => n - (intOf i).toNat)
      case atStart => exact ⟨0, ⟨s, g, d⟩, by omega, rfl, HOK.out, RB.out, HW5.out⟩
      case round =>
        clear RB HW5 HOK HC w2
        obtain ⟨k, x, hk, rfl, hok, hra, hbr⟩ := hrel
        by_cases hlt : k < n
        · obtain ⟨b, o, rfl, hbl, c0, c1, c2⟩ := (HG.out.below hbr).at k hlt
          have i1 : (0 : Int) ≤ (k : Int) := by omega
          have i2 : (k : Int) < (n : Int) := by omega
          generalize G.getD k hp0 = h0 at *
          obtain ⟨hk, hn, hc⟩ := h0
          obtain ⟨xs, xg, xc⟩ := x
          dsimp only at *
          obtain ⟨f0, f1, f2, f3, f4, f5⟩ := hra.f
          have C0 := Lib.hid c0
          have C1 := Lib.hid c1
          have C2 := Lib.hid c2
          have F0 := Lib.hid f0
          have F1 := Lib.hid f1
          have F2 := Lib.hid f2
          have RA := Lib.hid hra
          have HBR := Lib.hid hbr
          have HOK := Lib.hid hok
          have hps : p2 < wr.heap.size := hra.lt
          clear hra hbr f3 f4 f5 hok
          rcases happen_ends ⟨xs, xg, xc⟩ ⟨hk, hn, hc⟩ with ⟨y, hy, _, _⟩ | ⟨hy, _, _⟩ | ⟨hy, _⟩
          · have hs := dies_step hy
            obtain ⟨ys, yg, yc⟩ := y
            dsimp only at hs
            have HS := Lib.hid hs
            have HH := Lib.hid hy
            clear hy hs
            go_wp2_with fail
            go_cut [6, 7] from 18 to 94 (fun s6 s7 wx => ∃ p10, s6 = .pointer (some ⟨p10, 0, none⟩) ∧ s7 = .int .i64 0 ∧ RBox wx p10 (.int .i64 ys) (.int .i64 yg) (.int .i64 yc) ∧ RBox wx p2 (.int .i64 xs) (.int .i64 xg) (.int .i64 xc) ∧ Below wr.heap.size wr wx)
            case first =>
              go_region_held3 (fun w' => (w'.cell? ⟨p2, 0, none⟩ = some (.int .i64 xs) ∧ w'.cell? ⟨p2, 1, none⟩ = some (.int .i64 xg) ∧ w'.cell? ⟨p2, 2, none⟩ = some (.int .i64 xc) ∧ w'.cell? ⟨b, o + k * 3, none⟩ = some (.int .i64 hk) ∧ w'.cell? ⟨b, o + k * 3 + 1, none⟩ = some (.int .i64 hn) ∧ w'.cell? ⟨b, o + k * 3 + 2, none⟩ = some (.int .i64 hc)) ∧ Below wr.heap.size wr w')
                ((refine six_any ?_ F0.out F1.out F2.out C0.out C1.out C2.out
                  (repeat (first | refine Below.drew ?_ | refine below_fl hb4 ?_ | refine below_fl (below_alloc _ _) ?_ | refine below_st (Nat.le_refl _) ?_))
                  exact Below.refl _ _))
                (first
                  | (go_at_call 9; refine (happen_to ⟨xs, xg, xc⟩ ⟨hk, hn, hc⟩ _ HH.out (en := 0) rfl).mono ?_; rintro e w4 ⟨rfl, hb4⟩; (first | have u2 := RA.out.drew.below hb4 | have u2 := (RA.out.below (below_alloc _ _)).drew.below hb4); (try (have yy := (RBox.below (rbox_alloc wr z3 z3 z3).drew hb4 : RBox w4 wr.heap.size _ _ _); obtain ⟨y0, y1, y2, y3, y4, y5⟩ := yy.f)); unfold lv))
              all_goals
                first
                  | (obtain ⟨wx, hwx⟩ : ∃ wx, w4.alloc (.cells #[.int .i64 ys, .int .i64 yg, .int .i64 yc] 23) = wx := ⟨_, rfl⟩
                     rw [hwx]
                     have q1 : RBox wx w4.heap.size (.int .i64 ys) (.int .i64 yg) (.int .i64 yc) := by rw [← hwx]; exact rbox_alloc w4 _ _ _
                     have q2 : RBox wx p2 (.int .i64 xs) (.int .i64 xg) (.int .i64 xc) := by rw [← hwx]; exact u2.below (below_alloc _ _)
                     have q3 : Below wr.heap.size wr wx := by
                       rw [← hwx]
                       (repeat (first | refine Below.drew ?_ | refine below_fl hb4 ?_ | refine below_fl (below_alloc _ _) ?_))
                       exact Below.refl _ _
                     clear hwx
                     go_wp2_with fail
                     go_meet
                     exact ⟨_, rfl, rfl, q1, q2, q3⟩)
                  | (obtain ⟨wx, hwx⟩ : ∃ wx, ((w4.setCell ⟨wr.heap.size, 0, none⟩ (.int .i64 ys)).setCell ⟨wr.heap.size, 1, none⟩ (.int .i64 yg)).setCell ⟨wr.heap.size, 2, none⟩ (.int .i64 yc) = wx := ⟨_, rfl⟩
                     rw [hwx]
                     have q1 : RBox wx wr.heap.size (.int .i64 ys) (.int .i64 yg) (.int .i64 yc) := by rw [← hwx]; exact yy.set3 _ _ _
                     have q2 : RBox wx p2 (.int .i64 xs) (.int .i64 xg) (.int .i64 xc) := by rw [← hwx]; exact u2.other3 (by omega) _ _ _
                     have q3 : Below wr.heap.size wr wx := by
                       rw [← hwx]
                       refine below_set3 (Nat.le_refl _) ?_ _ _ _
                       (repeat (first | refine Below.drew ?_ | refine below_fl hb4 ?_ | refine below_fl (below_alloc _ _) ?_))
                       exact Below.refl _ _
                     clear hwx
                     go_wp2_with fail
                     go_meet
                     exact ⟨_, rfl, rfl, q1, q2, q3⟩)
            case rest =>
              obtain ⟨p10, rfl, rfl, q1, q2, q3⟩ := hcut
              obtain ⟨⟨g0, g1, g2, k0, k1, k2⟩, _⟩ := six_any q3 F0.out F1.out F2.out C0.out C1.out C2.out
              obtain ⟨m0, m1, m2, m3, m4, m5⟩ := q1.f
              obtain ⟨n0, n1, n2, n3, n4, n5⟩ := q2.f
              have Q1 := Lib.hid (box_of q1)
              have Q2 := Lib.hid (box_of q2)
              have R1 := Lib.hid q1
              have R2 := Lib.hid q2
              have K0 := Lib.hid k0
              have HW6 := Lib.hid (below_fl q3 HBR.out)
              have HCY := Lib.hid (check_any ⟨ys, yg, yc⟩)
              have HTY := Lib.hid (takes_any ⟨ys, yg, yc⟩)
              have HOY := Lib.hid HS.out.1
              rw [show errL ⟨ys, yg, yc⟩ = 0 from if_pos HOY.out] at HCY
              have HCS := Lib.hid HS.out.2
              have hpx : p2 < wc.heap.size := q2.lt
              clear q1 q2 q3 HS HH
              go_wp2_with fail
              go_cut [93] from 18 to 94 (fun c wx => c = .bool false ∧ Below wc.heap.size wc wx)
              case first =>
                have hcs := HCS.out
                simp only [Lf.mk.injEq] at hcs
                have hcs' : (ys = 4 ∧ xs = 4 ∧ yg = xg ∧ yc = xc) ∨ (xs ≠ 4 ∧ ys ≠ 4 ∧ ys ≠ 2 ∧ ¬ ys < xs ∧ yc = 0) ∨ (xs = 1 ∧ ys = 2 ∧ hk = 1 ∧ yc = 0) ∨ (xs = 2 ∧ ys = 2 ∧ yc = 0) ∨ (xs ≠ 4 ∧ ¬ 4 < xs ∧ ys = 4) := by
                  omega
                clear hcs
                rcases hcs' with ⟨e1, e2, e3, e4⟩ | ⟨e1, e2, e3, e4, e5⟩ | ⟨e1, e2, e3, e4⟩ | ⟨e1, e2, e3⟩ | ⟨e1, e2, e3⟩
                · subst e1 e2 e3 e4
                  rw [takes_f rfl] at HTY
                  refine wp_region_held_drew (S := fun w' => (w'.cell? ⟨p10, 0, none⟩ = some (.int .i64 4) ∧ w'.cell? ⟨p10, 1, none⟩ = some (.int .i64 yg) ∧ w'.cell? ⟨p10, 2, none⟩ = some (.int .i64 yc) ∧ w'.cell? ⟨p2, 0, none⟩ = some (.int .i64 4) ∧ w'.cell? ⟨p2, 1, none⟩ = some (.int .i64 yg) ∧ w'.cell? ⟨p2, 2, none⟩ = some (.int .i64 yc) ∧ w'.cell? ⟨b, o + k * 3, none⟩ = some (.int .i64 hk)) ∧ Below wc.heap.size wc w') (by kernel_rfl) ?_ (fun hHeld => ?_)
                  · refine nine_any ?_ Q1.out Q2.out K0.out
                    exact (Below.refl _ _).drew
                  refine take_in 0 38 (.agg #[.int .i64 4, .int .i64 yg, .int .i64 yc]) rfl rfl (by kernel_rfl) (by kernel_rfl) (by kernel_rfl) (fun _ _ _ h => h) (by kernel_rfl) (by intro w hSw; (try dsimp only at hSw); go_simp) hHeld ?_
                  simp only [Act.put, List.setIfInBounds_toArray, List.set_cons_zero, List.set_cons_succ]
                  refine wpAnyH_ready (rs := [1]) (by kernel_rfl) (by simp) ?_
                  refine AllReadyH.cons rfl (fun K hK => ?_) AllReadyH.nil
                  clear hHeld
                  go_simp
                  refine (HCY.out _).mono ?_
                  rintro e w5 ⟨rfl, hb5⟩
                  go_simp
                  refine hK.out _ _ ?_ (fun hHeld => ?_)
                  · refine nine_any ?_ Q1.out Q2.out K0.out
                    (repeat (first | refine Below.drew ?_ | refine below_fl hb6 ?_ | refine below_fl hb5 ?_))
                    exact Below.refl _ _
                  clear hK K
                  try simp only [Act.put, List.setIfInBounds_toArray, List.set_cons_zero, List.set_cons_succ]
                  refine take_in 2 40 (.bool false) rfl rfl (by kernel_rfl) (by kernel_rfl) (by kernel_rfl) (fun _ _ _ h => h) (by kernel_rfl) (by intro w hSw; (try dsimp only at hSw); go_simp) hHeld ?_
                  simp only [Act.put, List.setIfInBounds_toArray, List.set_cons_zero, List.set_cons_succ]
                  refine take_in 3 41 (.bool false) rfl rfl (by kernel_rfl) (by kernel_rfl) (by kernel_rfl) (fun _ _ _ h => h) (by kernel_rfl) (by intro w hSw; (try dsimp only at hSw); go_simp) hHeld ?_
                  simp only [Act.put, List.setIfInBounds_toArray, List.set_cons_zero, List.set_cons_succ]
                  refine take_in 4 42 (.pointer (some ⟨p2, 0, none⟩)) rfl rfl (by kernel_rfl) (by kernel_rfl) (by kernel_rfl) (fun _ _ _ h => h) (by kernel_rfl) (by intro w hSw; (try dsimp only at hSw); go_simp) hHeld ?_
                  simp only [Act.put, List.setIfInBounds_toArray, List.set_cons_zero, List.set_cons_succ]
                  refine take_in 5 43 (.int .i64 4) rfl rfl (by kernel_rfl) (by kernel_rfl) (by kernel_rfl) (fun _ _ _ h => h) (by kernel_rfl) (by intro w hSw; (try dsimp only at hSw); go_simp) hHeld ?_
                  simp only [Act.put, List.setIfInBounds_toArray, List.set_cons_zero, List.set_cons_succ]
                  refine take_in 6 44 (.bool true) rfl rfl (by kernel_rfl) (by kernel_rfl) (by kernel_rfl) (fun _ _ _ h => h) (by kernel_rfl) (by intro w hSw; (try dsimp only at hSw); go_simp) hHeld ?_
                  simp only [Act.put, List.setIfInBounds_toArray, List.set_cons_zero, List.set_cons_succ]
                  refine take_in 7 45 (.bool true) rfl rfl (by kernel_rfl) (by kernel_rfl) (by kernel_rfl) (fun _ _ _ h => h) (by kernel_rfl) (by intro w hSw; (try dsimp only at hSw); go_simp) hHeld ?_
                  simp only [Act.put, List.setIfInBounds_toArray, List.set_cons_zero, List.set_cons_succ]
                  refine take_in 8 46 (.agg #[.int .i64 4, .int .i64 yg, .int .i64 yc]) rfl rfl (by kernel_rfl) (by kernel_rfl) (by kernel_rfl) (fun _ _ _ h => h) (by kernel_rfl) (by intro w hSw; (try dsimp only at hSw); go_simp) hHeld ?_
                  simp only [Act.put, List.setIfInBounds_toArray, List.set_cons_zero, List.set_cons_succ]
                  refine take_in 9 47 (.agg #[.int .i64 4, .int .i64 yg, .int .i64 yc]) rfl rfl (by kernel_rfl) (by kernel_rfl) (by kernel_rfl) (fun _ _ _ h => h) (by kernel_rfl) (by intro w hSw; (try dsimp only at hSw); go_simp) hHeld ?_
                  simp only [Act.put, List.setIfInBounds_toArray, List.set_cons_zero, List.set_cons_succ]
                  refine take_in 10 48 (.bool false) rfl rfl (by kernel_rfl) (by kernel_rfl) (by kernel_rfl) (fun _ _ _ h => h) (by kernel_rfl) (by intro w hSw; (try dsimp only at hSw); go_simp) hHeld ?_
                  simp only [Act.put, List.setIfInBounds_toArray, List.set_cons_zero, List.set_cons_succ]
                  refine take_in 11 49 (.bool false) rfl rfl (by kernel_rfl) (by kernel_rfl) (by kernel_rfl) (fun _ _ _ h => h) (by kernel_rfl) (by intro w hSw; (try dsimp only at hSw); go_simp) hHeld ?_
                  simp only [Act.put, List.setIfInBounds_toArray, List.set_cons_zero, List.set_cons_succ]
                  refine take_in 12 50 (.bool false) rfl rfl (by kernel_rfl) (by kernel_rfl) (by kernel_rfl) (fun _ _ _ h => h) (by kernel_rfl) (by intro w hSw; (try dsimp only at hSw); go_simp) hHeld ?_
                  simp only [Act.put, List.setIfInBounds_toArray, List.set_cons_zero, List.set_cons_succ]
                  refine take_in 13 51 (.bool false) rfl rfl (by kernel_rfl) (by kernel_rfl) (by kernel_rfl) (fun _ _ _ h => h) (by kernel_rfl) (by intro w hSw; (try dsimp only at hSw); go_simp) hHeld ?_
                  simp only [Act.put, List.setIfInBounds_toArray, List.set_cons_zero, List.set_cons_succ]
                  refine take_in 14 52 (.pointer (some ⟨p10, 0, none⟩)) rfl rfl (by kernel_rfl) (by kernel_rfl) (by kernel_rfl) (fun _ _ _ h => h) (by kernel_rfl) (by intro w hSw; (try dsimp only at hSw); go_simp) hHeld ?_
                  simp only [Act.put, List.setIfInBounds_toArray, List.set_cons_zero, List.set_cons_succ]
                  refine take_in 15 53 (.int .i64 4) rfl rfl (by kernel_rfl) (by kernel_rfl) (by kernel_rfl) (fun _ _ _ h => h) (by kernel_rfl) (by intro w hSw; (try dsimp only at hSw); go_simp) hHeld ?_
                  simp only [Act.put, List.setIfInBounds_toArray, List.set_cons_zero, List.set_cons_succ]
                  refine take_in 16 54 (.pointer (some ⟨p2, 0, none⟩)) rfl rfl (by kernel_rfl) (by kernel_rfl) (by kernel_rfl) (fun _ _ _ h => h) (by kernel_rfl) (by intro w hSw; (try dsimp only at hSw); go_simp) hHeld ?_
                  simp only [Act.put, List.setIfInBounds_toArray, List.set_cons_zero, List.set_cons_succ]
                  refine take_in 17 55 (.int .i64 4) rfl rfl (by kernel_rfl) (by kernel_rfl) (by kernel_rfl) (fun _ _ _ h => h) (by kernel_rfl) (by intro w hSw; (try dsimp only at hSw); go_simp) hHeld ?_
                  simp only [Act.put, List.setIfInBounds_toArray, List.set_cons_zero, List.set_cons_succ]
                  refine take_in 18 56 (.bool false) rfl rfl (by kernel_rfl) (by kernel_rfl) (by kernel_rfl) (fun _ _ _ h => h) (by kernel_rfl) (by intro w hSw; (try dsimp only at hSw); go_simp) hHeld ?_
                  simp only [Act.put, List.setIfInBounds_toArray, List.set_cons_zero, List.set_cons_succ]
                  refine take_in 19 57 (.bool false) rfl rfl (by kernel_rfl) (by kernel_rfl) (by kernel_rfl) (fun _ _ _ h => h) (by kernel_rfl) (by intro w hSw; (try dsimp only at hSw); go_simp) hHeld ?_
                  simp only [Act.put, List.setIfInBounds_toArray, List.set_cons_zero, List.set_cons_succ]
                  refine take_in 20 58 (.bool false) rfl rfl (by kernel_rfl) (by kernel_rfl) (by kernel_rfl) (fun _ _ _ h => h) (by kernel_rfl) (by intro w hSw; (try dsimp only at hSw); go_simp) hHeld ?_
                  simp only [Act.put, List.setIfInBounds_toArray, List.set_cons_zero, List.set_cons_succ]
                  refine take_in 21 59 (.pointer (some ⟨p10, 0, none⟩)) rfl rfl (by kernel_rfl) (by kernel_rfl) (by kernel_rfl) (fun _ _ _ h => h) (by kernel_rfl) (by intro w hSw; (try dsimp only at hSw); go_simp) hHeld ?_
                  simp only [Act.put, List.setIfInBounds_toArray, List.set_cons_zero, List.set_cons_succ]
                  refine take_in 22 60 (.int .i64 4) rfl rfl (by kernel_rfl) (by kernel_rfl) (by kernel_rfl) (fun _ _ _ h => h) (by kernel_rfl) (by intro w hSw; (try dsimp only at hSw); go_simp) hHeld ?_
                  simp only [Act.put, List.setIfInBounds_toArray, List.set_cons_zero, List.set_cons_succ]
                  refine take_in 23 61 (.bool false) rfl rfl (by kernel_rfl) (by kernel_rfl) (by kernel_rfl) (fun _ _ _ h => h) (by kernel_rfl) (by intro w hSw; (try dsimp only at hSw); go_simp) hHeld ?_
                  simp only [Act.put, List.setIfInBounds_toArray, List.set_cons_zero, List.set_cons_succ]
                  refine take_in 24 62 (.bool false) rfl rfl (by kernel_rfl) (by kernel_rfl) (by kernel_rfl) (fun _ _ _ h => h) (by kernel_rfl) (by intro w hSw; (try dsimp only at hSw); go_simp) hHeld ?_
                  simp only [Act.put, List.setIfInBounds_toArray, List.set_cons_zero, List.set_cons_succ]
                  refine take_out 25 63 rfl rfl (by kernel_rfl) (by kernel_rfl) (by kernel_rfl) (fun _ _ _ h => h) (by kernel_rfl) hHeld ?_
                  simp only [Act.put, List.setIfInBounds_toArray, List.set_cons_zero, List.set_cons_succ]
                  refine take_out 26 64 rfl rfl (by kernel_rfl) (by kernel_rfl) (by kernel_rfl) (fun _ _ _ h => h) (by kernel_rfl) hHeld ?_
                  simp only [Act.put, List.setIfInBounds_toArray, List.set_cons_zero, List.set_cons_succ]
                  refine take_out 27 65 rfl rfl (by kernel_rfl) (by kernel_rfl) (by kernel_rfl) (fun _ _ _ h => h) (by kernel_rfl) hHeld ?_
                  simp only [Act.put, List.setIfInBounds_toArray, List.set_cons_zero, List.set_cons_succ]
                  refine take_in 28 66 (.bool false) rfl rfl (by kernel_rfl) (by kernel_rfl) (by kernel_rfl) (fun _ _ _ h => h) (by kernel_rfl) (by intro w hSw; (try dsimp only at hSw); go_simp) hHeld ?_
                  simp only [Act.put, List.setIfInBounds_toArray, List.set_cons_zero, List.set_cons_succ]
                  refine take_in 29 67 (.bool false) rfl rfl (by kernel_rfl) (by kernel_rfl) (by kernel_rfl) (fun _ _ _ h => h) (by kernel_rfl) (by intro w hSw; (try dsimp only at hSw); go_simp) hHeld ?_
                  simp only [Act.put, List.setIfInBounds_toArray, List.set_cons_zero, List.set_cons_succ]
                  refine take_out 30 68 rfl rfl (by kernel_rfl) (by kernel_rfl) (by kernel_rfl) (fun _ _ _ h => h) (by kernel_rfl) hHeld ?_
                  simp only [Act.put, List.setIfInBounds_toArray, List.set_cons_zero, List.set_cons_succ]
                  refine take_out 31 69 rfl rfl (by kernel_rfl) (by kernel_rfl) (by kernel_rfl) (fun _ _ _ h => h) (by kernel_rfl) hHeld ?_
                  simp only [Act.put, List.setIfInBounds_toArray, List.set_cons_zero, List.set_cons_succ]
                  refine take_out 32 70 rfl rfl (by kernel_rfl) (by kernel_rfl) (by kernel_rfl) (fun _ _ _ h => h) (by kernel_rfl) hHeld ?_
                  simp only [Act.put, List.setIfInBounds_toArray, List.set_cons_zero, List.set_cons_succ]
                  refine take_out 33 71 rfl rfl (by kernel_rfl) (by kernel_rfl) (by kernel_rfl) (fun _ _ _ h => h) (by kernel_rfl) hHeld ?_
                  simp only [Act.put, List.setIfInBounds_toArray, List.set_cons_zero, List.set_cons_succ]
                  refine take_out 34 72 rfl rfl (by kernel_rfl) (by kernel_rfl) (by kernel_rfl) (fun _ _ _ h => h) (by kernel_rfl) hHeld ?_
                  simp only [Act.put, List.setIfInBounds_toArray, List.set_cons_zero, List.set_cons_succ]
                  refine take_out 35 73 rfl rfl (by kernel_rfl) (by kernel_rfl) (by kernel_rfl) (fun _ _ _ h => h) (by kernel_rfl) hHeld ?_
                  simp only [Act.put, List.setIfInBounds_toArray, List.set_cons_zero, List.set_cons_succ]
                  refine take_in 36 74 (.bool false) rfl rfl (by kernel_rfl) (by kernel_rfl) (by kernel_rfl) (fun _ _ _ h => h) (by kernel_rfl) (by intro w hSw; (try dsimp only at hSw); go_simp) hHeld ?_
                  simp only [Act.put, List.setIfInBounds_toArray, List.set_cons_zero, List.set_cons_succ]
                  refine take_in 37 75 (.bool false) rfl rfl (by kernel_rfl) (by kernel_rfl) (by kernel_rfl) (fun _ _ _ h => h) (by kernel_rfl) (by intro w hSw; (try dsimp only at hSw); go_simp) hHeld ?_
                  simp only [Act.put, List.setIfInBounds_toArray, List.set_cons_zero, List.set_cons_succ]
                  refine take_in 38 76 (.bool false) rfl rfl (by kernel_rfl) (by kernel_rfl) (by kernel_rfl) (fun _ _ _ h => h) (by kernel_rfl) (by intro w hSw; (try dsimp only at hSw); go_simp) hHeld ?_
                  simp only [Act.put, List.setIfInBounds_toArray, List.set_cons_zero, List.set_cons_succ]
                  refine take_in 39 77 (.pointer (some ⟨p10, 0, none⟩)) rfl rfl (by kernel_rfl) (by kernel_rfl) (by kernel_rfl) (fun _ _ _ h => h) (by kernel_rfl) (by intro w hSw; (try dsimp only at hSw); go_simp) hHeld ?_
                  simp only [Act.put, List.setIfInBounds_toArray, List.set_cons_zero, List.set_cons_succ]
                  refine take_in 40 78 (.int .i64 4) rfl rfl (by kernel_rfl) (by kernel_rfl) (by kernel_rfl) (fun _ _ _ h => h) (by kernel_rfl) (by intro w hSw; (try dsimp only at hSw); go_simp) hHeld ?_
                  simp only [Act.put, List.setIfInBounds_toArray, List.set_cons_zero, List.set_cons_succ]
                  refine take_in 41 79 (.bool false) rfl rfl (by kernel_rfl) (by kernel_rfl) (by kernel_rfl) (fun _ _ _ h => h) (by kernel_rfl) (by intro w hSw; (try dsimp only at hSw); go_simp) hHeld ?_
                  simp only [Act.put, List.setIfInBounds_toArray, List.set_cons_zero, List.set_cons_succ]
                  refine take_in 42 80 (.bool false) rfl rfl (by kernel_rfl) (by kernel_rfl) (by kernel_rfl) (fun _ _ _ h => h) (by kernel_rfl) (by intro w hSw; (try dsimp only at hSw); go_simp) hHeld ?_
                  simp only [Act.put, List.setIfInBounds_toArray, List.set_cons_zero, List.set_cons_succ]
                  refine take_out 43 81 rfl rfl (by kernel_rfl) (by kernel_rfl) (by kernel_rfl) (fun _ _ _ h => h) (by kernel_rfl) hHeld ?_
                  simp only [Act.put, List.setIfInBounds_toArray, List.set_cons_zero, List.set_cons_succ]
                  refine take_out 44 82 rfl rfl (by kernel_rfl) (by kernel_rfl) (by kernel_rfl) (fun _ _ _ h => h) (by kernel_rfl) hHeld ?_
                  simp only [Act.put, List.setIfInBounds_toArray, List.set_cons_zero, List.set_cons_succ]
                  refine take_out 45 83 rfl rfl (by kernel_rfl) (by kernel_rfl) (by kernel_rfl) (fun _ _ _ h => h) (by kernel_rfl) hHeld ?_
                  simp only [Act.put, List.setIfInBounds_toArray, List.set_cons_zero, List.set_cons_succ]
                  refine take_in 46 84 (.bool false) rfl rfl (by kernel_rfl) (by kernel_rfl) (by kernel_rfl) (fun _ _ _ h => h) (by kernel_rfl) (by intro w hSw; (try dsimp only at hSw); go_simp) hHeld ?_
                  simp only [Act.put, List.setIfInBounds_toArray, List.set_cons_zero, List.set_cons_succ]
                  refine take_in 47 85 (.bool false) rfl rfl (by kernel_rfl) (by kernel_rfl) (by kernel_rfl) (fun _ _ _ h => h) (by kernel_rfl) (by intro w hSw; (try dsimp only at hSw); go_simp) hHeld ?_
                  simp only [Act.put, List.setIfInBounds_toArray, List.set_cons_zero, List.set_cons_succ]
                  refine take_in 48 86 (.bool false) rfl rfl (by kernel_rfl) (by kernel_rfl) (by kernel_rfl) (fun _ _ _ h => h) (by kernel_rfl) (by intro w hSw; (try dsimp only at hSw); go_simp) hHeld ?_
                  simp only [Act.put, List.setIfInBounds_toArray, List.set_cons_zero, List.set_cons_succ]
                  refine take_in 49 87 (.agg #[.int .i64 4, .int .i64 yg, .int .i64 yc]) rfl rfl (by kernel_rfl) (by kernel_rfl) (by kernel_rfl) (fun _ _ _ h => h) (by kernel_rfl) (by intro w hSw; (try dsimp only at hSw); go_simp) hHeld ?_
                  simp only [Act.put, List.setIfInBounds_toArray, List.set_cons_zero, List.set_cons_succ]
                  refine take_in 51 89 (.pointer (some ⟨p10, 0, none⟩)) rfl rfl (by kernel_rfl) (by kernel_rfl) (by kernel_rfl) (fun _ _ _ h => h) (by kernel_rfl) (by intro w hSw; (try dsimp only at hSw); go_simp) hHeld ?_
                  simp only [Act.put, List.setIfInBounds_toArray, List.set_cons_zero, List.set_cons_succ]
                  refine take_in 52 90 (.int .i64 4) rfl rfl (by kernel_rfl) (by kernel_rfl) (by kernel_rfl) (fun _ _ _ h => h) (by kernel_rfl) (by intro w hSw; (try dsimp only at hSw); go_simp) hHeld ?_
                  simp only [Act.put, List.setIfInBounds_toArray, List.set_cons_zero, List.set_cons_succ]
                  refine take_in 53 91 (.bool false) rfl rfl (by kernel_rfl) (by kernel_rfl) (by kernel_rfl) (fun _ _ _ h => h) (by kernel_rfl) (by intro w hSw; (try dsimp only at hSw); go_simp) hHeld ?_
                  simp only [Act.put, List.setIfInBounds_toArray, List.set_cons_zero, List.set_cons_succ]
                  refine wpAnyH_ready (rs := [50]) (by kernel_rfl) (by simp) ?_
                  refine AllReadyH.cons rfl (fun K hK => ?_) AllReadyH.nil
                  clear hHeld
                  go_simp
                  refine (HTY.out _).mono ?_
                  rintro e w6 ⟨rfl, hb6⟩
                  go_simp
                  refine hK.out _ _ ?_ (fun hHeld => ?_)
                  · refine nine_any ?_ Q1.out Q2.out K0.out
                    (repeat (first | refine Below.drew ?_ | refine below_fl hb6 ?_ | refine below_fl hb5 ?_))
                    exact Below.refl _ _
                  clear hK K
                  try simp only [Act.put, List.setIfInBounds_toArray, List.set_cons_zero, List.set_cons_succ]
                  refine take_in 54 92 (.bool false) rfl rfl (by kernel_rfl) (by kernel_rfl) (by kernel_rfl) (fun _ _ _ h => h) (by kernel_rfl) (by intro w hSw; (try dsimp only at hSw); go_simp) hHeld ?_
                  simp only [Act.put, List.setIfInBounds_toArray, List.set_cons_zero, List.set_cons_succ]
                  refine take_in 55 93 (.bool false) rfl rfl (by kernel_rfl) (by kernel_rfl) (by kernel_rfl) (fun _ _ _ h => h) (by kernel_rfl) (by intro w hSw; (try dsimp only at hSw); go_simp) hHeld ?_
                  simp only [Act.put, List.setIfInBounds_toArray, List.set_cons_zero, List.set_cons_succ]
                  refine wpAnyH_done (by kernel_rfl) ?_ _
                  go_wp2_with fail
                  go_meet
                  refine ⟨rfl, ?_⟩
                  (repeat (first | refine Below.drew ?_ | refine below_fl hb6 ?_ | refine below_fl hb5 ?_))
                  exact Below.refl _ _
                · subst e5
                  rw [takes_t HOY.out e2] at HTY
                  have d1 : (xs == (4 : Int)) = false := by simpa using e1
                  have d2 : (ys != (4 : Int)) = true := by simpa using e2
                  have d3 : (ys == (2 : Int)) = false := by simpa using e3
                  have d4 : decide (ys < xs) = false := decide_eq_false e4
                  clear e1 e2 e3 e4
                  refine wp_region_held_drew (S := fun w' => (w'.cell? ⟨p10, 0, none⟩ = some (.int .i64 ys) ∧ w'.cell? ⟨p10, 1, none⟩ = some (.int .i64 yg) ∧ w'.cell? ⟨p10, 2, none⟩ = some (.int .i64 0) ∧ w'.cell? ⟨p2, 0, none⟩ = some (.int .i64 xs) ∧ w'.cell? ⟨p2, 1, none⟩ = some (.int .i64 xg) ∧ w'.cell? ⟨p2, 2, none⟩ = some (.int .i64 xc) ∧ w'.cell? ⟨b, o + k * 3, none⟩ = some (.int .i64 hk)) ∧ Below wc.heap.size wc w') (by kernel_rfl) ?_ (fun hHeld => ?_)
                  · refine nine_any ?_ Q1.out Q2.out K0.out
                    exact (Below.refl _ _).drew
                  refine take_in 0 38 (.agg #[.int .i64 ys, .int .i64 yg, .int .i64 0]) rfl rfl (by kernel_rfl) (by kernel_rfl) (by kernel_rfl) (fun _ _ _ h => h) (by kernel_rfl) (by intro w hSw; (try dsimp only at hSw); go_simp) hHeld ?_
                  simp only [Act.put, List.setIfInBounds_toArray, List.set_cons_zero, List.set_cons_succ]
                  refine wpAnyH_ready (rs := [1]) (by kernel_rfl) (by simp) ?_
                  refine AllReadyH.cons rfl (fun K hK => ?_) AllReadyH.nil
                  clear hHeld
                  go_simp
                  refine (HCY.out _).mono ?_
                  rintro e w5 ⟨rfl, hb5⟩
                  go_simp
                  refine hK.out _ _ ?_ (fun hHeld => ?_)
                  · refine nine_any ?_ Q1.out Q2.out K0.out
                    (repeat (first | refine Below.drew ?_ | refine below_fl hb6 ?_ | refine below_fl hb5 ?_))
                    exact Below.refl _ _
                  clear hK K
                  try simp only [Act.put, List.setIfInBounds_toArray, List.set_cons_zero, List.set_cons_succ]
                  refine take_in 2 40 (.bool false) rfl rfl (by kernel_rfl) (by kernel_rfl) (by kernel_rfl) (fun _ _ _ h => h) (by kernel_rfl) (by intro w hSw; (try dsimp only at hSw); go_simp) hHeld ?_
                  simp only [Act.put, List.setIfInBounds_toArray, List.set_cons_zero, List.set_cons_succ]
                  refine take_in 3 41 (.bool false) rfl rfl (by kernel_rfl) (by kernel_rfl) (by kernel_rfl) (fun _ _ _ h => h) (by kernel_rfl) (by intro w hSw; (try dsimp only at hSw); go_simp) hHeld ?_
                  simp only [Act.put, List.setIfInBounds_toArray, List.set_cons_zero, List.set_cons_succ]
                  refine take_in 4 42 (.pointer (some ⟨p2, 0, none⟩)) rfl rfl (by kernel_rfl) (by kernel_rfl) (by kernel_rfl) (fun _ _ _ h => h) (by kernel_rfl) (by intro w hSw; (try dsimp only at hSw); go_simp) hHeld ?_
                  simp only [Act.put, List.setIfInBounds_toArray, List.set_cons_zero, List.set_cons_succ]
                  refine take_in 5 43 (.int .i64 xs) rfl rfl (by kernel_rfl) (by kernel_rfl) (by kernel_rfl) (fun _ _ _ h => h) (by kernel_rfl) (by intro w hSw; (try dsimp only at hSw); go_simp) hHeld ?_
                  simp only [Act.put, List.setIfInBounds_toArray, List.set_cons_zero, List.set_cons_succ]
                  refine take_in 6 44 (.bool false) rfl rfl (by kernel_rfl) (by kernel_rfl) (by kernel_rfl) (fun _ _ _ h => h) (by kernel_rfl) (by intro w hSw; (try dsimp only at hSw); go_simp) hHeld ?_
                  simp only [Act.put, List.setIfInBounds_toArray, List.set_cons_zero, List.set_cons_succ]
                  refine take_in 7 45 (.bool false) rfl rfl (by kernel_rfl) (by kernel_rfl) (by kernel_rfl) (fun _ _ _ h => h) (by kernel_rfl) (by intro w hSw; (try dsimp only at hSw); go_simp) hHeld ?_
                  simp only [Act.put, List.setIfInBounds_toArray, List.set_cons_zero, List.set_cons_succ]
                  refine take_out 8 46 rfl rfl (by kernel_rfl) (by kernel_rfl) (by kernel_rfl) (fun _ _ _ h => h) (by kernel_rfl) hHeld ?_
                  simp only [Act.put, List.setIfInBounds_toArray, List.set_cons_zero, List.set_cons_succ]
                  refine take_out 9 47 rfl rfl (by kernel_rfl) (by kernel_rfl) (by kernel_rfl) (fun _ _ _ h => h) (by kernel_rfl) hHeld ?_
                  simp only [Act.put, List.setIfInBounds_toArray, List.set_cons_zero, List.set_cons_succ]
                  refine take_out 10 48 rfl rfl (by kernel_rfl) (by kernel_rfl) (by kernel_rfl) (fun _ _ _ h => h) (by kernel_rfl) hHeld ?_
                  simp only [Act.put, List.setIfInBounds_toArray, List.set_cons_zero, List.set_cons_succ]
                  refine take_in 11 49 (.bool false) rfl rfl (by kernel_rfl) (by kernel_rfl) (by kernel_rfl) (fun _ _ _ h => h) (by kernel_rfl) (by intro w hSw; (try dsimp only at hSw); go_simp) hHeld ?_
                  simp only [Act.put, List.setIfInBounds_toArray, List.set_cons_zero, List.set_cons_succ]
                  refine take_in 12 50 (.bool false) rfl rfl (by kernel_rfl) (by kernel_rfl) (by kernel_rfl) (fun _ _ _ h => h) (by kernel_rfl) (by intro w hSw; (try dsimp only at hSw); go_simp) hHeld ?_
                  simp only [Act.put, List.setIfInBounds_toArray, List.set_cons_zero, List.set_cons_succ]
                  refine take_in 13 51 (.bool false) rfl rfl (by kernel_rfl) (by kernel_rfl) (by kernel_rfl) (fun _ _ _ h => h) (by kernel_rfl) (by intro w hSw; (try dsimp only at hSw); go_simp) hHeld ?_
                  simp only [Act.put, List.setIfInBounds_toArray, List.set_cons_zero, List.set_cons_succ]
                  refine take_in 14 52 (.pointer (some ⟨p10, 0, none⟩)) rfl rfl (by kernel_rfl) (by kernel_rfl) (by kernel_rfl) (fun _ _ _ h => h) (by kernel_rfl) (by intro w hSw; (try dsimp only at hSw); go_simp) hHeld ?_
                  simp only [Act.put, List.setIfInBounds_toArray, List.set_cons_zero, List.set_cons_succ]
                  refine take_in 15 53 (.int .i64 ys) rfl rfl (by kernel_rfl) (by kernel_rfl) (by kernel_rfl) (fun _ _ _ h => h) (by kernel_rfl) (by intro w hSw; (try dsimp only at hSw); go_simp) hHeld ?_
                  simp only [Act.put, List.setIfInBounds_toArray, List.set_cons_zero, List.set_cons_succ]
                  refine take_in 16 54 (.pointer (some ⟨p2, 0, none⟩)) rfl rfl (by kernel_rfl) (by kernel_rfl) (by kernel_rfl) (fun _ _ _ h => h) (by kernel_rfl) (by intro w hSw; (try dsimp only at hSw); go_simp) hHeld ?_
                  simp only [Act.put, List.setIfInBounds_toArray, List.set_cons_zero, List.set_cons_succ]
                  refine take_in 17 55 (.int .i64 xs) rfl rfl (by kernel_rfl) (by kernel_rfl) (by kernel_rfl) (fun _ _ _ h => h) (by kernel_rfl) (by intro w hSw; (try dsimp only at hSw); go_simp) hHeld ?_
                  simp only [Act.put, List.setIfInBounds_toArray, List.set_cons_zero, List.set_cons_succ]
                  refine take_in 18 56 (.bool false) rfl rfl (by kernel_rfl) (by kernel_rfl) (by kernel_rfl) (fun _ _ _ h => h) (by kernel_rfl) (by intro w hSw; (try dsimp only at hSw); go_simp) hHeld ?_
                  simp only [Act.put, List.setIfInBounds_toArray, List.set_cons_zero, List.set_cons_succ]
                  refine take_in 19 57 (.bool false) rfl rfl (by kernel_rfl) (by kernel_rfl) (by kernel_rfl) (fun _ _ _ h => h) (by kernel_rfl) (by intro w hSw; (try dsimp only at hSw); go_simp) hHeld ?_
                  simp only [Act.put, List.setIfInBounds_toArray, List.set_cons_zero, List.set_cons_succ]
                  refine take_in 20 58 (.bool false) rfl rfl (by kernel_rfl) (by kernel_rfl) (by kernel_rfl) (fun _ _ _ h => h) (by kernel_rfl) (by intro w hSw; (try dsimp only at hSw); go_simp) hHeld ?_
                  simp only [Act.put, List.setIfInBounds_toArray, List.set_cons_zero, List.set_cons_succ]
                  refine take_in 21 59 (.pointer (some ⟨p10, 0, none⟩)) rfl rfl (by kernel_rfl) (by kernel_rfl) (by kernel_rfl) (fun _ _ _ h => h) (by kernel_rfl) (by intro w hSw; (try dsimp only at hSw); go_simp) hHeld ?_
                  simp only [Act.put, List.setIfInBounds_toArray, List.set_cons_zero, List.set_cons_succ]
                  refine take_in 22 60 (.int .i64 ys) rfl rfl (by kernel_rfl) (by kernel_rfl) (by kernel_rfl) (fun _ _ _ h => h) (by kernel_rfl) (by intro w hSw; (try dsimp only at hSw); go_simp) hHeld ?_
                  simp only [Act.put, List.setIfInBounds_toArray, List.set_cons_zero, List.set_cons_succ]
                  refine take_in 23 61 (.bool false) rfl rfl (by kernel_rfl) (by kernel_rfl) (by kernel_rfl) (fun _ _ _ h => h) (by kernel_rfl) (by intro w hSw; (try dsimp only at hSw); go_simp) hHeld ?_
                  simp only [Act.put, List.setIfInBounds_toArray, List.set_cons_zero, List.set_cons_succ]
                  refine take_in 24 62 (.bool false) rfl rfl (by kernel_rfl) (by kernel_rfl) (by kernel_rfl) (fun _ _ _ h => h) (by kernel_rfl) (by intro w hSw; (try dsimp only at hSw); go_simp) hHeld ?_
                  simp only [Act.put, List.setIfInBounds_toArray, List.set_cons_zero, List.set_cons_succ]
                  refine take_out 25 63 rfl rfl (by kernel_rfl) (by kernel_rfl) (by kernel_rfl) (fun _ _ _ h => h) (by kernel_rfl) hHeld ?_
                  simp only [Act.put, List.setIfInBounds_toArray, List.set_cons_zero, List.set_cons_succ]
                  refine take_out 26 64 rfl rfl (by kernel_rfl) (by kernel_rfl) (by kernel_rfl) (fun _ _ _ h => h) (by kernel_rfl) hHeld ?_
                  simp only [Act.put, List.setIfInBounds_toArray, List.set_cons_zero, List.set_cons_succ]
                  refine take_out 27 65 rfl rfl (by kernel_rfl) (by kernel_rfl) (by kernel_rfl) (fun _ _ _ h => h) (by kernel_rfl) hHeld ?_
                  simp only [Act.put, List.setIfInBounds_toArray, List.set_cons_zero, List.set_cons_succ]
                  refine take_in 28 66 (.bool false) rfl rfl (by kernel_rfl) (by kernel_rfl) (by kernel_rfl) (fun _ _ _ h => h) (by kernel_rfl) (by intro w hSw; (try dsimp only at hSw); go_simp) hHeld ?_
                  simp only [Act.put, List.setIfInBounds_toArray, List.set_cons_zero, List.set_cons_succ]
                  refine take_in 29 67 (.bool false) rfl rfl (by kernel_rfl) (by kernel_rfl) (by kernel_rfl) (fun _ _ _ h => h) (by kernel_rfl) (by intro w hSw; (try dsimp only at hSw); go_simp) hHeld ?_
                  simp only [Act.put, List.setIfInBounds_toArray, List.set_cons_zero, List.set_cons_succ]
                  refine take_out 30 68 rfl rfl (by kernel_rfl) (by kernel_rfl) (by kernel_rfl) (fun _ _ _ h => h) (by kernel_rfl) hHeld ?_
                  simp only [Act.put, List.setIfInBounds_toArray, List.set_cons_zero, List.set_cons_succ]
                  refine take_out 31 69 rfl rfl (by kernel_rfl) (by kernel_rfl) (by kernel_rfl) (fun _ _ _ h => h) (by kernel_rfl) hHeld ?_
                  simp only [Act.put, List.setIfInBounds_toArray, List.set_cons_zero, List.set_cons_succ]
                  refine take_out 32 70 rfl rfl (by kernel_rfl) (by kernel_rfl) (by kernel_rfl) (fun _ _ _ h => h) (by kernel_rfl) hHeld ?_
                  simp only [Act.put, List.setIfInBounds_toArray, List.set_cons_zero, List.set_cons_succ]
                  refine take_out 33 71 rfl rfl (by kernel_rfl) (by kernel_rfl) (by kernel_rfl) (fun _ _ _ h => h) (by kernel_rfl) hHeld ?_
                  simp only [Act.put, List.setIfInBounds_toArray, List.set_cons_zero, List.set_cons_succ]
                  refine take_out 34 72 rfl rfl (by kernel_rfl) (by kernel_rfl) (by kernel_rfl) (fun _ _ _ h => h) (by kernel_rfl) hHeld ?_
                  simp only [Act.put, List.setIfInBounds_toArray, List.set_cons_zero, List.set_cons_succ]
                  refine take_out 35 73 rfl rfl (by kernel_rfl) (by kernel_rfl) (by kernel_rfl) (fun _ _ _ h => h) (by kernel_rfl) hHeld ?_
                  simp only [Act.put, List.setIfInBounds_toArray, List.set_cons_zero, List.set_cons_succ]
                  refine take_in 36 74 (.bool false) rfl rfl (by kernel_rfl) (by kernel_rfl) (by kernel_rfl) (fun _ _ _ h => h) (by kernel_rfl) (by intro w hSw; (try dsimp only at hSw); go_simp) hHeld ?_
                  simp only [Act.put, List.setIfInBounds_toArray, List.set_cons_zero, List.set_cons_succ]
                  refine take_in 37 75 (.bool false) rfl rfl (by kernel_rfl) (by kernel_rfl) (by kernel_rfl) (fun _ _ _ h => h) (by kernel_rfl) (by intro w hSw; (try dsimp only at hSw); go_simp) hHeld ?_
                  simp only [Act.put, List.setIfInBounds_toArray, List.set_cons_zero, List.set_cons_succ]
                  refine take_in 38 76 (.bool false) rfl rfl (by kernel_rfl) (by kernel_rfl) (by kernel_rfl) (fun _ _ _ h => h) (by kernel_rfl) (by intro w hSw; (try dsimp only at hSw); go_simp) hHeld ?_
                  simp only [Act.put, List.setIfInBounds_toArray, List.set_cons_zero, List.set_cons_succ]
                  refine take_in 39 77 (.pointer (some ⟨p10, 0, none⟩)) rfl rfl (by kernel_rfl) (by kernel_rfl) (by kernel_rfl) (fun _ _ _ h => h) (by kernel_rfl) (by intro w hSw; (try dsimp only at hSw); go_simp) hHeld ?_
                  simp only [Act.put, List.setIfInBounds_toArray, List.set_cons_zero, List.set_cons_succ]
                  refine take_in 40 78 (.int .i64 ys) rfl rfl (by kernel_rfl) (by kernel_rfl) (by kernel_rfl) (fun _ _ _ h => h) (by kernel_rfl) (by intro w hSw; (try dsimp only at hSw); go_simp) hHeld ?_
                  simp only [Act.put, List.setIfInBounds_toArray, List.set_cons_zero, List.set_cons_succ]
                  refine take_in 41 79 (.bool true) rfl rfl (by kernel_rfl) (by kernel_rfl) (by kernel_rfl) (fun _ _ _ h => h) (by kernel_rfl) (by intro w hSw; (try dsimp only at hSw); go_simp) hHeld ?_
                  simp only [Act.put, List.setIfInBounds_toArray, List.set_cons_zero, List.set_cons_succ]
                  refine take_in 42 80 (.bool true) rfl rfl (by kernel_rfl) (by kernel_rfl) (by kernel_rfl) (fun _ _ _ h => h) (by kernel_rfl) (by intro w hSw; (try dsimp only at hSw); go_simp) hHeld ?_
                  simp only [Act.put, List.setIfInBounds_toArray, List.set_cons_zero, List.set_cons_succ]
                  refine take_in 43 81 (.pointer (some ⟨p10, 2, none⟩)) rfl rfl (by kernel_rfl) (by kernel_rfl) (by kernel_rfl) (fun _ _ _ h => h) (by kernel_rfl) (by intro w hSw; (try dsimp only at hSw); go_simp) hHeld ?_
                  simp only [Act.put, List.setIfInBounds_toArray, List.set_cons_zero, List.set_cons_succ]
                  refine take_in 44 82 (.int .i64 0) rfl rfl (by kernel_rfl) (by kernel_rfl) (by kernel_rfl) (fun _ _ _ h => h) (by kernel_rfl) (by intro w hSw; (try dsimp only at hSw); go_simp) hHeld ?_
                  simp only [Act.put, List.setIfInBounds_toArray, List.set_cons_zero, List.set_cons_succ]
                  refine take_in 45 83 (.bool false) rfl rfl (by kernel_rfl) (by kernel_rfl) (by kernel_rfl) (fun _ _ _ h => h) (by kernel_rfl) (by intro w hSw; (try dsimp only at hSw); go_simp) hHeld ?_
                  simp only [Act.put, List.setIfInBounds_toArray, List.set_cons_zero, List.set_cons_succ]
                  refine take_in 46 84 (.bool false) rfl rfl (by kernel_rfl) (by kernel_rfl) (by kernel_rfl) (fun _ _ _ h => h) (by kernel_rfl) (by intro w hSw; (try dsimp only at hSw); go_simp) hHeld ?_
                  simp only [Act.put, List.setIfInBounds_toArray, List.set_cons_zero, List.set_cons_succ]
                  refine take_in 47 85 (.bool false) rfl rfl (by kernel_rfl) (by kernel_rfl) (by kernel_rfl) (fun _ _ _ h => h) (by kernel_rfl) (by intro w hSw; (try dsimp only at hSw); go_simp) hHeld ?_
                  simp only [Act.put, List.setIfInBounds_toArray, List.set_cons_zero, List.set_cons_succ]
                  refine take_in 48 86 (.bool false) rfl rfl (by kernel_rfl) (by kernel_rfl) (by kernel_rfl) (fun _ _ _ h => h) (by kernel_rfl) (by intro w hSw; (try dsimp only at hSw); go_simp) hHeld ?_
                  simp only [Act.put, List.setIfInBounds_toArray, List.set_cons_zero, List.set_cons_succ]
                  refine take_in 49 87 (.agg #[.int .i64 ys, .int .i64 yg, .int .i64 0]) rfl rfl (by kernel_rfl) (by kernel_rfl) (by kernel_rfl) (fun _ _ _ h => h) (by kernel_rfl) (by intro w hSw; (try dsimp only at hSw); go_simp) hHeld ?_
                  simp only [Act.put, List.setIfInBounds_toArray, List.set_cons_zero, List.set_cons_succ]
                  refine take_in 51 89 (.pointer (some ⟨p10, 0, none⟩)) rfl rfl (by kernel_rfl) (by kernel_rfl) (by kernel_rfl) (fun _ _ _ h => h) (by kernel_rfl) (by intro w hSw; (try dsimp only at hSw); go_simp) hHeld ?_
                  simp only [Act.put, List.setIfInBounds_toArray, List.set_cons_zero, List.set_cons_succ]
                  refine take_in 52 90 (.int .i64 ys) rfl rfl (by kernel_rfl) (by kernel_rfl) (by kernel_rfl) (fun _ _ _ h => h) (by kernel_rfl) (by intro w hSw; (try dsimp only at hSw); go_simp) hHeld ?_
                  simp only [Act.put, List.setIfInBounds_toArray, List.set_cons_zero, List.set_cons_succ]
                  refine take_in 53 91 (.bool true) rfl rfl (by kernel_rfl) (by kernel_rfl) (by kernel_rfl) (fun _ _ _ h => h) (by kernel_rfl) (by intro w hSw; (try dsimp only at hSw); go_simp) hHeld ?_
                  simp only [Act.put, List.setIfInBounds_toArray, List.set_cons_zero, List.set_cons_succ]
                  refine wpAnyH_ready (rs := [50]) (by kernel_rfl) (by simp) ?_
                  refine AllReadyH.cons rfl (fun K hK => ?_) AllReadyH.nil
                  clear hHeld
                  go_simp
                  refine (HTY.out _).mono ?_
                  rintro e w6 ⟨rfl, hb6⟩
                  go_simp
                  refine hK.out _ _ ?_ (fun hHeld => ?_)
                  · refine nine_any ?_ Q1.out Q2.out K0.out
                    (repeat (first | refine Below.drew ?_ | refine below_fl hb6 ?_ | refine below_fl hb5 ?_))
                    exact Below.refl _ _
                  clear hK K
                  try simp only [Act.put, List.setIfInBounds_toArray, List.set_cons_zero, List.set_cons_succ]
                  refine take_in 54 92 (.bool false) rfl rfl (by kernel_rfl) (by kernel_rfl) (by kernel_rfl) (fun _ _ _ h => h) (by kernel_rfl) (by intro w hSw; (try dsimp only at hSw); go_simp) hHeld ?_
                  simp only [Act.put, List.setIfInBounds_toArray, List.set_cons_zero, List.set_cons_succ]
                  refine take_in 55 93 (.bool false) rfl rfl (by kernel_rfl) (by kernel_rfl) (by kernel_rfl) (fun _ _ _ h => h) (by kernel_rfl) (by intro w hSw; (try dsimp only at hSw); go_simp) hHeld ?_
                  simp only [Act.put, List.setIfInBounds_toArray, List.set_cons_zero, List.set_cons_succ]
                  refine wpAnyH_done (by kernel_rfl) ?_ _
                  go_wp2_with fail
                  go_meet
                  refine ⟨rfl, ?_⟩
                  (repeat (first | refine Below.drew ?_ | refine below_fl hb6 ?_ | refine below_fl hb5 ?_))
                  exact Below.refl _ _
                · subst e1 e2 e3 e4
                  rw [takes_t HOY.out (by simp)] at HTY
                  refine wp_region_held_drew (S := fun w' => (w'.cell? ⟨p10, 0, none⟩ = some (.int .i64 2) ∧ w'.cell? ⟨p10, 1, none⟩ = some (.int .i64 yg) ∧ w'.cell? ⟨p10, 2, none⟩ = some (.int .i64 0) ∧ w'.cell? ⟨p2, 0, none⟩ = some (.int .i64 1) ∧ w'.cell? ⟨p2, 1, none⟩ = some (.int .i64 xg) ∧ w'.cell? ⟨p2, 2, none⟩ = some (.int .i64 xc) ∧ w'.cell? ⟨b, o + k * 3, none⟩ = some (.int .i64 1)) ∧ Below wc.heap.size wc w') (by kernel_rfl) ?_ (fun hHeld => ?_)
                  · refine nine_any ?_ Q1.out Q2.out K0.out
                    exact (Below.refl _ _).drew
                  refine take_in 0 38 (.agg #[.int .i64 2, .int .i64 yg, .int .i64 0]) rfl rfl (by kernel_rfl) (by kernel_rfl) (by kernel_rfl) (fun _ _ _ h => h) (by kernel_rfl) (by intro w hSw; (try dsimp only at hSw); go_simp) hHeld ?_
                  simp only [Act.put, List.setIfInBounds_toArray, List.set_cons_zero, List.set_cons_succ]
                  refine wpAnyH_ready (rs := [1]) (by kernel_rfl) (by simp) ?_
                  refine AllReadyH.cons rfl (fun K hK => ?_) AllReadyH.nil
                  clear hHeld
                  go_simp
                  refine (HCY.out _).mono ?_
                  rintro e w5 ⟨rfl, hb5⟩
                  go_simp
                  refine hK.out _ _ ?_ (fun hHeld => ?_)
                  · refine nine_any ?_ Q1.out Q2.out K0.out
                    (repeat (first | refine Below.drew ?_ | refine below_fl hb6 ?_ | refine below_fl hb5 ?_))
                    exact Below.refl _ _
                  clear hK K
                  try simp only [Act.put, List.setIfInBounds_toArray, List.set_cons_zero, List.set_cons_succ]
                  refine take_in 2 40 (.bool false) rfl rfl (by kernel_rfl) (by kernel_rfl) (by kernel_rfl) (fun _ _ _ h => h) (by kernel_rfl) (by intro w hSw; (try dsimp only at hSw); go_simp) hHeld ?_
                  simp only [Act.put, List.setIfInBounds_toArray, List.set_cons_zero, List.set_cons_succ]
                  refine take_in 3 41 (.bool false) rfl rfl (by kernel_rfl) (by kernel_rfl) (by kernel_rfl) (fun _ _ _ h => h) (by kernel_rfl) (by intro w hSw; (try dsimp only at hSw); go_simp) hHeld ?_
                  simp only [Act.put, List.setIfInBounds_toArray, List.set_cons_zero, List.set_cons_succ]
                  refine take_in 4 42 (.pointer (some ⟨p2, 0, none⟩)) rfl rfl (by kernel_rfl) (by kernel_rfl) (by kernel_rfl) (fun _ _ _ h => h) (by kernel_rfl) (by intro w hSw; (try dsimp only at hSw); go_simp) hHeld ?_
                  simp only [Act.put, List.setIfInBounds_toArray, List.set_cons_zero, List.set_cons_succ]
                  refine take_in 5 43 (.int .i64 1) rfl rfl (by kernel_rfl) (by kernel_rfl) (by kernel_rfl) (fun _ _ _ h => h) (by kernel_rfl) (by intro w hSw; (try dsimp only at hSw); go_simp) hHeld ?_
                  simp only [Act.put, List.setIfInBounds_toArray, List.set_cons_zero, List.set_cons_succ]
                  refine take_in 6 44 (.bool false) rfl rfl (by kernel_rfl) (by kernel_rfl) (by kernel_rfl) (fun _ _ _ h => h) (by kernel_rfl) (by intro w hSw; (try dsimp only at hSw); go_simp) hHeld ?_
                  simp only [Act.put, List.setIfInBounds_toArray, List.set_cons_zero, List.set_cons_succ]
                  refine take_in 7 45 (.bool false) rfl rfl (by kernel_rfl) (by kernel_rfl) (by kernel_rfl) (fun _ _ _ h => h) (by kernel_rfl) (by intro w hSw; (try dsimp only at hSw); go_simp) hHeld ?_
                  simp only [Act.put, List.setIfInBounds_toArray, List.set_cons_zero, List.set_cons_succ]
                  refine take_out 8 46 rfl rfl (by kernel_rfl) (by kernel_rfl) (by kernel_rfl) (fun _ _ _ h => h) (by kernel_rfl) hHeld ?_
                  simp only [Act.put, List.setIfInBounds_toArray, List.set_cons_zero, List.set_cons_succ]
                  refine take_out 9 47 rfl rfl (by kernel_rfl) (by kernel_rfl) (by kernel_rfl) (fun _ _ _ h => h) (by kernel_rfl) hHeld ?_
                  simp only [Act.put, List.setIfInBounds_toArray, List.set_cons_zero, List.set_cons_succ]
                  refine take_out 10 48 rfl rfl (by kernel_rfl) (by kernel_rfl) (by kernel_rfl) (fun _ _ _ h => h) (by kernel_rfl) hHeld ?_
                  simp only [Act.put, List.setIfInBounds_toArray, List.set_cons_zero, List.set_cons_succ]
                  refine take_in 11 49 (.bool false) rfl rfl (by kernel_rfl) (by kernel_rfl) (by kernel_rfl) (fun _ _ _ h => h) (by kernel_rfl) (by intro w hSw; (try dsimp only at hSw); go_simp) hHeld ?_
                  simp only [Act.put, List.setIfInBounds_toArray, List.set_cons_zero, List.set_cons_succ]
                  refine take_in 12 50 (.bool false) rfl rfl (by kernel_rfl) (by kernel_rfl) (by kernel_rfl) (fun _ _ _ h => h) (by kernel_rfl) (by intro w hSw; (try dsimp only at hSw); go_simp) hHeld ?_
                  simp only [Act.put, List.setIfInBounds_toArray, List.set_cons_zero, List.set_cons_succ]
                  refine take_in 13 51 (.bool false) rfl rfl (by kernel_rfl) (by kernel_rfl) (by kernel_rfl) (fun _ _ _ h => h) (by kernel_rfl) (by intro w hSw; (try dsimp only at hSw); go_simp) hHeld ?_
                  simp only [Act.put, List.setIfInBounds_toArray, List.set_cons_zero, List.set_cons_succ]
                  refine take_in 14 52 (.pointer (some ⟨p10, 0, none⟩)) rfl rfl (by kernel_rfl) (by kernel_rfl) (by kernel_rfl) (fun _ _ _ h => h) (by kernel_rfl) (by intro w hSw; (try dsimp only at hSw); go_simp) hHeld ?_
                  simp only [Act.put, List.setIfInBounds_toArray, List.set_cons_zero, List.set_cons_succ]
                  refine take_in 15 53 (.int .i64 2) rfl rfl (by kernel_rfl) (by kernel_rfl) (by kernel_rfl) (fun _ _ _ h => h) (by kernel_rfl) (by intro w hSw; (try dsimp only at hSw); go_simp) hHeld ?_
                  simp only [Act.put, List.setIfInBounds_toArray, List.set_cons_zero, List.set_cons_succ]
                  refine take_in 16 54 (.pointer (some ⟨p2, 0, none⟩)) rfl rfl (by kernel_rfl) (by kernel_rfl) (by kernel_rfl) (fun _ _ _ h => h) (by kernel_rfl) (by intro w hSw; (try dsimp only at hSw); go_simp) hHeld ?_
                  simp only [Act.put, List.setIfInBounds_toArray, List.set_cons_zero, List.set_cons_succ]
                  refine take_in 17 55 (.int .i64 1) rfl rfl (by kernel_rfl) (by kernel_rfl) (by kernel_rfl) (fun _ _ _ h => h) (by kernel_rfl) (by intro w hSw; (try dsimp only at hSw); go_simp) hHeld ?_
                  simp only [Act.put, List.setIfInBounds_toArray, List.set_cons_zero, List.set_cons_succ]
                  refine take_in 18 56 (.bool false) rfl rfl (by kernel_rfl) (by kernel_rfl) (by kernel_rfl) (fun _ _ _ h => h) (by kernel_rfl) (by intro w hSw; (try dsimp only at hSw); go_simp) hHeld ?_
                  simp only [Act.put, List.setIfInBounds_toArray, List.set_cons_zero, List.set_cons_succ]
                  refine take_in 19 57 (.bool false) rfl rfl (by kernel_rfl) (by kernel_rfl) (by kernel_rfl) (fun _ _ _ h => h) (by kernel_rfl) (by intro w hSw; (try dsimp only at hSw); go_simp) hHeld ?_
                  simp only [Act.put, List.setIfInBounds_toArray, List.set_cons_zero, List.set_cons_succ]
                  refine take_in 20 58 (.bool false) rfl rfl (by kernel_rfl) (by kernel_rfl) (by kernel_rfl) (fun _ _ _ h => h) (by kernel_rfl) (by intro w hSw; (try dsimp only at hSw); go_simp) hHeld ?_
                  simp only [Act.put, List.setIfInBounds_toArray, List.set_cons_zero, List.set_cons_succ]
                  refine take_in 21 59 (.pointer (some ⟨p10, 0, none⟩)) rfl rfl (by kernel_rfl) (by kernel_rfl) (by kernel_rfl) (fun _ _ _ h => h) (by kernel_rfl) (by intro w hSw; (try dsimp only at hSw); go_simp) hHeld ?_
                  simp only [Act.put, List.setIfInBounds_toArray, List.set_cons_zero, List.set_cons_succ]
                  refine take_in 22 60 (.int .i64 2) rfl rfl (by kernel_rfl) (by kernel_rfl) (by kernel_rfl) (fun _ _ _ h => h) (by kernel_rfl) (by intro w hSw; (try dsimp only at hSw); go_simp) hHeld ?_
                  simp only [Act.put, List.setIfInBounds_toArray, List.set_cons_zero, List.set_cons_succ]
                  refine take_in 23 61 (.bool true) rfl rfl (by kernel_rfl) (by kernel_rfl) (by kernel_rfl) (fun _ _ _ h => h) (by kernel_rfl) (by intro w hSw; (try dsimp only at hSw); go_simp) hHeld ?_
                  simp only [Act.put, List.setIfInBounds_toArray, List.set_cons_zero, List.set_cons_succ]
                  refine take_in 24 62 (.bool true) rfl rfl (by kernel_rfl) (by kernel_rfl) (by kernel_rfl) (fun _ _ _ h => h) (by kernel_rfl) (by intro w hSw; (try dsimp only at hSw); go_simp) hHeld ?_
                  simp only [Act.put, List.setIfInBounds_toArray, List.set_cons_zero, List.set_cons_succ]
                  refine take_in 25 63 (.pointer (some ⟨p2, 0, none⟩)) rfl rfl (by kernel_rfl) (by kernel_rfl) (by kernel_rfl) (fun _ _ _ h => h) (by kernel_rfl) (by intro w hSw; (try dsimp only at hSw); go_simp) hHeld ?_
                  simp only [Act.put, List.setIfInBounds_toArray, List.set_cons_zero, List.set_cons_succ]
                  refine take_in 26 64 (.int .i64 1) rfl rfl (by kernel_rfl) (by kernel_rfl) (by kernel_rfl) (fun _ _ _ h => h) (by kernel_rfl) (by intro w hSw; (try dsimp only at hSw); go_simp) hHeld ?_
                  simp only [Act.put, List.setIfInBounds_toArray, List.set_cons_zero, List.set_cons_succ]
                  refine take_in 27 65 (.bool true) rfl rfl (by kernel_rfl) (by kernel_rfl) (by kernel_rfl) (fun _ _ _ h => h) (by kernel_rfl) (by intro w hSw; (try dsimp only at hSw); go_simp) hHeld ?_
                  simp only [Act.put, List.setIfInBounds_toArray, List.set_cons_zero, List.set_cons_succ]
                  refine take_in 28 66 (.bool true) rfl rfl (by kernel_rfl) (by kernel_rfl) (by kernel_rfl) (fun _ _ _ h => h) (by kernel_rfl) (by intro w hSw; (try dsimp only at hSw); go_simp) hHeld ?_
                  simp only [Act.put, List.setIfInBounds_toArray, List.set_cons_zero, List.set_cons_succ]
                  refine take_in 29 67 (.bool true) rfl rfl (by kernel_rfl) (by kernel_rfl) (by kernel_rfl) (fun _ _ _ h => h) (by kernel_rfl) (by intro w hSw; (try dsimp only at hSw); go_simp) hHeld ?_
                  simp only [Act.put, List.setIfInBounds_toArray, List.set_cons_zero, List.set_cons_succ]
                  refine take_in 30 68 (.slice (some ⟨b, o, none⟩) n c) rfl rfl (by kernel_rfl) (by kernel_rfl) (by kernel_rfl) (fun _ _ _ h => h) (by kernel_rfl) (by intro w hSw; (try dsimp only at hSw); go_simp) hHeld ?_
                  simp only [Act.put, List.setIfInBounds_toArray, List.set_cons_zero, List.set_cons_succ]
                  refine take_in 31 69 (.int .i64 ↑k) rfl rfl (by kernel_rfl) (by kernel_rfl) (by kernel_rfl) (fun _ _ _ h => h) (by kernel_rfl) (by intro w hSw; (try dsimp only at hSw); go_simp) hHeld ?_
                  simp only [Act.put, List.setIfInBounds_toArray, List.set_cons_zero, List.set_cons_succ]
                  refine take_in 32 70 (.pointer (some ⟨b, o + k * 3, none⟩)) rfl rfl (by kernel_rfl) (by kernel_rfl) (by kernel_rfl) (fun _ _ _ h => h) (by kernel_rfl) (by intro w hSw; (try dsimp only at hSw); go_simp) hHeld ?_
                  simp only [Act.put, List.setIfInBounds_toArray, List.set_cons_zero, List.set_cons_succ]
                  refine take_in 33 71 (.pointer (some ⟨b, o + k * 3, none⟩)) rfl rfl (by kernel_rfl) (by kernel_rfl) (by kernel_rfl) (fun _ _ _ h => h) (by kernel_rfl) (by intro w hSw; (try dsimp only at hSw); go_simp) hHeld ?_
                  simp only [Act.put, List.setIfInBounds_toArray, List.set_cons_zero, List.set_cons_succ]
                  refine take_in 34 72 (.int .i64 1) rfl rfl (by kernel_rfl) (by kernel_rfl) (by kernel_rfl) (fun _ _ _ h => h) (by kernel_rfl) (by intro w hSw; (try dsimp only at hSw); go_simp) hHeld ?_
                  simp only [Act.put, List.setIfInBounds_toArray, List.set_cons_zero, List.set_cons_succ]
                  refine take_in 35 73 (.bool false) rfl rfl (by kernel_rfl) (by kernel_rfl) (by kernel_rfl) (fun _ _ _ h => h) (by kernel_rfl) (by intro w hSw; (try dsimp only at hSw); go_simp) hHeld ?_
                  simp only [Act.put, List.setIfInBounds_toArray, List.set_cons_zero, List.set_cons_succ]
                  refine take_in 36 74 (.bool false) rfl rfl (by kernel_rfl) (by kernel_rfl) (by kernel_rfl) (fun _ _ _ h => h) (by kernel_rfl) (by intro w hSw; (try dsimp only at hSw); go_simp) hHeld ?_
                  simp only [Act.put, List.setIfInBounds_toArray, List.set_cons_zero, List.set_cons_succ]
                  refine take_in 37 75 (.bool false) rfl rfl (by kernel_rfl) (by kernel_rfl) (by kernel_rfl) (fun _ _ _ h => h) (by kernel_rfl) (by intro w hSw; (try dsimp only at hSw); go_simp) hHeld ?_
                  simp only [Act.put, List.setIfInBounds_toArray, List.set_cons_zero, List.set_cons_succ]
                  refine take_in 38 76 (.bool false) rfl rfl (by kernel_rfl) (by kernel_rfl) (by kernel_rfl) (fun _ _ _ h => h) (by kernel_rfl) (by intro w hSw; (try dsimp only at hSw); go_simp) hHeld ?_
                  simp only [Act.put, List.setIfInBounds_toArray, List.set_cons_zero, List.set_cons_succ]
                  refine take_in 39 77 (.pointer (some ⟨p10, 0, none⟩)) rfl rfl (by kernel_rfl) (by kernel_rfl) (by kernel_rfl) (fun _ _ _ h => h) (by kernel_rfl) (by intro w hSw; (try dsimp only at hSw); go_simp) hHeld ?_
                  simp only [Act.put, List.setIfInBounds_toArray, List.set_cons_zero, List.set_cons_succ]
                  refine take_in 40 78 (.int .i64 2) rfl rfl (by kernel_rfl) (by kernel_rfl) (by kernel_rfl) (fun _ _ _ h => h) (by kernel_rfl) (by intro w hSw; (try dsimp only at hSw); go_simp) hHeld ?_
                  simp only [Act.put, List.setIfInBounds_toArray, List.set_cons_zero, List.set_cons_succ]
                  refine take_in 41 79 (.bool true) rfl rfl (by kernel_rfl) (by kernel_rfl) (by kernel_rfl) (fun _ _ _ h => h) (by kernel_rfl) (by intro w hSw; (try dsimp only at hSw); go_simp) hHeld ?_
                  simp only [Act.put, List.setIfInBounds_toArray, List.set_cons_zero, List.set_cons_succ]
                  refine take_in 42 80 (.bool true) rfl rfl (by kernel_rfl) (by kernel_rfl) (by kernel_rfl) (fun _ _ _ h => h) (by kernel_rfl) (by intro w hSw; (try dsimp only at hSw); go_simp) hHeld ?_
                  simp only [Act.put, List.setIfInBounds_toArray, List.set_cons_zero, List.set_cons_succ]
                  refine take_in 43 81 (.pointer (some ⟨p10, 2, none⟩)) rfl rfl (by kernel_rfl) (by kernel_rfl) (by kernel_rfl) (fun _ _ _ h => h) (by kernel_rfl) (by intro w hSw; (try dsimp only at hSw); go_simp) hHeld ?_
                  simp only [Act.put, List.setIfInBounds_toArray, List.set_cons_zero, List.set_cons_succ]
                  refine take_in 44 82 (.int .i64 0) rfl rfl (by kernel_rfl) (by kernel_rfl) (by kernel_rfl) (fun _ _ _ h => h) (by kernel_rfl) (by intro w hSw; (try dsimp only at hSw); go_simp) hHeld ?_
                  simp only [Act.put, List.setIfInBounds_toArray, List.set_cons_zero, List.set_cons_succ]
                  refine take_in 45 83 (.bool false) rfl rfl (by kernel_rfl) (by kernel_rfl) (by kernel_rfl) (fun _ _ _ h => h) (by kernel_rfl) (by intro w hSw; (try dsimp only at hSw); go_simp) hHeld ?_
                  simp only [Act.put, List.setIfInBounds_toArray, List.set_cons_zero, List.set_cons_succ]
                  refine take_in 46 84 (.bool false) rfl rfl (by kernel_rfl) (by kernel_rfl) (by kernel_rfl) (fun _ _ _ h => h) (by kernel_rfl) (by intro w hSw; (try dsimp only at hSw); go_simp) hHeld ?_
                  simp only [Act.put, List.setIfInBounds_toArray, List.set_cons_zero, List.set_cons_succ]
                  refine take_in 47 85 (.bool false) rfl rfl (by kernel_rfl) (by kernel_rfl) (by kernel_rfl) (fun _ _ _ h => h) (by kernel_rfl) (by intro w hSw; (try dsimp only at hSw); go_simp) hHeld ?_
                  simp only [Act.put, List.setIfInBounds_toArray, List.set_cons_zero, List.set_cons_succ]
                  refine take_in 48 86 (.bool false) rfl rfl (by kernel_rfl) (by kernel_rfl) (by kernel_rfl) (fun _ _ _ h => h) (by kernel_rfl) (by intro w hSw; (try dsimp only at hSw); go_simp) hHeld ?_
                  simp only [Act.put, List.setIfInBounds_toArray, List.set_cons_zero, List.set_cons_succ]
                  refine take_in 49 87 (.agg #[.int .i64 2, .int .i64 yg, .int .i64 0]) rfl rfl (by kernel_rfl) (by kernel_rfl) (by kernel_rfl) (fun _ _ _ h => h) (by kernel_rfl) (by intro w hSw; (try dsimp only at hSw); go_simp) hHeld ?_
                  simp only [Act.put, List.setIfInBounds_toArray, List.set_cons_zero, List.set_cons_succ]
                  refine take_in 51 89 (.pointer (some ⟨p10, 0, none⟩)) rfl rfl (by kernel_rfl) (by kernel_rfl) (by kernel_rfl) (fun _ _ _ h => h) (by kernel_rfl) (by intro w hSw; (try dsimp only at hSw); go_simp) hHeld ?_
                  simp only [Act.put, List.setIfInBounds_toArray, List.set_cons_zero, List.set_cons_succ]
                  refine take_in 52 90 (.int .i64 2) rfl rfl (by kernel_rfl) (by kernel_rfl) (by kernel_rfl) (fun _ _ _ h => h) (by kernel_rfl) (by intro w hSw; (try dsimp only at hSw); go_simp) hHeld ?_
                  simp only [Act.put, List.setIfInBounds_toArray, List.set_cons_zero, List.set_cons_succ]
                  refine take_in 53 91 (.bool true) rfl rfl (by kernel_rfl) (by kernel_rfl) (by kernel_rfl) (fun _ _ _ h => h) (by kernel_rfl) (by intro w hSw; (try dsimp only at hSw); go_simp) hHeld ?_
                  simp only [Act.put, List.setIfInBounds_toArray, List.set_cons_zero, List.set_cons_succ]
                  refine wpAnyH_ready (rs := [50]) (by kernel_rfl) (by simp) ?_
                  refine AllReadyH.cons rfl (fun K hK => ?_) AllReadyH.nil
                  clear hHeld
                  go_simp
                  refine (HTY.out _).mono ?_
                  rintro e w6 ⟨rfl, hb6⟩
                  go_simp
                  refine hK.out _ _ ?_ (fun hHeld => ?_)
                  · refine nine_any ?_ Q1.out Q2.out K0.out
                    (repeat (first | refine Below.drew ?_ | refine below_fl hb6 ?_ | refine below_fl hb5 ?_))
                    exact Below.refl _ _
                  clear hK K
                  try simp only [Act.put, List.setIfInBounds_toArray, List.set_cons_zero, List.set_cons_succ]
                  refine take_in 54 92 (.bool false) rfl rfl (by kernel_rfl) (by kernel_rfl) (by kernel_rfl) (fun _ _ _ h => h) (by kernel_rfl) (by intro w hSw; (try dsimp only at hSw); go_simp) hHeld ?_
                  simp only [Act.put, List.setIfInBounds_toArray, List.set_cons_zero, List.set_cons_succ]
                  refine take_in 55 93 (.bool false) rfl rfl (by kernel_rfl) (by kernel_rfl) (by kernel_rfl) (fun _ _ _ h => h) (by kernel_rfl) (by intro w hSw; (try dsimp only at hSw); go_simp) hHeld ?_
                  simp only [Act.put, List.setIfInBounds_toArray, List.set_cons_zero, List.set_cons_succ]
                  refine wpAnyH_done (by kernel_rfl) ?_ _
                  go_wp2_with fail
                  go_meet
                  refine ⟨rfl, ?_⟩
                  (repeat (first | refine Below.drew ?_ | refine below_fl hb6 ?_ | refine below_fl hb5 ?_))
                  exact Below.refl _ _
                · subst e1 e2 e3
                  rw [takes_t HOY.out (by simp)] at HTY
                  refine wp_region_held_drew (S := fun w' => (w'.cell? ⟨p10, 0, none⟩ = some (.int .i64 2) ∧ w'.cell? ⟨p10, 1, none⟩ = some (.int .i64 yg) ∧ w'.cell? ⟨p10, 2, none⟩ = some (.int .i64 0) ∧ w'.cell? ⟨p2, 0, none⟩ = some (.int .i64 2) ∧ w'.cell? ⟨p2, 1, none⟩ = some (.int .i64 xg) ∧ w'.cell? ⟨p2, 2, none⟩ = some (.int .i64 xc) ∧ w'.cell? ⟨b, o + k * 3, none⟩ = some (.int .i64 hk)) ∧ Below wc.heap.size wc w') (by kernel_rfl) ?_ (fun hHeld => ?_)
                  · refine nine_any ?_ Q1.out Q2.out K0.out
                    exact (Below.refl _ _).drew
                  refine take_in 0 38 (.agg #[.int .i64 2, .int .i64 yg, .int .i64 0]) rfl rfl (by kernel_rfl) (by kernel_rfl) (by kernel_rfl) (fun _ _ _ h => h) (by kernel_rfl) (by intro w hSw; (try dsimp only at hSw); go_simp) hHeld ?_
                  simp only [Act.put, List.setIfInBounds_toArray, List.set_cons_zero, List.set_cons_succ]
                  refine wpAnyH_ready (rs := [1]) (by kernel_rfl) (by simp) ?_
                  refine AllReadyH.cons rfl (fun K hK => ?_) AllReadyH.nil
                  clear hHeld
                  go_simp
                  refine (HCY.out _).mono ?_
                  rintro e w5 ⟨rfl, hb5⟩
                  go_simp
                  refine hK.out _ _ ?_ (fun hHeld => ?_)
                  · refine nine_any ?_ Q1.out Q2.out K0.out
                    (repeat (first | refine Below.drew ?_ | refine below_fl hb6 ?_ | refine below_fl hb5 ?_))
                    exact Below.refl _ _
                  clear hK K
                  try simp only [Act.put, List.setIfInBounds_toArray, List.set_cons_zero, List.set_cons_succ]
                  refine take_in 2 40 (.bool false) rfl rfl (by kernel_rfl) (by kernel_rfl) (by kernel_rfl) (fun _ _ _ h => h) (by kernel_rfl) (by intro w hSw; (try dsimp only at hSw); go_simp) hHeld ?_
                  simp only [Act.put, List.setIfInBounds_toArray, List.set_cons_zero, List.set_cons_succ]
                  refine take_in 3 41 (.bool false) rfl rfl (by kernel_rfl) (by kernel_rfl) (by kernel_rfl) (fun _ _ _ h => h) (by kernel_rfl) (by intro w hSw; (try dsimp only at hSw); go_simp) hHeld ?_
                  simp only [Act.put, List.setIfInBounds_toArray, List.set_cons_zero, List.set_cons_succ]
                  refine take_in 4 42 (.pointer (some ⟨p2, 0, none⟩)) rfl rfl (by kernel_rfl) (by kernel_rfl) (by kernel_rfl) (fun _ _ _ h => h) (by kernel_rfl) (by intro w hSw; (try dsimp only at hSw); go_simp) hHeld ?_
                  simp only [Act.put, List.setIfInBounds_toArray, List.set_cons_zero, List.set_cons_succ]
                  refine take_in 5 43 (.int .i64 2) rfl rfl (by kernel_rfl) (by kernel_rfl) (by kernel_rfl) (fun _ _ _ h => h) (by kernel_rfl) (by intro w hSw; (try dsimp only at hSw); go_simp) hHeld ?_
                  simp only [Act.put, List.setIfInBounds_toArray, List.set_cons_zero, List.set_cons_succ]
                  refine take_in 6 44 (.bool false) rfl rfl (by kernel_rfl) (by kernel_rfl) (by kernel_rfl) (fun _ _ _ h => h) (by kernel_rfl) (by intro w hSw; (try dsimp only at hSw); go_simp) hHeld ?_
                  simp only [Act.put, List.setIfInBounds_toArray, List.set_cons_zero, List.set_cons_succ]
                  refine take_in 7 45 (.bool false) rfl rfl (by kernel_rfl) (by kernel_rfl) (by kernel_rfl) (fun _ _ _ h => h) (by kernel_rfl) (by intro w hSw; (try dsimp only at hSw); go_simp) hHeld ?_
                  simp only [Act.put, List.setIfInBounds_toArray, List.set_cons_zero, List.set_cons_succ]
                  refine take_out 8 46 rfl rfl (by kernel_rfl) (by kernel_rfl) (by kernel_rfl) (fun _ _ _ h => h) (by kernel_rfl) hHeld ?_
                  simp only [Act.put, List.setIfInBounds_toArray, List.set_cons_zero, List.set_cons_succ]
                  refine take_out 9 47 rfl rfl (by kernel_rfl) (by kernel_rfl) (by kernel_rfl) (fun _ _ _ h => h) (by kernel_rfl) hHeld ?_
                  simp only [Act.put, List.setIfInBounds_toArray, List.set_cons_zero, List.set_cons_succ]
                  refine take_out 10 48 rfl rfl (by kernel_rfl) (by kernel_rfl) (by kernel_rfl) (fun _ _ _ h => h) (by kernel_rfl) hHeld ?_
                  simp only [Act.put, List.setIfInBounds_toArray, List.set_cons_zero, List.set_cons_succ]
                  refine take_in 11 49 (.bool false) rfl rfl (by kernel_rfl) (by kernel_rfl) (by kernel_rfl) (fun _ _ _ h => h) (by kernel_rfl) (by intro w hSw; (try dsimp only at hSw); go_simp) hHeld ?_
                  simp only [Act.put, List.setIfInBounds_toArray, List.set_cons_zero, List.set_cons_succ]
                  refine take_in 12 50 (.bool false) rfl rfl (by kernel_rfl) (by kernel_rfl) (by kernel_rfl) (fun _ _ _ h => h) (by kernel_rfl) (by intro w hSw; (try dsimp only at hSw); go_simp) hHeld ?_
                  simp only [Act.put, List.setIfInBounds_toArray, List.set_cons_zero, List.set_cons_succ]
                  refine take_in 13 51 (.bool false) rfl rfl (by kernel_rfl) (by kernel_rfl) (by kernel_rfl) (fun _ _ _ h => h) (by kernel_rfl) (by intro w hSw; (try dsimp only at hSw); go_simp) hHeld ?_
                  simp only [Act.put, List.setIfInBounds_toArray, List.set_cons_zero, List.set_cons_succ]
                  refine take_in 14 52 (.pointer (some ⟨p10, 0, none⟩)) rfl rfl (by kernel_rfl) (by kernel_rfl) (by kernel_rfl) (fun _ _ _ h => h) (by kernel_rfl) (by intro w hSw; (try dsimp only at hSw); go_simp) hHeld ?_
                  simp only [Act.put, List.setIfInBounds_toArray, List.set_cons_zero, List.set_cons_succ]
                  refine take_in 15 53 (.int .i64 2) rfl rfl (by kernel_rfl) (by kernel_rfl) (by kernel_rfl) (fun _ _ _ h => h) (by kernel_rfl) (by intro w hSw; (try dsimp only at hSw); go_simp) hHeld ?_
                  simp only [Act.put, List.setIfInBounds_toArray, List.set_cons_zero, List.set_cons_succ]
                  refine take_in 16 54 (.pointer (some ⟨p2, 0, none⟩)) rfl rfl (by kernel_rfl) (by kernel_rfl) (by kernel_rfl) (fun _ _ _ h => h) (by kernel_rfl) (by intro w hSw; (try dsimp only at hSw); go_simp) hHeld ?_
                  simp only [Act.put, List.setIfInBounds_toArray, List.set_cons_zero, List.set_cons_succ]
                  refine take_in 17 55 (.int .i64 2) rfl rfl (by kernel_rfl) (by kernel_rfl) (by kernel_rfl) (fun _ _ _ h => h) (by kernel_rfl) (by intro w hSw; (try dsimp only at hSw); go_simp) hHeld ?_
                  simp only [Act.put, List.setIfInBounds_toArray, List.set_cons_zero, List.set_cons_succ]
                  refine take_in 18 56 (.bool false) rfl rfl (by kernel_rfl) (by kernel_rfl) (by kernel_rfl) (fun _ _ _ h => h) (by kernel_rfl) (by intro w hSw; (try dsimp only at hSw); go_simp) hHeld ?_
                  simp only [Act.put, List.setIfInBounds_toArray, List.set_cons_zero, List.set_cons_succ]
                  refine take_in 19 57 (.bool false) rfl rfl (by kernel_rfl) (by kernel_rfl) (by kernel_rfl) (fun _ _ _ h => h) (by kernel_rfl) (by intro w hSw; (try dsimp only at hSw); go_simp) hHeld ?_
                  simp only [Act.put, List.setIfInBounds_toArray, List.set_cons_zero, List.set_cons_succ]
                  refine take_in 20 58 (.bool false) rfl rfl (by kernel_rfl) (by kernel_rfl) (by kernel_rfl) (fun _ _ _ h => h) (by kernel_rfl) (by intro w hSw; (try dsimp only at hSw); go_simp) hHeld ?_
                  simp only [Act.put, List.setIfInBounds_toArray, List.set_cons_zero, List.set_cons_succ]
                  refine take_in 21 59 (.pointer (some ⟨p10, 0, none⟩)) rfl rfl (by kernel_rfl) (by kernel_rfl) (by kernel_rfl) (fun _ _ _ h => h) (by kernel_rfl) (by intro w hSw; (try dsimp only at hSw); go_simp) hHeld ?_
                  simp only [Act.put, List.setIfInBounds_toArray, List.set_cons_zero, List.set_cons_succ]
                  refine take_in 22 60 (.int .i64 2) rfl rfl (by kernel_rfl) (by kernel_rfl) (by kernel_rfl) (fun _ _ _ h => h) (by kernel_rfl) (by intro w hSw; (try dsimp only at hSw); go_simp) hHeld ?_
                  simp only [Act.put, List.setIfInBounds_toArray, List.set_cons_zero, List.set_cons_succ]
                  refine take_in 23 61 (.bool true) rfl rfl (by kernel_rfl) (by kernel_rfl) (by kernel_rfl) (fun _ _ _ h => h) (by kernel_rfl) (by intro w hSw; (try dsimp only at hSw); go_simp) hHeld ?_
                  simp only [Act.put, List.setIfInBounds_toArray, List.set_cons_zero, List.set_cons_succ]
                  refine take_in 24 62 (.bool true) rfl rfl (by kernel_rfl) (by kernel_rfl) (by kernel_rfl) (fun _ _ _ h => h) (by kernel_rfl) (by intro w hSw; (try dsimp only at hSw); go_simp) hHeld ?_
                  simp only [Act.put, List.setIfInBounds_toArray, List.set_cons_zero, List.set_cons_succ]
                  refine take_in 25 63 (.pointer (some ⟨p2, 0, none⟩)) rfl rfl (by kernel_rfl) (by kernel_rfl) (by kernel_rfl) (fun _ _ _ h => h) (by kernel_rfl) (by intro w hSw; (try dsimp only at hSw); go_simp) hHeld ?_
                  simp only [Act.put, List.setIfInBounds_toArray, List.set_cons_zero, List.set_cons_succ]
                  refine take_in 26 64 (.int .i64 2) rfl rfl (by kernel_rfl) (by kernel_rfl) (by kernel_rfl) (fun _ _ _ h => h) (by kernel_rfl) (by intro w hSw; (try dsimp only at hSw); go_simp) hHeld ?_
                  simp only [Act.put, List.setIfInBounds_toArray, List.set_cons_zero, List.set_cons_succ]
                  refine take_in 27 65 (.bool false) rfl rfl (by kernel_rfl) (by kernel_rfl) (by kernel_rfl) (fun _ _ _ h => h) (by kernel_rfl) (by intro w hSw; (try dsimp only at hSw); go_simp) hHeld ?_
                  simp only [Act.put, List.setIfInBounds_toArray, List.set_cons_zero, List.set_cons_succ]
                  refine take_in 28 66 (.bool false) rfl rfl (by kernel_rfl) (by kernel_rfl) (by kernel_rfl) (fun _ _ _ h => h) (by kernel_rfl) (by intro w hSw; (try dsimp only at hSw); go_simp) hHeld ?_
                  simp only [Act.put, List.setIfInBounds_toArray, List.set_cons_zero, List.set_cons_succ]
                  refine take_in 29 67 (.bool false) rfl rfl (by kernel_rfl) (by kernel_rfl) (by kernel_rfl) (fun _ _ _ h => h) (by kernel_rfl) (by intro w hSw; (try dsimp only at hSw); go_simp) hHeld ?_
                  simp only [Act.put, List.setIfInBounds_toArray, List.set_cons_zero, List.set_cons_succ]
                  refine take_out 30 68 rfl rfl (by kernel_rfl) (by kernel_rfl) (by kernel_rfl) (fun _ _ _ h => h) (by kernel_rfl) hHeld ?_
                  simp only [Act.put, List.setIfInBounds_toArray, List.set_cons_zero, List.set_cons_succ]
                  refine take_out 31 69 rfl rfl (by kernel_rfl) (by kernel_rfl) (by kernel_rfl) (fun _ _ _ h => h) (by kernel_rfl) hHeld ?_
                  simp only [Act.put, List.setIfInBounds_toArray, List.set_cons_zero, List.set_cons_succ]
                  refine take_out 32 70 rfl rfl (by kernel_rfl) (by kernel_rfl) (by kernel_rfl) (fun _ _ _ h => h) (by kernel_rfl) hHeld ?_
                  simp only [Act.put, List.setIfInBounds_toArray, List.set_cons_zero, List.set_cons_succ]
                  refine take_out 33 71 rfl rfl (by kernel_rfl) (by kernel_rfl) (by kernel_rfl) (fun _ _ _ h => h) (by kernel_rfl) hHeld ?_
                  simp only [Act.put, List.setIfInBounds_toArray, List.set_cons_zero, List.set_cons_succ]
                  refine take_out 34 72 rfl rfl (by kernel_rfl) (by kernel_rfl) (by kernel_rfl) (fun _ _ _ h => h) (by kernel_rfl) hHeld ?_
                  simp only [Act.put, List.setIfInBounds_toArray, List.set_cons_zero, List.set_cons_succ]
                  refine take_out 35 73 rfl rfl (by kernel_rfl) (by kernel_rfl) (by kernel_rfl) (fun _ _ _ h => h) (by kernel_rfl) hHeld ?_
                  simp only [Act.put, List.setIfInBounds_toArray, List.set_cons_zero, List.set_cons_succ]
                  refine take_in 36 74 (.bool false) rfl rfl (by kernel_rfl) (by kernel_rfl) (by kernel_rfl) (fun _ _ _ h => h) (by kernel_rfl) (by intro w hSw; (try dsimp only at hSw); go_simp) hHeld ?_
                  simp only [Act.put, List.setIfInBounds_toArray, List.set_cons_zero, List.set_cons_succ]
                  refine take_in 37 75 (.bool false) rfl rfl (by kernel_rfl) (by kernel_rfl) (by kernel_rfl) (fun _ _ _ h => h) (by kernel_rfl) (by intro w hSw; (try dsimp only at hSw); go_simp) hHeld ?_
                  simp only [Act.put, List.setIfInBounds_toArray, List.set_cons_zero, List.set_cons_succ]
                  refine take_in 38 76 (.bool false) rfl rfl (by kernel_rfl) (by kernel_rfl) (by kernel_rfl) (fun _ _ _ h => h) (by kernel_rfl) (by intro w hSw; (try dsimp only at hSw); go_simp) hHeld ?_
                  simp only [Act.put, List.setIfInBounds_toArray, List.set_cons_zero, List.set_cons_succ]
                  refine take_in 39 77 (.pointer (some ⟨p10, 0, none⟩)) rfl rfl (by kernel_rfl) (by kernel_rfl) (by kernel_rfl) (fun _ _ _ h => h) (by kernel_rfl) (by intro w hSw; (try dsimp only at hSw); go_simp) hHeld ?_
                  simp only [Act.put, List.setIfInBounds_toArray, List.set_cons_zero, List.set_cons_succ]
                  refine take_in 40 78 (.int .i64 2) rfl rfl (by kernel_rfl) (by kernel_rfl) (by kernel_rfl) (fun _ _ _ h => h) (by kernel_rfl) (by intro w hSw; (try dsimp only at hSw); go_simp) hHeld ?_
                  simp only [Act.put, List.setIfInBounds_toArray, List.set_cons_zero, List.set_cons_succ]
                  refine take_in 41 79 (.bool true) rfl rfl (by kernel_rfl) (by kernel_rfl) (by kernel_rfl) (fun _ _ _ h => h) (by kernel_rfl) (by intro w hSw; (try dsimp only at hSw); go_simp) hHeld ?_
                  simp only [Act.put, List.setIfInBounds_toArray, List.set_cons_zero, List.set_cons_succ]
                  refine take_in 42 80 (.bool true) rfl rfl (by kernel_rfl) (by kernel_rfl) (by kernel_rfl) (fun _ _ _ h => h) (by kernel_rfl) (by intro w hSw; (try dsimp only at hSw); go_simp) hHeld ?_
                  simp only [Act.put, List.setIfInBounds_toArray, List.set_cons_zero, List.set_cons_succ]
                  refine take_in 43 81 (.pointer (some ⟨p10, 2, none⟩)) rfl rfl (by kernel_rfl) (by kernel_rfl) (by kernel_rfl) (fun _ _ _ h => h) (by kernel_rfl) (by intro w hSw; (try dsimp only at hSw); go_simp) hHeld ?_
                  simp only [Act.put, List.setIfInBounds_toArray, List.set_cons_zero, List.set_cons_succ]
                  refine take_in 44 82 (.int .i64 0) rfl rfl (by kernel_rfl) (by kernel_rfl) (by kernel_rfl) (fun _ _ _ h => h) (by kernel_rfl) (by intro w hSw; (try dsimp only at hSw); go_simp) hHeld ?_
                  simp only [Act.put, List.setIfInBounds_toArray, List.set_cons_zero, List.set_cons_succ]
                  refine take_in 45 83 (.bool false) rfl rfl (by kernel_rfl) (by kernel_rfl) (by kernel_rfl) (fun _ _ _ h => h) (by kernel_rfl) (by intro w hSw; (try dsimp only at hSw); go_simp) hHeld ?_
                  simp only [Act.put, List.setIfInBounds_toArray, List.set_cons_zero, List.set_cons_succ]
                  refine take_in 46 84 (.bool false) rfl rfl (by kernel_rfl) (by kernel_rfl) (by kernel_rfl) (fun _ _ _ h => h) (by kernel_rfl) (by intro w hSw; (try dsimp only at hSw); go_simp) hHeld ?_
                  simp only [Act.put, List.setIfInBounds_toArray, List.set_cons_zero, List.set_cons_succ]
                  refine take_in 47 85 (.bool false) rfl rfl (by kernel_rfl) (by kernel_rfl) (by kernel_rfl) (fun _ _ _ h => h) (by kernel_rfl) (by intro w hSw; (try dsimp only at hSw); go_simp) hHeld ?_
                  simp only [Act.put, List.setIfInBounds_toArray, List.set_cons_zero, List.set_cons_succ]
                  refine take_in 48 86 (.bool false) rfl rfl (by kernel_rfl) (by kernel_rfl) (by kernel_rfl) (fun _ _ _ h => h) (by kernel_rfl) (by intro w hSw; (try dsimp only at hSw); go_simp) hHeld ?_
                  simp only [Act.put, List.setIfInBounds_toArray, List.set_cons_zero, List.set_cons_succ]
                  refine take_in 49 87 (.agg #[.int .i64 2, .int .i64 yg, .int .i64 0]) rfl rfl (by kernel_rfl) (by kernel_rfl) (by kernel_rfl) (fun _ _ _ h => h) (by kernel_rfl) (by intro w hSw; (try dsimp only at hSw); go_simp) hHeld ?_
                  simp only [Act.put, List.setIfInBounds_toArray, List.set_cons_zero, List.set_cons_succ]
                  refine take_in 51 89 (.pointer (some ⟨p10, 0, none⟩)) rfl rfl (by kernel_rfl) (by kernel_rfl) (by kernel_rfl) (fun _ _ _ h => h) (by kernel_rfl) (by intro w hSw; (try dsimp only at hSw); go_simp) hHeld ?_
                  simp only [Act.put, List.setIfInBounds_toArray, List.set_cons_zero, List.set_cons_succ]
                  refine take_in 52 90 (.int .i64 2) rfl rfl (by kernel_rfl) (by kernel_rfl) (by kernel_rfl) (fun _ _ _ h => h) (by kernel_rfl) (by intro w hSw; (try dsimp only at hSw); go_simp) hHeld ?_
                  simp only [Act.put, List.setIfInBounds_toArray, List.set_cons_zero, List.set_cons_succ]
                  refine take_in 53 91 (.bool true) rfl rfl (by kernel_rfl) (by kernel_rfl) (by kernel_rfl) (fun _ _ _ h => h) (by kernel_rfl) (by intro w hSw; (try dsimp only at hSw); go_simp) hHeld ?_
                  simp only [Act.put, List.setIfInBounds_toArray, List.set_cons_zero, List.set_cons_succ]
                  refine wpAnyH_ready (rs := [50]) (by kernel_rfl) (by simp) ?_
                  refine AllReadyH.cons rfl (fun K hK => ?_) AllReadyH.nil
                  clear hHeld
                  go_simp
                  refine (HTY.out _).mono ?_
                  rintro e w6 ⟨rfl, hb6⟩
                  go_simp
                  refine hK.out _ _ ?_ (fun hHeld => ?_)
                  · refine nine_any ?_ Q1.out Q2.out K0.out
                    (repeat (first | refine Below.drew ?_ | refine below_fl hb6 ?_ | refine below_fl hb5 ?_))
                    exact Below.refl _ _
                  clear hK K
                  try simp only [Act.put, List.setIfInBounds_toArray, List.set_cons_zero, List.set_cons_succ]
                  refine take_in 54 92 (.bool false) rfl rfl (by kernel_rfl) (by kernel_rfl) (by kernel_rfl) (fun _ _ _ h => h) (by kernel_rfl) (by intro w hSw; (try dsimp only at hSw); go_simp) hHeld ?_
                  simp only [Act.put, List.setIfInBounds_toArray, List.set_cons_zero, List.set_cons_succ]
                  refine take_in 55 93 (.bool false) rfl rfl (by kernel_rfl) (by kernel_rfl) (by kernel_rfl) (fun _ _ _ h => h) (by kernel_rfl) (by intro w hSw; (try dsimp only at hSw); go_simp) hHeld ?_
                  simp only [Act.put, List.setIfInBounds_toArray, List.set_cons_zero, List.set_cons_succ]
                  refine wpAnyH_done (by kernel_rfl) ?_ _
                  go_wp2_with fail
                  go_meet
                  refine ⟨rfl, ?_⟩
                  (repeat (first | refine Below.drew ?_ | refine below_fl hb6 ?_ | refine below_fl hb5 ?_))
                  exact Below.refl _ _
                · subst e3
                  rw [takes_f rfl] at HTY
                  have d1 : (xs == (4 : Int)) = false := by simpa using e1
                  have d4 : decide ((4 : Int) < xs) = false := decide_eq_false e2
                  clear e1 e2
                  refine wp_region_held_drew (S := fun w' => (w'.cell? ⟨p10, 0, none⟩ = some (.int .i64 4) ∧ w'.cell? ⟨p10, 1, none⟩ = some (.int .i64 yg) ∧ w'.cell? ⟨p10, 2, none⟩ = some (.int .i64 yc) ∧ w'.cell? ⟨p2, 0, none⟩ = some (.int .i64 xs) ∧ w'.cell? ⟨p2, 1, none⟩ = some (.int .i64 xg) ∧ w'.cell? ⟨p2, 2, none⟩ = some (.int .i64 xc) ∧ w'.cell? ⟨b, o + k * 3, none⟩ = some (.int .i64 hk)) ∧ Below wc.heap.size wc w') (by kernel_rfl) ?_ (fun hHeld => ?_)
                  · refine nine_any ?_ Q1.out Q2.out K0.out
                    exact (Below.refl _ _).drew
                  refine take_in 0 38 (.agg #[.int .i64 4, .int .i64 yg, .int .i64 yc]) rfl rfl (by kernel_rfl) (by kernel_rfl) (by kernel_rfl) (fun _ _ _ h => h) (by kernel_rfl) (by intro w hSw; (try dsimp only at hSw); go_simp) hHeld ?_
                  simp only [Act.put, List.setIfInBounds_toArray, List.set_cons_zero, List.set_cons_succ]
                  refine wpAnyH_ready (rs := [1]) (by kernel_rfl) (by simp) ?_
                  refine AllReadyH.cons rfl (fun K hK => ?_) AllReadyH.nil
                  clear hHeld
                  go_simp
                  refine (HCY.out _).mono ?_
                  rintro e w5 ⟨rfl, hb5⟩
                  go_simp
                  refine hK.out _ _ ?_ (fun hHeld => ?_)
                  · refine nine_any ?_ Q1.out Q2.out K0.out
                    (repeat (first | refine Below.drew ?_ | refine below_fl hb6 ?_ | refine below_fl hb5 ?_))
                    exact Below.refl _ _
                  clear hK K
                  try simp only [Act.put, List.setIfInBounds_toArray, List.set_cons_zero, List.set_cons_succ]
                  refine take_in 2 40 (.bool false) rfl rfl (by kernel_rfl) (by kernel_rfl) (by kernel_rfl) (fun _ _ _ h => h) (by kernel_rfl) (by intro w hSw; (try dsimp only at hSw); go_simp) hHeld ?_
                  simp only [Act.put, List.setIfInBounds_toArray, List.set_cons_zero, List.set_cons_succ]
                  refine take_in 3 41 (.bool false) rfl rfl (by kernel_rfl) (by kernel_rfl) (by kernel_rfl) (fun _ _ _ h => h) (by kernel_rfl) (by intro w hSw; (try dsimp only at hSw); go_simp) hHeld ?_
                  simp only [Act.put, List.setIfInBounds_toArray, List.set_cons_zero, List.set_cons_succ]
                  refine take_in 4 42 (.pointer (some ⟨p2, 0, none⟩)) rfl rfl (by kernel_rfl) (by kernel_rfl) (by kernel_rfl) (fun _ _ _ h => h) (by kernel_rfl) (by intro w hSw; (try dsimp only at hSw); go_simp) hHeld ?_
                  simp only [Act.put, List.setIfInBounds_toArray, List.set_cons_zero, List.set_cons_succ]
                  refine take_in 5 43 (.int .i64 xs) rfl rfl (by kernel_rfl) (by kernel_rfl) (by kernel_rfl) (fun _ _ _ h => h) (by kernel_rfl) (by intro w hSw; (try dsimp only at hSw); go_simp) hHeld ?_
                  simp only [Act.put, List.setIfInBounds_toArray, List.set_cons_zero, List.set_cons_succ]
                  refine take_in 6 44 (.bool false) rfl rfl (by kernel_rfl) (by kernel_rfl) (by kernel_rfl) (fun _ _ _ h => h) (by kernel_rfl) (by intro w hSw; (try dsimp only at hSw); go_simp) hHeld ?_
                  simp only [Act.put, List.setIfInBounds_toArray, List.set_cons_zero, List.set_cons_succ]
                  refine take_in 7 45 (.bool false) rfl rfl (by kernel_rfl) (by kernel_rfl) (by kernel_rfl) (fun _ _ _ h => h) (by kernel_rfl) (by intro w hSw; (try dsimp only at hSw); go_simp) hHeld ?_
                  simp only [Act.put, List.setIfInBounds_toArray, List.set_cons_zero, List.set_cons_succ]
                  refine take_out 8 46 rfl rfl (by kernel_rfl) (by kernel_rfl) (by kernel_rfl) (fun _ _ _ h => h) (by kernel_rfl) hHeld ?_
                  simp only [Act.put, List.setIfInBounds_toArray, List.set_cons_zero, List.set_cons_succ]
                  refine take_out 9 47 rfl rfl (by kernel_rfl) (by kernel_rfl) (by kernel_rfl) (fun _ _ _ h => h) (by kernel_rfl) hHeld ?_
                  simp only [Act.put, List.setIfInBounds_toArray, List.set_cons_zero, List.set_cons_succ]
                  refine take_out 10 48 rfl rfl (by kernel_rfl) (by kernel_rfl) (by kernel_rfl) (fun _ _ _ h => h) (by kernel_rfl) hHeld ?_
                  simp only [Act.put, List.setIfInBounds_toArray, List.set_cons_zero, List.set_cons_succ]
                  refine take_in 11 49 (.bool false) rfl rfl (by kernel_rfl) (by kernel_rfl) (by kernel_rfl) (fun _ _ _ h => h) (by kernel_rfl) (by intro w hSw; (try dsimp only at hSw); go_simp) hHeld ?_
                  simp only [Act.put, List.setIfInBounds_toArray, List.set_cons_zero, List.set_cons_succ]
                  refine take_in 12 50 (.bool false) rfl rfl (by kernel_rfl) (by kernel_rfl) (by kernel_rfl) (fun _ _ _ h => h) (by kernel_rfl) (by intro w hSw; (try dsimp only at hSw); go_simp) hHeld ?_
                  simp only [Act.put, List.setIfInBounds_toArray, List.set_cons_zero, List.set_cons_succ]
                  refine take_in 13 51 (.bool false) rfl rfl (by kernel_rfl) (by kernel_rfl) (by kernel_rfl) (fun _ _ _ h => h) (by kernel_rfl) (by intro w hSw; (try dsimp only at hSw); go_simp) hHeld ?_
                  simp only [Act.put, List.setIfInBounds_toArray, List.set_cons_zero, List.set_cons_succ]
                  refine take_in 14 52 (.pointer (some ⟨p10, 0, none⟩)) rfl rfl (by kernel_rfl) (by kernel_rfl) (by kernel_rfl) (fun _ _ _ h => h) (by kernel_rfl) (by intro w hSw; (try dsimp only at hSw); go_simp) hHeld ?_
                  simp only [Act.put, List.setIfInBounds_toArray, List.set_cons_zero, List.set_cons_succ]
                  refine take_in 15 53 (.int .i64 4) rfl rfl (by kernel_rfl) (by kernel_rfl) (by kernel_rfl) (fun _ _ _ h => h) (by kernel_rfl) (by intro w hSw; (try dsimp only at hSw); go_simp) hHeld ?_
                  simp only [Act.put, List.setIfInBounds_toArray, List.set_cons_zero, List.set_cons_succ]
                  refine take_in 16 54 (.pointer (some ⟨p2, 0, none⟩)) rfl rfl (by kernel_rfl) (by kernel_rfl) (by kernel_rfl) (fun _ _ _ h => h) (by kernel_rfl) (by intro w hSw; (try dsimp only at hSw); go_simp) hHeld ?_
                  simp only [Act.put, List.setIfInBounds_toArray, List.set_cons_zero, List.set_cons_succ]
                  refine take_in 17 55 (.int .i64 xs) rfl rfl (by kernel_rfl) (by kernel_rfl) (by kernel_rfl) (fun _ _ _ h => h) (by kernel_rfl) (by intro w hSw; (try dsimp only at hSw); go_simp) hHeld ?_
                  simp only [Act.put, List.setIfInBounds_toArray, List.set_cons_zero, List.set_cons_succ]
                  refine take_in 18 56 (.bool false) rfl rfl (by kernel_rfl) (by kernel_rfl) (by kernel_rfl) (fun _ _ _ h => h) (by kernel_rfl) (by intro w hSw; (try dsimp only at hSw); go_simp) hHeld ?_
                  simp only [Act.put, List.setIfInBounds_toArray, List.set_cons_zero, List.set_cons_succ]
                  refine take_in 19 57 (.bool false) rfl rfl (by kernel_rfl) (by kernel_rfl) (by kernel_rfl) (fun _ _ _ h => h) (by kernel_rfl) (by intro w hSw; (try dsimp only at hSw); go_simp) hHeld ?_
                  simp only [Act.put, List.setIfInBounds_toArray, List.set_cons_zero, List.set_cons_succ]
                  refine take_in 20 58 (.bool false) rfl rfl (by kernel_rfl) (by kernel_rfl) (by kernel_rfl) (fun _ _ _ h => h) (by kernel_rfl) (by intro w hSw; (try dsimp only at hSw); go_simp) hHeld ?_
                  simp only [Act.put, List.setIfInBounds_toArray, List.set_cons_zero, List.set_cons_succ]
                  refine take_in 21 59 (.pointer (some ⟨p10, 0, none⟩)) rfl rfl (by kernel_rfl) (by kernel_rfl) (by kernel_rfl) (fun _ _ _ h => h) (by kernel_rfl) (by intro w hSw; (try dsimp only at hSw); go_simp) hHeld ?_
                  simp only [Act.put, List.setIfInBounds_toArray, List.set_cons_zero, List.set_cons_succ]
                  refine take_in 22 60 (.int .i64 4) rfl rfl (by kernel_rfl) (by kernel_rfl) (by kernel_rfl) (fun _ _ _ h => h) (by kernel_rfl) (by intro w hSw; (try dsimp only at hSw); go_simp) hHeld ?_
                  simp only [Act.put, List.setIfInBounds_toArray, List.set_cons_zero, List.set_cons_succ]
                  refine take_in 23 61 (.bool false) rfl rfl (by kernel_rfl) (by kernel_rfl) (by kernel_rfl) (fun _ _ _ h => h) (by kernel_rfl) (by intro w hSw; (try dsimp only at hSw); go_simp) hHeld ?_
                  simp only [Act.put, List.setIfInBounds_toArray, List.set_cons_zero, List.set_cons_succ]
                  refine take_in 24 62 (.bool false) rfl rfl (by kernel_rfl) (by kernel_rfl) (by kernel_rfl) (fun _ _ _ h => h) (by kernel_rfl) (by intro w hSw; (try dsimp only at hSw); go_simp) hHeld ?_
                  simp only [Act.put, List.setIfInBounds_toArray, List.set_cons_zero, List.set_cons_succ]
                  refine take_out 25 63 rfl rfl (by kernel_rfl) (by kernel_rfl) (by kernel_rfl) (fun _ _ _ h => h) (by kernel_rfl) hHeld ?_
                  simp only [Act.put, List.setIfInBounds_toArray, List.set_cons_zero, List.set_cons_succ]
                  refine take_out 26 64 rfl rfl (by kernel_rfl) (by kernel_rfl) (by kernel_rfl) (fun _ _ _ h => h) (by kernel_rfl) hHeld ?_
                  simp only [Act.put, List.setIfInBounds_toArray, List.set_cons_zero, List.set_cons_succ]
                  refine take_out 27 65 rfl rfl (by kernel_rfl) (by kernel_rfl) (by kernel_rfl) (fun _ _ _ h => h) (by kernel_rfl) hHeld ?_
                  simp only [Act.put, List.setIfInBounds_toArray, List.set_cons_zero, List.set_cons_succ]
                  refine take_in 28 66 (.bool false) rfl rfl (by kernel_rfl) (by kernel_rfl) (by kernel_rfl) (fun _ _ _ h => h) (by kernel_rfl) (by intro w hSw; (try dsimp only at hSw); go_simp) hHeld ?_
                  simp only [Act.put, List.setIfInBounds_toArray, List.set_cons_zero, List.set_cons_succ]
                  refine take_in 29 67 (.bool false) rfl rfl (by kernel_rfl) (by kernel_rfl) (by kernel_rfl) (fun _ _ _ h => h) (by kernel_rfl) (by intro w hSw; (try dsimp only at hSw); go_simp) hHeld ?_
                  simp only [Act.put, List.setIfInBounds_toArray, List.set_cons_zero, List.set_cons_succ]
                  refine take_out 30 68 rfl rfl (by kernel_rfl) (by kernel_rfl) (by kernel_rfl) (fun _ _ _ h => h) (by kernel_rfl) hHeld ?_
                  simp only [Act.put, List.setIfInBounds_toArray, List.set_cons_zero, List.set_cons_succ]
                  refine take_out 31 69 rfl rfl (by kernel_rfl) (by kernel_rfl) (by kernel_rfl) (fun _ _ _ h => h) (by kernel_rfl) hHeld ?_
                  simp only [Act.put, List.setIfInBounds_toArray, List.set_cons_zero, List.set_cons_succ]
                  refine take_out 32 70 rfl rfl (by kernel_rfl) (by kernel_rfl) (by kernel_rfl) (fun _ _ _ h => h) (by kernel_rfl) hHeld ?_
                  simp only [Act.put, List.setIfInBounds_toArray, List.set_cons_zero, List.set_cons_succ]
                  refine take_out 33 71 rfl rfl (by kernel_rfl) (by kernel_rfl) (by kernel_rfl) (fun _ _ _ h => h) (by kernel_rfl) hHeld ?_
                  simp only [Act.put, List.setIfInBounds_toArray, List.set_cons_zero, List.set_cons_succ]
                  refine take_out 34 72 rfl rfl (by kernel_rfl) (by kernel_rfl) (by kernel_rfl) (fun _ _ _ h => h) (by kernel_rfl) hHeld ?_
                  simp only [Act.put, List.setIfInBounds_toArray, List.set_cons_zero, List.set_cons_succ]
                  refine take_out 35 73 rfl rfl (by kernel_rfl) (by kernel_rfl) (by kernel_rfl) (fun _ _ _ h => h) (by kernel_rfl) hHeld ?_
                  simp only [Act.put, List.setIfInBounds_toArray, List.set_cons_zero, List.set_cons_succ]
                  refine take_in 36 74 (.bool false) rfl rfl (by kernel_rfl) (by kernel_rfl) (by kernel_rfl) (fun _ _ _ h => h) (by kernel_rfl) (by intro w hSw; (try dsimp only at hSw); go_simp) hHeld ?_
                  simp only [Act.put, List.setIfInBounds_toArray, List.set_cons_zero, List.set_cons_succ]
                  refine take_in 37 75 (.bool false) rfl rfl (by kernel_rfl) (by kernel_rfl) (by kernel_rfl) (fun _ _ _ h => h) (by kernel_rfl) (by intro w hSw; (try dsimp only at hSw); go_simp) hHeld ?_
                  simp only [Act.put, List.setIfInBounds_toArray, List.set_cons_zero, List.set_cons_succ]
                  refine take_in 38 76 (.bool false) rfl rfl (by kernel_rfl) (by kernel_rfl) (by kernel_rfl) (fun _ _ _ h => h) (by kernel_rfl) (by intro w hSw; (try dsimp only at hSw); go_simp) hHeld ?_
                  simp only [Act.put, List.setIfInBounds_toArray, List.set_cons_zero, List.set_cons_succ]
                  refine take_in 39 77 (.pointer (some ⟨p10, 0, none⟩)) rfl rfl (by kernel_rfl) (by kernel_rfl) (by kernel_rfl) (fun _ _ _ h => h) (by kernel_rfl) (by intro w hSw; (try dsimp only at hSw); go_simp) hHeld ?_
                  simp only [Act.put, List.setIfInBounds_toArray, List.set_cons_zero, List.set_cons_succ]
                  refine take_in 40 78 (.int .i64 4) rfl rfl (by kernel_rfl) (by kernel_rfl) (by kernel_rfl) (fun _ _ _ h => h) (by kernel_rfl) (by intro w hSw; (try dsimp only at hSw); go_simp) hHeld ?_
                  simp only [Act.put, List.setIfInBounds_toArray, List.set_cons_zero, List.set_cons_succ]
                  refine take_in 41 79 (.bool false) rfl rfl (by kernel_rfl) (by kernel_rfl) (by kernel_rfl) (fun _ _ _ h => h) (by kernel_rfl) (by intro w hSw; (try dsimp only at hSw); go_simp) hHeld ?_
                  simp only [Act.put, List.setIfInBounds_toArray, List.set_cons_zero, List.set_cons_succ]
                  refine take_in 42 80 (.bool false) rfl rfl (by kernel_rfl) (by kernel_rfl) (by kernel_rfl) (fun _ _ _ h => h) (by kernel_rfl) (by intro w hSw; (try dsimp only at hSw); go_simp) hHeld ?_
                  simp only [Act.put, List.setIfInBounds_toArray, List.set_cons_zero, List.set_cons_succ]
                  refine take_out 43 81 rfl rfl (by kernel_rfl) (by kernel_rfl) (by kernel_rfl) (fun _ _ _ h => h) (by kernel_rfl) hHeld ?_
                  simp only [Act.put, List.setIfInBounds_toArray, List.set_cons_zero, List.set_cons_succ]
                  refine take_out 44 82 rfl rfl (by kernel_rfl) (by kernel_rfl) (by kernel_rfl) (fun _ _ _ h => h) (by kernel_rfl) hHeld ?_
                  simp only [Act.put, List.setIfInBounds_toArray, List.set_cons_zero, List.set_cons_succ]
                  refine take_out 45 83 rfl rfl (by kernel_rfl) (by kernel_rfl) (by kernel_rfl) (fun _ _ _ h => h) (by kernel_rfl) hHeld ?_
                  simp only [Act.put, List.setIfInBounds_toArray, List.set_cons_zero, List.set_cons_succ]
                  refine take_in 46 84 (.bool false) rfl rfl (by kernel_rfl) (by kernel_rfl) (by kernel_rfl) (fun _ _ _ h => h) (by kernel_rfl) (by intro w hSw; (try dsimp only at hSw); go_simp) hHeld ?_
                  simp only [Act.put, List.setIfInBounds_toArray, List.set_cons_zero, List.set_cons_succ]
                  refine take_in 47 85 (.bool false) rfl rfl (by kernel_rfl) (by kernel_rfl) (by kernel_rfl) (fun _ _ _ h => h) (by kernel_rfl) (by intro w hSw; (try dsimp only at hSw); go_simp) hHeld ?_
                  simp only [Act.put, List.setIfInBounds_toArray, List.set_cons_zero, List.set_cons_succ]
                  refine take_in 48 86 (.bool false) rfl rfl (by kernel_rfl) (by kernel_rfl) (by kernel_rfl) (fun _ _ _ h => h) (by kernel_rfl) (by intro w hSw; (try dsimp only at hSw); go_simp) hHeld ?_
                  simp only [Act.put, List.setIfInBounds_toArray, List.set_cons_zero, List.set_cons_succ]
                  refine take_in 49 87 (.agg #[.int .i64 4, .int .i64 yg, .int .i64 yc]) rfl rfl (by kernel_rfl) (by kernel_rfl) (by kernel_rfl) (fun _ _ _ h => h) (by kernel_rfl) (by intro w hSw; (try dsimp only at hSw); go_simp) hHeld ?_
                  simp only [Act.put, List.setIfInBounds_toArray, List.set_cons_zero, List.set_cons_succ]
                  refine take_in 51 89 (.pointer (some ⟨p10, 0, none⟩)) rfl rfl (by kernel_rfl) (by kernel_rfl) (by kernel_rfl) (fun _ _ _ h => h) (by kernel_rfl) (by intro w hSw; (try dsimp only at hSw); go_simp) hHeld ?_
                  simp only [Act.put, List.setIfInBounds_toArray, List.set_cons_zero, List.set_cons_succ]
                  refine take_in 52 90 (.int .i64 4) rfl rfl (by kernel_rfl) (by kernel_rfl) (by kernel_rfl) (fun _ _ _ h => h) (by kernel_rfl) (by intro w hSw; (try dsimp only at hSw); go_simp) hHeld ?_
                  simp only [Act.put, List.setIfInBounds_toArray, List.set_cons_zero, List.set_cons_succ]
                  refine take_in 53 91 (.bool false) rfl rfl (by kernel_rfl) (by kernel_rfl) (by kernel_rfl) (fun _ _ _ h => h) (by kernel_rfl) (by intro w hSw; (try dsimp only at hSw); go_simp) hHeld ?_
                  simp only [Act.put, List.setIfInBounds_toArray, List.set_cons_zero, List.set_cons_succ]
                  refine wpAnyH_ready (rs := [50]) (by kernel_rfl) (by simp) ?_
                  refine AllReadyH.cons rfl (fun K hK => ?_) AllReadyH.nil
                  clear hHeld
                  go_simp
                  refine (HTY.out _).mono ?_
                  rintro e w6 ⟨rfl, hb6⟩
                  go_simp
                  refine hK.out _ _ ?_ (fun hHeld => ?_)
                  · refine nine_any ?_ Q1.out Q2.out K0.out
                    (repeat (first | refine Below.drew ?_ | refine below_fl hb6 ?_ | refine below_fl hb5 ?_))
                    exact Below.refl _ _
                  clear hK K
                  try simp only [Act.put, List.setIfInBounds_toArray, List.set_cons_zero, List.set_cons_succ]
                  refine take_in 54 92 (.bool false) rfl rfl (by kernel_rfl) (by kernel_rfl) (by kernel_rfl) (fun _ _ _ h => h) (by kernel_rfl) (by intro w hSw; (try dsimp only at hSw); go_simp) hHeld ?_
                  simp only [Act.put, List.setIfInBounds_toArray, List.set_cons_zero, List.set_cons_succ]
                  refine take_in 55 93 (.bool false) rfl rfl (by kernel_rfl) (by kernel_rfl) (by kernel_rfl) (fun _ _ _ h => h) (by kernel_rfl) (by intro w hSw; (try dsimp only at hSw); go_simp) hHeld ?_
                  simp only [Act.put, List.setIfInBounds_toArray, List.set_cons_zero, List.set_cons_succ]
                  refine wpAnyH_done (by kernel_rfl) ?_ _
                  go_wp2_with fail
                  go_meet
                  refine ⟨rfl, ?_⟩
                  (repeat (first | refine Below.drew ?_ | refine below_fl hb6 ?_ | refine below_fl hb5 ?_))
                  exact Below.refl _ _
              case rest =>
                obtain ⟨rfl, q3⟩ := hcut
                rename_i wd
                have r1 := R1.out.below q3
                have r2 := R2.out.below q3
                have HW7 := Lib.hid (below_into HW6.out q3)
                obtain ⟨m0, m1, m2, m3, m4, m5⟩ := r1.f
                obtain ⟨n0, n1, n2, n3, n4, n5⟩ := r2.f
                have RR := Lib.hid r2
                clear r1 r2 q3
                go_wp2_with fail
                go_roundw
                case rel => exact ⟨k + 1, ⟨ys, yg, yc⟩, by omega, by go_num, HOY.out, RR.out.set3 _ _ _, below_set3 hpw HW7.out _ _ _⟩
                case measure => simp [intOf]; omega
          · have HH := Lib.hid hy
            clear hy
            go_wp2_with fail
            go_cut [6, 7] from 18 to 94 (fun s6 s7 wx => ∃ p10, s6 = .pointer (some ⟨p10, 0, none⟩) ∧ s7 = .int .i64 13 ∧ RBox wx p10 (.int .i64 0) (.int .i64 0) (.int .i64 0) ∧ RBox wx p2 (.int .i64 xs) (.int .i64 xg) (.int .i64 xc) ∧ Below wr.heap.size wr wx)
            case first =>
              go_region_held3 (fun w' => (w'.cell? ⟨p2, 0, none⟩ = some (.int .i64 xs) ∧ w'.cell? ⟨p2, 1, none⟩ = some (.int .i64 xg) ∧ w'.cell? ⟨p2, 2, none⟩ = some (.int .i64 xc) ∧ w'.cell? ⟨b, o + k * 3, none⟩ = some (.int .i64 hk) ∧ w'.cell? ⟨b, o + k * 3 + 1, none⟩ = some (.int .i64 hn) ∧ w'.cell? ⟨b, o + k * 3 + 2, none⟩ = some (.int .i64 hc)) ∧ Below wr.heap.size wr w')
                ((refine six_any ?_ F0.out F1.out F2.out C0.out C1.out C2.out
                  (repeat (first | refine Below.drew ?_ | refine below_fl hb4 ?_ | refine below_fl (below_alloc _ _) ?_ | refine below_st (Nat.le_refl _) ?_))
                  exact Below.refl _ _))
                (first
                  | (go_at_call 9; refine (happen_to ⟨xs, xg, xc⟩ ⟨hk, hn, hc⟩ _ HH.out (en := 13) rfl).mono ?_; rintro e w4 ⟨rfl, hb4⟩; (first | have u2 := RA.out.drew.below hb4 | have u2 := (RA.out.below (below_alloc _ _)).drew.below hb4); (try (have yy := (RBox.below (rbox_alloc wr z3 z3 z3).drew hb4 : RBox w4 wr.heap.size _ _ _); obtain ⟨y0, y1, y2, y3, y4, y5⟩ := yy.f)); unfold lv none'))
              all_goals
                first
                  | (obtain ⟨wx, hwx⟩ : ∃ wx, w4.alloc (.cells #[.int .i64 0, .int .i64 0, .int .i64 0] 23) = wx := ⟨_, rfl⟩
                     rw [hwx]
                     have q1 : RBox wx w4.heap.size (.int .i64 0) (.int .i64 0) (.int .i64 0) := by rw [← hwx]; exact rbox_alloc w4 _ _ _
                     have q2 : RBox wx p2 (.int .i64 xs) (.int .i64 xg) (.int .i64 xc) := by rw [← hwx]; exact u2.below (below_alloc _ _)
                     have q3 : Below wr.heap.size wr wx := by
                       rw [← hwx]
                       (repeat (first | refine Below.drew ?_ | refine below_fl hb4 ?_ | refine below_fl (below_alloc _ _) ?_))
                       exact Below.refl _ _
                     clear hwx
                     go_wp2_with fail
                     go_meet
                     exact ⟨_, rfl, rfl, q1, q2, q3⟩)
                  | (obtain ⟨wx, hwx⟩ : ∃ wx, ((w4.setCell ⟨wr.heap.size, 0, none⟩ (.int .i64 0)).setCell ⟨wr.heap.size, 1, none⟩ (.int .i64 0)).setCell ⟨wr.heap.size, 2, none⟩ (.int .i64 0) = wx := ⟨_, rfl⟩
                     rw [hwx]
                     have q1 : RBox wx wr.heap.size (.int .i64 0) (.int .i64 0) (.int .i64 0) := by rw [← hwx]; exact yy.set3 _ _ _
                     have q2 : RBox wx p2 (.int .i64 xs) (.int .i64 xg) (.int .i64 xc) := by rw [← hwx]; exact u2.other3 (by omega) _ _ _
                     have q3 : Below wr.heap.size wr wx := by
                       rw [← hwx]
                       refine below_set3 (Nat.le_refl _) ?_ _ _ _
                       (repeat (first | refine Below.drew ?_ | refine below_fl hb4 ?_ | refine below_fl (below_alloc _ _) ?_))
                       exact Below.refl _ _
                     clear hwx
                     go_wp2_with fail
                     go_meet
                     exact ⟨_, rfl, rfl, q1, q2, q3⟩)
            case rest =>
              obtain ⟨p10, rfl, rfl, q1, q2, q3⟩ := hcut
              have R6 := Lib.hid q2
              have HW6 := Lib.hid (below_fl q3 HBR.out)
              obtain ⟨m0, m1, m2, m3, m4, m5⟩ := q1.f
              clear q1 q2 q3
              go_wp2_with fail
              go_roundw
              case rel => exact ⟨k + 1, ⟨xs, xg, xc⟩, by omega, by go_num, HOK.out, R6.out, HW6.out⟩
              case measure => simp [intOf]; omega
          · have HH := Lib.hid hy
            clear hy
            go_wp2_with fail
            go_cut [6, 7] from 18 to 94 (fun s6 s7 wx => ∃ p10, s6 = .pointer (some ⟨p10, 0, none⟩) ∧ s7 = .int .i64 2 ∧ RBox wx p10 (.int .i64 0) (.int .i64 0) (.int .i64 0) ∧ RBox wx p2 (.int .i64 xs) (.int .i64 xg) (.int .i64 xc) ∧ Below wr.heap.size wr wx)
            case first =>
              go_region_held3 (fun w' => (w'.cell? ⟨p2, 0, none⟩ = some (.int .i64 xs) ∧ w'.cell? ⟨p2, 1, none⟩ = some (.int .i64 xg) ∧ w'.cell? ⟨p2, 2, none⟩ = some (.int .i64 xc) ∧ w'.cell? ⟨b, o + k * 3, none⟩ = some (.int .i64 hk) ∧ w'.cell? ⟨b, o + k * 3 + 1, none⟩ = some (.int .i64 hn) ∧ w'.cell? ⟨b, o + k * 3 + 2, none⟩ = some (.int .i64 hc)) ∧ Below wr.heap.size wr w')
                ((refine six_any ?_ F0.out F1.out F2.out C0.out C1.out C2.out
                  (repeat (first | refine Below.drew ?_ | refine below_fl hb4 ?_ | refine below_fl (below_alloc _ _) ?_ | refine below_st (Nat.le_refl _) ?_))
                  exact Below.refl _ _))
                (first
                  | (go_at_call 9; refine (happen_to ⟨xs, xg, xc⟩ ⟨hk, hn, hc⟩ _ HH.out (en := 2) rfl).mono ?_; rintro e w4 ⟨rfl, hb4⟩; (first | have u2 := RA.out.drew.below hb4 | have u2 := (RA.out.below (below_alloc _ _)).drew.below hb4); (try (have yy := (RBox.below (rbox_alloc wr z3 z3 z3).drew hb4 : RBox w4 wr.heap.size _ _ _); obtain ⟨y0, y1, y2, y3, y4, y5⟩ := yy.f)); unfold lv none'))
              all_goals
                first
                  | (obtain ⟨wx, hwx⟩ : ∃ wx, w4.alloc (.cells #[.int .i64 0, .int .i64 0, .int .i64 0] 23) = wx := ⟨_, rfl⟩
                     rw [hwx]
                     have q1 : RBox wx w4.heap.size (.int .i64 0) (.int .i64 0) (.int .i64 0) := by rw [← hwx]; exact rbox_alloc w4 _ _ _
                     have q2 : RBox wx p2 (.int .i64 xs) (.int .i64 xg) (.int .i64 xc) := by rw [← hwx]; exact u2.below (below_alloc _ _)
                     have q3 : Below wr.heap.size wr wx := by
                       rw [← hwx]
                       (repeat (first | refine Below.drew ?_ | refine below_fl hb4 ?_ | refine below_fl (below_alloc _ _) ?_))
                       exact Below.refl _ _
                     clear hwx
                     go_wp2_with fail
                     go_meet
                     exact ⟨_, rfl, rfl, q1, q2, q3⟩)
                  | (obtain ⟨wx, hwx⟩ : ∃ wx, ((w4.setCell ⟨wr.heap.size, 0, none⟩ (.int .i64 0)).setCell ⟨wr.heap.size, 1, none⟩ (.int .i64 0)).setCell ⟨wr.heap.size, 2, none⟩ (.int .i64 0) = wx := ⟨_, rfl⟩
                     rw [hwx]
                     have q1 : RBox wx wr.heap.size (.int .i64 0) (.int .i64 0) (.int .i64 0) := by rw [← hwx]; exact yy.set3 _ _ _
                     have q2 : RBox wx p2 (.int .i64 xs) (.int .i64 xg) (.int .i64 xc) := by rw [← hwx]; exact u2.other3 (by omega) _ _ _
                     have q3 : Below wr.heap.size wr wx := by
                       rw [← hwx]
                       refine below_set3 (Nat.le_refl _) ?_ _ _ _
                       (repeat (first | refine Below.drew ?_ | refine below_fl hb4 ?_ | refine below_fl (below_alloc _ _) ?_))
                       exact Below.refl _ _
                     clear hwx
                     go_wp2_with fail
                     go_meet
                     exact ⟨_, rfl, rfl, q1, q2, q3⟩)
            case rest =>
              obtain ⟨p10, rfl, rfl, q1, q2, q3⟩ := hcut
              have R6 := Lib.hid q2
              have HW6 := Lib.hid (below_fl q3 HBR.out)
              obtain ⟨m0, m1, m2, m3, m4, m5⟩ := q1.f
              clear q1 q2 q3
              go_wp2_with fail
              go_roundw
              case rel => exact ⟨k + 1, ⟨xs, xg, xc⟩, by omega, by go_num, HOK.out, R6.out, HW6.out⟩
              case measure => simp [intOf]; omega
        · have HBR := Lib.hid hbr
          clear hra hbr hok
          go_wp2_with fail
          go_ret
          exact ⟨rfl, HBR.out⟩
    · rw [he] at HC
      clear he hok
      obtain ⟨s, g, d⟩ := l
      unfold lv at *
      dsimp only at *
      go_enter Try.func3, Try.ntmps3
      go_wp2_with fail
      refine (lives_any _).mono ?_
      rintro e w1 ⟨rfl, hb1⟩
      obtain ⟨f0, f1, f2, _, _, _⟩ := ((rbox_alloc w (.int .i64 s) (.int .i64 g) (.int .i64 d)).below hb1).f
      have HW1 := Lib.hid (below_into (below_alloc w _) hb1)
      clear hb1
      go_wp2_with fail
      refine (HC.out _).mono ?_
      rintro e w2 ⟨rfl, hb2⟩
      have HW2 := Lib.hid (below_into HW1.out hb2)
      clear hb2
      go_wp2_with fail
      go_ret
      exact ⟨rfl, HW2.out⟩
end Go.Proofs.Ytjfgjcoehahlcaa

