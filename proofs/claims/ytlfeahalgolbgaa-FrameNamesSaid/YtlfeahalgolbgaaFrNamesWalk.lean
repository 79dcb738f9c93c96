/-
  The walk of FrameNames.
-/
import Derived.Test.YtlfeahalgolbgaaScanWalk
namespace Go.Proofs.Ytlfeahalgolbgaa
open Go.RowKit
set_option linter.unusedVariables false

def F12 : List B8 := frB 1#8 []
theorem f12_length : F12.length = 12 := rfl
theorem f12_11 : readF (F12.take 11) = (0#8, [], 0, 4) := by decide +kernel
theorem f12_7 : readF (F12.take 7) = (0#8, [], 0, 4) := by decide +kernel
theorem f12_a : readF (F12.set 0 (F12.getD 0 0#8 ^^^ 1#8)) = (0#8, [], 0, 5) := by decide +kernel
theorem f12_b : readF (F12.set 11 (F12.getD 11 0#8 ^^^ 128#8)) = (0#8, [], 0, 5) := by decide +kernel
theorem f12_scan : scan (F12 ++ (F12 ++ [1#8, 2#8, 3#8])) = ([(1#8, []), (1#8, [])], 24, 4) := by decide +kernel
theorem xor_1 (x : B8) : Go.bits .xor .u8 (ub x) 1 = ub (x ^^^ 1#8) := bits_xor_bb x 1#8
theorem xor_128 (x : B8) : Go.bits .xor .u8 (ub x) 128 = ub (x ^^^ 128#8) := bits_xor_bb x 128#8

theorem row8_cut0 {w : World} {a : Option Addr} {n : Nat} {l : List B8} (h : Row8 w a n l) (m : Nat) (hm : m ≤ n) : Row8 w a m (l.take m) := by
  obtain ⟨h1, h2, h3⟩ := h
  refine ⟨by rw [List.length_take]; omega, by omega, fun h0 => ?_⟩
  obtain ⟨b, o, ha, hc⟩ := h3 (by omega)
  refine ⟨b, o, ha, fun i hi => ?_⟩
  rw [hc i (by omega)]
  simp [List.getD_eq_getElem?_getD, hi]

theorem own8_made' (w : World) (base N : Nat) (hN : N = w.heap.size) (hb : base ≤ w.heap.size) : Own8 (w.alloc (.cells #[] 5)) base (.slice (some ⟨N, 0, none⟩) 0 0) [] := by
  subst hN; exact own8_made w base hb

theorem b3_row (w : World) (N : Nat) (hN : N = w.heap.size) : Row8 (w.alloc (.cells #[.int .u8 1, .int .u8 2, .int .u8 3] 5)) (some ⟨N, 0, none⟩) 3 [1#8, 2#8, 3#8] := by
  subst hN; exact row8_new w [1#8, 2#8, 3#8] _ rfl (by decide)

set_option maxRecDepth 100000 in
set_option maxHeartbeats 3200000 in
theorem frameNames_any (w : World) : Calls Try.prog 9 #[] w fun e w' => e = .returned (.bool true) ∧ Below w.heap.size w w' := by
  go_enter Try.func9, Try.ntmps9
  go_wp2_with fail
  refine (lives3_any _).mono ?_
  rintro e w1 ⟨rfl, hb1⟩
  go_wp2_with fail
  refine (append_any none 0 0 [] 1#8 none 0 0 [] w1 ⟨rfl, by decide, fun h => absurd h (by decide)⟩ ⟨rfl, by decide, fun h => absurd h (by decide)⟩ (by decide) (by decide) (fun _ => rfl) (by decide)).mono ?_
  rintro e w2 ⟨v, rfl, hown, hb2⟩
  have hown2 : Own8 w2 w1.heap.size v F12 := hown
  obtain ⟨g, c, rfl, hgb, hc, hgs⟩ := own8_block hown2 (by decide)
  rw [f12_length] at hown2 hc ⊢
  have HR2 := Lib.hid (hown2.row (by decide))
  have hb12 := below_into hb1 hb2
  clear hown hown2 hb1 hb2
  have i1 : (11 : Int) ≤ (c : Int) := by omega
  have i2 : (7 : Int) ≤ (c : Int) := by omega
  go_wp2_with fail
  refine (read_to _ _ _ (F12.take 11) _ (row8_cut0 HR2.out 11 (by omega)) (by omega) (by omega) f12_11 (kn := 0) rfl (bl := 0) rfl (mn := 0) (en := 4) rfl rfl).mono ?_
  rintro e w3 ⟨ba3, bc3, rfl, hown3, hb3⟩
  clear hown3
  have HR3 := Lib.hid ((HR2.out.below hb3).below (below_alloc w3 (.cells #[.int .u8 0, .slice ba3 0 bc3] 34)))
  go_wp2_with fail
  refine (read_to _ _ _ (F12.take 7) _ (row8_cut0 HR3.out 7 (by omega)) (by omega) (by omega) f12_7 (kn := 0) rfl (bl := 0) rfl (mn := 0) (en := 4) rfl rfl).mono ?_
  rintro e w4 ⟨ba4, bc4, rfl, hown4, hb4⟩
  clear hown4
  have hb24 : Below w2.heap.size w2 w4 := below_into hb3 (below_into (below_alloc w3 _) hb4)
  have S4 := Lib.hid (HR2.out.below hb24)
  -- the first byte turned
  go_wp2_with (at_builtin; refine wpList_append8 rfl _ _ rfl w4.heap.size _ [] rfl (own8_made' _ _ _ (by simp) (by simp)) _ _ _ F12 rfl (S4.out.below (((Below.refl _ _).alloc (Nat.le_refl _) _).alloc (by simp) _)) (by decide) (by simp; omega) ?_)
  intro v5 w5 hown5 hg5
  have hb5 : Below w4.heap.size w4 w5 := below_grown (((Below.refl _ _).alloc (Nat.le_refl _) _).alloc (by simp) _) hg5 (own8_made' _ _ _ (by simp) (by simp)) (by simp; omega)
  have ho5 : Own8 w5 w4.heap.size v5 F12 := by simpa using hown5
  obtain ⟨g5, c5, rfl, hgb5, hc5, hgs5⟩ := own8_block ho5 (by decide)
  rw [f12_length] at ho5 hc5 ⊢
  obtain ⟨q0, q1⟩ := own8_cell ho5 0 (by decide)
  have hx1 := xor_1 (F12.getD 0 0#8)
  generalize hx0 : F12.getD 0 0#8 = x0 at *
  have HX0 := Lib.hid hx0
  have hz1 := ub_lo x0
  have hz2 := ub_hi x0
  have HO6 : Hid (Own8 (w5.setCell ⟨g5, 0, none⟩ (.int .u8 (ub (x0 ^^^ 1#8)))) w4.heap.size (.slice (some ⟨g5, 0, none⟩) 12 c5) (F12.set 0 (x0 ^^^ 1#8))) := own8_store ho5 0 _
  have hb6 := hb5.setCell (p := ⟨g5, 0, none⟩) hgb5 (.int .u8 (ub (x0 ^^^ 1#8)))
  clear hown5 hg5 ho5 hx0
  have S6 := Lib.hid (S4.out.below hb6)
  -- the last byte turned
  go_wp2_with (at_builtin; refine wpList_append8 rfl _ _ rfl w5.heap.size _ [] rfl (own8_made' _ _ _ (by simp) (by simp)) _ _ _ F12 rfl ((S6.out.below (below_alloc _ _))) (by decide) (by simp) ?_)
  intro v7 w7 hown7 hg7
  obtain ⟨w6, hw6⟩ : ∃ w6, w5.setCell ⟨g5, 0, none⟩ (.int .u8 (ub (x0 ^^^ 1#8))) = w6 := ⟨_, rfl⟩
  have hs65 : w6.heap.size = w5.heap.size := by rw [← hw6]; simp
  rw [hw6] at hg7 hb6 HO6 S6
  have hb7 : Below w5.heap.size w6 w7 := below_grown ((Below.refl _ _).alloc (by omega) _) hg7 (own8_made' _ _ _ hs65.symm (by omega)) (by simp; omega)
  have ho7 : Own8 w7 w5.heap.size v7 F12 := by simpa using hown7
  obtain ⟨g7, c7, rfl, hgb7, hc7, hgs7⟩ := own8_block ho7 (by decide)
  rw [f12_length] at ho7 hc7 ⊢
  obtain ⟨p0, p1⟩ := own8_cell ho7 11 (by decide)
  have hy1 := xor_128 (F12.getD 11 0#8)
  generalize hy0 : F12.getD 11 0#8 = y0 at *
  have HY0 := Lib.hid hy0
  have hz3 := ub_lo y0
  have hz4 := ub_hi y0
  have HO8 : Hid (Own8 (w7.setCell ⟨g7, 11, none⟩ (.int .u8 (ub (y0 ^^^ 128#8)))) w5.heap.size (.slice (some ⟨g7, 0, none⟩) 12 c7) (F12.set 11 (y0 ^^^ 128#8))) := own8_store ho7 11 _
  have hb8 : Below w6.heap.size w6 (w7.setCell ⟨g7, 11, none⟩ (.int .u8 (ub (y0 ^^^ 128#8)))) := by rw [hs65]; exact hb7.setCell hgb7 _
  clear hown7 hg7 ho7 hy0 hw6
  have i3 : (11 : Int) < 12 := by omega
  go_wp2_with fail
  generalize w7.setCell ⟨g7, 11, none⟩ (.int .u8 (ub (y0 ^^^ 128#8))) = w8 at *
  have HC := Lib.hid ((HO6.out.row (by simp [f12_length])).below hb8)
  have HD := Lib.hid (HO8.out.row (by simp [f12_length]))
  have HF := Lib.hid (S6.out.below hb8)
  have hbw8 : Below w.heap.size w w8 := below_into (below_into hb12 (below_into hb24 hb6)) hb8
  have EA : Hid (readF (F12.set 0 (x0 ^^^ 1#8)) = (0#8, [], 0, 5)) := by have := f12_a; rw [HX0.out] at this; exact this
  have EB : Hid (readF (F12.set 11 (y0 ^^^ 128#8)) = (0#8, [], 0, 5)) := by have := f12_b; rw [HY0.out] at this; exact this
  clear hb12 hb24 hb6 hb7 hb8 q0 q1 p0 p1 hb5
  refine (read_to _ _ _ (F12.set 0 (x0 ^^^ 1#8)) _ HC.out (by omega) (by omega) EA.out (kn := 0) rfl (bl := 0) rfl (mn := 0) (en := 5) rfl rfl).mono ?_
  rintro e w9 ⟨ba9, bc9, rfl, hown9, hb9⟩
  clear hown9
  have hb9' := hb9.trans ((below_alloc w9 (.cells #[.int .u8 0, .slice ba9 0 bc9] 34)).mono hb9.size)
  go_wp2_with fail
  refine (read_to _ _ _ (F12.set 11 (y0 ^^^ 128#8)) _ (HD.out.below hb9') (by omega) (by omega) EB.out (kn := 0) rfl (bl := 0) rfl (mn := 0) (en := 5) rfl rfl).mono ?_
  rintro e w10 ⟨ba10, bc10, rfl, hown10, hb10⟩
  clear hown10
  have hb810 : Below w8.heap.size w8 w10 := below_into hb9' hb10
  have HF10 := Lib.hid (HF.out.below hb810)
  -- two frames, and three bytes more
  go_wp2_with (at_builtin; refine wpList_append8 rfl _ _ rfl w10.heap.size _ [] rfl (own8_made' _ _ _ (by simp) (by simp)) _ _ _ F12 rfl (HF10.out.below (((Below.refl _ _).alloc (Nat.le_refl _) _).alloc (by simp) _)) (by decide) (by simp; omega) ?_)
  intro v11 w11 hown11 hg11
  have hb11 : Below w10.heap.size w10 w11 := below_grown (((Below.refl _ _).alloc (Nat.le_refl _) _).alloc (by simp) _) hg11 (own8_made' _ _ _ (by simp) (by simp)) (by simp; omega)
  have HO11 : Hid (Own8 w11 w10.heap.size v11 F12) := by show Own8 _ _ _ _; simpa using hown11
  clear hown11 hg11
  go_wp2_with (at_builtin; refine wpList_append8 rfl _ _ rfl w10.heap.size _ F12 rfl HO11.out _ _ _ F12 rfl (HF10.out.below hb11) (by decide) hb11.size ?_)
  intro v12 w12 hown12 hg12
  have hb12 : Below w10.heap.size w10 w12 := below_grown hb11 hg12 HO11.out hb11.size
  have HO12 := Lib.hid hown12
  clear hown12 hg12
  go_wp2_with (at_builtin; refine wpList_append8 rfl _ _ rfl w10.heap.size _ (F12 ++ F12) rfl (HO12.out.below (below_alloc _ _)) _ _ _ [1#8, 2#8, 3#8] rfl (b3_row w12 _ rfl) (by decide) (by simp; exact Nat.le_trans hb12.size (by omega)) ?_)
  intro v13 w13 hown13 hg13
  have hb13 : Below w10.heap.size w10 w13 := below_grown (hb12.alloc hb12.size _) hg13 (HO12.out.below (below_alloc _ _)) (by simp; exact Nat.le_trans hb12.size (by omega))
  have ho13 : Own8 w13 w10.heap.size v13 (F12 ++ (F12 ++ [1#8, 2#8, 3#8])) := by simpa using hown13
  obtain ⟨a13, c13, rfl, hc13⟩ := own8_form ho13
  have hl27 : (F12 ++ (F12 ++ [1#8, 2#8, 3#8])).length = 27 := rfl
  have HR13 := Lib.hid (ho13.row (by rw [hl27]; decide))
  rw [hl27] at hc13 HR13 ⊢
  have hbw13 : Below w.heap.size w w13 := below_into (below_into hbw8 hb810) hb13
  clear hown13 hg13 ho13 hl27 hb13 hb12 hb11 hb810
  go_wp2_with fail
  refine (scan_to _ _ _ (F12 ++ (F12 ++ [1#8, 2#8, 3#8])) _ HR13.out hc13 (by omega) f12_scan (nl := 2) rfl (mn := 24) (en := 4) rfl rfl).mono ?_
  rintro e w14 ⟨a14, c14, G, hG, rfl, hown14, hc14, hb14⟩
  clear hG hown14
  go_wp2_with fail
  go_ret
  exact ⟨rfl, below_into hbw13 hb14⟩
end Go.Proofs.Ytlfeahalgolbgaa
