/-
  The contract of FrameBack.
-/
import Derived.Test.YtlfeahalgolbgaaOpenFr
import Derived.Test.YtlfeahalgolbgaaBackPlain
namespace Go.Proofs.Ytlfeahalgolbgaa
open Go.RowKit
set_option linter.unusedVariables false

set_option maxRecDepth 100000 in
set_option maxHeartbeats 1600000 in
theorem frameBack_any (a : Option Addr) (n c : Nat) (G : List FrV) (w : World) (h : FRowW w a n G) (hnc : n ≤ c) :
    Calls Try.prog 14 #[.slice a n c] w fun e w' => e = .returned (.bool true) ∧ Below w.heap.size w w' := by
  have HL := Lib.hid h.1
  have H := Lib.hid h
  have hn48 := h.2.1
  clear h
  go_enter Try.func14, Try.ntmps14
  go_wp2_with fail
  refine (lives3_any w).mono ?_
  rintro e w1 ⟨rfl, hb1⟩
  by_cases h40 : 40 < n
  · go_wp2_with fail
    go_ret
    exact ⟨rfl, hb1⟩
  have HB1 := Lib.hid hb1
  clear hb1
  go_wp2_with fail
  go_loopw [3] (fun i wr => ∃ k : Nat, k ≤ n ∧ i = .int .i64 k ∧ (∀ j, j < k → (G.getD j fr0).2.1.length ≤ 2000) ∧ Below w.heap.size w wr) (fun i _ => n - (intOf i).toNat)
  case atStart => exact ⟨0, by omega, rfl, fun j hj => absurd hj (by omega), HB1.out⟩
  case round =>
    clear HB1 w1
    obtain ⟨k, hk, rfl, hsm, hb⟩ := hrel
    by_cases hlt : k < n
    · obtain ⟨b, o, ba, bc, rfl, hc1, hc2⟩ := (H.out.below hb).at k hlt
      have i1 : (0 : Int) ≤ (k : Int) := by omega
      have i2 : (k : Int) < (n : Int) := by omega
      obtain ⟨L, hL⟩ : ∃ L, L = (G.getD k fr0).2.1.length := ⟨_, rfl⟩
      rw [← hL] at hc2
      have HLL := Lib.hid hL
      clear hL
      by_cases h2 : 2000 < L
      · go_wp2_with fail
        go_ret
        exact ⟨rfl, hb⟩
      · go_wp2_with fail
        go_roundw
        case rel =>
          refine ⟨k + 1, by omega, by go_num, fun j hj => ?_, hb⟩
          rcases Nat.lt_or_ge j k with h' | h'
          · exact hsm j h'
          · obtain rfl : j = k := by omega
            rw [← HLL.out]; omega
        case measure => simp [intOf]; omega
    · obtain rfl : k = n := by omega
      have hall : ∀ g ∈ G, g.2.1.length ≤ 2000 := by
        intro g hg
        obtain ⟨j, hj, rfl⟩ := List.getElem_of_mem hg
        have := hsm j (by rw [HL.out]; exact hj)
        simpa [List.getD_eq_getElem?_getD, hj] using this
      have HF := Lib.hid (H.out.row (fun g hg => by have := hall g hg; omega))
      have HA := Lib.hid hall
      clear hsm hall
      go_wp2_with fail
      refine (put_any _ _ _ G _ (HF.out.below hb) hnc (by omega) HA.out).mono ?_
      rintro e w2 ⟨v2, rfl, hown2, hb2⟩
      have hbF : ∀ f ∈ frs G, f.2.length ≤ 1048576 := fun f hf => Nat.le_trans (frs_mem HA.out f hf) (by omega)
      have hscan := scan_whole (frs G) hbF
      obtain ⟨hends, hlast⟩ := ends_whole (frs G) hbF
      have hFl : (frs G).length = k := by rw [frs_length, ← HL.out]
      have hBs : (allB (frs G)).length ≤ 40 * (2000 + 12) := by
        refine Nat.le_trans (allB_small _ 2000 (frs_mem HA.out)) (Nat.mul_le_mul_right _ ?_); omega
      rw [hFl] at hends hlast
      obtain ⟨va, vc, rfl, hvc⟩ := own8_form hown2
      have hrow := hown2.row (by omega)
      obtain ⟨B, hB⟩ : ∃ B, B = allB (frs G) := ⟨_, rfl⟩
      rw [← hB] at hscan hends hlast hBs hvc hrow ⊢
      have HSC := Lib.hid hscan
      have HEN := Lib.hid hends
      have HLA := Lib.hid hlast
      have HFL := Lib.hid hFl
      have HR := Lib.hid hrow
      have hbw2 := below_into hb hb2
      clear hscan hends hlast hB hrow hown2 hb2 hbF hFl
      obtain ⟨N2, hN2⟩ : ∃ N2, N2 = B.length := ⟨_, rfl⟩
      rw [← hN2] at hBs hvc HLA HSC HR ⊢
      have HN2 := Lib.hid hN2
      clear hN2
      go_wp2_with fail
      refine (scan_to _ _ _ B _ HR.out hvc (by omega) HSC.out (nl := k) HFL.out (mn := (N2 : Int)) (en := 0) rfl rfl).mono ?_
      rintro e w3 ⟨fa, fc, G2, hG2, rfl, hown3, hfc, hb3⟩
      have HG2 := Lib.hid hG2
      have hbw3 := below_into hbw2 hb3
      have HO3 := Lib.hid (frow_of_own hown3 (by omega) (fun g hg => by
        have : (g.1, g.2.1) ∈ frs G2 := List.mem_map.2 ⟨g, hg, rfl⟩
        rw [hG2] at this
        have := frs_mem HA.out _ this
        simp at this; omega))
      have HR3 := Lib.hid (HR.out.below hb3)
      clear hown3 hb3 hG2
      go_wp2_with fail
      refine (ends_any _ _ _ B _ HR3.out hvc (by omega)).mono ?_
      rintro e w4 ⟨v4, rfl, hown4, hb4⟩
      obtain ⟨ea, ec, rfl, hec⟩ := own64_form hown4
      have hbw4 := below_into hbw3 hb4
      have HO4 := Lib.hid (HO3.out.below hb4)
      have HF4 := Lib.hid (HF.out.below hbw4)
      rw [HEN.out] at hown4 hec ⊢
      have HE4 := Lib.hid hown4
      clear hown4 hb4
      by_cases h0 : k = 0
      · have hd0 : decide (k = 0) = true := decide_eq_true h0
        have HZ := Lib.hid h0
        clear h0
        go_wp2_with (go_at_call 31; refine (sameFrames_true _ _ _ _ _ G2 G _ HO4.out HF4.out HG2.out).mono ?_; rintro e w5 ⟨rfl, m5, rfl⟩)
        go_ret
        exact ⟨rfl, below_drewN hbw4 _⟩
      · obtain ⟨heq, eb, rfl, hcell⟩ := own64_cell HE4.out (k - 1) (by omega)
        clear heq
        rw [HLA.out (by omega)] at hcell
        have i5 : (0 : Int) ≤ (k : Int) - 1 := by omega
        have i6 : (k : Int) - 1 < (k : Int) := by omega
        go_wp2_with (go_at_call 31; refine (sameFrames_true _ _ _ _ _ G2 G _ HO4.out HF4.out HG2.out).mono ?_; rintro e w5 ⟨rfl, m5, rfl⟩)
        go_ret
        exact ⟨rfl, below_drewN hbw4 _⟩
end Go.Proofs.Ytlfeahalgolbgaa
