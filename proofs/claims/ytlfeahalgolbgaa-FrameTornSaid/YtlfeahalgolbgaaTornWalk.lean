/-
  The contract of FrameTorn.
-/
import Derived.Test.YtlfeahalgolbgaaOpenFr
import Derived.Test.YtlfeahalgolbgaaBackPlain
namespace Go.Proofs.Ytlfeahalgolbgaa
open Go.RowKit
set_option linter.unusedVariables false

theorem Row8.pre {w : World} {a : Option Addr} {n : Nat} {l : List B8} (h : Row8 w a n l) (j : Nat) (hj : j ≤ n) : Row8 w a j (l.take j) := by
  obtain ⟨h1, h2, h3⟩ := h
  refine ⟨by rw [List.length_take]; omega, by omega, fun h0 => ?_⟩
  obtain ⟨b, o, ha, hc⟩ := h3 (by omega)
  refine ⟨b, o, ha, fun i hi => ?_⟩
  rw [hc i (by omega)]
  simp [List.getD_eq_getElem?_getD, hi]

theorem FRow.pre {w : World} {a : Option Addr} {n : Nat} {G : List FrV} (h : FRow w a n G) (j : Nat) (hj : j ≤ n) : FRow w a j (G.take j) := by
  obtain ⟨h1, h2, h3, h4⟩ := h
  refine ⟨by rw [List.length_take]; omega, by omega, fun g hg => h3 g (List.mem_of_mem_take hg), fun h0 => ?_⟩
  obtain ⟨b, o, ha, hc⟩ := h4 (by omega)
  refine ⟨b, o, ha, fun i hi => ?_⟩
  have := hc i (by omega)
  simpa [List.getD_eq_getElem?_getD, List.getElem?_take, hi] using this

theorem frs_take (G : List FrV) (k : Nat) : frs (G.take k) = (frs G).take k := by simp [frs, List.map_take]

theorem frs_getD (G : List FrV) (k : Nat) (hk : k < G.length) : ((frs G).getD k (0#8, [])).2 = (G.getD k fr0).2.1 := by
  simp [frs, List.getD_eq_getElem?_getD, hk]

theorem pick_in (x n : Int) (h : 0 < n) : 0 ≤ pick x n ∧ pick x n < n := by
  obtain ⟨h1, h2⟩ := tmod_bounds x n h
  rw [show pick x n = (x.tmod n + n) % n from Int.tmod_eq_emod_of_nonneg (by omega)]
  exact ⟨Int.emod_nonneg _ (by omega), Int.emod_lt_of_pos _ h⟩

set_option maxRecDepth 100000 in
set_option maxHeartbeats 1600000 in
theorem frameTorn_any (a : Option Addr) (n c : Nat) (G : List FrV) (x : Int) (w : World) (h : FRowW w a n G) (hnc : n ≤ c) (hx : (Lit.int .i64 x).wf = true) :
    Calls Try.prog 10 #[.slice a n c, .int .i64 x] w fun e w' => e = .returned (.bool true) ∧ Below w.heap.size w w' := by
  have HL := Lib.hid h.1
  have H := Lib.hid h
  have hn48 := h.2.1
  clear h
  go_enter Try.func10, Try.ntmps10
  go_wp2_with fail
  refine (lives3_any w).mono ?_
  rintro e w1 ⟨rfl, hb1⟩
  by_cases h40 : 40 < n
  · go_wp2_with fail
    go_ret
    exact ⟨rfl, hb1⟩
  have HB1 := Lib.hid hb1
  clear hb1
  go_wp2_with fail
  go_loopw [6] (fun i wr => ∃ k : Nat, k ≤ n ∧ i = .int .i64 k ∧ (∀ j, j < k → (G.getD j fr0).2.1.length ≤ 2000) ∧ Below w.heap.size w wr) (fun i _ => n - (intOf i).toNat)
  case atStart => exact ⟨0, by omega, rfl, fun j hj => absurd hj (by omega), HB1.out⟩
  case round =>
    clear HB1 w1
    obtain ⟨k, hk, rfl, hsm, hb⟩ := hrel
    by_cases hlt : k < n
    · obtain ⟨b, o, ba, bc, rfl, hc1, hc2⟩ := (H.out.below hb).at k hlt
      have i1 : (0 : Int) ≤ (k : Int) := by omega
      have i2 : (k : Int) < (n : Int) := by omega
      obtain ⟨L, hL⟩ : ∃ L, L = (G.getD k fr0).2.1.length := ⟨_, rfl⟩
      rw [← hL] at hc2
      have HLL := Lib.hid hL
      clear hL
      by_cases h2 : 2000 < L
      · go_wp2_with fail
        go_ret
        exact ⟨rfl, hb⟩
      · go_wp2_with fail
        go_roundw
        case rel =>
          refine ⟨k + 1, by omega, by go_num, fun j hj => ?_, hb⟩
          rcases Nat.lt_or_ge j k with h' | h'
          · exact hsm j h'
          · obtain rfl : j = k := by omega
            rw [← HLL.out]; omega
        case measure => simp [intOf]; omega
    · obtain rfl : k = n := by omega
      have hall : ∀ g ∈ G, g.2.1.length ≤ 2000 := by
        intro g hg
        obtain ⟨j, hj, rfl⟩ := List.getElem_of_mem hg
        have := hsm j (by rw [HL.out]; exact hj)
        simpa [List.getD_eq_getElem?_getD, hj] using this
      have HF := Lib.hid (H.out.row (fun g hg => by have := hall g hg; omega))
      have HA := Lib.hid hall
      clear hsm hall
      go_wp2_with fail
      refine (put_any _ _ _ G _ (HF.out.below hb) hnc (by omega) HA.out).mono ?_
      rintro e w2 ⟨v2, rfl, hown2, hb2⟩
      have hbF : ∀ f ∈ frs G, f.2.length ≤ 1048576 := fun f hf => Nat.le_trans (frs_mem HA.out f hf) (by omega)
      have hFl : (frs G).length = k := by rw [frs_length, ← HL.out]
      have hBs : (allB (frs G)).length ≤ 40 * (2000 + 12) := by
        refine Nat.le_trans (allB_small _ 2000 (frs_mem HA.out)) (Nat.mul_le_mul_right _ ?_); omega
      obtain ⟨va, vc, rfl, hvc⟩ := own8_form hown2
      have hrow := hown2.row (by omega)
      have HFL := Lib.hid hFl
      have HBF := Lib.hid hbF
      have HR := Lib.hid hrow
      have hbw2 := below_into hb hb2
      clear hrow hown2 hb2 hbF hFl
      obtain ⟨N2, hN2⟩ : ∃ N2, N2 = (allB (frs G)).length := ⟨_, rfl⟩
      rw [← hN2] at hBs hvc HR ⊢
      have HN2 := Lib.hid hN2
      clear hN2
      go_wp2_with fail
      refine (pick_any _ _ _ (by omega) (by omega)).mono ?_
      rintro e w3 ⟨rfl, rfl⟩
      obtain ⟨p1, p2⟩ := pick_in x ((N2 : Int) + 1) (by omega)
      obtain ⟨j, hj⟩ : ∃ j : Nat, pick x ((N2 : Int) + 1) = j := ⟨(pick x ((N2 : Int) + 1)).toNat, by omega⟩
      rw [hj] at p1 p2 ⊢
      have hjN : j ≤ N2 := by omega
      clear p1 p2 hj
      go_wp2_with fail
      have HW2 := Lib.hid hbw2
      clear hbw2 hb
      go_loopw [5, 10] (fun i at_ wr => ∃ k' : Nat, k' ≤ k ∧ i = .int .i64 k' ∧ at_ = .int .i64 (allB ((frs G).take k')).length ∧ (allB ((frs G).take k')).length ≤ j ∧ wr = w2) (fun i _ _ => k - (intOf i).toNat)
      case atStart => exact ⟨0, by omega, rfl, rfl, by simp [allB], rfl⟩
      case round =>
        obtain ⟨k', hk', rfl, rfl, hat, rfl⟩ := hrel
        obtain ⟨A, hA⟩ : ∃ A, A = (allB ((frs G).take k')).length := ⟨_, rfl⟩
        rw [← hA] at hat ⊢
        have HAA := Lib.hid hA
        clear hA
        have i1 : (0 : Int) ≤ (k' : Int) := by omega
        by_cases hlt : k' < k
        · obtain ⟨b, o, ba, bc, rfl, hc1, hc2, hlc, hro⟩ := (HF.out.below HW2.out).at k' hlt
          have HS := Lib.hid (allB_snoc (frs G) k' (by rw [HFL.out]; exact hlt))
          have HG := Lib.hid (frs_getD G k' (by rw [← HL.out]; exact hlt))
          obtain ⟨L, hL⟩ : ∃ L, L = (G.getD k' fr0).2.1.length := ⟨_, rfl⟩
          have hsm := HA.out _ (getD_mem G k' (by rw [← HL.out]; exact hlt))
          rw [← hL] at hc2 hsm
          have HLL := Lib.hid hL
          clear hL hlc hro
          have i2 : (k' : Int) < (k : Int) := by omega
          by_cases hfit : (A : Int) + (L : Int) + 12 ≤ (j : Int)
          · go_wp2_with fail
            have hnew : (allB ((frs G).take (k' + 1))).length = A + (L + 12) := by rw [HS.out, HG.out, ← HAA.out, ← HLL.out]
            refine ⟨⟨k' + 1, by omega, by go_num, ?_, ?_, trivial⟩, ?_⟩
            · rw [hnew]; go_num
            · rw [hnew]; omega
            · simp [intOf]; omega
          · have HST : Hid (k' = (frs G).length ∨ j < (allB ((frs G).take k')).length + (((frs G).getD k' (0#8, [])).2.length + 12)) := by
              right
              rw [← HAA.out, HG.out, ← HLL.out]; omega
            have HSC := Lib.hid (scan_torn (frs G) HBF.out j (by rw [← HN2.out]; exact hjN) k' (by rw [HFL.out]; omega) (by rw [← HAA.out]; exact hat) HST.out)
            have HROW := Lib.hid (HR.out.pre j hjN)
            have HFP := Lib.hid ((HF.out.below HW2.out).pre k' (by omega))
            have HFT := Lib.hid (frs_take G k')
            have HNL : Hid (((frs G).take k').length = k') := by
              show _ = _
              rw [List.length_take, HFL.out]; omega
            rw [← HAA.out] at HSC
            generalize (allB (frs G)).take j = B at *
            by_cases hAj : A = j
            · rw [if_pos hAj] at HSC
              clear HAA
              subst hAj
              go_wp2_with fail
              refine (scan_to _ _ _ B _ HROW.out (Nat.le_refl _) (by omega) HSC.out (nl := k') HNL.out (mn := (A : Int)) (en := 0) rfl rfl).mono ?_
              rintro e w3 ⟨fa, fc, G2, hG2, rfl, hown3, hfc, hb3⟩
              have HG2 := Lib.hid (hG2.trans HFT.out.symm)
              have hbw3 := below_into HW2.out hb3
              have HO3 := Lib.hid (frow_of_own hown3 (by omega) (fun g hg => by
                have : (g.1, g.2.1) ∈ frs G2 := List.mem_map.2 ⟨g, hg, rfl⟩
                rw [hG2] at this
                have := HBF.out _ (List.mem_of_mem_take this)
                simp at this; omega))
              have HFP3 := Lib.hid (HFP.out.below hb3)
              clear hown3 hb3 hG2
              go_wp2_with (go_at_call 31; refine (sameFrames_true _ _ _ _ _ G2 (G.take k') _ HO3.out HFP3.out HG2.out).mono ?_; rintro e w5 ⟨rfl, m5, rfl⟩)
              go_ret
              exact ⟨rfl, below_drewN hbw3 _⟩
            · rw [if_neg hAj] at HSC
              have hd : ((A : Int) = (j : Int)) = False := eq_false (by omega)
              go_wp2_with fail
              refine (scan_to _ _ _ B _ HROW.out (Nat.le_refl _) (by omega) HSC.out (nl := k') HNL.out (mn := (A : Int)) (en := 4) rfl rfl).mono ?_
              rintro e w3 ⟨fa, fc, G2, hG2, rfl, hown3, hfc, hb3⟩
              have HG2 := Lib.hid (hG2.trans HFT.out.symm)
              have hbw3 := below_into HW2.out hb3
              have HO3 := Lib.hid (frow_of_own hown3 (by omega) (fun g hg => by
                have : (g.1, g.2.1) ∈ frs G2 := List.mem_map.2 ⟨g, hg, rfl⟩
                rw [hG2] at this
                have := HBF.out _ (List.mem_of_mem_take this)
                simp at this; omega))
              have HFP3 := Lib.hid (HFP.out.below hb3)
              clear hown3 hb3 hG2
              go_wp2_with (go_at_call 31; refine (sameFrames_true _ _ _ _ _ G2 (G.take k') _ HO3.out HFP3.out HG2.out).mono ?_; rintro e w5 ⟨rfl, m5, rfl⟩)
              go_ret
              exact ⟨ret_b (by simp; omega), below_drewN hbw3 _⟩
        · obtain rfl : k' = k := by omega
          have HSC := Lib.hid (scan_torn (frs G) HBF.out j (by rw [← HN2.out]; exact hjN) k' (by rw [HFL.out]; omega) (by rw [← HAA.out]; exact hat) (.inl HFL.out.symm))
          have HROW := Lib.hid (HR.out.pre j hjN)
          have HFP := Lib.hid ((HF.out.below HW2.out).pre k' (by omega))
          have HFT := Lib.hid (frs_take G k')
          have HNL : Hid (((frs G).take k').length = k') := by
            show _ = _
            rw [List.length_take, HFL.out]; omega
          rw [← HAA.out] at HSC
          generalize (allB (frs G)).take j = B at *
          by_cases hAj : A = j
          · rw [if_pos hAj] at HSC
            clear HAA
            subst hAj
            go_wp2_with fail
            refine (scan_to _ _ _ B _ HROW.out (Nat.le_refl _) (by omega) HSC.out (nl := k') HNL.out (mn := (A : Int)) (en := 0) rfl rfl).mono ?_
            rintro e w3 ⟨fa, fc, G2, hG2, rfl, hown3, hfc, hb3⟩
            have HG2 := Lib.hid (hG2.trans HFT.out.symm)
            have hbw3 := below_into HW2.out hb3
            have HO3 := Lib.hid (frow_of_own hown3 (by omega) (fun g hg => by
              have : (g.1, g.2.1) ∈ frs G2 := List.mem_map.2 ⟨g, hg, rfl⟩
              rw [hG2] at this
              have := HBF.out _ (List.mem_of_mem_take this)
              simp at this; omega))
            have HFP3 := Lib.hid (HFP.out.below hb3)
            clear hown3 hb3 hG2
            go_wp2_with (go_at_call 31; refine (sameFrames_true _ _ _ _ _ G2 (G.take k') _ HO3.out HFP3.out HG2.out).mono ?_; rintro e w5 ⟨rfl, m5, rfl⟩)
            go_ret
            exact ⟨rfl, below_drewN hbw3 _⟩
          · rw [if_neg hAj] at HSC
            have hd : ((A : Int) = (j : Int)) = False := eq_false (by omega)
            go_wp2_with fail
            refine (scan_to _ _ _ B _ HROW.out (Nat.le_refl _) (by omega) HSC.out (nl := k') HNL.out (mn := (A : Int)) (en := 4) rfl rfl).mono ?_
            rintro e w3 ⟨fa, fc, G2, hG2, rfl, hown3, hfc, hb3⟩
            have HG2 := Lib.hid (hG2.trans HFT.out.symm)
            have hbw3 := below_into HW2.out hb3
            have HO3 := Lib.hid (frow_of_own hown3 (by omega) (fun g hg => by
              have : (g.1, g.2.1) ∈ frs G2 := List.mem_map.2 ⟨g, hg, rfl⟩
              rw [hG2] at this
              have := HBF.out _ (List.mem_of_mem_take this)
              simp at this; omega))
            have HFP3 := Lib.hid (HFP.out.below hb3)
            clear hown3 hb3 hG2
            go_wp2_with (go_at_call 31; refine (sameFrames_true _ _ _ _ _ G2 (G.take k') _ HO3.out HFP3.out HG2.out).mono ?_; rintro e w5 ⟨rfl, m5, rfl⟩)
            go_ret
            exact ⟨ret_b (by simp; omega), below_drewN hbw3 _⟩
end Go.Proofs.Ytlfeahalgolbgaa
