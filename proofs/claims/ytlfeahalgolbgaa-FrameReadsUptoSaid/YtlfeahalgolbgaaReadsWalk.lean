/-
  The walk of FrameReads.
-/
import Derived.Test.YtlfeahalgolbgaaREnds
import Derived.Test.YtlfeahalgolbgaaMut
import Derived.Test.YtlfeahalgolbgaaKept
import Derived.Test.YtlfeahalgolbgaaWritesWalk
namespace Go.Proofs.Ytlfeahalgolbgaa
open Go.RowKit
set_option linter.unusedVariables false

section
attribute [local go_sem] xor_ff
set_option maxRecDepth 100000 in
set_option maxHeartbeats 1600000 in
theorem frameReads_any (a : Option Addr) (n c : Nat) (l : List B8) (w : World) (h : Row8 w a n l) (hnc : n ≤ c) (hc : c ≤ 140737488351232) (hnil : a = none → c = 0) (hN : n ≤ 1048576) :
    Calls Try.prog 13 #[.slice a n c] w fun e w' => e = .returned (.bool true) ∧ Below w.heap.size w w' := by
  have HL := Lib.hid h.1
  have R := Lib.hid h
  clear h hnil
  obtain ⟨⟨k0, b0, m0, er0⟩, hr0⟩ : ∃ r, readF l = r := ⟨_, rfl⟩
  have HRF := Lib.hid hr0
  obtain ⟨⟨F, sm, se⟩, hsc⟩ : ∃ r, scan l = r := ⟨_, rfl⟩
  have HSC := Lib.hid hsc
  have HSM : Hid (∀ x ∈ F, x.2.length + 12 ≤ n) := by
    show ∀ x ∈ F, _
    intro x hx
    have := scan_small l x (by rw [hsc]; exact hx)
    rw [HL.out]; exact this
  have hfew : F.length ≤ 1048576 := by
    have := scan_few l
    rw [hsc] at this
    have e := HL.out
    have this2 : 12 * F.length ≤ l.length := this
    omega
  have hb0 : b0.length ≤ n := by
    rcases readF_cases l with ⟨k, b, m, hr, h12, hml, hbm⟩ | hr | hr <;> rw [hr0] at hr <;> simp only [Prod.mk.injEq] at hr
    · obtain ⟨_, rfl, _⟩ := hr
      have e := HL.out
      omega
    · obtain ⟨_, rfl, _⟩ := hr
      simp
    · obtain ⟨_, rfl, _⟩ := hr
      simp
  obtain ⟨nl, hnl⟩ : ∃ nl, F.length = nl := ⟨_, rfl⟩
  rw [hnl] at hfew
  have HNL := Lib.hid hnl
  obtain ⟨L, hL⟩ : ∃ L, b0.length = L := ⟨_, rfl⟩
  rw [hL] at hb0
  have HLL := Lib.hid hL
  clear hr0 hsc hnl hL
  have gk1 := ub_lo k0
  have gk2 := ub_hi k0
  go_enter Try.func13, Try.ntmps13
  go_wp2_with fail
  refine (lives3_any _).mono ?_
  rintro e w1 ⟨rfl, hb1⟩
  have S1 := Lib.hid (R.out.below hb1)
  go_wp2_with fail
  refine (own_any _ _ _ l _ S1.out (by omega)).mono ?_
  rintro e w2 ⟨g, rfl, hgb, hB, hb2⟩
  have HB := Lib.hid hB
  have hb12 := below_into hb1 hb2
  have HO := Lib.hid (bytes_row HB.out HL.out (by omega))
  have HR := Lib.hid (R.out.below hb12)
  clear hB hb1 hb2 S1
  go_wp2_with fail
  refine (read_to _ _ _ l _ HO.out (by omega) (by omega) HRF.out (kn := ub k0) rfl (bl := L) HLL.out (mn := (m0 : Int)) (en := (er0 : Int)) rfl rfl).mono ?_
  rintro e w3 ⟨ba, bc, rfl, hown3, hb3⟩
  have hbA := hb3.alloc hb3.size (.cells #[.int .u8 (ub k0), .slice ba L bc] 34)
  have HO3 : Hid (Own8 (w3.alloc (.cells #[.int .u8 (ub k0), .slice ba L bc] 34)) w2.heap.size (.slice ba L bc) b0) := hown3.below (below_alloc _ _)
  have HP3 : Hid ((w3.alloc (.cells #[.int .u8 (ub k0), .slice ba L bc] 34)).heap[w3.heap.size]? = some (.cells #[.int .u8 (ub k0), .slice ba L bc] 34 (0, 0))) := alloc_block _ _
  have hs3 : w3.heap.size < (w3.alloc (.cells #[.int .u8 (ub k0), .slice ba L bc] 34)).heap.size := by simp
  have HX3 : Hid (Below w2.heap.size w2 (w3.alloc (.cells #[.int .u8 (ub k0), .slice ba L bc] 34))) := hbA
  clear hown3 hb3 hbA
  go_wp2_with fail
  obtain ⟨w3a, hw3a⟩ : ∃ x, w3.alloc (.cells #[.int .u8 (ub k0), .slice ba L bc] 34) = x := ⟨_, rfl⟩
  rw [hw3a] at HO3 HP3 HX3 hs3 ⊢
  clear hw3a
  refine (rread_to _ _ _ l _ (HR.out.below HX3.out) (by omega) (by omega) HRF.out (kn := ub k0) rfl (bl := L) HLL.out (mn := (m0 : Int)) (en := (er0 : Int)) rfl rfl).mono ?_
  rintro e w4 ⟨ba', bc', rfl, hown4, hb4⟩
  have hbB := hb4.alloc hb4.size (.cells #[.int .u8 (ub k0), .slice ba' L bc'] 34)
  have HO4 : Hid (Own8 (w4.alloc (.cells #[.int .u8 (ub k0), .slice ba' L bc'] 34)) w3a.heap.size (.slice ba' L bc') b0) := hown4.below (below_alloc _ _)
  have HP4 : Hid ((w4.alloc (.cells #[.int .u8 (ub k0), .slice ba' L bc'] 34)).heap[w4.heap.size]? = some (.cells #[.int .u8 (ub k0), .slice ba' L bc'] 34 (0, 0))) := alloc_block _ _
  have hs4 : w4.heap.size < (w4.alloc (.cells #[.int .u8 (ub k0), .slice ba' L bc'] 34)).heap.size := by simp
  have HX4 : Hid (Below w3a.heap.size w3a (w4.alloc (.cells #[.int .u8 (ub k0), .slice ba' L bc'] 34))) := hbB
  clear hown4 hb4 hbB
  go_wp2_with fail
  obtain ⟨w4a, hw4a⟩ : ∃ x, w4.alloc (.cells #[.int .u8 (ub k0), .slice ba' L bc'] 34) = x := ⟨_, rfl⟩
  rw [hw4a] at HO4 HP4 HX4 hs4 ⊢
  clear hw4a
  have HX24 : Hid (Below w2.heap.size w2 w4a) := below_into HX3.out HX4.out
  refine (scan_to _ _ _ l _ (HO.out.below HX24.out) (by omega) (by omega) HSC.out (nl := nl) HNL.out (mn := (sm : Int)) (en := (se : Int)) rfl rfl).mono ?_
  rintro e w5 ⟨fa, fc, G, hG, rfl, hown5, hfc, hb5⟩
  have HX5 := Lib.hid hb5
  have HX25 : Hid (Below w2.heap.size w2 w5) := below_into HX24.out hb5
  have HG := Lib.hid hG
  have HF5 := Lib.hid hown5
  clear hown5 hb5 hG hfc
  go_wp2_with fail
  refine (rscan_to _ _ _ l _ (HR.out.below HX25.out) (by omega) (by omega) HSC.out (nl := nl) HNL.out (mn := (sm : Int)) (en := (se : Int)) rfl rfl).mono ?_
  rintro e w6 ⟨fa', fc', G', hG', rfl, hown6, hfc', hb6⟩
  have HX6 := Lib.hid hb6
  have HX26 : Hid (Below w2.heap.size w2 w6) := below_into HX25.out hb6
  have hsmall : ∀ K : List FrV, frs K = F → ∀ g ∈ K, g.2.1.length ≤ 281474976710656 := by
    intro K hK g hg
    have : (g.1, g.2.1) ∈ frs K := List.mem_map.2 ⟨g, hg, rfl⟩
    rw [hK] at this
    have := HSM.out _ this
    simp at this; omega
  have HRG : Hid (FRow w6 fa nl G) := (frow_of_own HF5.out (by omega) (hsmall G HG.out)).below HX6.out
  have HRG' : Hid (FRow w6 fa' nl G') := frow_of_own hown6 (by omega) (hsmall G' hG')
  have HGG : Hid (frs G = frs G') := by show _ = _; rw [HG.out, hG']
  have HX46 : Below w4a.heap.size w4a w6 := below_into HX5.out hb6
  have HX36 : Below w3a.heap.size w3a w6 := below_into HX4.out HX46
  have HB0 : Hid (Own8 w6 w2.heap.size (.slice ba L bc) b0) := HO3.out.below HX36
  have HB0' : Hid (Own8 w6 w3a.heap.size (.slice ba' L bc') b0) := HO4.out.below HX46
  have HQ3 : Hid (w6.heap[w3.heap.size]? = some (.cells #[.int .u8 (ub k0), .slice ba L bc] 34 (0, 0))) := (HX36.block _ hs3).trans HP3.out
  have HQ4 : Hid (w6.heap[w4.heap.size]? = some (.cells #[.int .u8 (ub k0), .slice ba' L bc'] 34 (0, 0))) := (HX46.block _ hs4).trans HP4.out
  have q0 : w6.cell? ⟨w3.heap.size, 0, none⟩ = some (.int .u8 (ub k0)) := by rw [cell_of_row _ _ _ _ _ _ HQ3.out]; rfl
  have q1 : w6.cell? ⟨w3.heap.size, 1, none⟩ = some (.slice ba L bc) := by rw [cell_of_row _ _ _ _ _ _ HQ3.out]; rfl
  have q2 : w6.cell? ⟨w4.heap.size, 0, none⟩ = some (.int .u8 (ub k0)) := by rw [cell_of_row _ _ _ _ _ _ HQ4.out]; rfl
  have q3 : w6.cell? ⟨w4.heap.size, 1, none⟩ = some (.slice ba' L bc') := by rw [cell_of_row _ _ _ _ _ _ HQ4.out]; rfl
  have HFA : Hid (FAny w6 w2.heap.size (.slice fa nl fc) G) := ((HF5.out.any).below HX6.out).base HX24.out.size
  have HRB := Lib.hid (HB0.out.row (by rw [HLL.out]; omega))
  have HRB' := Lib.hid (HB0'.out.row (by rw [HLL.out]; omega))
  have HAB : Hid (Any8 w6 w2.heap.size (.slice ba L bc) L) := ⟨b0, HLL.out, HB0.out⟩
  clear hown6 hb6 hG' hfc' hsmall HX46 HX36 hs3 hs4
  go_wp2_with fail
  refine (same_drew _ _ _ _ _ b0 _ HRB.out HRB'.out).mono ?_
  rintro e w7 ⟨rfl, m7, rfl⟩
  go_wp2_with fail
  refine (sameFrames_true _ _ _ _ _ G G' _ (HRG.out.drew m7) (HRG'.out.drew m7) HGG.out).mono ?_
  rintro e w8 ⟨rfl, m8, rfl⟩
  rw [drewN_add]
  have hbd : Below w6.heap.size w6 (w6.drewN (m7 + m8)) := below_drewN (Below.refl _ _) _
  have HY : Hid (Any8 (w6.drewN (m7 + m8)) w2.heap.size (.slice ba L bc) L) := HAB.out.below hbd
  have HZ : Hid (FAny (w6.drewN (m7 + m8)) w2.heap.size (.slice fa nl fc) G) := HFA.out.below hbd
  have HV : Hid ((w6.drewN (m7 + m8)).heap[w3.heap.size]? = some (.cells #[.int .u8 (ub k0), .slice ba L bc] 34 (0, 0))) := HQ3.out
  have HU : Hid (Below w2.heap.size w2 (w6.drewN (m7 + m8))) := below_drewN HX26.out _
  generalize w6.drewN (m7 + m8) = w8 at *
  clear q0 q1 q2 q3 hbd HQ3 HQ4 HAB HFA HRB HRB' HRG HRG' HB0 HB0' HX26 HX6 HX5 HX25
  go_wp2_with fail
  go_loopw [17] (fun i wr => ∃ k : Nat, k ≤ L ∧ i = .int .i64 k ∧ Any8 wr w2.heap.size (.slice ba L bc) L ∧ wr.heap[w3.heap.size]? = some (.cells #[.int .u8 (ub k0), .slice ba L bc] 34 (0, 0)) ∧ FAny wr w2.heap.size (.slice fa nl fc) G ∧ Below w2.heap.size w2 wr) (fun i _ => L - (intOf i).toNat)
  case atStart => exact ⟨0, by omega, rfl, HY.out, HV.out, HZ.out, HU.out⟩
  case round =>
    clear HY HV HZ HU
    obtain ⟨k, hk, rfl, hay, hpb, hfa, hbr⟩ := hrel
    have q1 : wr.cell? ⟨w3.heap.size, 1, none⟩ = some (.slice ba L bc) := by rw [cell_of_row _ _ _ _ _ _ hpb]; rfl
    by_cases hlt : k < L
    · obtain ⟨gb, x, cur, rfl, hgb2, hcur, hcell, hfr⟩ := hay.at k hlt
      have i1 : (0 : Int) ≤ (k : Int) := by omega
      have i2 : (k : Int) < (L : Int) := by omega
      have g1 := ub_lo x
      have g2 := ub_hi x
      have HN1 := Lib.hid (hay.set gb k (x ^^^ 255#8))
      have HN2 : Hid ((wr.setCell ⟨gb, k, none⟩ (.int .u8 (ub (x ^^^ 255#8)))).heap[w3.heap.size]? = some (.cells #[.int .u8 (ub k0), .slice (some ⟨gb, 0, none⟩) L bc] 34 (0, 0))) := frame_stays hpb hcur
      have HN3 := Lib.hid (hfa.set hcur k (x ^^^ 255#8))
      have HN4 : Hid (Below w2.heap.size w2 (wr.setCell ⟨gb, k, none⟩ (.int .u8 (ub (x ^^^ 255#8))))) := hbr.setCell hgb2 _
      clear hay hpb hfa hbr hcur
      go_wp2_with fail
      go_region
      all_goals
        go_wp2_with fail
        go_roundw
        case rel => exact ⟨k + 1, by omega, by go_num, HN1.out.below (Below.refl _ _).drew, HN2.out, HN3.out.below (Below.refl _ _).drew, below_into HN4.out (Below.refl _ _).drew⟩
        case measure => simp [intOf]; omega
    · have HZ := Lib.hid hfa
      have HU := Lib.hid hbr
      have HEL : Hid ((ends l).length ≤ 4194304) := by
        show _ ≤ _
        rw [ends_scan, endsOf_length, HSC.out]
        show F.length ≤ _
        rw [HNL.out]; omega
      clear hay hpb hfa hbr
      go_wp2_with fail
      go_loopw [18] (fun i wr => ∃ j : Nat, j ≤ nl ∧ i = .int .i64 j ∧ FAny wr w2.heap.size (.slice fa nl fc) G ∧ Below w2.heap.size w2 wr) (fun i _ => nl - (intOf i).toNat)
      case atStart => exact ⟨0, by omega, rfl, HZ.out, HU.out⟩
      case round =>
        clear HZ HU q1 hlt hk
        obtain ⟨j, hj, rfl, hfa, hbr⟩ := hrel
        by_cases hlt : j < nl
        · have hLj : (G.getD j fr0).2.1.length ≤ n := by
            have hgl : G.length = nl := by rw [← frs_length, HG.out]; exact HNL.out
            have : ((G.getD j fr0).1, (G.getD j fr0).2.1) ∈ frs G := List.mem_map.2 ⟨_, getD_mem G j (by omega), rfl⟩
            rw [HG.out] at this
            have this2 : (G.getD j fr0).2.1.length + 12 ≤ n := HSM.out _ this
            omega
          obtain ⟨Lj, hLjj⟩ : ∃ Lj, (G.getD j fr0).2.1.length = Lj := ⟨_, rfl⟩
          rw [hLjj] at hLj
          have HLJ := Lib.hid hLjj
          have HZ := Lib.hid hfa
          have HU := Lib.hid hbr
          have i1 : (0 : Int) ≤ (j : Int) := by omega
          have i2 : (j : Int) < (nl : Int) := by omega
          clear hfa hbr hLjj
          go_wp2_with fail
          go_loopw [19] (fun i wr => ∃ k : Nat, k ≤ Lj ∧ i = .int .i64 k ∧ FAny wr w2.heap.size (.slice fa nl fc) G ∧ Below w2.heap.size w2 wr) (fun i _ => Lj - (intOf i).toNat)
          case atStart => exact ⟨0, by omega, rfl, HZ.out, HU.out⟩
          case round =>
            clear HZ HU
            obtain ⟨k, hk, rfl, hfa, hbr⟩ := hrel
            obtain ⟨b, ba1, bc1, rfl, hbody, hay⟩ := hfa.at j hlt
            rw [HLJ.out] at hbody hay
            by_cases hlt2 : k < Lj
            · obtain ⟨gb, x, cur, rfl, hgb2, hcur, hcell, hfr⟩ := hay.at k hlt2
              have i3 : (0 : Int) ≤ (k : Int) := by omega
              have i4 : (k : Int) < (Lj : Int) := by omega
              have g1 := ub_lo x
              have g2 := ub_hi x
              have HN3 := Lib.hid (hfa.set hcur k (x ^^^ 255#8))
              have HN4 : Hid (Below w2.heap.size w2 (wr.setCell ⟨gb, k, none⟩ (.int .u8 (ub (x ^^^ 255#8))))) := hbr.setCell hgb2 _
              clear hay hfa hbr hcur
              go_wp2_with fail
              go_region
              all_goals
                go_wp2_with fail
                go_roundw
                case rel => exact ⟨k + 1, by omega, by go_num, HN3.out.below (Below.refl _ _).drew, below_into HN4.out (Below.refl _ _).drew⟩
                case measure => simp [intOf]; omega
            · have HZ := Lib.hid hfa
              have HU := Lib.hid hbr
              clear hay hfa hbr
              go_wp2_with fail
              go_roundw
              case rel => exact ⟨j + 1, by omega, by go_num, HZ.out, HU.out⟩
              case measure => simp [intOf]; omega
        · have HU := Lib.hid hbr
          clear hfa hbr
          obtain ⟨E, hE⟩ : ∃ E, ends l = E := ⟨_, rfl⟩
          rw [hE] at HEL
          have HE := Lib.hid hE
          clear hE
          go_wp2_with fail
          refine (ends_any _ _ _ l _ (HO.out.below HU.out) (by omega) (by omega)).mono ?_
          rintro e w9 ⟨v9, rfl, hown9, hb9⟩
          rw [HE.out] at hown9
          obtain ⟨ea, ec, rfl, _⟩ := own64_form hown9
          have HV9 := Lib.hid (below_into HU.out hb9)
          have HO9 := Lib.hid hown9
          clear hown9 hb9
          go_wp2_with fail
          refine (rends_any _ _ _ l _ (HR.out.below HV9.out) (by omega) (by omega)).mono ?_
          rintro e w10 ⟨v10, rfl, hown10, hb10⟩
          rw [HE.out] at hown10
          obtain ⟨ea', ec', rfl, _⟩ := own64_form hown10
          have HV10 := Lib.hid (below_into HV9.out hb10)
          have HO10 := Lib.hid hown10
          have HO9' := Lib.hid (HO9.out.below hb10)
          clear hown10 hb10
          obtain ⟨nE, hnE⟩ : ∃ nE, E.length = nE := ⟨_, rfl⟩
          rw [hnE] at HO10 HO9' HEL ⊢
          clear hnE
          go_wp2_with fail
          refine (sameInts_drew _ _ _ _ _ E _ _ _ HO9'.out HO10.out HEL.out).mono ?_
          rintro e w11 ⟨rfl, m11, rfl⟩
          have HV11 : Hid (Below w2.heap.size w2 (w10.drewN m11)) := below_drewN HV10.out _
          go_wp2_with fail
          refine (kept_true g n _ _ l _ (HB.out.below HV11.out) (HR.out.below HV11.out)).mono ?_
          rintro e w12 ⟨rfl, hb12'⟩
          go_wp2_with fail
          go_ret
          exact ⟨rfl, below_into hb12 (below_into HV11.out hb12')⟩
end
end Go.Proofs.Ytlfeahalgolbgaa
