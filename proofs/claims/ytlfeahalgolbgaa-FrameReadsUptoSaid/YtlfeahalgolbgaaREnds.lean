/-
  The contracts of the document's Ends and of SameInts.
-/
import Derived.Test.YtlfeahalgolbgaaRScan
import Derived.Test.YtlfeahalgolbgaaEndsPlain
namespace Go.Proofs.Ytlfeahalgolbgaa
open Go.RowKit
set_option linter.unusedVariables false

set_option maxRecDepth 100000 in
set_option maxHeartbeats 400000 in
theorem sameInts_drew (a : Option Addr) (n c : Nat) (a' : Option Addr) (c' : Nat) (E : List Nat) (b1 b2 : Nat) (w : World) (h1 : Own64 w b1 (.slice a n c) E) (h2 : Own64 w b2 (.slice a' n c') E) (hm : n ≤ 4194304) :
    Calls Try.prog 39 #[.slice a n c, .slice a' n c'] w fun e w' => e = .returned (.bool true) ∧ ∃ m, w' = w.drewN m := by
  have H1 := Lib.hid h1
  have H2 := Lib.hid h2
  clear h1 h2
  go_enter Try.func39, Try.ntmps39
  go_wp2
  go_loopw [5] (fun i wr => ∃ k m : Nat, k ≤ n ∧ i = .int .i64 k ∧ wr = w.drewN m) (fun i _ => n - (intOf i).toNat)
  case atStart => exact ⟨0, 0, by omega, rfl, rfl⟩
  case round =>
    obtain ⟨k, m, hk, rfl, rfl⟩ := hrel
    by_cases hlt : k < n
    · obtain ⟨_, b, rfl, hc1⟩ := own64_cell (H1.out.below (below_drewN (Below.refl _ _) m)) k hlt
      obtain ⟨_, b', rfl, hc2⟩ := own64_cell (H2.out.below (below_drewN (Below.refl _ _) m)) k hlt
      generalize E.getD k 0 = x at *
      have i1 : (0 : Int) ≤ (k : Int) := by omega
      have i2 : (k : Int) < (n : Int) := by omega
      have HW := Lib.hid (drewN_add w m)
      generalize w.drewN m = wr at *
      go_wp2
      go_quiet (fail)
      go_wp2
      go_roundw
      case rel => exact ⟨k + 1, _, by omega, by go_num, HW.out _⟩
      case measure => simp [intOf]; omega
    · obtain rfl : k = n := by omega
      go_wp2
      go_ret
      exact ⟨rfl, m, rfl⟩

set_option maxRecDepth 100000 in
set_option maxHeartbeats 1600000 in
theorem rends_any (a : Option Addr) (N c : Nat) (l : List B8) (w : World) (h : Row8 w a N l) (hnc : N ≤ c) (hN : N ≤ 4194304) : Calls Try.prog 41 #[.slice a N c] w (EndsPost w (ends l)) := by
  have H := Lib.hid h
  have HL := Lib.hid h.1
  have HE := Lib.hid (ends_scan l)
  have HS := Lib.hid (scan_small l)
  have HF := Lib.hid (scan_few l)
  clear h
  obtain ⟨⟨F, sm, se⟩, hsc⟩ : ∃ r, scan l = r := ⟨_, rfl⟩
  have HSC := Lib.hid hsc
  have HE2 : Hid (ends l = endsOf 0 F) := by show _ = _; rw [HE.out, hsc]
  have HS2 : Hid (∀ x ∈ F, x.2.length + 12 ≤ N) := by
    show ∀ x ∈ F, _
    intro x hx
    have := HS.out x (by rw [hsc]; exact hx)
    rw [HL.out]; exact this
  have hfew : F.length ≤ 4194304 := by
    have := HF.out
    rw [hsc] at this
    have e := HL.out
    have this2 : 12 * F.length ≤ l.length := this
    omega
  clear hsc HE HS HF
  obtain ⟨nl, hnl⟩ : ∃ nl, F.length = nl := ⟨_, rfl⟩
  rw [hnl] at hfew
  have HNL := Lib.hid hnl
  clear hnl
  go_enter Try.func41, Try.ntmps41
  go_wp2_with fail
  refine (rscan_to _ _ _ l _ H.out hnc hN HSC.out (nl := nl) HNL.out (mn := (sm : Int)) (en := (se : Int)) rfl rfl).mono ?_
  rintro e w2 ⟨fa, fc, G, hG, rfl, hown2, hfc, hb2⟩
  have HG := Lib.hid hG
  have HROW := Lib.hid (frow_of_own hown2 (by omega) (fun g hg => by
    have : (g.1, g.2.1) ∈ frs G := List.mem_map.2 ⟨g, hg, rfl⟩
    rw [hG] at this
    have := HS2.out _ this
    simp at this; omega))
  have HB2 := Lib.hid hb2
  have hs2 : w.heap.size ≤ w2.heap.size := hb2.size
  clear hown2 hb2 hG
  go_wp2_with fail
  go_loopw [6, 7, 8] (fun out at_ i wr => ∃ (k n : Nat) (E : List Nat), k ≤ nl ∧ i = .int .i64 k ∧ at_ = .int .i64 n ∧ n ≤ k * 4194316 ∧ EndsOn F (ends l) E k n ∧ Own64 wr w2.heap.size out E ∧ Below w2.heap.size w2 wr) (fun _ _ i _ => nl - (intOf i).toNat)
  case atStart => exact ⟨0, 0, [], by omega, rfl, rfl, by omega, by rw [HE2.out]; exact endsOn_start F, own64_nil _ _, Below.refl _ _⟩
  case round =>
    obtain ⟨k, n, E, hk, rfl, rfl, hn, heo, hown, hb⟩ := hrel
    by_cases hlt : k < nl
    · obtain ⟨b, o, ba, bc, rfl, hc1, hc2, hlc, hrow⟩ := (HROW.out.below hb).at k hlt
      have hgk : ((F[k]'(by rw [HNL.out]; exact hlt))).2.length = (G.getD k fr0).2.1.length := by
        have hl := HROW.out.1
        have h1 : (frs G)[k]? = F[k]? := by rw [HG.out]
        rw [List.getElem?_eq_getElem (show k < F.length by rw [HNL.out]; exact hlt)] at h1
        simp only [frs, List.getElem?_map, List.getElem?_eq_getElem (show k < G.length by omega), Option.map_some, Option.some.injEq] at h1
        rw [← h1]
        simp only [List.getD_eq_getElem?_getD, List.getElem?_eq_getElem (show k < G.length by omega), Option.getD_some]
      obtain ⟨L, hL⟩ : ∃ L, (G.getD k fr0).2.1.length = L := ⟨_, rfl⟩
      rw [hL] at hc2 hgk
      have hLs : L + 12 ≤ N := by
        have := HS2.out _ (List.getElem_mem (show k < F.length by rw [HNL.out]; exact hlt))
        rw [hgk] at this; exact this
      have HST : Hid (EndsOn F (ends l) (E ++ [n + L + 12]) (k + 1) (n + L + 12)) := by
        have := endsOn_step heo (by rw [HNL.out]; exact hlt) rfl
        rw [hgk] at this; exact this
      have HO := Lib.hid hown
      have hsr : w2.heap.size ≤ wr.heap.size := hb.size
      have hEl : E.length ≤ 4194304 := by rw [heo.1]; omega
      have i1 : (0 : Int) ≤ (k : Int) := by omega
      have i2 : (k : Int) < (nl : Int) := by omega
      clear heo hown hrow hL hgk hlc
      go_wp2_with (at_builtin; refine wpList_append57 rfl _ _ rfl w2.heap.size u6 E rfl (HO.out.below (below_alloc _ _)) wr.heap.size _ (n + L + 12) rfl (by simp) hEl (by simp; omega) ?_)
      intro v3 w3 hown3 hg3
      have hb3 : Below w2.heap.size w2 w3 := grown64 (hb.alloc hsr _) hg3 (HO.out.below (below_alloc _ _)) (by simp; omega)
      clear hg3
      go_wp2_with fail
      go_roundw
      case rel => exact ⟨k + 1, n + L + 12, E ++ [n + L + 12], by omega, by go_num, by go_num, by omega, HST.out, hown3, hb3⟩
      case measure => simp [intOf]; omega
    · have HEE := Lib.hid (endsOn_end heo (by rw [HNL.out]; omega))
      clear heo
      go_wp2_with fail
      go_ret
      exact ⟨_, rfl, by rw [HEE.out]; exact hown.base hs2, below_into HB2.out hb⟩
end Go.Proofs.Ytlfeahalgolbgaa
