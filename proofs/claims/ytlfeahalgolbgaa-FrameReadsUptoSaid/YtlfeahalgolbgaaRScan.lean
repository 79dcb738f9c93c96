/-
  The contract of the document's Scan.
-/
import Derived.Test.YtlfeahalgolbgaaRRead
namespace Go.Proofs.Ytlfeahalgolbgaa
open Go.RowKit
set_option linter.unusedVariables false

theorem rread_any (a : Option Addr) (n c : Nat) (l : List B8) (w : World) (h : Row8 w a n l) (hnc : n ≤ c) (hnn : n ≤ 140737492549632) : Calls Try.prog 37 #[.slice a n c] w (RdPost w (readF l)) := by
  by_cases h8 : n < 8
  · have e : readF l = (0#8, [], 0, 4) := by unfold readF; rw [if_pos (by rw [← h.1]; exact h8)]
    rw [e]
    exact (rread_short a n c w h8).mono fun _ _ hh => rdErr_post hh
  · exact rread_main a n c l w h (by omega) hnc hnn

theorem rread_to (a : Option Addr) (n c : Nat) (l : List B8) (w : World) (h : Row8 w a n l) (hnc : n ≤ c) (hnn : n ≤ 140737492549632) {k : B8} {body : List B8} {m er : Nat} (hr : readF l = (k, body, m, er))
    {kn : Int} (hk : ub k = kn) {bl : Nat} (hbl : body.length = bl) {mn en : Int} (hm : (m : Int) = mn) (he : (er : Int) = en) : Calls Try.prog 37 #[.slice a n c] w (RdTo w kn body bl mn en) := by
  subst hk; subst hbl; subst hm; subst he
  have := rread_any a n c l w h hnc hnn
  rw [hr] at this
  exact this

set_option maxRecDepth 100000 in
set_option maxHeartbeats 1600000 in
theorem rscan_any (a : Option Addr) (N c : Nat) (l : List B8) (w : World) (h : Row8 w a N l) (hnc : N ≤ c) (hN : N ≤ 4194304) : Calls Try.prog 38 #[.slice a N c] w (ScanPost w (scan l)) := by
  have H := Lib.hid h
  have HL := Lib.hid h.1
  have S0 := Lib.hid (scanAt_start l)
  clear h
  go_enter Try.func38, Try.ntmps38
  go_wp2
  go_loopw [5, 6] (fun v i wr => ∃ (n : Nat) (G : List FrV), n ≤ N ∧ i = .int .i64 n ∧ 12 * G.length ≤ n ∧ ScanAt l (scan l) (frs G) n ∧ FOwn wr w.heap.size v G ∧ Below w.heap.size w wr) (fun _ i _ => N - (intOf i).toNat)
  case atStart => exact ⟨0, [], by omega, rfl, by simp, S0.out, fown_nil _ _, Below.refl _ _⟩
  case round =>
    obtain ⟨n, G, hn, rfl, hfew, hsc, hown, hb⟩ := hrel
    by_cases hlt : n < N
    · obtain ⟨b, o, rfl, hrow⟩ := (H.out.below hb).tailAny n hlt
      have HR := Lib.hid hrow
      have HO := Lib.hid hown
      have HS := Lib.hid hsc
      have i1 : (0 : Int) ≤ (n : Int) := by omega
      have i2 : (n : Int) ≤ (N : Int) := by omega
      have i3 : (n : Int) < (c : Int) := by omega
      clear hrow hown hsc
      have hlen : (l.drop n).length = N - n := by rw [List.length_drop, ← HL.out]
      have hsw : w.heap.size ≤ wr.heap.size := hb.size
      rcases readF_cases (l.drop n) with ⟨k, body, m, hr, hm12, hml, hbm⟩ | hr | hr
      · rw [hlen] at hml
        have HST := Lib.hid (scanAt_step HS.out (by rw [← HL.out]; exact hlt) hr hm12 (by rw [← HL.out]; omega))
        have HRF := Lib.hid hr
        clear hr hlen
        go_wp2_with fail
        refine (rread_to _ _ _ (l.drop n) _ HR.out (by omega) (by omega) HRF.out (kn := ub k) rfl (bl := body.length) rfl (mn := (m : Int)) (en := 0) rfl rfl).mono ?_
        rintro e w2 ⟨ba, bc, rfl, hown2, hb2⟩
        have HB2 := Lib.hid (hown2.base hsw)
        have HO2 := Lib.hid (HO.out.below hb2)
        have hbw2 : Below w.heap.size w w2 := below_into hb hb2
        have hsz2 : w.heap.size ≤ w2.heap.size := hbw2.size
        have hbA := (below_alloc w2 (.cells #[.int .u8 (ub k), .slice ba body.length bc] 34))
        clear hown2 hb2
        go_wp2_with (at_builtin; refine wpList_append34 rfl _ _ rfl w.heap.size u5 G rfl ((HO2.out.below hbA).below (below_alloc _ _)) (w2.heap.size + 1) _ k body (.slice ba body.length bc) rfl (by simp) (by simp) ((HB2.out.below hbA).below (below_alloc _ _)) (by omega) (by simp; omega) ?_)
        intro v3 w3 hown3 hg3
        have hb3 : Below w.heap.size w w3 := grown34 (((hbw2.alloc (by omega) _).alloc (by simp; omega) _)) hg3 ((HO2.out.below hbA).below (below_alloc _ _)).1 (by simp; omega)
        clear hg3 hbA
        go_wp2_with fail
        go_roundw
        case rel => exact ⟨n + m, G ++ [(k, body, .slice ba body.length bc)], by omega, by go_num, by rw [List.length_append, List.length_singleton]; omega, by rw [frs_snoc]; exact HST.out, hown3, hb3⟩
        case measure => simp [intOf]; omega
      · have HE := Lib.hid (scanAt_err HS.out (by rw [← HL.out]; exact hlt) hr (by decide))
        have HRF := Lib.hid hr
        clear hr hlen
        go_wp2_with fail
        refine (rread_to _ _ _ (l.drop n) _ HR.out (by omega) (by omega) HRF.out (kn := 0) rfl (bl := 0) rfl (mn := 0) (en := 4) rfl rfl).mono ?_
        rintro e w2 ⟨ba, bc, rfl, hown2, hb2⟩
        have hbw2 : Below w.heap.size w w2 := below_into hb hb2
        have HO2 := Lib.hid ((HO.out.below hb2).below (below_alloc w2 (.cells #[.int .u8 0, .slice ba 0 bc] 34)))
        clear hown2 hb2
        go_wp2_with fail
        go_ret3
        exact ⟨u5, G, by rw [HE.out], by rw [HE.out]; rfl, HO2.out, below_into hbw2 (below_alloc w2 _)⟩
      · have HE := Lib.hid (scanAt_err HS.out (by rw [← HL.out]; exact hlt) hr (by decide))
        have HRF := Lib.hid hr
        clear hr hlen
        go_wp2_with fail
        refine (rread_to _ _ _ (l.drop n) _ HR.out (by omega) (by omega) HRF.out (kn := 0) rfl (bl := 0) rfl (mn := 0) (en := 5) rfl rfl).mono ?_
        rintro e w2 ⟨ba, bc, rfl, hown2, hb2⟩
        have hbw2 : Below w.heap.size w w2 := below_into hb hb2
        have HO2 := Lib.hid ((HO.out.below hb2).below (below_alloc w2 (.cells #[.int .u8 0, .slice ba 0 bc] 34)))
        clear hown2 hb2
        go_wp2_with fail
        go_ret3
        exact ⟨u5, G, by rw [HE.out], by rw [HE.out]; rfl, HO2.out, below_into hbw2 (below_alloc w2 _)⟩
    · have HE := Lib.hid (scanAt_end hsc (by rw [← HL.out]; exact hlt))
      clear hsc
      go_wp2_with fail
      go_ret3
      exact ⟨u5, G, by rw [HE.out], by rw [HE.out]; rfl, hown, hb⟩

theorem rscan_to (a : Option Addr) (N c : Nat) (l : List B8) (w : World) (h : Row8 w a N l) (hnc : N ≤ c) (hN : N ≤ 4194304) {Fs : List Fr} {n er : Nat} (hs : scan l = (Fs, n, er)) {nl : Nat} (hl : Fs.length = nl)
    {mn en : Int} (hm : (n : Int) = mn) (he : (er : Int) = en) : Calls Try.prog 38 #[.slice a N c] w (ScTo w Fs nl mn en) := by
  subst hm; subst he; subst hl
  refine (rscan_any a N c l w h hnc hN).mono ?_
  rintro e w' ⟨v, G, hG, rfl, hown, hb⟩
  rw [hs] at hG ⊢
  obtain ⟨va, vc, rfl, hvc⟩ := fown_form hown
  have hG2 : frs G = Fs := hG
  have hl : G.length = Fs.length := by rw [← hG2, frs_length]
  rw [hl] at hown hvc ⊢
  exact ⟨va, vc, G, hG, rfl, hown, hvc, hb⟩
end Go.Proofs.Ytlfeahalgolbgaa
