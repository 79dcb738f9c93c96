/-
  The contract of frame.Scan.
-/
import Derived.Test.YtlfeahalgolbgaaScanMem
namespace Go.Proofs.Ytlfeahalgolbgaa
open Go.RowKit
set_option linter.unusedVariables false

def ScanPost (w : World) (R : List Fr × Nat × Nat) (e : Ending) (w' : World) : Prop :=
  ∃ v G, frs G = R.1 ∧ e = .returned (.tuple #[v, .int .i64 R.2.1, .int .i64 R.2.2]) ∧ FOwn w' w.heap.size v G ∧ Below w.heap.size w w'

theorem Row8.tailAny {w : World} {a : Option Addr} {n : Nat} {l : List B8} (h : Row8 w a n l) (k : Nat) (hk : k < n) : ∃ b o, a = some ⟨b, o, none⟩ ∧ Row8 w (some ⟨b, o + k, none⟩) (n - k) (l.drop k) := by
  obtain ⟨b, o, rfl, _⟩ := h.2.2 (by omega)
  exact ⟨b, o, rfl, h.tail k (by omega)⟩

theorem grown34 {w0 w w' : World} {base : Nat} {v : Value} {n : Nat} {xs : List Value} (hb : Below base w0 w) (hg : w.grownBy w' v.ownBlock) (ho : w.ownsRow base 34 2 v n xs) (hs : base ≤ w.heap.size) : Below base w0 w' :=
  hb.grown hg hs (fun k hk => (World.ownsRow.lt ho k hk).1)

theorem frs_snoc (G : List FrV) (k : B8) (b : List B8) (v : Value) : frs (G ++ [(k, b, v)]) = frs G ++ [(k, b)] := by simp [frs]
theorem frs_length (G : List FrV) : (frs G).length = G.length := by simp [frs]

set_option maxRecDepth 100000 in
set_option maxHeartbeats 1600000 in
theorem scan_any (a : Option Addr) (N c : Nat) (l : List B8) (w : World) (h : Row8 w a N l) (hnc : N ≤ c) (hN : N ≤ 4194304) : Calls Try.prog 29 #[.slice a N c] w (ScanPost w (scan l)) := by
  have H := Lib.hid h
  have HL := Lib.hid h.1
  have S0 := Lib.hid (scanAt_start l)
  clear h
  go_enter Try.func29, Try.ntmps29
  go_wp2
  go_loopw [2, 3] (fun v i wr => ∃ (n : Nat) (G : List FrV), n ≤ N ∧ i = .int .i64 n ∧ 12 * G.length ≤ n ∧ ScanAt l (scan l) (frs G) n ∧ FOwn wr w.heap.size v G ∧ Below w.heap.size w wr) (fun _ i _ => N - (intOf i).toNat)
  case atStart => exact ⟨0, [], by omega, rfl, by simp, S0.out, fown_nil _ _, Below.refl _ _⟩
  case round =>
    obtain ⟨n, G, hn, rfl, hfew, hsc, hown, hb⟩ := hrel
    by_cases hlt : n < N
    · obtain ⟨b, o, rfl, hrow⟩ := (H.out.below hb).tailAny n hlt
      have HR := Lib.hid hrow
      have HO := Lib.hid hown
      have HS := Lib.hid hsc
      have i1 : (0 : Int) ≤ (n : Int) := by omega
      have i2 : (n : Int) ≤ (N : Int) := by omega
      have i3 : (n : Int) < (c : Int) := by omega
      clear hrow hown hsc
      have hlen : (l.drop n).length = N - n := by rw [List.length_drop, ← HL.out]
      have hsw : w.heap.size ≤ wr.heap.size := hb.size
      rcases readF_cases (l.drop n) with ⟨k, body, m, hr, hm12, hml, hbm⟩ | hr | hr
      · rw [hlen] at hml
        have HST := Lib.hid (scanAt_step HS.out (by rw [← HL.out]; exact hlt) hr hm12 (by rw [← HL.out]; omega))
        have HRF := Lib.hid hr
        clear hr hlen
        go_wp2_with fail
        refine (read_to _ _ _ (l.drop n) _ HR.out (by omega) (by omega) HRF.out (kn := ub k) rfl (bl := body.length) rfl (mn := (m : Int)) (en := 0) rfl rfl).mono ?_
        rintro e w2 ⟨ba, bc, rfl, hown2, hb2⟩
        have HB2 := Lib.hid (hown2.base hsw)
        have HO2 := Lib.hid (HO.out.below hb2)
        have hbw2 : Below w.heap.size w w2 := below_into hb hb2
        have hsz2 : w.heap.size ≤ w2.heap.size := hbw2.size
        have hbA := (below_alloc w2 (.cells #[.int .u8 (ub k), .slice ba body.length bc] 34))
        clear hown2 hb2
        go_wp2_with (at_builtin; refine wpList_append34 rfl _ _ rfl w.heap.size u2 G rfl ((HO2.out.below hbA).below (below_alloc _ _)) (w2.heap.size + 1) _ k body (.slice ba body.length bc) rfl (by simp) (by simp) ((HB2.out.below hbA).below (below_alloc _ _)) (by omega) (by simp; omega) ?_)
        intro v3 w3 hown3 hg3
        have hb3 : Below w.heap.size w w3 := grown34 (((hbw2.alloc (by omega) _).alloc (by simp; omega) _)) hg3 ((HO2.out.below hbA).below (below_alloc _ _)).1 (by simp; omega)
        clear hg3 hbA
        go_wp2_with fail
        go_roundw
        case rel => exact ⟨n + m, G ++ [(k, body, .slice ba body.length bc)], by omega, by go_num, by rw [List.length_append, List.length_singleton]; omega, by rw [frs_snoc]; exact HST.out, hown3, hb3⟩
        case measure => simp [intOf]; omega
      · have HE := Lib.hid (scanAt_err HS.out (by rw [← HL.out]; exact hlt) hr (by decide))
        have HRF := Lib.hid hr
        clear hr hlen
        go_wp2_with fail
        refine (read_to _ _ _ (l.drop n) _ HR.out (by omega) (by omega) HRF.out (kn := 0) rfl (bl := 0) rfl (mn := 0) (en := 4) rfl rfl).mono ?_
        rintro e w2 ⟨ba, bc, rfl, hown2, hb2⟩
        have hbw2 : Below w.heap.size w w2 := below_into hb hb2
        have HO2 := Lib.hid ((HO.out.below hb2).below (below_alloc w2 (.cells #[.int .u8 0, .slice ba 0 bc] 34)))
        clear hown2 hb2
        go_wp2_with fail
        go_ret3
        exact ⟨u2, G, by rw [HE.out], by rw [HE.out]; rfl, HO2.out, below_into hbw2 (below_alloc w2 _)⟩
      · have HE := Lib.hid (scanAt_err HS.out (by rw [← HL.out]; exact hlt) hr (by decide))
        have HRF := Lib.hid hr
        clear hr hlen
        go_wp2_with fail
        refine (read_to _ _ _ (l.drop n) _ HR.out (by omega) (by omega) HRF.out (kn := 0) rfl (bl := 0) rfl (mn := 0) (en := 5) rfl rfl).mono ?_
        rintro e w2 ⟨ba, bc, rfl, hown2, hb2⟩
        have hbw2 : Below w.heap.size w w2 := below_into hb hb2
        have HO2 := Lib.hid ((HO.out.below hb2).below (below_alloc w2 (.cells #[.int .u8 0, .slice ba 0 bc] 34)))
        clear hown2 hb2
        go_wp2_with fail
        go_ret3
        exact ⟨u2, G, by rw [HE.out], by rw [HE.out]; rfl, HO2.out, below_into hbw2 (below_alloc w2 _)⟩
    · have HE := Lib.hid (scanAt_end hsc (by rw [← HL.out]; exact hlt))
      clear hsc
      go_wp2_with fail
      go_ret3
      exact ⟨u2, G, by rw [HE.out], by rw [HE.out]; rfl, hown, hb⟩

theorem fown_form {w : World} {base : Nat} {v : Value} {G : List FrV} (h : FOwn w base v G) : ∃ a c, v = .slice a G.length c ∧ G.length ≤ c := by
  obtain ⟨⟨hl, h⟩, _⟩ := h
  rcases h with ⟨hv, h0⟩ | ⟨g, cap, cur, hv, hg, hh, hnc, hcm, hcs, ht⟩
  · exact ⟨none, 0, by rw [hv, h0], by omega⟩
  · exact ⟨_, cap, hv, hnc⟩

def ScTo (w : World) (Fs : List Fr) (nl : Nat) (mn en : Int) (e : Ending) (w' : World) : Prop :=
  ∃ a c G, frs G = Fs ∧ e = .returned (.tuple #[.slice a nl c, .int .i64 mn, .int .i64 en]) ∧ FOwn w' w.heap.size (.slice a nl c) G ∧ nl ≤ c ∧ Below w.heap.size w w'

theorem scan_to (a : Option Addr) (N c : Nat) (l : List B8) (w : World) (h : Row8 w a N l) (hnc : N ≤ c) (hN : N ≤ 4194304) {Fs : List Fr} {n er : Nat} (hs : scan l = (Fs, n, er)) {nl : Nat} (hl : Fs.length = nl)
    {mn en : Int} (hm : (n : Int) = mn) (he : (er : Int) = en) : Calls Try.prog 29 #[.slice a N c] w (ScTo w Fs nl mn en) := by
  subst hm; subst he; subst hl
  refine (scan_any a N c l w h hnc hN).mono ?_
  rintro e w' ⟨v, G, hG, rfl, hown, hb⟩
  rw [hs] at hG ⊢
  obtain ⟨va, vc, rfl, hvc⟩ := fown_form hown
  have hG2 : frs G = Fs := hG
  have hl : G.length = Fs.length := by rw [← hG2, frs_length]
  rw [hl] at hown hvc ⊢
  exact ⟨va, vc, G, hG, rfl, hown, hvc, hb⟩
end Go.Proofs.Ytlfeahalgolbgaa
