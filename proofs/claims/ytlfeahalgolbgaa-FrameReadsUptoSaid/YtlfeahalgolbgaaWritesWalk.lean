/-
  The walk of FrameWrites.
-/
import Derived.Test.YtlfeahalgolbgaaRefAppend
import Derived.Test.YtlfeahalgolbgaaLives3
import Derived.Test.YtlfeahalgolbgaaKept
namespace Go.Proofs.Ytlfeahalgolbgaa
open Go.RowKit
set_option linter.unusedVariables false

theorem bytes_row {w : World} {g n : Nat} {l m : List B8} (h : Bytes w g (l ++ m)) (hn : n = l.length) (hm : n ≤ 281474976710656) : Row8 w (some ⟨g, 0, none⟩) n l := by
  subst hn; exact h.row hm

set_option maxRecDepth 100000 in
set_option maxHeartbeats 800000 in
theorem frameWrites_any (a : Option Addr) (n c : Nat) (l : List B8) (kind : B8) (a' : Option Addr) (m c' : Nat) (body : List B8) (w : World) (r1 : Row8 w a n l) (hnc : n ≤ c) (hc : c ≤ 140737488351232) (hnil : a = none → c = 0)
    (r2 : Row8 w a' m body) (hmc : m ≤ c') (hc' : c' ≤ 140737488351232) (hnil' : a' = none → c' = 0) :
    Calls Try.prog 4 #[.slice a n c, .int .u8 (ub kind), .slice a' m c'] w fun e w' => e = .returned (.bool true) ∧ Below w.heap.size w w' := by
  have hn : n ≤ 140737488351232 := by omega
  have hm : m ≤ 140737488351232 := by omega
  have HL := Lib.hid r1.1
  have HM := Lib.hid r2.1
  have R1 := Lib.hid r1
  have R2 := Lib.hid r2
  have gk1 := ub_lo kind
  have gk2 := ub_hi kind
  clear r1 r2 hc hc' hmc hnil'
  by_cases hbig : 1048576 < m
  all_goals
    go_enter Try.func4, Try.ntmps4
    go_wp2_with fail
    refine (lives3_any _).mono ?_
    rintro e w1 ⟨rfl, hb1⟩
    have S1 := Lib.hid (R1.out.below hb1)
    have S2 := Lib.hid (R2.out.below hb1)
    go_wp2_with fail
    refine (own_any _ _ _ l _ S1.out hn).mono ?_
    rintro e w2 ⟨g, rfl, hgb, hB, hb2⟩
    have T2 := Lib.hid (S2.out.below hb2)
    have HB := Lib.hid hB
    go_wp2_with fail
    refine (own_any _ _ _ body _ T2.out hm).mono ?_
    rintro e w3 ⟨g', rfl, hgb', hB', hb3⟩
    have HB' := Lib.hid hB'
    have HB3 := Lib.hid (HB.out.below hb3)
    have hb13 := below_into hb1 (below_into hb2 hb3)
    have U1 := Lib.hid (R1.out.below hb13)
    have U2 := Lib.hid (R2.out.below hb13)
    have HO := Lib.hid (bytes_row HB3.out HL.out (by omega))
    have HO' := Lib.hid (bytes_row HB'.out HM.out (by omega))
    clear hB hB' hb1 hb2 hb3 S1 S2 T2
    go_wp2_with fail
  · refine (append_long _ _ _ kind _ m _ _ hbig (by omega)).mono ?_
    rintro e w4 ⟨rfl, hb4⟩
    go_wp2_with fail
    refine (rappend_long _ _ _ kind _ m _ _ hbig (by omega)).mono ?_
    rintro e w5 ⟨rfl, hb5⟩
    go_wp2_with fail
    refine (same_true none 0 0 none 0 [] _ ⟨rfl, by decide, fun h => absurd h (by decide)⟩ ⟨rfl, by decide, fun h => absurd h (by decide)⟩).mono ?_
    rintro e w6 ⟨rfl, hb6⟩
    have hb36 := below_into hb4 (below_into hb5 hb6)
    go_wp2_with fail
    refine (kept_true g n _ _ l _ (HB3.out.below hb36) (U1.out.below hb36)).mono ?_
    rintro e w7 ⟨rfl, hb7⟩
    have hb37 := below_into hb36 hb7
    go_wp2_with fail
    refine (kept_true g' m _ _ body _ (HB'.out.below hb37) (U2.out.below hb37)).mono ?_
    rintro e w8 ⟨rfl, hb8⟩
    go_wp2_with fail
    go_ret
    exact ⟨rfl, below_into hb13 (below_into hb37 hb8)⟩
  · refine (append_any _ _ _ l kind _ m _ body _ HO.out HO'.out hn (by omega) (by intro h; cases h) (by omega)).mono ?_
    rintro e w4 ⟨v4, rfl, hown4, hb4⟩
    go_wp2_with fail
    refine (rappend_any _ _ _ l kind _ m _ body _ (U1.out.below hb4) (U2.out.below hb4) hn (by omega)).mono ?_
    rintro e w5 ⟨v5, rfl, hown5, hb5⟩
    have hlen : (l ++ frB kind body).length ≤ 281474976710656 := by rw [List.length_append, frB_length, ← HL.out, ← HM.out]; omega
    generalize l ++ frB kind body = LL at *
    obtain ⟨b4, d4, rfl, _⟩ := own8_form hown4
    obtain ⟨b5, d5, rfl, _⟩ := own8_form hown5
    have P4 := Lib.hid ((hown4.row hlen).below hb5)
    have P5 := Lib.hid (hown5.row hlen)
    clear hown4 hown5 hlen
    generalize LL.length = N at *
    go_wp2_with fail
    refine (same_true _ _ _ _ _ LL _ P4.out P5.out).mono ?_
    rintro e w6 ⟨rfl, hb6⟩
    have hb36 := below_into hb4 (below_into hb5 hb6)
    go_wp2_with fail
    refine (kept_true g n _ _ l _ (HB3.out.below hb36) (U1.out.below hb36)).mono ?_
    rintro e w7 ⟨rfl, hb7⟩
    have hb37 := below_into hb36 hb7
    go_wp2_with fail
    refine (kept_true g' m _ _ body _ (HB'.out.below hb37) (U2.out.below hb37)).mono ?_
    rintro e w8 ⟨rfl, hb8⟩
    go_wp2_with fail
    go_ret
    exact ⟨rfl, below_into hb13 (below_into hb37 hb8)⟩
end Go.Proofs.Ytlfeahalgolbgaa
