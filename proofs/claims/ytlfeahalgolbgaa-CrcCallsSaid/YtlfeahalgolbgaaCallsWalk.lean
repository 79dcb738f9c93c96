/-
  The walk of CrcCalls.
-/
import Derived.Test.YtlfeahalgolbgaaKept
import Derived.Test.YtlfeahalgolbgaaRefWalk
namespace Go.Proofs.Ytlfeahalgolbgaa
open Go.RowKit
set_option linter.unusedVariables false

theorem zeros_both (x : W32) (n : Int) (hn : n ≤ 9223372036854775807) : ∃ r e : Int,
    (∀ w, Calls Try.prog 28 #[.int .u32 (u x), .int .i64 n] w fun en w' => en = .returned (.tuple #[.int .u32 r, .int .i64 e]) ∧ Below w.heap.size w w') ∧
    (∀ w, Calls Try.prog 34 #[.int .u32 (u x), .int .i64 n] w fun en w' => en = .returned (.tuple #[.int .u32 r, .int .i64 e]) ∧ w = w') := by
  by_cases h : n < 0
  · exact ⟨0, 2, fun w => (zeros_neg x n w h).mono fun _ _ ⟨he, hw⟩ => ⟨he, hw ▸ Below.refl _ _⟩, fun w => rzeros_neg x n w h⟩
  · obtain ⟨N, rfl⟩ := Int.eq_ofNat_of_zero_le (show 0 ≤ n by omega)
    exact ⟨u (zerosF x N), 0, fun w => zeros_any x N w (by omega), fun w => rzeros_any x N w (by omega)⟩

theorem joined_both (x y : W32) (n : Int) (hn : n ≤ 9223372036854775807) : ∃ r e : Int,
    (∀ w, Calls Try.prog 25 #[.int .u32 (u x), .int .u32 (u y), .int .i64 n] w fun en w' => en = .returned (.tuple #[.int .u32 r, .int .i64 e]) ∧ Below w.heap.size w w') ∧
    (∀ w, Calls Try.prog 35 #[.int .u32 (u x), .int .u32 (u y), .int .i64 n] w fun en w' => en = .returned (.tuple #[.int .u32 r, .int .i64 e]) ∧ w = w') := by
  by_cases h : n < 0
  · exact ⟨0, 2, fun w => (joined_neg x y n w h).mono fun _ _ ⟨he, hw⟩ => ⟨he, hw ▸ Below.refl _ _⟩, fun w => rjoined_neg x y n w h⟩
  · obtain ⟨N, rfl⟩ := Int.eq_ofNat_of_zero_le (show 0 ≤ n by omega)
    exact ⟨u (joinedF x y N), 0, fun w => joined_any x y N w (by omega), fun w => rjoined_any x y N w (by omega)⟩

theorem changed_both (x : W32) (at_ : Int) (c d : B8) (n : Int) (hn : n ≤ 9223372036854775807) : ∃ r e : Int,
    (∀ w, Calls Try.prog 27 #[.int .u32 (u x), .int .i64 at_, .int .u8 (ub c), .int .u8 (ub d), .int .i64 n] w fun en w' => en = .returned (.tuple #[.int .u32 r, .int .i64 e]) ∧ Below w.heap.size w w') ∧
    (∀ w, Calls Try.prog 36 #[.int .u32 (u x), .int .i64 at_, .int .u8 (ub c), .int .u8 (ub d), .int .i64 n] w fun en w' => en = .returned (.tuple #[.int .u32 r, .int .i64 e]) ∧ w = w') := by
  by_cases h : 1 ≤ n ∧ 0 ≤ at_ ∧ at_ < n
  · obtain ⟨N, rfl⟩ := Int.eq_ofNat_of_zero_le (show 0 ≤ n by omega)
    obtain ⟨A, rfl⟩ := Int.eq_ofNat_of_zero_le h.2.1
    exact ⟨u (changedF x (N - 1 - A) c d), 0, fun w => changed_any x A c d N w (by omega) (by omega), fun w => rchanged_any x A c d N w (by omega) (by omega)⟩
  · exact ⟨0, 2, fun w => (changed_bad x at_ c d n w h).mono fun _ _ ⟨he, hw⟩ => ⟨he, hw ▸ Below.refl _ _⟩, fun w => rchanged_bad x at_ c d n w h⟩

theorem low_byte (y : W32) : u y % (256 : Int) = ub (y.setWidth 8) := by
  unfold u ub; rw [BitVec.toNat_setWidth]; omega
theorem second_byte (y : W32) : u y / (256 : Int) % (256 : Int) = ub ((y >>> 8).setWidth 8) := by
  rw [← low_byte]
  unfold u; rw [BitVec.toNat_ushiftRight, Nat.shiftRight_eq_div_pow]; omega
attribute [local go_sem] low_byte second_byte

set_option maxRecDepth 100000 in
set_option maxHeartbeats 800000 in
theorem crcCalls_any (a : Option Addr) (len cap : Nat) (l : List B8) (x y : W32) (n at_ : Int) (w : World) (hr : Row8 w a len l) (hlc : len ≤ cap) (hcap : cap ≤ 140737488351232) (hnil : a = none → cap = 0)
    (wn : (Lit.int .i64 n).wf = true) (wat : (Lit.int .i64 at_).wf = true) :
    Calls Try.prog 12 #[.slice a len cap, .int .u32 (u x), .int .u32 (u y), .int .i64 n, .int .i64 at_] w fun e w' => e = .returned (.bool true) ∧ Below w.heap.size w w' := by
  have hn : n ≤ 9223372036854775807 := by
    simp [Lit.wf, IntKind.min, IntKind.max, IntKind.bits, IntKind.signed] at wn
    omega
  have hl : len ≤ 140737488351232 := by omega
  obtain ⟨zr, ze, Z1, Z2⟩ := zeros_both x n hn
  obtain ⟨jr, je, J1, J2⟩ := joined_both x y n hn
  obtain ⟨cr, ce, C1, C2⟩ := changed_both x at_ (y.setWidth 8) ((y >>> 8).setWidth 8) n hn
  have HZ1 := Lib.hid Z1
  have HZ2 := Lib.hid Z2
  have HJ1 := Lib.hid J1
  have HJ2 := Lib.hid J2
  have HC1 := Lib.hid C1
  have HC2 := Lib.hid C2
  have HL := Lib.hid hr.1
  have HR := Lib.hid hr
  clear Z1 Z2 J1 J2 C1 C2 hr wn wat hnil hlc hcap hn
  go_enter Try.func12, Try.ntmps12
  go_wp2_with fail
  refine (lives_any _).mono ?_
  rintro e w1 ⟨rfl, hb1⟩
  have HR1 := Lib.hid (HR.out.below hb1)
  go_wp2_with fail
  refine (own_any _ _ _ l _ HR1.out hl).mono ?_
  rintro e w2 ⟨g, rfl, hgb, hB, hb2⟩
  have HB := Lib.hid hB
  have HR2 := Lib.hid (HR1.out.below hb2)
  have hrow : Row8 w2 (some ⟨g, 0, none⟩) len l := by
    have := hB.row (by rw [← HL.out]; omega)
    rwa [← HL.out] at this
  have HO2 := Lib.hid hrow
  clear hB hrow
  go_wp2_with fail
  refine (sum_any _ _ _ l _ _ rfl HO2.out).mono ?_
  rintro e w' ⟨rfl, rfl⟩
  go_wp2_with fail
  refine (rsum_any _ _ _ l _ _ rfl HR2.out).mono ?_
  rintro e w' ⟨rfl, rfl⟩
  go_wp2_with fail
  refine (more_any x _ _ _ l _ HO2.out).mono ?_
  rintro e w' ⟨rfl, rfl⟩
  go_wp2_with fail
  refine (rmore_any x _ _ _ l _ HR2.out).mono ?_
  rintro e w' ⟨rfl, rfl⟩
  go_wp2_with fail
  refine (kept_true g len _ _ l _ HB.out HR2.out).mono ?_
  rintro e w3 ⟨rfl, hb3⟩
  go_wp2_with fail
  refine (HZ1.out _).mono ?_
  rintro e w4 ⟨rfl, hb4⟩
  go_wp2_with fail
  refine (HZ2.out _).mono ?_
  rintro e w' ⟨rfl, rfl⟩
  go_wp2_with fail
  refine (HJ1.out _).mono ?_
  rintro e w5 ⟨rfl, hb5⟩
  go_wp2_with fail
  refine (HJ2.out _).mono ?_
  rintro e w' ⟨rfl, rfl⟩
  go_wp2_with fail
  refine (HC1.out _).mono ?_
  rintro e w6 ⟨rfl, hb6⟩
  go_wp2_with fail
  refine (HC2.out _).mono ?_
  rintro e w' ⟨rfl, rfl⟩
  go_wp2_with fail
  go_ret
  exact ⟨rfl, below_into hb1 (below_into hb2 (below_into hb3 (below_into hb4 (below_into hb5 hb6))))⟩
end Go.Proofs.Ytlfeahalgolbgaa
