/-
  The walk of CrcNames.
-/
import Derived.Test.YtlfeahalgolbgaaMemB
namespace Go.Proofs.Ytlfeahalgolbgaa
open Go.RowKit
set_option linter.unusedVariables false
attribute [local go_sem] conv_const

theorem joined_num (x y : W32) (xn yn : Int) (N : Nat) (w : World) (hx : u x = xn) (hy : u y = yn) (hN : N ≤ 9223372036854775807) (z : Int) (hz : u (joinedF x y N) = z) :
    Calls Try.prog 25 #[.int .u32 xn, .int .u32 yn, .int .i64 N] w fun e w' => e = .returned (.tuple #[.int .u32 z, .int .i64 0]) ∧ Below w.heap.size w w' := by
  subst hz; subst hx; subst hy; exact joined_any x y N w hN
theorem zeros_num (x : W32) (xn : Int) (N : Nat) (w : World) (hx : u x = xn) (hN : N ≤ 9223372036854775807) (z : Int) (hz : u (zerosF x N) = z) :
    Calls Try.prog 28 #[.int .u32 xn, .int .i64 N] w fun e w' => e = .returned (.tuple #[.int .u32 z, .int .i64 0]) ∧ Below w.heap.size w w' := by
  subst hz; subst hx; exact zeros_any x N w hN
theorem changed_num (x : W32) (xn : Int) (at_ : Nat) (c d : B8) (cn dn : Int) (N : Nat) (w : World) (hx : u x = xn) (hc : ub c = cn) (hd : ub d = dn) (hN : N ≤ 9223372036854775807) (h1 : at_ < N) (z : Int) (hz : u (changedF x (N - 1 - at_) c d) = z) :
    Calls Try.prog 27 #[.int .u32 xn, .int .i64 at_, .int .u8 cn, .int .u8 dn, .int .i64 N] w fun e w' => e = .returned (.tuple #[.int .u32 z, .int .i64 0]) ∧ Below w.heap.size w w' := by
  subst hz; subst hx; subst hc; subst hd; exact changed_any x at_ c d N w hN h1

set_option maxRecDepth 100000 in
set_option maxHeartbeats 800000 in
theorem crcNames_any (w : World) :
    Calls Try.prog 11 #[] w fun e w' => e = .returned (.bool true) ∧ Below w.heap.size w w' := by
  go_enter Try.func11, Try.ntmps11
  go_wp2_with fail
  refine (sum_any _ _ _ [49#8, 50#8, 51#8, 52#8] _ 2615402659 (by kernel_rfl) (row8_block _ (heap_new _ _ (by simp)) rfl (by decide))).mono ?_
  rintro e w' ⟨rfl, rfl⟩
  go_wp2_with fail
  refine (sum_any _ _ _ [53#8, 54#8, 55#8, 56#8, 57#8] _ 320708720 (by kernel_rfl) (row8_block _ (heap_new _ _ (by simp)) rfl (by decide))).mono ?_
  rintro e w' ⟨rfl, rfl⟩
  go_wp2_with fail
  refine (joined_num (BitVec.ofNat 32 2615402659) (BitVec.ofNat 32 320708720) _ _ 5 _ (by kernel_rfl) (by kernel_rfl) (by omega) 3421780262 (by kernel_rfl)).mono ?_
  rintro e w1 ⟨rfl, hb1⟩
  go_wp2_with fail
  refine (zeros_num 0#32 _ 1 _ (by kernel_rfl) (by omega) 3523407757 (by kernel_rfl)).mono ?_
  rintro e w2 ⟨rfl, hb2⟩
  go_wp2_with fail
  refine (zeros_neg 0#32 (-1) _ (by omega)).mono ?_
  rintro e w' ⟨rfl, rfl⟩
  go_wp2_with fail
  refine (sum_any _ _ _ [49#8, 50#8, 51#8, 52#8, 53#8, 54#8, 55#8, 56#8, 48#8] _ 2988999042 (by kernel_rfl) (row8_block _ (heap_new _ _ (by simp)) rfl (by decide))).mono ?_
  rintro e w' ⟨rfl, rfl⟩
  go_wp2_with fail
  refine (changed_num (BitVec.ofNat 32 2988999042) _ 8 48#8 57#8 _ _ 9 _ (by kernel_rfl) (by kernel_rfl) (by kernel_rfl) (by omega) (by omega) 3421780262 (by kernel_rfl)).mono ?_
  rintro e w3 ⟨rfl, hb3⟩
  go_wp2_with fail
  refine (lives_any _).mono ?_
  rintro e w4 ⟨rfl, hb4⟩
  go_wp2_with fail
  refine (sum_any _ _ _ [] _ 0 (by kernel_rfl) ⟨rfl, by decide, fun h => absurd h (by decide)⟩).mono ?_
  rintro e w' ⟨rfl, rfl⟩
  go_wp2_with fail
  refine (sum_any _ _ _ [0#8] _ 3523407757 (by kernel_rfl) (row8_block _ (heap_new _ _ (by simp)) rfl (by decide))).mono ?_
  rintro e w' ⟨rfl, rfl⟩
  go_wp2_with fail
  go_ret
  refine ⟨rfl, ?_⟩
  have k1 := ((((Below.refl w.heap.size w).alloc (Nat.le_refl _) _).alloc (by simp) _).trans (hb1.mono (by simp; omega)))
  have k2 := below_into k1 hb2
  have k3 := below_into k2 ((below_alloc w2 _).trans (hb3.mono (by simp)))
  have k4 := below_into k3 hb4
  exact below_into k4 (below_alloc w4 _)
end Go.Proofs.Ytlfeahalgolbgaa
