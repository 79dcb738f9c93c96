/-
  The walk of CrcZeros.
-/
import Derived.Test.YtlfeahalgolbgaaWalkF
namespace Go.Proofs.Ytlfeahalgolbgaa
open Go.RowKit
set_option linter.unusedVariables false

def zeroRow (n : Nat) : Array Value := ((List.replicate n 0#8).map bv).toArray

theorem make8 (w : World) (n : Nat) (h : n ≤ 281474976710656) :
    (Instr.makeSlice 22 (.int .i64 (n : Int)) (.int .i64 (n : Int))).run Try.prog w = .ok (.slice (some ⟨w.heap.size, 0, none⟩) n n) (w.alloc (.cells (zeroRow n) 5)) := by
  obtain ⟨i, z, hi, hz, hs, hb, hzz⟩ := Try.info5
  subst hzz
  have hr := run_make (P := Try.prog) w 22 5 i _ Try.underlying22 hi hz .i64 .i64 n n (by omega) (Int.le_refl _) (by rw [hb]; omega) (by omega)
  simp only [Int.toNat_natCast, hs, Nat.mul_one] at hr
  rw [hr]
  congr 3
  apply Array.ext'
  rw [show (Value.int IntKind.u8 0).cells = #[Value.int .u8 0] from rfl, toList_madeCells_one]
  simp [zeroRow, bv]
  exact .inr rfl

theorem zeros_at (x : W32) (N : Nat) (w : World) (hN : N ≤ 9223372036854775807) (z : W32) (hz : zerosF x N = z) :
    Calls Try.prog 28 #[.int .u32 (u x), .int .i64 N] w fun e w' => e = .returned (.tuple #[.int .u32 (u z), .int .i64 0]) ∧ Below w.heap.size w w' := by
  subst hz; exact zeros_any x N w hN

theorem zerosF_add (x : W32) (a b : Nat) : zerosF (zerosF x a) b = zerosF x (a + b) := by
  unfold zerosF; rw [xx, ← it_add, ← Nat.mul_add]

theorem zerosF_more (x : W32) (k : Nat) : zerosF x k = more x (List.replicate k 0#8) := by rw [more_zeros]; rfl

theorem row8_zero (w : World) (K : Nat) (h : K ≤ 281474976710656) : Row8 (w.alloc (.cells (zeroRow K) 5)) (some ⟨w.heap.size, 0, none⟩) K (List.replicate K 0#8) := by
  have := row8_block (w := w.alloc (.cells (zeroRow K) 5)) (List.replicate K 0#8) (heap_new w _ rfl) rfl (by simpa using h)
  simpa using this

set_option maxRecDepth 100000 in
set_option maxHeartbeats 400000 in
theorem crcZeros_any (x : W32) (n m : Int) (w : World) (_ : (Lit.int .i64 n).wf = true) (_ : (Lit.int .i64 m).wf = true) :
    Calls Try.prog 8 #[.int .u32 (u x), .int .i64 n, .int .i64 m] w fun e w' => e = .returned (.bool true) ∧ Below w.heap.size w w' := by
  rename_i wf1 wf2
  clear wf1 wf2
  have hpa := pick_bounds n 2305843009213693952 (by omega)
  have hpb := pick_bounds m 2305843009213693952 (by omega)
  obtain ⟨A, hA⟩ := Int.eq_ofNat_of_zero_le hpa.1
  obtain ⟨B, hB⟩ := Int.eq_ofNat_of_zero_le hpb.1
  have hA2 : A < 2305843009213693952 := by omega
  have hB2 : B < 2305843009213693952 := by omega
  have HA := Lib.hid hA
  have HB := Lib.hid hB
  clear hpa hpb hA hB
  have hpk := pick_bounds (A : Int) 100 (by omega)
  obtain ⟨K, hK⟩ := Int.eq_ofNat_of_zero_le hpk.1
  have hK2 : K < 100 := by omega
  have HK := Lib.hid hK
  clear hpk hK
  have hmk := fun w => make8 w K (by omega)
  have HZ := Lib.hid (zerosF_add x A B)
  have HM := Lib.hid (zerosF_more x K)
  have HE := Lib.hid (show ((A + B : Nat) : Int) = (A : Int) + (B : Int) by omega)
  go_enter Try.func8, Try.ntmps8
  go_wp2_with fail
  refine (lives_any _).mono ?_
  rintro e w1 ⟨rfl, hb1⟩
  go_wp2_with fail
  refine (pick_any _ _ _ (by omega) (by omega)).mono ?_
  rintro e w' ⟨rfl, rfl⟩
  go_wp2_with fail
  refine (pick_any _ _ _ (by omega) (by omega)).mono ?_
  rintro e w' ⟨rfl, rfl⟩
  rw [HA.out, HB.out]
  go_wp2_with fail
  refine (zeros_at x A _ (by omega) _ rfl).mono ?_
  rintro e w2 ⟨rfl, hb2⟩
  go_wp2_with fail
  refine (zeros_at (zerosF x A) B _ (by omega) _ HZ.out).mono ?_
  rintro e w3 ⟨rfl, hb3⟩
  go_wp2_with fail
  rw [← HE.out]
  refine (zeros_at x (A + B) _ (by omega) _ rfl).mono ?_
  rintro e w4 ⟨rfl, hb4⟩
  go_wp2_with fail
  refine (pick_any _ _ _ (by omega) (by omega)).mono ?_
  rintro e w' ⟨rfl, rfl⟩
  rw [HK.out]
  go_wp2_with fail
  refine (zeros_at x K _ (by omega) _ HM.out).mono ?_
  rintro e w5 ⟨rfl, hb5⟩
  go_wp2_with fail
  refine (more_any x _ _ _ (List.replicate K 0#8) _ (row8_zero w5 K (by omega))).mono ?_
  rintro e w' ⟨rfl, rfl⟩
  go_wp2_with fail
  go_ret
  exact ⟨rfl, below_into hb1 (below_into hb2 (below_into hb3 (below_into hb4 (hb5.trans ((Below.refl _ _).alloc hb5.size _)))))⟩
end Go.Proofs.Ytlfeahalgolbgaa
