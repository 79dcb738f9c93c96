/-
  The contracts of Zeros, Joined, Changed.
-/
import Derived.Test.YtlfeahalgolbgaaWalkE
namespace Go.Proofs.Ytlfeahalgolbgaa
open Go.RowKit
set_option linter.unusedVariables false
attribute [local go_sem] bits_xor_uu bits_not_u

theorem ret_u2 {a b : Int} (h : a = b) : Ending.returned (.tuple #[.int .u32 a, .int .i64 0]) = .returned (.tuple #[.int .u32 b, .int .i64 0]) := by rw [h]

def zerosF (x : W32) (n : Nat) : W32 := it (8 * n) (x ^^^ ones) ^^^ ones

theorem zeros_any (x : W32) (N : Nat) (w : World) (hN : N ≤ 9223372036854775807) :
    Calls Try.prog 28 #[.int .u32 (u x), .int .i64 N] w fun e w' => e = .returned (.tuple #[.int .u32 (u (zerosF x N)), .int .i64 0]) ∧ Below w.heap.size w w' := by
  have HO := Lib.hid (over_any (x ^^^ ones) N w hN)
  go_enter Try.func28, Try.ntmps28
  go_wp2_with fail
  refine HO.out.mono ?_
  rintro e w' ⟨rfl, hb⟩
  go_wp2_with fail
  go_ret2
  exact ⟨rfl, hb⟩

theorem zeros_neg (x : W32) (n : Int) (w : World) (hN : n < 0) :
    Calls Try.prog 28 #[.int .u32 (u x), .int .i64 n] w fun e w' => e = .returned (.tuple #[.int .u32 0, .int .i64 2]) ∧ w = w' := by
  go_enter Try.func28, Try.ntmps28
  go_wp2_with fail
  go_ret2
  exact ⟨rfl, rfl⟩

def joinedF (x y : W32) (n : Nat) : W32 := it (8 * n) x ^^^ y

theorem joined_any (x y : W32) (N : Nat) (w : World) (hN : N ≤ 9223372036854775807) :
    Calls Try.prog 25 #[.int .u32 (u x), .int .u32 (u y), .int .i64 N] w fun e w' => e = .returned (.tuple #[.int .u32 (u (joinedF x y N)), .int .i64 0]) ∧ Below w.heap.size w w' := by
  have HO := Lib.hid (over_any x N w hN)
  go_enter Try.func25, Try.ntmps25
  go_wp2_with fail
  refine HO.out.mono ?_
  rintro e w' ⟨rfl, hb⟩
  go_wp2_with fail
  go_ret2
  exact ⟨rfl, hb⟩

theorem joined_neg (x y : W32) (n : Int) (w : World) (hN : n < 0) :
    Calls Try.prog 25 #[.int .u32 (u x), .int .u32 (u y), .int .i64 n] w fun e w' => e = .returned (.tuple #[.int .u32 0, .int .i64 2]) ∧ w = w' := by
  go_enter Try.func25, Try.ntmps25
  go_wp2_with fail
  go_ret2
  exact ⟨rfl, rfl⟩

theorem bits_xor_bb (a b : B8) : Go.bits .xor .u8 (ub a) (ub b) = ub (a ^^^ b) := by
  unfold ub; rw [u8_xor_nat _ _ a.isLt b.isLt, BitVec.toNat_xor]
attribute [local go_sem] bits_xor_bb

def changedF (x : W32) (k : Nat) (c d : B8) : W32 := x ^^^ it (8 * k) (byB 0#32 (c ^^^ d))

theorem changed_any (x : W32) (at_ : Nat) (c d : B8) (N : Nat) (w : World) (hN : N ≤ 9223372036854775807) (h1 : at_ < N) :
    Calls Try.prog 27 #[.int .u32 (u x), .int .i64 at_, .int .u8 (ub c), .int .u8 (ub d), .int .i64 N] w fun e w' => e = .returned (.tuple #[.int .u32 (u (changedF x (N - 1 - at_) c d)), .int .i64 0]) ∧ Below w.heap.size w w' := by
  have ho := over_any (byB 0#32 (c ^^^ d)) (N - 1 - at_) w (by omega)
  have HO := Lib.hid ho
  have HE := Lib.hid (show ((N - 1 - at_ : Nat) : Int) = (N : Int) - 1 - (at_ : Int) by omega)
  clear ho
  go_enter Try.func27, Try.ntmps27
  go_wp2_with fail
  refine (byByte_any 0#32 (c ^^^ d) _).mono ?_
  rintro e w' ⟨rfl, rfl⟩
  go_wp2_with fail
  rw [← HE.out]
  refine HO.out.mono ?_
  rintro e w' ⟨rfl, hb⟩
  go_wp2_with fail
  go_ret2
  exact ⟨rfl, hb⟩

theorem changed_bad (x : W32) (at_ : Int) (c d : B8) (n : Int) (w : World) (h1 : ¬ (1 ≤ n ∧ 0 ≤ at_ ∧ at_ < n)) :
    Calls Try.prog 27 #[.int .u32 (u x), .int .i64 at_, .int .u8 (ub c), .int .u8 (ub d), .int .i64 n] w fun e w' => e = .returned (.tuple #[.int .u32 0, .int .i64 2]) ∧ w = w' := by
  have h2 : n < 1 ∨ (¬ n < 1 ∧ at_ < 0) ∨ (¬ n < 1 ∧ ¬ at_ < 0 ∧ n ≤ at_) := by omega
  clear h1
  rcases h2 with h2 | ⟨h2, h3⟩ | ⟨h2, h3, h4⟩
  all_goals
    go_enter Try.func27, Try.ntmps27
    go_wp2_with fail
    go_ret2
    exact ⟨rfl, rfl⟩
end Go.Proofs.Ytlfeahalgolbgaa
