/-
  The contracts of get and number: four bytes read as a sum.
-/
import Derived.Test.YtlfeahalgolbgaaFrMem
import Derived.Test.YtlfeahalgolbgaaNum
namespace Go.Proofs.Ytlfeahalgolbgaa
open Go.RowKit
set_option linter.unusedVariables false

theorem or32 (x y : Nat) (i : Nat) (hx : x < 2 ^ i) (hy : y % 2 ^ i = 0) (h : x + y < 4294967296) : bits .or .u32 (x : Int) (y : Int) = ((x + y : Nat) : Int) := by
  rw [u32_or_nat _ _ (by omega) (by omega), Nat.or_comm, nat_join i y x hy hx, Nat.add_comm]

theorem or_num4 (x0 x1 x2 x3 : B8) :
    bits .or .u32 (bits .or .u32 (bits .or .u32 (ub x0) (ub x1 * 256)) (ub x2 * 65536)) (ub x3 * 16777216) = u (num4 x0 x1 x2 x3) := by
  have h0 := x0.isLt
  have h1 := x1.isLt
  have h2 := x2.isLt
  have h3 := x3.isLt
  unfold ub u
  rw [num4_toNat, show (x1.toNat : Int) * 256 = ((x1.toNat * 256 : Nat) : Int) by omega, show (x2.toNat : Int) * 65536 = ((x2.toNat * 65536 : Nat) : Int) by omega, show (x3.toNat : Int) * 16777216 = ((x3.toNat * 16777216 : Nat) : Int) by omega]
  rw [or32 x0.toNat (x1.toNat * 256) 8 (by omega) (by omega) (by omega)]
  rw [or32 (x0.toNat + x1.toNat * 256) (x2.toNat * 65536) 16 (by omega) (by omega) (by omega)]
  rw [or32 (x0.toNat + x1.toNat * 256 + x2.toNat * 65536) (x3.toNat * 16777216) 24 (by omega) (by omega) (by omega)]

set_option maxRecDepth 100000 in
set_option maxHeartbeats 400000 in
theorem get_any (a : Option Addr) (n c : Nat) (l : List B8) (w : World) (h : Row8 w a n l) (hn : 4 ≤ n) (z : W32) (hz : numL l = z) :
    Calls Try.prog 44 #[.slice a n c] w fun e w' => e = .returned (.int .u32 (u z)) ∧ Below w.heap.size w w' := by
  obtain ⟨_, _, hc⟩ := h
  obtain ⟨b, o, rfl, hcc⟩ := hc (by omega)
  have h0 := hcc 0 (by omega)
  have h1 := hcc 1 (by omega)
  have h2 := hcc 2 (by omega)
  have h3 := hcc 3 (by omega)
  rw [Nat.add_zero] at h0
  clear hcc hc
  have HE : Hid (u z = _) := congrArg u hz.symm
  unfold numL at HE
  clear hz
  generalize l.getD 0 0#8 = x0 at *
  generalize l.getD 1 0#8 = x1 at *
  generalize l.getD 2 0#8 = x2 at *
  generalize l.getD 3 0#8 = x3 at *
  have HO := Lib.hid (or_num4 x0 x1 x2 x3)
  have a0 := ub_lo x0
  have a1 := ub_lo x1
  have a2 := ub_lo x2
  have a3 := ub_lo x3
  have b0 := ub_hi x0
  have b1 := ub_hi x1
  have b2 := ub_hi x2
  have b3 := ub_hi x3
  have i0 : (0 : Int) < (n : Int) := by omega
  have i1 : (1 : Int) < (n : Int) := by omega
  have i2 : (2 : Int) < (n : Int) := by omega
  have i3 : (3 : Int) < (n : Int) := by omega
  go_enter Try.func44, Try.ntmps44
  go_wp2
  go_quiet (fail)
  go_wp2
  go_ret
  exact ⟨ret_u (HO.out.trans HE.out.symm), below_drewN (Below.refl _ _) _⟩

set_option maxRecDepth 100000 in
set_option maxHeartbeats 400000 in
theorem number_any (a : Option Addr) (n c : Nat) (l : List B8) (w : World) (h : Row8 w a n l) (hn : 4 ≤ n) (z : W32) (hz : numL l = z) :
    Calls Try.prog 50 #[.slice a n c] w fun e w' => e = .returned (.int .u32 (u z)) ∧ Below w.heap.size w w' := by
  obtain ⟨_, _, hc⟩ := h
  obtain ⟨b, o, rfl, hcc⟩ := hc (by omega)
  have h0 := hcc 0 (by omega)
  have h1 := hcc 1 (by omega)
  have h2 := hcc 2 (by omega)
  have h3 := hcc 3 (by omega)
  rw [Nat.add_zero] at h0
  clear hcc hc
  have HE : Hid (u z = _) := congrArg u hz.symm
  unfold numL at HE
  clear hz
  generalize l.getD 0 0#8 = x0 at *
  generalize l.getD 1 0#8 = x1 at *
  generalize l.getD 2 0#8 = x2 at *
  generalize l.getD 3 0#8 = x3 at *
  have HO := Lib.hid (or_num4 x0 x1 x2 x3)
  have a0 := ub_lo x0
  have a1 := ub_lo x1
  have a2 := ub_lo x2
  have a3 := ub_lo x3
  have b0 := ub_hi x0
  have b1 := ub_hi x1
  have b2 := ub_hi x2
  have b3 := ub_hi x3
  have i0 : (0 : Int) < (n : Int) := by omega
  have i1 : (1 : Int) < (n : Int) := by omega
  have i2 : (2 : Int) < (n : Int) := by omega
  have i3 : (3 : Int) < (n : Int) := by omega
  go_enter Try.func50, Try.ntmps50
  go_wp2
  go_quiet (fail)
  go_wp2
  go_ret
  exact ⟨ret_u (HO.out.trans HE.out.symm), below_drewN (Below.refl _ _) _⟩
end Go.Proofs.Ytlfeahalgolbgaa
