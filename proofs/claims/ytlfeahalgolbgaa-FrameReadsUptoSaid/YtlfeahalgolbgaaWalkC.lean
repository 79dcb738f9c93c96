/-
  The contracts of the matrices.
-/
import Derived.Test.YtlfeahalgolbgaaMem
import Derived.Test.YtlfeahalgolbgaaMatrix
import Derived.Deep.MidRow
namespace Go.Proofs.Ytlfeahalgolbgaa
open Go.RowKit
attribute [local go_sem] bits_xor_uu

theorem u_shr (a : W32) (k : Nat) : u a / (2 : Int) ^ k = u (a >>> k) := by
  unfold u; rw [BitVec.toNat_ushiftRight, Nat.shiftRight_eq_div_pow, Int.natCast_ediv, Int.natCast_pow]; rfl
theorem tstk_t {a : W32} {k : Nat} (h : a.getLsbD k = true) : (Go.bits .and .u32 (u a / (2 : Int) ^ k) 1 == 1) = true := by
  rw [u_shr]; exact tst_t (by rw [BitVec.getLsbD_ushiftRight]; exact h)
theorem tstk_f {a : W32} {k : Nat} (h : a.getLsbD k = false) : (Go.bits .and .u32 (u a / (2 : Int) ^ k) 1 == 1) = false := by
  rw [u_shr]; exact tst_f (by rw [BitVec.getLsbD_ushiftRight]; exact h)

/-- a word as the model holds it -/
def uv (c : W32) : Value := .int .u32 (u c)

set_option maxHeartbeats 400000 in
theorem times_any (b o : Nat) (m : Nat → W32) (x : W32) (w : World) (hc : ∀ i, i < 32 → w.cell? ⟨b, o + i, none⟩ = some (.int .u32 (u (m i)))) :
    Calls Try.prog 51 #[.pointer (some ⟨b, o, none⟩), .int .u32 (u x)] w fun e w' => e = .returned (.int .u32 (u (mt m x 32))) ∧ w = w' := by
  have HC := Lib.hid hc
  clear hc
  go_enter Try.func51, Try.ntmps51
  go_wp2
  go_loop [5, 7] (fun y i => ∃ k : Nat, k ≤ 32 ∧ i = .int .i64 k ∧ y = .int .u32 (u (mt m x k))) (fun _ i => 32 - (intOf i).toNat)
  case atStart => exact ⟨0, by omega, rfl, rfl⟩
  case round =>
    obtain ⟨k, hk, rfl, rfl⟩ := hrel
    by_cases hlt : k < 32
    · have hcell := HC.out k hlt
      cases hb : x.getLsbD k
      · have ht := tstk_f hb
        have HT := Lib.hid (mt_f (m := m) hb)
        clear hb
        go_wp2
        go_round
        case rel => exact ⟨k + 1, by omega, by go_num, by rw [HT.out]⟩
        case measure => simp [intOf]; omega
      · have ht := tstk_t hb
        have HT := Lib.hid (mt_t (m := m) hb)
        clear hb
        generalize m k = mk at *
        generalize mt m x k = y at *
        go_wp2
        go_round
        case rel => exact ⟨k + 1, by omega, by go_num, by rw [HT.out]⟩
        case measure => simp [intOf]; omega
    · obtain rfl : k = 32 := by omega
      go_wp2
      go_ret
      exact ⟨rfl, rfl⟩
end Go.Proofs.Ytlfeahalgolbgaa
