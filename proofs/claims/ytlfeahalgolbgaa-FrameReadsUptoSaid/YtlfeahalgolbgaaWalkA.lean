/-
  The contracts of the checksum's small functions.
-/
import Derived.Test.YtlfeahalgolbgaaChecked
import Derived.Test.YtlfeahalgolbgaaPlain
import Derived.WalkKit
import Derived.Lib.Hide
namespace Go.Proofs.Ytlfeahalgolbgaa
open Go.RowKit

/-- a word as a number -/
def u (s : W32) : Int := (s.toNat : Int)
def ub (c : B8) : Int := (c.toNat : Int)
theorem u_lo (s : W32) : 0 ≤ u s := by unfold u; omega
theorem u_hi (s : W32) : u s < 4294967296 := by have := s.isLt; unfold u; omega
theorem ub_lo (s : B8) : 0 ≤ ub s := by unfold ub; omega
theorem ub_hi (s : B8) : ub s < 256 := by have := s.isLt; unfold ub; omega

theorem bits_xor_uu (a b : W32) : bits .xor .u32 (u a) (u b) = u (a ^^^ b) := by
  unfold u; rw [u32_xor_nat _ _ a.isLt b.isLt, BitVec.toNat_xor]
theorem bits_xor_ub (a : W32) (b : B8) : bits .xor .u32 (u a) (ub b) = u (a ^^^ b.setWidth 32) := by
  have e : ub b = u (b.setWidth 32) := by unfold ub u; rw [BitVec.toNat_setWidth, Nat.mod_eq_of_lt (by have := b.isLt; omega)]
  rw [e, bits_xor_uu]
theorem bits_xor_poly (a : W32) : bits .xor .u32 (u a) 3988292384 = u (a ^^^ poly) := bits_xor_uu a poly

theorem u_half (a : W32) : u a / (2 : Int) = u (a >>> 1) := by
  unfold u; rw [BitVec.toNat_ushiftRight, Nat.shiftRight_eq_div_pow]; rfl
theorem u_one : u 1#32 = 1 := rfl
theorem u_zero : u 0#32 = 0 := rfl
theorem u_inj {a b : W32} : u a = u b ↔ a = b := by
  unfold u; constructor
  · intro h; exact BitVec.eq_of_toNat_eq (by omega)
  · intro h; rw [h]
theorem bits_and_one (a : W32) : bits .and .u32 (u a) 1 = if a.getLsbD 0 = true then 1 else 0 := by
  have h : bits .and .u32 (u a) (u 1#32) = u (a &&& 1#32) := by
    unfold u; rw [u32_and_nat _ _ a.isLt (by decide), BitVec.toNat_and]
  rw [← u_one, h]
  unfold u
  rw [BitVec.toNat_and, show (1#32).toNat = 1 from rfl, nat_mask1]
  have : a.getLsbD 0 = decide (a.toNat % 2 = 1) := by
    rw [← BitVec.testBit_toNat, Nat.testBit_zero]
  rw [this]
  rcases Nat.mod_two_eq_zero_or_one a.toNat with h | h <;> simp [h]
theorem tst_t {a : W32} (h : a.getLsbD 0 = true) : (bits .and .u32 (u a) 1 == 1) = true := by rw [bits_and_one, if_pos h]; rfl
theorem tst_f {a : W32} (h : a.getLsbD 0 = false) : (bits .and .u32 (u a) 1 == 1) = false := by rw [bits_and_one, if_neg (by rw [h]; decide)]; rfl

theorem ret_u {a b : Int} (h : a = b) : Ending.returned (.int .u32 a) = .returned (.int .u32 b) := by rw [h]

attribute [local go_sem] bits_xor_uu bits_xor_ub bits_xor_poly u_half

/-- what is still to be done of a byte's eight steps -/
def Todo (k : Nat) (y z : W32) : Prop := it (8 - k) y = z
theorem todo_t {k : Nat} {y z : W32} (h : Todo k y z) (hk : k < 8) (hb : y.getLsbD 0 = true) : Todo (k + 1) (y >>> 1 ^^^ poly) z := by
  unfold Todo at *
  rw [show 8 - k = (8 - (k + 1)) + 1 by omega] at h
  rw [← stp_t hb]; exact h
theorem todo_f {k : Nat} {y z : W32} (h : Todo k y z) (hk : k < 8) (hb : y.getLsbD 0 = false) : Todo (k + 1) (y >>> 1) z := by
  unfold Todo at *
  rw [show 8 - k = (8 - (k + 1)) + 1 by omega] at h
  rw [← stp_f hb]; exact h

set_option maxHeartbeats 400000 in
theorem byByte_any (s : W32) (c : B8) (w : World) :
    Calls Try.prog 46 #[.int .u32 (u s), .int .u8 (ub c)] w fun e w' => e = .returned (.int .u32 (u (byB s c))) ∧ w = w' := by
  have g3 := ub_lo c
  have g4 := ub_hi c
  go_enter Try.func46, Try.ntmps46
  go_wp2
  have H0 : Todo 0 (s ^^^ c.setWidth 32) (byB s c) := rfl
  generalize s ^^^ c.setWidth 32 = y0 at *
  clear g3 g4
  go_loop [0, 9] (fun x i => ∃ (k : Nat) (y : W32), k ≤ 8 ∧ i = .int .i64 k ∧ x = .int .u32 (u y) ∧ Todo k y (byB s c)) (fun _ i => 8 - (intOf i).toNat)
  case atStart => exact ⟨0, y0, by omega, rfl, rfl, H0⟩
  case round =>
    obtain ⟨k, y, hk, rfl, rfl, HT⟩ := hrel
    by_cases hlt : k < 8
    · cases hb : y.getLsbD 0
      · have ht := tst_f hb
        have HN := Lib.hid (todo_f HT hlt hb)
        clear hb
        go_wp2
        go_round
        case rel => exact ⟨k + 1, _, by omega, by go_num, rfl, HN.out⟩
        case measure => simp [intOf]; omega
      · have ht := tst_t hb
        have HN := Lib.hid (todo_t HT hlt hb)
        clear hb
        go_wp2
        go_round
        case rel => exact ⟨k + 1, _, by omega, by go_num, rfl, HN.out⟩
        case measure => simp [intOf]; omega
    · obtain rfl : k = 8 := by omega
      go_wp2
      go_ret
      exact ⟨ret_u (congrArg u HT), rfl⟩

/-- a slice of bytes that reads as a list -/
def Row8 (w : World) (a : Option Addr) (len : Nat) (l : List B8) : Prop :=
  len = l.length ∧ len ≤ 281474976710656 ∧ (0 < len → ∃ b off, a = some ⟨b, off, none⟩ ∧ ∀ i, i < len → w.cell? ⟨b, off + i, none⟩ = some (.int .u8 (ub (l.getD i 0#8))))

theorem take_snoc8 (l : List B8) (k : Nat) (h : k < l.length) : l.take (k + 1) = l.take k ++ [l.getD k 0#8] := by
  rw [List.take_succ_eq_append_getElem h]; simp [List.getD_eq_getElem?_getD, h]

theorem bits_not_u (a : W32) : bits .xor .u32 IntKind.u32.max (u a) = u (a ^^^ ones) := by
  rw [show IntKind.u32.max = u ones from rfl, bits_xor_uu, BitVec.xor_comm]
attribute [local go_sem] bits_not_u

theorem crc_step (x : W32) (l : List B8) (k : Nat) (h : k < l.length) : crcS x (l.take (k + 1)) = byB (crcS x (l.take k)) (l.getD k 0#8) := by
  rw [take_snoc8 l k h, crcS_snoc]

set_option maxHeartbeats 400000 in
theorem more_any (s : W32) (a : Option Addr) (len cap : Nat) (l : List B8) (w : World) (h : Row8 w a len l) :
    Calls Try.prog 26 #[.int .u32 (u s), .slice a len cap] w fun e w' => e = .returned (.int .u32 (u (more s l))) ∧ w = w' := by
  obtain ⟨hl, hm, hc⟩ := h
  have HL := Lib.hid hl
  clear hl
  go_enter Try.func26, Try.ntmps26
  go_wp2
  go_loop [5, 12] (fun x i => ∃ k : Nat, k ≤ len ∧ i = .int .i64 k ∧ x = .int .u32 (u (crcS (s ^^^ ones) (l.take k)))) (fun _ i => len - (intOf i).toNat)
  case atStart => exact ⟨0, by omega, rfl, rfl⟩
  case round =>
    obtain ⟨k, hk, rfl, rfl⟩ := hrel
    by_cases hlt : k < len
    · obtain ⟨b, off, rfl, hcell⟩ := hc (by omega)
      have hk1 := hcell k hlt
      have HS := Lib.hid (crc_step (s ^^^ ones) l k (by rw [← HL.out]; exact hlt))
      clear hcell hc
      generalize l.getD k 0#8 = c at *
      generalize crcS (s ^^^ ones) (l.take k) = x at *
      have g3 := ub_lo c
      have g4 := ub_hi c
      go_wp2_with (go_at_call 46; refine (byByte_any _ _ _).mono ?_; rintro e w' ⟨rfl, rfl⟩)
      go_round
      case rel => exact ⟨k + 1, by omega, by go_num, by rw [HS.out]⟩
      case measure => simp [intOf]; omega
    · obtain rfl : k = len := by omega
      have hfull : l.take k = l := List.take_of_length_le (by rw [HL.out]; exact Nat.le_refl _)
      rw [hfull]
      clear hfull
      go_wp2
      go_ret
      exact ⟨rfl, rfl⟩
end Go.Proofs.Ytlfeahalgolbgaa
