/-
  Plain: four bytes as a word.
-/
import Derived.Test.YtlfeahalgolbgaaFrPlain
namespace Go.Proofs.Ytlfeahalgolbgaa

def num4 (x0 x1 x2 x3 : B8) : W32 := x0.setWidth 32 ^^^ (x1.setWidth 32 <<< 8) ^^^ (x2.setWidth 32 <<< 16) ^^^ (x3.setWidth 32 <<< 24)

/-- the word that a list's first four bytes are -/
def numL (l : List B8) : W32 := num4 (l.getD 0 0#8) (l.getD 1 0#8) (l.getD 2 0#8) (l.getD 3 0#8)

theorem nat_xor_join (i x y : Nat) (hx : x < 2 ^ i) (hy : y % 2 ^ i = 0) : x ^^^ y = x + y := by
  have hor : x ^^^ y = y ||| x := by
    apply Nat.eq_of_testBit_eq
    intro j
    rw [Nat.testBit_xor, Nat.testBit_or]
    by_cases hj : j < i
    · have : y.testBit j = false := by
        have h := congrArg (fun z => z.testBit j) hy
        simpa [Nat.testBit_mod_two_pow, hj] using h
      rw [this]; simp
    · have : x.testBit j = false := Nat.testBit_lt_two_pow (Nat.lt_of_lt_of_le hx (Nat.pow_le_pow_right (by decide) (by omega)))
      rw [this]; simp
  rw [hor]
  have hq : y = 2 ^ i * (y / 2 ^ i) := by
    have := Nat.div_add_mod y (2 ^ i)
    omega
  rw [hq, ← Nat.two_pow_add_eq_or_of_lt hx (y / 2 ^ i)]
  omega

theorem wide_toNat (x : B8) : (x.setWidth 32).toNat = x.toNat := by
  rw [BitVec.toNat_setWidth, Nat.mod_eq_of_lt (by have := x.isLt; omega)]

theorem shl_toNat (x : B8) (k : Nat) (h : k ≤ 24) : (x.setWidth 32 <<< k).toNat = x.toNat * 2 ^ k := by
  rw [BitVec.toNat_shiftLeft, wide_toNat, Nat.shiftLeft_eq, Nat.mod_eq_of_lt]
  have h1 := x.isLt
  have h2 : 2 ^ k ≤ 2 ^ 24 := Nat.pow_le_pow_right (by decide) h
  calc x.toNat * 2 ^ k ≤ 255 * 2 ^ 24 := Nat.mul_le_mul (by omega) h2
    _ < 2 ^ 32 := by decide

theorem num4_toNat (x0 x1 x2 x3 : B8) : (num4 x0 x1 x2 x3).toNat = x0.toNat + x1.toNat * 256 + x2.toNat * 65536 + x3.toNat * 16777216 := by
  have h0 := x0.isLt
  have h1 := x1.isLt
  have h2 := x2.isLt
  have h3 := x3.isLt
  unfold num4
  rw [BitVec.toNat_xor, BitVec.toNat_xor, BitVec.toNat_xor, wide_toNat, shl_toNat _ 8 (by omega), shl_toNat _ 16 (by omega), shl_toNat _ 24 (by omega)]
  rw [nat_xor_join 8 x0.toNat (x1.toNat * 2 ^ 8) (by omega) (by omega)]
  rw [nat_xor_join 16 (x0.toNat + x1.toNat * 2 ^ 8) (x2.toNat * 2 ^ 16) (by omega) (by omega)]
  rw [nat_xor_join 24 (x0.toNat + x1.toNat * 2 ^ 8 + x2.toNat * 2 ^ 16) (x3.toNat * 2 ^ 24) (by omega) (by omega)]

theorem numL_le4 (s : W32) (rest : List B8) : numL (le4 s ++ rest) = s := by
  apply BitVec.eq_of_toNat_eq
  show (num4 (s.setWidth 8) ((s >>> 8).setWidth 8) ((s >>> 16).setWidth 8) ((s >>> 24).setWidth 8)).toNat = _
  rw [num4_toNat]
  simp only [BitVec.toNat_setWidth, BitVec.toNat_ushiftRight, Nat.shiftRight_eq_div_pow]
  have := s.isLt
  omega

theorem it8_shl (m : B8) : it 8 (m.setWidth 32 <<< 8) = m.setWidth 32 := by
  have : ∀ i : Fin 256, it 8 ((BitVec.ofNat 8 i.val).setWidth 32 <<< 8) = (BitVec.ofNat 8 i.val).setWidth 32 := by decide +kernel
  have h := this ⟨m.toNat, m.isLt⟩
  simpa using h
theorem it16_shl (m : B8) : it 16 (m.setWidth 32 <<< 16) = m.setWidth 32 := by
  have : ∀ i : Fin 256, it 16 ((BitVec.ofNat 8 i.val).setWidth 32 <<< 16) = (BitVec.ofNat 8 i.val).setWidth 32 := by decide +kernel
  have h := this ⟨m.toNat, m.isLt⟩
  simpa using h
theorem it24_shl (m : B8) : it 24 (m.setWidth 32 <<< 24) = m.setWidth 32 := by
  have : ∀ i : Fin 256, it 24 ((BitVec.ofNat 8 i.val).setWidth 32 <<< 24) = (BitVec.ofNat 8 i.val).setWidth 32 := by decide +kernel
  have h := this ⟨m.toNat, m.isLt⟩
  simpa using h

/-- four bytes at one go -/
theorem crcS_four (t : W32) (x0 x1 x2 x3 : B8) : crcS t [x0, x1, x2, x3] = it 32 (t ^^^ num4 x0 x1 x2 x3) := by
  have e1 : it 32 (x1.setWidth 32 <<< 8) = it 24 (x1.setWidth 32) := (it_add 8 24 _).trans (by rw [it8_shl])
  have e2 : it 32 (x2.setWidth 32 <<< 16) = it 16 (x2.setWidth 32) := (it_add 16 16 _).trans (by rw [it16_shl])
  have e3 : it 32 (x3.setWidth 32 <<< 24) = it 8 (x3.setWidth 32) := (it_add 24 8 _).trans (by rw [it24_shl])
  have f2 : ∀ s : W32, it 8 (it 8 s) = it 16 s := fun s => (it_add 8 8 s).symm
  have f3 : ∀ s : W32, it 8 (it 16 s) = it 24 s := fun s => (it_add 16 8 s).symm
  have f4 : ∀ s : W32, it 8 (it 24 s) = it 32 s := fun s => (it_add 24 8 s).symm
  show it 8 (it 8 (it 8 (it 8 (t ^^^ x0.setWidth 32) ^^^ x1.setWidth 32) ^^^ x2.setWidth 32) ^^^ x3.setWidth 32) = _
  unfold num4
  simp only [it_xor, f2, f3, f4, e1, e2, e3]
  simp only [BitVec.xor_assoc]

/-- a sum stands behind its bytes just where the whole comes to one and the same state -/
theorem sum_stands (x : W32) (l m : List B8) (h : m.length = 4) : numL m = more x l ↔ crcS (x ^^^ ones) (l ++ m) = it 32 ones := by
  obtain ⟨x0, x1, x2, x3, rfl⟩ : ∃ x0 x1 x2 x3, m = [x0, x1, x2, x3] := by
    match m, h with
    | [a, b, c, d], _ => exact ⟨a, b, c, d, rfl⟩
  rw [crcS_append, crcS_four]
  show num4 x0 x1 x2 x3 = more x l ↔ _
  unfold more
  constructor
  · intro e; rw [e, ← BitVec.xor_assoc, BitVec.xor_self, BitVec.zero_xor]
  · intro e
    have h := it_inj e
    have h2 : crcS (x ^^^ ones) l ^^^ (crcS (x ^^^ ones) l ^^^ num4 x0 x1 x2 x3) = crcS (x ^^^ ones) l ^^^ ones := by rw [h]
    rwa [← BitVec.xor_assoc, BitVec.xor_self, BitVec.zero_xor] at h2

/-- a list that differs, where the sum stood: it stands no more -/
theorem sum_falls (x : W32) (l m l' m' : List B8) (h : m.length = 4) (h' : m'.length = 4) (hs : numL m = more x l) (hd : more x (l' ++ m') ≠ more x (l ++ m)) : numL m' ≠ more x l' := by
  intro e
  rw [sum_stands x l m h] at hs
  rw [sum_stands x l' m' h'] at e
  exact hd (by unfold more; rw [hs, e])
end Go.Proofs.Ytlfeahalgolbgaa
