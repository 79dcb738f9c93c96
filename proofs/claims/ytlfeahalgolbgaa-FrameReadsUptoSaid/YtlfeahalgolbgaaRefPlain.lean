/-
  Plain mathematics of the document's answer for the checksum: words as polynomials.
-/
import Derived.Test.YtlfeahalgolbgaaMatrix
namespace Go.Proofs.Ytlfeahalgolbgaa

/-- the word that stands for one -/
def uno : W32 := 1#32 <<< 31

theorem uno_bit (k : Nat) (h : k < 32) : it (31 - k) uno = 1#32 <<< k := by
  have : ∀ k : Fin 32, it (31 - k.val) uno = 1#32 <<< k.val := by decide +kernel
  exact this ⟨k, h⟩

theorem it_comm (m n : Nat) (s : W32) : it m (it n s) = it n (it m s) := by rw [← it_add, ← it_add, Nat.add_comm]

theorem it_succ (n : Nat) (s : W32) : it (n + 1) s = stp (it n s) := by rw [it_add]; rfl

/-- what a product's loop comes to, k bits still to be asked -/
theorem prod_step_t {c k : Nat} {a out z : W32} (hk : k < 32) (h : out ^^^ it c (lo (k + 1) a) = z) (hb : a.getLsbD k = true) : (out ^^^ it (31 - k) (it c uno)) ^^^ it c (lo k a) = z := by
  rw [it_comm, uno_bit k hk, ← h, lo_succ_t hb, it_xor, BitVec.xor_assoc, BitVec.xor_comm (it c (1#32 <<< k))]
theorem prod_step_f {c k : Nat} {a out z : W32} (h : out ^^^ it c (lo (k + 1) a) = z) (hb : a.getLsbD k = false) : out ^^^ it c (lo k a) = z := by
  rw [← h, lo_succ_f hb]

end Go.Proofs.Ytlfeahalgolbgaa
