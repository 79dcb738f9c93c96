/-
  Plain mathematics of words of 32 bits as places: a matrix applied, and many steps at one go.
-/
import Derived.Test.YtlfeahalgolbgaaPlain
namespace Go.Proofs.Ytlfeahalgolbgaa

/-- a matrix applied to the low bits -/
def mt (m : Nat → W32) (x : W32) : Nat → W32
  | 0 => 0#32
  | i + 1 => if x.getLsbD i then mt m x i ^^^ m i else mt m x i

theorem mt_t {m : Nat → W32} {x : W32} {i : Nat} (h : x.getLsbD i = true) : mt m x (i + 1) = mt m x i ^^^ m i := by rw [mt, if_pos h]
theorem mt_f {m : Nat → W32} {x : W32} {i : Nat} (h : x.getLsbD i = false) : mt m x (i + 1) = mt m x i := by rw [mt, if_neg (by rw [h]; decide)]

theorem mt_it (n : Nat) (m : Nat → W32) (x : W32) : ∀ i, i ≤ 32 → (∀ j, j < i → m j = it n (1#32 <<< j)) → mt m x i = it n (lo i x)
  | 0, _, _ => by rw [lo_zero, it_zero]; rfl
  | i + 1, h, hm => by
    have ih := mt_it n m x i (by omega) (fun j hj => hm j (by omega))
    cases hb : x.getLsbD i
    · rw [mt_f hb, lo_succ_f hb, ih]
    · rw [mt_t hb, lo_succ_t hb, ih, it_xor, hm i (by omega)]

theorem mt_all (n : Nat) (m : Nat → W32) (x : W32) (h : ∀ j, j < 32 → m j = it n (1#32 <<< j)) : mt m x 32 = it n x := by
  rw [mt_it n m x 32 (by omega) h, lo_all (by omega)]

theorem it_twice (n : Nat) (s : W32) : it n (it n s) = it (2 * n) s := by rw [← it_add]; congr 1; omega

end Go.Proofs.Ytlfeahalgolbgaa
