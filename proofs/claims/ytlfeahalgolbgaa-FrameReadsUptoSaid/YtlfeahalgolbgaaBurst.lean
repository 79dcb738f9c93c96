/-
  Plain mathematics: bits turned within 32 side by side change the sum.
-/
import Derived.Test.YtlfeahalgolbgaaPlain
namespace Go.Proofs.Ytlfeahalgolbgaa

/-- one bit turned -/
def flip (l : List B8) (j : Nat) : List B8 := l.set (j / 8) (l.getD (j / 8) 0#8 ^^^ 1#8 <<< (j % 8))

theorem flip_length (l : List B8) (j : Nat) : (flip l j).length = l.length := by simp [flip]

theorem shl_width (t : Nat) (h : t < 8) : (1#8 <<< t).setWidth 32 = 1#32 <<< t := by
  have : ∀ t : Fin 8, (1#8 <<< t.val).setWidth 32 = 1#32 <<< t.val := by decide +kernel
  exact this ⟨t, h⟩

theorem it_split {a b n : Nat} (h : n = a + b) (s : W32) : it n s = it b (it a s) := by rw [h, it_add]

theorem flip_more (x : W32) (l : List B8) (j : Nat) (h : j < 8 * l.length) : more x (flip l j) = more x l ^^^ it (8 * l.length - j) 1#32 := by
  have hj : j / 8 < l.length := by omega
  unfold flip
  rw [more_set l (j / 8) hj]
  congr 1
  have e : l[j / 8] ^^^ (l.getD (j / 8) 0#8 ^^^ 1#8 <<< (j % 8)) = 1#8 <<< (j % 8) := by
    rw [List.getD_eq_getElem?_getD, List.getElem?_eq_getElem hj, Option.getD_some, ← BitVec.xor_assoc, BitVec.xor_self, BitVec.zero_xor]
  rw [e]
  unfold byB
  have hm : j % 8 < 8 := Nat.mod_lt _ (by decide)
  rw [BitVec.zero_xor, shl_width _ hm, it_split (a := j % 8) (b := 8 - j % 8) (n := 8) (by omega), it_bit _ (by omega), ← it_add]
  congr 1
  omega

/-- the bits of a window turned, one by one -/
def burst (l : List B8) (p : Nat) (bits : W32) : Nat → List B8
  | 0 => l
  | i + 1 => if bits.getLsbD i then flip (burst l p bits i) (p + i) else burst l p bits i

theorem burst_length (l : List B8) (p : Nat) (bits : W32) (i : Nat) : (burst l p bits i).length = l.length := by
  induction i with
  | zero => rfl
  | succ i ih => unfold burst; split <;> simp [flip_length, ih]

theorem burst_t {l : List B8} {p : Nat} {bits : W32} {i : Nat} (h : bits.getLsbD i = true) : burst l p bits (i + 1) = flip (burst l p bits i) (p + i) := by
  rw [burst, if_pos h]
theorem burst_f {l : List B8} {p : Nat} {bits : W32} {i : Nat} (h : bits.getLsbD i = false) : burst l p bits (i + 1) = burst l p bits i := by
  rw [burst, if_neg (by rw [h]; decide)]

theorem burst_more (x : W32) (l : List B8) (p : Nat) (bits : W32) : ∀ i, i ≤ 32 → p + i ≤ 8 * l.length → more x (burst l p bits i) = more x l ^^^ it (8 * l.length - p) (lo i bits)
  | 0, _, _ => by rw [lo_zero, it_zero, BitVec.xor_zero]; rfl
  | i + 1, h, hp => by
    have ih := burst_more x l p bits i (by omega) (by omega)
    cases hb : bits.getLsbD i
    · rw [burst_f hb, lo_succ_f hb, ih]
    · rw [burst_t hb, lo_succ_t hb, flip_more _ _ _ (by rw [burst_length]; omega), ih, it_xor, burst_length, BitVec.xor_assoc]
      congr 2
      rw [it_split (a := i) (b := 8 * l.length - (p + i)) (n := 8 * l.length - p) (by omega), it_bit _ (by omega)]

theorem burst_seen (x : W32) (l : List B8) (p : Nat) (bits : W32) (i : Nat) (h : i ≤ 32) (hp : p + i ≤ 8 * l.length) :
    (more x (burst l p bits i) = more x l) ↔ lo i bits = 0#32 := by
  rw [burst_more x l p bits i h hp]
  constructor
  · intro e
    have : it (8 * l.length - p) (lo i bits) = 0#32 := by
      have := congrArg (fun y => more x l ^^^ y) e
      simpa [← BitVec.xor_assoc] using this
    exact it_eq_zero this
  · intro e; rw [e, it_zero, BitVec.xor_zero]

theorem lo_some {i : Nat} {x : W32} (h : x.getLsbD i = true) : lo (i + 1) x ≠ 0#32 := by
  intro e
  have := congrArg (fun y => y.getLsbD i) e
  simp only [lo_bit, h, BitVec.getLsbD_zero] at this
  simp at this

/-- has a bit been turned? -/
def turned (i : Nat) (x : W32) : Bool := decide (lo i x ≠ 0#32)
theorem turned_zero (x : W32) : turned 0 x = false := by simp [turned, lo_zero]
theorem turned_t {i : Nat} {x : W32} (h : x.getLsbD i = true) : turned (i + 1) x = true := by simp [turned, lo_some h]
theorem turned_f {i : Nat} {x : W32} (h : x.getLsbD i = false) : turned (i + 1) x = turned i x := by simp [turned, lo_succ_f h]

theorem burst_turned (x : W32) (l : List B8) (p : Nat) (bits : W32) (i : Nat) (h : i ≤ 32) (hp : p + i ≤ 8 * l.length) :
    decide (more x (burst l p bits i) ≠ more x l) = turned i bits := by
  unfold turned
  rw [decide_eq_decide]
  exact not_congr (burst_seen x l p bits i h hp)

end Go.Proofs.Ytlfeahalgolbgaa
