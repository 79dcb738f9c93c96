/-
  Plain: what Read tells of a frame's bytes, and of such in which bits are turned.
-/
import Derived.Test.YtlfeahalgolbgaaReadWalk
import Derived.Test.YtlfeahalgolbgaaBurst
namespace Go.Proofs.Ytlfeahalgolbgaa
set_option linter.unusedVariables false

theorem drop_app (a b : List B8) (k : Nat) (h : k = a.length) : (a ++ b).drop k = b := by subst h; simp
theorem take_app (a b : List B8) (k : Nat) (h : k = a.length) : (a ++ b).take k = a := by subst h; simp

theorem numL_append (m rest : List B8) (h : 4 ≤ m.length) : numL (m ++ rest) = numL m := by
  unfold numL
  simp only [List.getD_eq_getElem?_getD, List.getElem?_append, show 0 < m.length by omega, show 1 < m.length by omega, show 2 < m.length by omega, show 3 < m.length by omega, if_true]

/-- a head whose sum does not stand -/
theorem rd_head_bad (h4 m4 rest : List B8) (h1 : h4.length = 4) (h2 : m4.length = 4) (hb : numL m4 ≠ sumOf h4) : readF (h4 ++ m4 ++ rest) = (0#8, [], 0, 5) := by
  unfold readF
  rw [if_neg (by rw [List.length_append, List.length_append]; omega), if_pos]
  left
  rw [List.append_assoc, drop_app h4 _ 4 h1.symm, take_app h4 _ 4 h1.symm, numL_append m4 rest (by omega)]
  exact hb

theorem len3_hd (k : B8) (n : Nat) (h : n < 16777216) (rest : List B8) : len3 (hd4 k n ++ rest) = n := by
  show (BitVec.ofNat 8 n).toNat + (BitVec.ofNat 8 (n / 256)).toNat * 256 + (BitVec.ofNat 8 (n / 65536)).toNat * 65536 = n
  simp only [BitVec.toNat_ofNat]
  omega

/-- a head that stands: the body's sum decides -/
theorem rd_body (k : B8) (m : Nat) (hm : m ≤ 1048576) (t rest : List B8) (ht : t.length = m + 4) :
    readF (hd4 k m ++ le4 (sumOf (hd4 k m)) ++ (t ++ rest)) =
      if numL (t.drop m) ≠ more (sumOf (hd4 k m)) (t.take m) then (0#8, [], 0, 5) else (k, t.take m, 12 + m, 0) := by
  have h4 : (hd4 k m).length = 4 := rfl
  have hl4 : (le4 (sumOf (hd4 k m))).length = 4 := rfl
  have hlen3 : len3 (hd4 k m ++ le4 (sumOf (hd4 k m)) ++ (t ++ rest)) = m := by rw [List.append_assoc]; exact len3_hd k m (by omega) _
  have hd8 : (hd4 k m ++ le4 (sumOf (hd4 k m)) ++ (t ++ rest)).drop 8 = t ++ rest := drop_app _ _ 8 (by rw [List.length_append, h4, hl4])
  have hd8m : (hd4 k m ++ le4 (sumOf (hd4 k m)) ++ (t ++ rest)).drop (8 + m) = t.drop m ++ rest := by
    rw [← List.drop_drop, hd8, List.drop_append_of_le_length (by omega)]
  have ht8 : ((hd4 k m ++ le4 (sumOf (hd4 k m)) ++ (t ++ rest)).drop 8).take m = t.take m := by
    rw [hd8, List.take_append_of_le_length (by omega)]
  have ht4 : (hd4 k m ++ le4 (sumOf (hd4 k m)) ++ (t ++ rest)).take 4 = hd4 k m := by rw [List.append_assoc]; exact take_app _ _ 4 h4.symm
  have hn4 : numL ((hd4 k m ++ le4 (sumOf (hd4 k m)) ++ (t ++ rest)).drop 4) = sumOf (hd4 k m) := by
    rw [List.append_assoc, drop_app _ _ 4 h4.symm, numL_le4]
  unfold readF
  rw [hlen3, ht8, hd8m, ht4, hn4]
  rw [if_neg (by simp only [List.length_append, h4, hl4]; omega), if_neg (by intro h; rcases h with h | h; exact h rfl; omega),
    if_neg (by simp only [List.length_append, h4, hl4]; omega), numL_append _ rest (by rw [List.length_drop]; omega)]
  rfl

/-- a frame's bytes are read back, whatever stands behind -/
theorem readF_frame (k : B8) (body rest : List B8) (hm : body.length ≤ 1048576) : readF (frB k body ++ rest) = (k, body, 12 + body.length, 0) := by
  have e : frB k body ++ rest = hd4 k body.length ++ le4 (sumOf (hd4 k body.length)) ++ ((body ++ le4 (more (sumOf (hd4 k body.length)) body)) ++ rest) := by
    unfold frB; simp only [List.append_assoc]
  rw [e, rd_body k body.length hm _ rest (by rw [List.length_append]; rfl)]
  rw [drop_app body _ _ rfl, take_app body _ _ rfl]
  have := numL_le4 (more (sumOf (hd4 k body.length)) body) []
  rw [List.append_nil] at this
  rw [if_neg (by intro h; exact h this)]

/-! bits turned in two pieces -/

theorem flip_left (A T : List B8) (j : Nat) (h : j < 8 * A.length) : flip (A ++ T) j = flip A j ++ T := by
  have hj : j / 8 < A.length := by omega
  unfold flip
  rw [List.set_append_left _ _ hj]
  congr 2
  simp [List.getD_eq_getElem?_getD, List.getElem?_append, hj]

theorem flip_right (A T : List B8) (j : Nat) : flip (A ++ T) (8 * A.length + j) = A ++ flip T j := by
  have e1 : (8 * A.length + j) / 8 = A.length + j / 8 := by omega
  have e2 : (8 * A.length + j) % 8 = j % 8 := by omega
  unfold flip
  rw [e1, e2, List.set_append_right _ _ (by omega), Nat.add_sub_cancel_left]
  congr 2
  rw [List.getD_eq_getElem?_getD, List.getElem?_append_right (by omega), Nat.add_sub_cancel_left, ← List.getD_eq_getElem?_getD]

theorem burst_left (A T : List B8) (p : Nat) (bits : W32) : ∀ i, p + i ≤ 8 * A.length → burst (A ++ T) p bits i = burst A p bits i ++ T
  | 0, _ => rfl
  | i + 1, h => by
    have ih := burst_left A T p bits i (by omega)
    cases hb : bits.getLsbD i
    · rw [burst_f hb, burst_f hb, ih]
    · rw [burst_t hb, burst_t hb, ih, flip_left _ _ _ (by rw [burst_length]; omega)]

theorem burst_right (A T : List B8) (q : Nat) (bits : W32) : ∀ i, burst (A ++ T) (8 * A.length + q) bits i = A ++ burst T q bits i
  | 0 => rfl
  | i + 1 => by
    have ih := burst_right A T q bits i
    cases hb : bits.getLsbD i
    · rw [burst_f hb, burst_f hb, ih]
    · rw [burst_t hb, burst_t hb, ih, Nat.add_assoc, flip_right]

theorem burst_across (A T : List B8) (p k0 : Nat) (hp : p + k0 = 8 * A.length) (bits : W32) : ∀ r, burst (A ++ T) p bits (k0 + r) = burst A p bits k0 ++ burst T 0 (bits >>> k0) r
  | 0 => burst_left A T p bits k0 (by omega)
  | r + 1 => by
    have ih := burst_across A T p k0 hp bits r
    have hs : (bits >>> k0).getLsbD r = bits.getLsbD (k0 + r) := by rw [BitVec.getLsbD_ushiftRight]
    cases hb : bits.getLsbD (k0 + r)
    · rw [← Nat.add_assoc, burst_f hb, burst_f (hs.trans hb), ih]
    · rw [← Nat.add_assoc, burst_t hb, burst_t (hs.trans hb), ih, show p + (k0 + r) = 8 * (burst A p bits k0).length + r by rw [burst_length]; omega, flip_right, Nat.zero_add]

theorem burst_id (l : List B8) (p : Nat) (bits : W32) : ∀ i, lo i bits = 0#32 → burst l p bits i = l
  | 0, _ => rfl
  | i + 1, h => by
    have hb : bits.getLsbD i = false := by
      cases hb : bits.getLsbD i
      · rfl
      · exact absurd h (lo_some hb)
    rw [burst_f hb]
    exact burst_id l p bits i (by rw [← lo_succ_f hb]; exact h)

theorem lo_rest {k r : Nat} {x : W32} (h0 : lo k x = 0#32) (h : lo (k + r) x ≠ 0#32) : lo r (x >>> k) ≠ 0#32 := by
  intro e
  apply h
  apply BitVec.eq_of_getLsbD_eq
  intro j hj
  rw [lo_bit, BitVec.getLsbD_zero]
  by_cases h1 : j < k
  · have := congrArg (fun y => y.getLsbD j) h0
    simp only [lo_bit, h1, decide_true, Bool.true_and, BitVec.getLsbD_zero] at this
    rw [this]; simp
  · by_cases h2 : j < k + r
    · have := congrArg (fun y => y.getLsbD (j - k)) e
      simp only [lo_bit, show j - k < r by omega, decide_true, Bool.true_and, BitVec.getLsbD_zero, BitVec.getLsbD_ushiftRight, show k + (j - k) = j by omega] at this
      rw [this]; simp
    · simp [h2]

theorem split4 (l : List B8) (n : Nat) : l = l.take n ++ l.drop n := (List.take_append_drop n l).symm

/-- a head in which bits are turned -/
theorem head_turned (k : B8) (n : Nat) (p : Nat) (bits : W32) (i : Nat) (hi : i ≤ 32) (hp : p + i ≤ 64) (hb : lo i bits ≠ 0#32) (rest : List B8) :
    readF (burst (hd4 k n ++ le4 (sumOf (hd4 k n))) p bits i ++ rest) = (0#8, [], 0, 5) := by
  have h4 : (hd4 k n).length = 4 := rfl
  have hl4 : (le4 (sumOf (hd4 k n))).length = 4 := rfl
  have h8 : (hd4 k n ++ le4 (sumOf (hd4 k n))).length = 8 := by rw [List.length_append, h4, hl4]
  have hseen := fun h => hb ((burst_seen 0#32 (hd4 k n ++ le4 (sumOf (hd4 k n))) p bits i hi (by rw [h8]; omega)).1 h)
  have hbl : (burst (hd4 k n ++ le4 (sumOf (hd4 k n))) p bits i).length = 8 := by rw [burst_length, h8]
  generalize burst (hd4 k n ++ le4 (sumOf (hd4 k n))) p bits i = B at *
  have hs : numL (le4 (sumOf (hd4 k n))) = more 0#32 (hd4 k n) := by
    have := numL_le4 (sumOf (hd4 k n)) []
    rwa [List.append_nil] at this
  rw [split4 B 4] at hseen ⊢
  exact rd_head_bad _ _ rest (by rw [List.length_take]; omega) (by rw [List.length_drop]; omega) (sum_falls 0#32 (hd4 k n) (le4 (sumOf (hd4 k n))) _ _ hl4 (by rw [List.length_drop]; omega) hs hseen)

/-- a body, with its sum, in which bits are turned -/
theorem body_turned (k : B8) (body : List B8) (hm : body.length ≤ 1048576) (q : Nat) (bits : W32) (i : Nat) (hi : i ≤ 32) (hq : q + i ≤ 8 * (body.length + 4)) (hb : lo i bits ≠ 0#32) (rest : List B8) :
    readF (hd4 k body.length ++ le4 (sumOf (hd4 k body.length)) ++ (burst (body ++ le4 (more (sumOf (hd4 k body.length)) body)) q bits i ++ rest)) = (0#8, [], 0, 5) := by
  have hl : (body ++ le4 (more (sumOf (hd4 k body.length)) body)).length = body.length + 4 := by rw [List.length_append]; rfl
  have hseen := fun h => hb ((burst_seen (sumOf (hd4 k body.length)) (body ++ le4 (more (sumOf (hd4 k body.length)) body)) q bits i hi (by rw [hl]; exact hq)).1 h)
  have hbl : (burst (body ++ le4 (more (sumOf (hd4 k body.length)) body)) q bits i).length = body.length + 4 := by rw [burst_length, hl]
  generalize burst (body ++ le4 (more (sumOf (hd4 k body.length)) body)) q bits i = B at *
  rw [rd_body k body.length hm B rest hbl, if_pos]
  have hs : numL (le4 (more (sumOf (hd4 k body.length)) body)) = more (sumOf (hd4 k body.length)) body := by
    have := numL_le4 (more (sumOf (hd4 k body.length)) body) []
    rwa [List.append_nil] at this
  rw [split4 B body.length] at hseen
  exact sum_falls (sumOf (hd4 k body.length)) body (le4 (more (sumOf (hd4 k body.length)) body)) _ _ rfl (by rw [List.length_drop]; omega) hs hseen

theorem readF_turned (k : B8) (body : List B8) (hm : body.length ≤ 1048576) (p : Nat) (bits : W32) (i : Nat) (hi : i ≤ 32) (hp : p + i ≤ 8 * (body.length + 12)) (hb : lo i bits ≠ 0#32) (rest : List B8) :
    readF (burst (frB k body) p bits i ++ rest) = (0#8, [], 0, 5) := by
  have e : frB k body = (hd4 k body.length ++ le4 (sumOf (hd4 k body.length))) ++ (body ++ le4 (more (sumOf (hd4 k body.length)) body)) := by
    unfold frB; simp only [List.append_assoc]
  have h8 : (hd4 k body.length ++ le4 (sumOf (hd4 k body.length))).length = 8 := by rw [List.length_append]; rfl
  rw [e]
  by_cases h1 : 64 ≤ p
  · rw [show p = 8 * (hd4 k body.length ++ le4 (sumOf (hd4 k body.length))).length + (p - 64) by rw [h8]; omega, burst_right, List.append_assoc]
    exact body_turned k body hm (p - 64) bits i hi (by omega) hb rest
  · by_cases h2 : p + i ≤ 64
    · rw [burst_left _ _ _ _ _ (by rw [h8]; omega), List.append_assoc]
      exact head_turned k body.length p bits i hi h2 hb _
    · obtain ⟨r, hr⟩ : ∃ r, i = (64 - p) + r := ⟨i - (64 - p), by omega⟩
      rw [hr, burst_across _ _ p (64 - p) (by rw [h8]; omega), List.append_assoc]
      by_cases h3 : lo (64 - p) bits = 0#32
      · rw [burst_id _ _ _ _ h3]
        exact body_turned k body hm 0 _ r (by omega) (by omega) (lo_rest h3 (by rw [← hr]; exact hb)) rest
      · exact head_turned k body.length p bits (64 - p) (by omega) (by omega) h3 _
end Go.Proofs.Ytlfeahalgolbgaa
