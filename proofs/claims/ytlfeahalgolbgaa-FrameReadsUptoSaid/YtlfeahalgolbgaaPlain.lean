/-
  Plain mathematics of the checksum: words of 32 bits, the step of one bit, its powers, and what they do to lists of bytes. No program here.
-/
namespace Go.Proofs.Ytlfeahalgolbgaa

abbrev B8 := BitVec 8
abbrev W32 := BitVec 32

def poly : W32 := 0xEDB88320#32
def stp (s : W32) : W32 := if s.getLsbD 0 then (s >>> 1) ^^^ poly else s >>> 1

def it : Nat → W32 → W32
  | 0, s => s
  | n + 1, s => it n (stp s)

theorem stp_t {s : W32} (h : s.getLsbD 0 = true) : stp s = (s >>> 1) ^^^ poly := by unfold stp; rw [if_pos h]
theorem stp_f {s : W32} (h : s.getLsbD 0 = false) : stp s = s >>> 1 := by unfold stp; rw [if_neg (by rw [h]; decide)]

theorem stp_xor (a b : W32) : stp (a ^^^ b) = stp a ^^^ stp b := by
  have hs : (a ^^^ b) >>> 1 = (a >>> 1) ^^^ (b >>> 1) := BitVec.ushiftRight_xor_distrib a b 1
  have hb : (a ^^^ b).getLsbD 0 = (a.getLsbD 0 ^^ b.getLsbD 0) := BitVec.getLsbD_xor
  cases ha : a.getLsbD 0 <;> cases hc : b.getLsbD 0 <;> rw [ha, hc] at hb
  · rw [stp_f hb, stp_f ha, stp_f hc, hs]
  · rw [stp_t hb, stp_f ha, stp_t hc, hs, BitVec.xor_assoc]
  · rw [stp_t hb, stp_t ha, stp_f hc, hs, BitVec.xor_assoc, BitVec.xor_assoc, BitVec.xor_comm (b >>> 1)]
  · rw [stp_f hb, stp_t ha, stp_t hc, hs, BitVec.xor_comm (b >>> 1) poly, BitVec.xor_assoc, ← BitVec.xor_assoc poly poly, BitVec.xor_self, BitVec.zero_xor]

theorem stp_zero : stp 0#32 = 0#32 := by decide

theorem stp_eq_zero {s : W32} (h : stp s = 0#32) : s = 0#32 := by
  cases hb : s.getLsbD 0
  · rw [stp_f hb] at h
    apply BitVec.eq_of_getLsbD_eq
    intro i hi
    cases i with
    | zero => simpa using hb
    | succ i =>
      have := congrArg (fun x => x.getLsbD i) h
      simpa [BitVec.getLsbD_ushiftRight, Nat.add_comm] using this
  · rw [stp_t hb] at h
    have := congrArg (fun x => x.getLsbD 31) h
    simp [poly] at this

theorem it_xor (n : Nat) : ∀ a b : W32, it n (a ^^^ b) = it n a ^^^ it n b := by
  induction n with
  | zero => intro a b; rfl
  | succ n ih => intro a b; simp only [it, stp_xor, ih]

theorem it_zero (n : Nat) : it n 0#32 = 0#32 := by
  induction n with
  | zero => rfl
  | succ n ih => simp only [it, stp_zero, ih]

theorem it_eq_zero {n : Nat} : ∀ {s : W32}, it n s = 0#32 → s = 0#32 := by
  induction n with
  | zero => intro s h; exact h
  | succ n ih => intro s h; exact stp_eq_zero (ih h)

theorem it_add (m n : Nat) : ∀ s : W32, it (m + n) s = it n (it m s) := by
  induction m with
  | zero => intro s; simp [it]
  | succ m ih => intro s; rw [Nat.succ_add]; exact ih (stp s)

theorem it_inj {n : Nat} {a b : W32} (h : it n a = it n b) : a = b := by
  have hz : it n (a ^^^ b) = 0#32 := by rw [it_xor, h, BitVec.xor_self]
  exact BitVec.xor_eq_zero_iff.1 (it_eq_zero hz)

theorem it_bit (i : Nat) (h : i < 32) : it i (1#32 <<< i) = 1#32 := by
  have : ∀ i : Fin 32, it i.val (1#32 <<< i.val) = 1#32 := by decide +kernel
  exact this ⟨i, h⟩

/-- the low bits of a word -/
def lo (i : Nat) (x : W32) : W32 := (x.setWidth i).setWidth 32

theorem lo_bit (i : Nat) (x : W32) (j : Nat) : (lo i x).getLsbD j = (decide (j < i) && x.getLsbD j) := by
  unfold lo
  rw [BitVec.getLsbD_setWidth, BitVec.getLsbD_setWidth]
  by_cases h : j < 32
  · simp [h]
  · have : x.getLsbD j = false := BitVec.getLsbD_of_ge x j (by omega)
    simp [this]

theorem lo_zero (x : W32) : lo 0 x = 0#32 := by
  apply BitVec.eq_of_getLsbD_eq; intro i hi; rw [lo_bit]; simp

theorem lo_all {i : Nat} (h : 32 ≤ i) (x : W32) : lo i x = x := by
  apply BitVec.eq_of_getLsbD_eq; intro j hj; rw [lo_bit]
  have : j < i := by omega
  simp [this]

theorem lo_succ_t {i : Nat} {x : W32} (h : x.getLsbD i = true) : lo (i + 1) x = lo i x ^^^ (1#32 <<< i) := by
  apply BitVec.eq_of_getLsbD_eq; intro j hj
  rw [BitVec.getLsbD_xor, lo_bit, lo_bit, BitVec.getLsbD_shiftLeft]
  by_cases e : j = i
  · subst e; simp [h, hj]
  · by_cases l : j < i
    · simp [l, show j < i + 1 by omega]
    · have : (1#32).getLsbD (j - i) = false := by
        rw [BitVec.getLsbD_one]; simp; omega
      simp [l, show ¬ j < i + 1 by omega, this]

theorem lo_succ_f {i : Nat} {x : W32} (h : x.getLsbD i = false) : lo (i + 1) x = lo i x := by
  apply BitVec.eq_of_getLsbD_eq; intro j hj
  rw [lo_bit, lo_bit]
  by_cases e : j = i
  · subst e; simp [h]
  · by_cases l : j < i
    · simp [l, show j < i + 1 by omega]
    · simp [l, show ¬ j < i + 1 by omega]

/-- one byte into a sum that is not turned -/
def byB (s : W32) (c : B8) : W32 := it 8 (s ^^^ c.setWidth 32)

/-- many bytes -/
def crcS (s : W32) (l : List B8) : W32 := l.foldl byB s

theorem crcS_nil (s : W32) : crcS s [] = s := rfl
theorem crcS_cons (s : W32) (c : B8) (l : List B8) : crcS s (c :: l) = crcS (byB s c) l := rfl
theorem crcS_append (s : W32) (a b : List B8) : crcS s (a ++ b) = crcS (crcS s a) b := by simp [crcS, List.foldl_append]
theorem crcS_snoc (s : W32) (a : List B8) (c : B8) : crcS s (a ++ [c]) = byB (crcS s a) c := by simp [crcS, List.foldl_append]

theorem byB_xor (s t : W32) (c : B8) : byB (s ^^^ t) c = byB s c ^^^ it 8 t := by
  unfold byB
  rw [← it_xor]
  congr 1
  rw [BitVec.xor_assoc, BitVec.xor_assoc, BitVec.xor_comm t]

theorem crcS_xor (l : List B8) : ∀ s t : W32, crcS (s ^^^ t) l = crcS s l ^^^ it (8 * l.length) t := by
  induction l with
  | nil => intro s t; rfl
  | cons c l ih =>
    intro s t
    rw [crcS_cons, crcS_cons, byB_xor, ih, List.length_cons, Nat.mul_add, Nat.add_comm (8 * l.length), it_add]

theorem byB_zero (s : W32) : byB s 0#8 = it 8 s := by
  unfold byB; simp

theorem crcS_zeros (n : Nat) : ∀ s : W32, crcS s (List.replicate n 0#8) = it (8 * n) s := by
  induction n with
  | zero => intro s; rfl
  | succ n ih => intro s; rw [List.replicate_succ, crcS_cons, byB_zero, ih, Nat.mul_succ, Nat.add_comm (8 * n), it_add]

def ones : W32 := 0xffffffff#32
theorem not_eq (x : W32) : ~~~x = x ^^^ ones := (BitVec.xor_allOnes (x := x)).symm

def more (sum : W32) (l : List B8) : W32 := crcS (sum ^^^ ones) l ^^^ ones
def sumOf (l : List B8) : W32 := more 0#32 l

theorem xx (a b : W32) : a ^^^ b ^^^ b = a := by rw [BitVec.xor_assoc, BitVec.xor_self, BitVec.xor_zero]
theorem xsw (a b c : W32) : a ^^^ b ^^^ c = a ^^^ c ^^^ b := by rw [BitVec.xor_assoc, BitVec.xor_comm b, BitVec.xor_assoc]

theorem more_nil (s : W32) : more s [] = s := by simp only [more, crcS_nil, xx]
theorem more_append (s : W32) (a b : List B8) : more s (a ++ b) = more (more s a) b := by
  simp only [more, crcS_append, xx]
theorem sumOf_append (a b : List B8) : sumOf (a ++ b) = more (sumOf a) b := more_append _ _ _

/-- the sum of two pieces -/
theorem more_join (x : W32) (b : List B8) : more x b = it (8 * b.length) x ^^^ sumOf b := by
  unfold sumOf more
  rw [show x ^^^ ones = (0#32 ^^^ ones) ^^^ x by rw [BitVec.zero_xor, BitVec.xor_comm], crcS_xor]
  rw [xsw, BitVec.xor_comm]

theorem more_zeros (x : W32) (n : Nat) : more x (List.replicate n 0#8) = it (8 * n) (x ^^^ ones) ^^^ ones := by
  unfold more; rw [crcS_zeros]

/-- one byte changed -/
theorem crcS_set (a b : List B8) (c d : B8) (s : W32) : crcS s (a ++ d :: b) = crcS s (a ++ c :: b) ^^^ it (8 * b.length) (it 8 ((c ^^^ d).setWidth 32)) := by
  rw [crcS_append, crcS_append, crcS_cons, crcS_cons]
  have : byB (crcS s a) d = byB (crcS s a) c ^^^ it 8 ((c ^^^ d).setWidth 32) := by
    unfold byB
    rw [← it_xor]
    rw [BitVec.setWidth_xor, BitVec.xor_assoc, ← BitVec.xor_assoc (c.setWidth 32), BitVec.xor_self, BitVec.zero_xor]
  rw [this, crcS_xor]

theorem set_split (l : List B8) (i : Nat) (h : i < l.length) (d : B8) : l = l.take i ++ l[i] :: l.drop (i + 1) ∧ l.set i d = l.take i ++ d :: l.drop (i + 1) := by
  constructor
  · simp
  · exact List.set_eq_take_append_cons_drop ▸ by simp [h]

theorem more_set (l : List B8) (i : Nat) (h : i < l.length) (d : B8) (x : W32) :
    more x (l.set i d) = more x l ^^^ it (8 * (l.length - 1 - i)) (byB 0#32 (l[i] ^^^ d)) := by
  obtain ⟨h1, h2⟩ := set_split l i h d
  have hl : (l.drop (i + 1)).length = l.length - 1 - i := by simp; omega
  have e : crcS (x ^^^ ones) (l.set i d) = crcS (x ^^^ ones) l ^^^ it (8 * (l.length - 1 - i)) (byB 0#32 (l[i] ^^^ d)) := by
    rw [h2, crcS_set _ _ l[i] d, ← h1, hl]
    unfold byB; rw [BitVec.zero_xor]
  unfold more
  rw [e, xsw]

end Go.Proofs.Ytlfeahalgolbgaa
