/-
  Plain: what Scan tells of bytes.
-/
import Derived.Test.YtlfeahalgolbgaaAltered
namespace Go.Proofs.Ytlfeahalgolbgaa
set_option linter.unusedVariables false

abbrev Fr := B8 × List B8

theorem readF_cases (l : List B8) : (∃ k b m, readF l = (k, b, m, 0) ∧ 12 ≤ m ∧ m ≤ l.length ∧ b.length + 12 = m) ∨ readF l = (0#8, [], 0, 4) ∨ readF l = (0#8, [], 0, 5) := by
  unfold readF
  by_cases h1 : l.length < 8
  · rw [if_pos h1]; exact .inr (.inl rfl)
  rw [if_neg h1]
  by_cases h2 : numL (l.drop 4) ≠ sumOf (l.take 4) ∨ 1048576 < len3 l
  · rw [if_pos h2]; exact .inr (.inr rfl)
  rw [if_neg h2]
  by_cases h3 : l.length < 12 + len3 l
  · rw [if_pos h3]; exact .inr (.inl rfl)
  rw [if_neg h3]
  by_cases h4 : numL (l.drop (8 + len3 l)) ≠ more (sumOf (l.take 4)) ((l.drop 8).take (len3 l))
  · rw [if_pos h4]; exact .inr (.inr rfl)
  rw [if_neg h4]
  exact .inl ⟨_, _, _, rfl, by omega, by omega, by rw [List.length_take, List.length_drop]; omega⟩

/-- frames as long as there are some: the frames, how many bytes, the error behind them -/
def scanF : Nat → List B8 → List Fr × Nat × Nat
  | 0, _ => ([], 0, 0)
  | f + 1, l =>
    if l.length = 0 then ([], 0, 0)
    else if (readF l).2.2.2 ≠ 0 then ([], 0, (readF l).2.2.2)
    else (((readF l).1, (readF l).2.1) :: (scanF f (l.drop (readF l).2.2.1)).1, (readF l).2.2.1 + (scanF f (l.drop (readF l).2.2.1)).2.1, (scanF f (l.drop (readF l).2.2.1)).2.2)

theorem scanF_nil (f : Nat) : scanF f [] = ([], 0, 0) := by cases f <;> rfl

theorem scanF_ok {f : Nat} {l : List B8} {k : B8} {b : List B8} {m : Nat} (h0 : l.length ≠ 0) (h : readF l = (k, b, m, 0)) :
    scanF (f + 1) l = ((k, b) :: (scanF f (l.drop m)).1, m + (scanF f (l.drop m)).2.1, (scanF f (l.drop m)).2.2) := by
  rw [scanF, if_neg h0, h, if_neg (by intro h; exact h rfl)]

theorem scanF_err {f : Nat} {l : List B8} {k : B8} {b : List B8} {m er : Nat} (h0 : l.length ≠ 0) (h : readF l = (k, b, m, er)) (he : er ≠ 0) : scanF (f + 1) l = ([], 0, er) := by
  rw [scanF, if_neg h0, h, if_pos he]

def scan (l : List B8) : List Fr × Nat × Nat := scanF l.length l

/-- F frames are read, n bytes: what is still to come -/
def ScanAt (l : List B8) (R : List Fr × Nat × Nat) (F : List Fr) (n : Nat) : Prop :=
  n ≤ l.length ∧ ∃ f, l.length - n ≤ f ∧ R = (F ++ (scanF f (l.drop n)).1, n + (scanF f (l.drop n)).2.1, (scanF f (l.drop n)).2.2)

theorem scanAt_start (l : List B8) : ScanAt l (scan l) [] 0 := ⟨by omega, l.length, by omega, by simp [scan]⟩

theorem scanAt_end {l : List B8} {R : List Fr × Nat × Nat} {F : List Fr} {n : Nat} (h : ScanAt l R F n) (hn : ¬ n < l.length) : R = (F, n, 0) := by
  obtain ⟨h1, f, hf, hR⟩ := h
  rw [List.drop_of_length_le (by omega), scanF_nil] at hR
  rw [hR]; simp

theorem scanAt_err {l : List B8} {R : List Fr × Nat × Nat} {F : List Fr} {n : Nat} (h : ScanAt l R F n) (hn : n < l.length) {k : B8} {b : List B8} {m er : Nat} (hr : readF (l.drop n) = (k, b, m, er)) (he : er ≠ 0) : R = (F, n, er) := by
  obtain ⟨h1, f, hf, hR⟩ := h
  obtain ⟨g, rfl⟩ : ∃ g, f = g + 1 := ⟨f - 1, by omega⟩
  rw [scanF_err (by rw [List.length_drop]; omega) hr he] at hR
  rw [hR]; simp

theorem scanAt_step {l : List B8} {R : List Fr × Nat × Nat} {F : List Fr} {n : Nat} (h : ScanAt l R F n) (hn : n < l.length) {k : B8} {b : List B8} {m : Nat} (hr : readF (l.drop n) = (k, b, m, 0)) (hm : 12 ≤ m) (hm2 : n + m ≤ l.length) :
    ScanAt l R (F ++ [(k, b)]) (n + m) := by
  obtain ⟨h1, f, hf, hR⟩ := h
  obtain ⟨g, rfl⟩ : ∃ g, f = g + 1 := ⟨f - 1, by omega⟩
  rw [scanF_ok (by rw [List.length_drop]; omega) hr, List.drop_drop] at hR
  refine ⟨hm2, g, by omega, ?_⟩
  rw [hR]
  simp only [List.append_assoc, List.cons_append, List.nil_append, Nat.add_assoc]

/-- how many frames there may be -/
theorem scanAt_few {l : List B8} {R : List Fr × Nat × Nat} {F : List Fr} {n : Nat} (h : 12 * F.length ≤ n) (hn : n ≤ l.length) : 12 * F.length ≤ l.length := by omega

end Go.Proofs.Ytlfeahalgolbgaa
