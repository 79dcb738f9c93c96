/-
  Plain: what Scan and Ends tell of frames' bytes, whole or cut.
-/
import Derived.Test.YtlfeahalgolbgaaEndsWalk
namespace Go.Proofs.Ytlfeahalgolbgaa
set_option linter.unusedVariables false

/-- a frame cut short -/
theorem readF_torn (k : B8) (body : List B8) (hm : body.length ≤ 1048576) (j : Nat) (hj : j < body.length + 12) : readF ((frB k body).take j) = (0#8, [], 0, 4) := by
  have hlen : ((frB k body).take j).length = j := by rw [List.length_take, frB_length]; omega
  unfold readF
  rw [hlen]
  by_cases h8 : j < 8
  · rw [if_pos h8]
  rw [if_neg h8]
  have h4 : (hd4 k body.length).length = 4 := rfl
  have hl4 : (le4 (sumOf (hd4 k body.length))).length = 4 := rfl
  have e : (frB k body).take j = hd4 k body.length ++ (le4 (sumOf (hd4 k body.length)) ++ (body ++ le4 (more (sumOf (hd4 k body.length)) body)).take (j - 8)) := by
    unfold frB
    rw [List.take_append, List.take_of_length_le (l := hd4 k body.length) (by omega), List.take_append, List.take_of_length_le (l := le4 (sumOf (hd4 k body.length))) (by omega), h4, hl4]
    congr 3
  have hlen3 : len3 ((frB k body).take j) = body.length := by rw [e]; exact len3_hd k body.length (by omega) _
  rw [hlen3, e]
  rw [if_neg, if_pos (by omega)]
  intro h
  rcases h with h | h
  · apply h
    rw [drop_app _ _ 4 h4.symm, take_app _ _ 4 h4.symm, numL_append _ _ (by omega)]
    have := numL_le4 (sumOf (hd4 k body.length)) []
    rwa [List.append_nil] at this
  · omega

theorem take_mid (Fs : List Fr) (k j : Nat) (hk : k < Fs.length) (hj : (allB (Fs.take k)).length ≤ j) :
    ((allB Fs).take j).drop (allB (Fs.take k)).length = (frB (Fs.getD k (0#8, [])).1 (Fs.getD k (0#8, [])).2 ++ allB (Fs.drop (k + 1))).take (j - (allB (Fs.take k)).length) := by
  have e : allB Fs = allB (Fs.take k) ++ (frB (Fs.getD k (0#8, [])).1 (Fs.getD k (0#8, [])).2 ++ allB (Fs.drop (k + 1))) := by
    have h1 : Fs = Fs.take k ++ (Fs[k] :: Fs.drop (k + 1)) := by rw [← List.drop_eq_getElem_cons hk, List.take_append_drop]
    conv => lhs; rw [h1]
    rw [allB_append, allB_cons]
    simp [List.getD_eq_getElem?_getD, hk]
  conv => lhs; rw [e]
  rw [List.drop_take, drop_app _ _ _ rfl]

theorem allB_snoc (Fs : List Fr) (k : Nat) (hk : k < Fs.length) : (allB (Fs.take (k + 1))).length = (allB (Fs.take k)).length + ((Fs.getD k (0#8, [])).2.length + 12) := by
  rw [List.take_succ_eq_append_getElem hk, allB_append, List.length_append, allB_cons, allB_nil, List.append_nil, frB_length]
  simp [List.getD_eq_getElem?_getD, hk]

theorem allB_mono (Fs : List Fr) (k : Nat) : (allB (Fs.take k)).length ≤ (allB Fs).length := by
  conv => rhs; rw [← List.take_append_drop k Fs, allB_append, List.length_append]
  omega

/-- at each whole frame's end -/
theorem readF_mid (Fs : List Fr) (hb : ∀ f ∈ Fs, f.2.length ≤ 1048576) (k j : Nat) (hk : k < Fs.length) (hj : (allB (Fs.take (k + 1))).length ≤ j) :
    readF (((allB Fs).take j).drop (allB (Fs.take k)).length) = ((Fs.getD k (0#8, [])).1, (Fs.getD k (0#8, [])).2, 12 + (Fs.getD k (0#8, [])).2.length, 0) := by
  have hs := allB_snoc Fs k hk
  have hm : (Fs.getD k (0#8, [])).2.length ≤ 1048576 := hb _ (by simp [List.getD_eq_getElem?_getD, hk])
  rw [take_mid Fs k j hk (by omega), List.take_append, List.take_of_length_le (l := frB _ _) (by rw [frB_length]; omega)]
  exact readF_frame _ _ _ hm

theorem scanAt_mid (Fs : List Fr) (hb : ∀ f ∈ Fs, f.2.length ≤ 1048576) (j : Nat) (hjt : j ≤ (allB Fs).length) (k : Nat) (hk : k ≤ Fs.length) (hj : (allB (Fs.take k)).length ≤ j) :
    ScanAt ((allB Fs).take j) (scan ((allB Fs).take j)) (Fs.take k) (allB (Fs.take k)).length := by
  have hl : ((allB Fs).take j).length = j := by rw [List.length_take]; omega
  induction k with
  | zero => exact scanAt_start _
  | succ k ih =>
    have hs := allB_snoc Fs k hk
    have := ih (by omega) (by omega)
    have hst := scanAt_step this (by omega) (readF_mid Fs hb k j hk hj) (by omega) (by omega)
    have e : Fs.take (k + 1) = Fs.take k ++ [((Fs.getD k (0#8, [])).1, (Fs.getD k (0#8, [])).2)] := by
      rw [List.take_succ_eq_append_getElem hk, List.getD_eq_getElem?_getD, List.getElem?_eq_getElem hk]; rfl
    rw [hs, show (allB (Fs.take k)).length + ((Fs.getD k (0#8, [])).2.length + 12) = (allB (Fs.take k)).length + (12 + (Fs.getD k (0#8, [])).2.length) by omega, e]
    exact hst

/-- Scan of a list of frames' bytes that is cut at j -/
theorem scan_torn (Fs : List Fr) (hb : ∀ f ∈ Fs, f.2.length ≤ 1048576) (j : Nat) (hjt : j ≤ (allB Fs).length) (k : Nat) (hk : k ≤ Fs.length) (hj : (allB (Fs.take k)).length ≤ j)
    (hstop : k = Fs.length ∨ j < (allB (Fs.take k)).length + ((Fs.getD k (0#8, [])).2.length + 12)) :
    scan ((allB Fs).take j) = (Fs.take k, (allB (Fs.take k)).length, if (allB (Fs.take k)).length = j then 0 else 4) := by
  have hl : ((allB Fs).take j).length = j := by rw [List.length_take]; omega
  have hsc := scanAt_mid Fs hb j hjt k hk hj
  by_cases he : (allB (Fs.take k)).length = j
  · rw [if_pos he]
    exact scanAt_end hsc (by omega)
  · rw [if_neg he]
    have hkl : k < Fs.length := by
      rcases hstop with h | h
      · exfalso; subst h; rw [List.take_length] at he hj; omega
      · rcases Nat.lt_or_ge k Fs.length with h' | h'
        · exact h'
        · exfalso
          have : Fs.take k = Fs := List.take_of_length_le h'
          rw [this] at he hj
          omega
    have hlt : j < (allB (Fs.take k)).length + ((Fs.getD k (0#8, [])).2.length + 12) := by
      rcases hstop with h | h
      · omega
      · exact h
    have hm : (Fs.getD k (0#8, [])).2.length ≤ 1048576 := hb _ (by simp [List.getD_eq_getElem?_getD, hkl])
    refine scanAt_err hsc (by omega) (k := 0#8) (b := []) (m := 0) ?_ (by decide)
    rw [take_mid Fs k j hkl hj, List.take_append_of_le_length (by rw [frB_length]; omega)]
    exact readF_torn _ _ hm _ (by omega)

theorem scan_whole (Fs : List Fr) (hb : ∀ f ∈ Fs, f.2.length ≤ 1048576) : scan (allB Fs) = (Fs, (allB Fs).length, 0) := by
  have := scan_torn Fs hb (allB Fs).length (Nat.le_refl _) Fs.length (Nat.le_refl _) (by rw [List.take_length]; exact Nat.le_refl _) (.inl rfl)
  rwa [List.take_length, List.take_length, if_pos rfl] at this

theorem endsAt_mid (Fs : List Fr) (hb : ∀ f ∈ Fs, f.2.length ≤ 1048576) (k : Nat) (hk : k ≤ Fs.length) :
    ∃ E, E.length = k ∧ (0 < k → E.getD (k - 1) 0 = (allB (Fs.take k)).length) ∧ EndsAt (allB Fs) (ends (allB Fs)) E (allB (Fs.take k)).length := by
  induction k with
  | zero => exact ⟨[], rfl, fun h => absurd h (by omega), endsAt_start _⟩
  | succ k ih =>
    obtain ⟨E, h1, h2, h3⟩ := ih (by omega)
    have hs := allB_snoc Fs k hk
    have hr := readF_mid Fs hb k (allB Fs).length hk (allB_mono Fs _)
    rw [List.take_length] at hr
    have hmono := allB_mono Fs (k + 1)
    have hst := endsAt_step h3 hr (by omega) (by omega)
    rw [show (allB (Fs.take k)).length + (12 + (Fs.getD k (0#8, [])).2.length) = (allB (Fs.take (k + 1))).length by omega] at hst
    refine ⟨_, by rw [List.length_append, h1]; rfl, fun _ => ?_, hst⟩
    rw [Nat.add_sub_cancel, List.getD_eq_getElem?_getD, List.getElem?_append_right (by omega), h1, Nat.sub_self]
    rfl

theorem readF_nil : readF [] = (0#8, [], 0, 4) := by decide

/-- Ends of a list of frames' bytes: as many as frames, the last the bytes' end -/
theorem ends_whole (Fs : List Fr) (hb : ∀ f ∈ Fs, f.2.length ≤ 1048576) : (ends (allB Fs)).length = Fs.length ∧ (0 < Fs.length → (ends (allB Fs)).getD (Fs.length - 1) 0 = (allB Fs).length) := by
  obtain ⟨E, h1, h2, h3⟩ := endsAt_mid Fs hb Fs.length (Nat.le_refl _)
  rw [List.take_length] at h2 h3
  have := endsAt_stop h3 (k := 0#8) (b := []) (m := 0) (er := 4) (by rw [List.drop_of_length_le (Nat.le_refl _)]; exact readF_nil) (by decide)
  rw [this]
  exact ⟨h1, h2⟩

end Go.Proofs.Ytlfeahalgolbgaa
