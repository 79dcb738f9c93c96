/-
  Plain: where frames end is told by their bodies' lengths.
-/
import Derived.Test.YtlfeahalgolbgaaEndsWalk
namespace Go.Proofs.Ytlfeahalgolbgaa
set_option linter.unusedVariables false

def endsOf : Nat → List Fr → List Nat
  | _, [] => []
  | at_, f :: r => (at_ + f.2.length + 12) :: endsOf (at_ + f.2.length + 12) r

theorem endsOf_length : ∀ (F : List Fr) (at_ : Nat), (endsOf at_ F).length = F.length
  | [], _ => rfl
  | f :: r, at_ => by simp [endsOf, endsOf_length r]

theorem endsF_scan : ∀ (f g at_ : Nat) (l : List B8), l.length < f → l.length ≤ g → endsF f at_ l = endsOf at_ (scanF g l).1
  | 0, g, at_, l, h, _ => by omega
  | f + 1, g, at_, l, h, hg => by
    by_cases h0 : l.length = 0
    · obtain rfl := List.eq_nil_of_length_eq_zero h0
      rw [scanF_nil]
      rfl
    · obtain ⟨g, rfl⟩ : ∃ g', g = g' + 1 := ⟨g - 1, by omega⟩
      rcases readF_cases l with ⟨k, b, m, hr, h12, hm, hb⟩ | hr | hr
      · rw [scanF_ok h0 hr]
        rw [endsF, hr, if_neg (by intro h; exact h rfl)]
        show (at_ + m) :: endsF f (at_ + m) (l.drop m) = (at_ + b.length + 12) :: endsOf (at_ + b.length + 12) (scanF g (l.drop m)).1
        rw [endsF_scan f g (at_ + m) (l.drop m) (by rw [List.length_drop]; omega) (by rw [List.length_drop]; omega), show at_ + b.length + 12 = at_ + m by omega]
      · rw [scanF_err h0 hr (by decide), endsF, hr, if_pos (by decide)]
        rfl
      · rw [scanF_err h0 hr (by decide), endsF, hr, if_pos (by decide)]
        rfl

theorem ends_scan (l : List B8) : ends l = endsOf 0 (scan l).1 := endsF_scan _ _ _ _ (by omega) (Nat.le_refl _)

theorem scanF_small : ∀ (f : Nat) (l : List B8), ∀ x ∈ (scanF f l).1, x.2.length + 12 ≤ l.length
  | 0, l => fun x hx => by cases hx
  | f + 1, l => by
    intro x hx
    by_cases h0 : l.length = 0
    · obtain rfl := List.eq_nil_of_length_eq_zero h0
      rw [scanF_nil] at hx; cases hx
    · rcases readF_cases l with ⟨k, b, m, hr, h12, hm, hb⟩ | hr | hr
      · rw [scanF_ok h0 hr] at hx
        rcases List.mem_cons.1 hx with rfl | hx
        · show b.length + 12 ≤ l.length
          omega
        · have := scanF_small f (l.drop m) x hx
          rw [List.length_drop] at this
          omega
      · rw [scanF_err h0 hr (by decide)] at hx; cases hx
      · rw [scanF_err h0 hr (by decide)] at hx; cases hx

theorem scan_small (l : List B8) : ∀ x ∈ (scan l).1, x.2.length + 12 ≤ l.length := scanF_small _ l

theorem scanF_few : ∀ (f : Nat) (l : List B8), 12 * (scanF f l).1.length ≤ l.length
  | 0, l => Nat.zero_le _
  | f + 1, l => by
    by_cases h0 : l.length = 0
    · obtain rfl := List.eq_nil_of_length_eq_zero h0
      rw [scanF_nil]; exact Nat.zero_le _
    · rcases readF_cases l with ⟨k, b, m, hr, h12, hm, hb⟩ | hr | hr
      · rw [scanF_ok h0 hr]
        have := scanF_few f (l.drop m)
        rw [List.length_drop] at this
        rw [List.length_cons]
        omega
      · rw [scanF_err h0 hr (by decide)]; exact Nat.zero_le _
      · rw [scanF_err h0 hr (by decide)]; exact Nat.zero_le _

theorem scan_few (l : List B8) : 12 * (scan l).1.length ≤ l.length := scanF_few _ l

/-- k frames are told: n is where they end -/
def EndsOn (F : List Fr) (R E : List Nat) (k n : Nat) : Prop := E.length = k ∧ R = E ++ endsOf n (F.drop k)

theorem endsOn_start (F : List Fr) : EndsOn F (endsOf 0 F) [] 0 0 := ⟨rfl, by simp⟩

theorem endsOn_step {F : List Fr} {R E : List Nat} {k n : Nat} (h : EndsOn F R E k n) (hk : k < F.length) {b : List B8} (hb : (F[k]'hk).2 = b) : EndsOn F R (E ++ [n + b.length + 12]) (k + 1) (n + b.length + 12) := by
  obtain ⟨h1, h2⟩ := h
  refine ⟨by simp [h1], ?_⟩
  rw [h2, List.drop_eq_getElem_cons hk, endsOf, hb, List.append_assoc]
  rfl

theorem endsOn_end {F : List Fr} {R E : List Nat} {k n : Nat} (h : EndsOn F R E k n) (hk : F.length ≤ k) : R = E := by
  obtain ⟨h1, h2⟩ := h
  rw [h2, List.drop_of_length_le hk]
  simp [endsOf]

end Go.Proofs.Ytlfeahalgolbgaa
