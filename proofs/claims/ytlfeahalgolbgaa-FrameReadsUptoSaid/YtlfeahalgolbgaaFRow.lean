/-
  A row of frames, whoever's it is, as a list.
-/
import Derived.Test.YtlfeahalgolbgaaScanWalk
namespace Go.Proofs.Ytlfeahalgolbgaa
open Go.RowKit
set_option linter.unusedVariables false

abbrev fr0 : FrV := (0#8, [], .slice none 0 0)

/-- a slice's value reads as bytes -/
def IsRow (w : World) (v : Value) (l : List B8) : Prop := ∃ a c, v = .slice a l.length c ∧ l.length ≤ c ∧ Row8 w a l.length l

/-- a slice that reads as frames -/
def FRow (w : World) (a : Option Addr) (n : Nat) (G : List FrV) : Prop :=
  n = G.length ∧ n ≤ 281474976710656 ∧ (∀ g ∈ G, IsRow w g.2.2 g.2.1) ∧
  (0 < n → ∃ b o, a = some ⟨b, o, none⟩ ∧ ∀ i, i < n → w.cell? ⟨b, o + i * 2, none⟩ = some (.int .u8 (ub (G.getD i fr0).1)) ∧ w.cell? ⟨b, o + i * 2 + 1, none⟩ = some (G.getD i fr0).2.2)

theorem IsRow.below {w w' : World} {v : Value} {l : List B8} (h : IsRow w v l) (hb : Below w.heap.size w w') : IsRow w' v l := by
  obtain ⟨a, c, h1, h2, h3⟩ := h
  exact ⟨a, c, h1, h2, h3.below hb⟩

theorem cell_lt {w : World} {b o : Nat} {x : Value} (h : w.cell? ⟨b, o, none⟩ = some x) : b < w.heap.size := by
  rcases Nat.lt_or_ge b w.heap.size with h' | h'
  · exact h'
  · exfalso
    unfold World.cell? at h
    rw [Array.getElem?_eq_none h'] at h
    cases h

theorem FRow.below {w w' : World} {a : Option Addr} {n : Nat} {G : List FrV} (h : FRow w a n G) (hb : Below w.heap.size w w') : FRow w' a n G := by
  obtain ⟨h1, h2, h3, h4⟩ := h
  refine ⟨h1, h2, fun g hg => (h3 g hg).below hb, fun h0 => ?_⟩
  obtain ⟨b, o, ha, hc⟩ := h4 h0
  refine ⟨b, o, ha, fun i hi => ?_⟩
  obtain ⟨c1, c2⟩ := hc i hi
  exact ⟨(hb.cell (cell_lt c1)).trans c1, (hb.cell (cell_lt c2)).trans c2⟩

theorem getD_mem (G : List FrV) (i : Nat) (h : i < G.length) : G.getD i fr0 ∈ G := by
  simp [List.getD_eq_getElem?_getD, h]

/-- one frame of the row -/
theorem FRow.at {w : World} {a : Option Addr} {n : Nat} {G : List FrV} (h : FRow w a n G) (i : Nat) (hi : i < n) :
    ∃ b o ba bc, a = some ⟨b, o, none⟩ ∧ w.cell? ⟨b, o + i * 2, none⟩ = some (.int .u8 (ub (G.getD i fr0).1)) ∧ w.cell? ⟨b, o + i * 2 + 1, none⟩ = some (.slice ba (G.getD i fr0).2.1.length bc) ∧
      (G.getD i fr0).2.1.length ≤ bc ∧ Row8 w ba (G.getD i fr0).2.1.length (G.getD i fr0).2.1 := by
  obtain ⟨h1, h2, h3, h4⟩ := h
  obtain ⟨b, o, ha, hc⟩ := h4 (by omega)
  obtain ⟨c1, c2⟩ := hc i hi
  obtain ⟨ba, bc, e, hl, hr⟩ := h3 _ (getD_mem G i (by omega))
  rw [e] at c2
  exact ⟨b, o, ba, bc, ha, c1, c2, hl, hr⟩

theorem Own8.isRow {w : World} {base : Nat} {v : Value} {l : List B8} (h : Own8 w base v l) (hm : l.length ≤ 281474976710656) : IsRow w v l := by
  obtain ⟨a, c, rfl, hc⟩ := own8_form h
  exact ⟨a, c, rfl, hc, h.row hm⟩

theorem flatG_get (G : List FrV) : ∀ i, i < G.length → (flatG G)[i * 2]? = some (.int .u8 (ub (G.getD i fr0).1)) ∧ (flatG G)[i * 2 + 1]? = some (G.getD i fr0).2.2 := by
  induction G with
  | nil => intro i h; simp at h
  | cons g G ih =>
    intro i h
    cases i with
    | zero => exact ⟨rfl, rfl⟩
    | succ i =>
      have := ih i (by simpa using h)
      rw [show (i + 1) * 2 = i * 2 + 2 by omega]
      exact this

theorem frow_of_own {w : World} {base n c : Nat} {a : Option Addr} {G : List FrV} (h : FOwn w base (.slice a n c) G) (hm : n ≤ 281474976710656) (hb : ∀ g ∈ G, g.2.1.length ≤ 281474976710656) : FRow w a n G := by
  obtain ⟨⟨hl, h1⟩, h2⟩ := h
  rcases h1 with ⟨hv, h0⟩ | ⟨g, cap, cur, hv, hg, hh, hnc, hcm, hcs, ht⟩
  · simp only [Value.slice.injEq] at hv
    obtain ⟨rfl, rfl, rfl⟩ := hv
    exact ⟨by omega, hm, fun g hg => (h2 g hg).isRow (hb g hg), fun h => absurd h (by omega)⟩
  · simp only [Value.slice.injEq] at hv
    obtain ⟨rfl, rfl, rfl⟩ := hv
    refine ⟨rfl, hm, fun g hg => (h2 g hg).isRow (hb g hg), fun h0 => ⟨g, 0, rfl, fun i hi => ?_⟩⟩
    obtain ⟨f1, f2⟩ := flatG_get G i hi
    have hcell : ∀ j x, (flatG G)[j]? = some x → w.cell? ⟨g, 0 + j, none⟩ = some x := by
      intro j x hj
      have hjl : j < G.length * 2 := by
        rcases Nat.lt_or_ge j (flatG G).length with h' | h'
        · rwa [flatG_length] at h'
        · rw [List.getElem?_eq_none h'] at hj; cases hj
      have h1 : cur.toList[j]? = some x := by
        rw [← hj, ← ht, List.getElem?_take, if_pos hjl]
      simp only [World.cell?, hh, Nat.zero_add, Option.isSome_none, Bool.false_eq_true, if_false]
      rw [← Array.getElem?_toList]
      exact h1
    exact ⟨hcell _ _ f1, hcell _ _ f2⟩
end Go.Proofs.Ytlfeahalgolbgaa
