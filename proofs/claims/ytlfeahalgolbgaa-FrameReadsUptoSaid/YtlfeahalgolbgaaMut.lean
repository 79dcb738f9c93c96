/-
  Rows of bytes and of frames of the call's own where bytes are turned over: their shapes stay.
-/
import Derived.Test.YtlfeahalgolbgaaFRow
import Derived.BigRegion
namespace Go.Proofs.Ytlfeahalgolbgaa
open Go.RowKit
set_option linter.unusedVariables false

/-- a row of so many bytes of the call's own, whatever they are -/
def Any8 (w : World) (base : Nat) (v : Value) (n : Nat) : Prop := ∃ l : List B8, l.length = n ∧ Own8 w base v l

theorem Own8.any {w : World} {base : Nat} {v : Value} {l : List B8} (h : Own8 w base v l) : Any8 w base v l.length := ⟨l, rfl, h⟩

theorem Any8.below {w w' : World} {base : Nat} {v : Value} {n : Nat} (h : Any8 w base v n) (hb : Below w.heap.size w w') : Any8 w' base v n := by
  obtain ⟨l, hl, ho⟩ := h
  exact ⟨l, hl, ho.below hb⟩

theorem Any8.base {w : World} {base base' : Nat} {v : Value} {n : Nat} (h : Any8 w base v n) (hb : base' ≤ base) : Any8 w base' v n := by
  obtain ⟨l, hl, ho⟩ := h
  exact ⟨l, hl, ho.base hb⟩

/-- a byte is put down somewhere -/
theorem Any8.set {w : World} {base : Nat} {v : Value} {n : Nat} (h : Any8 w base v n) (g i : Nat) (x : B8) : Any8 (w.setCell ⟨g, i, none⟩ (.int .u8 (ub x))) base v n := by
  obtain ⟨l, hl, ho⟩ := h
  by_cases h0 : l.length = 0
  · obtain rfl := List.eq_nil_of_length_eq_zero h0
    obtain ⟨a, c, rfl, _⟩ := own8_form ho
    obtain ⟨h1, h2⟩ := ho
    rcases h2 with h2 | ⟨g', cap, cur, hv, hg, hh, hnc, hcm, hcs, ht⟩
    · exact ⟨[], hl, h1, .inl h2⟩
    · simp only [Value.slice.injEq] at hv
      obtain ⟨rfl, hn, rfl⟩ := hv
      by_cases e : g' = g
      · subst e
        exact ⟨[], hl, h1, .inr ⟨g', c, cur.setIfInBounds i (.int .u8 (ub x)), by simp, hg, heap_setCell_same w g' i cur 5 _ hh, hnc, hcm, by rw [Array.size_setIfInBounds]; exact hcs, by simp⟩⟩
      · exact ⟨[], hl, h1, .inr ⟨g', c, cur, by simp, hg, (heap_setCell_other _ _ _ _ e).trans hh, hnc, hcm, hcs, ht⟩⟩
  · obtain ⟨g', c, rfl, hb, hc, hs⟩ := own8_block ho (by omega)
    by_cases e : g' = g
    · subst e
      refine ⟨l.set i x, by rw [List.length_set]; exact hl, ?_⟩
      exact own8_store ho i x
    · refine ⟨l, hl, ?_⟩
      obtain ⟨h1, h2⟩ := ho
      rcases h2 with h2 | ⟨g2, cap, cur, hv, hg, hh, r⟩
      · exact ⟨h1, .inl h2⟩
      · simp only [Value.slice.injEq, Option.some.injEq, Addr.mk.injEq, and_true] at hv
        obtain ⟨rfl, _, rfl⟩ := hv
        exact ⟨h1, .inr ⟨g', c, cur, rfl, hg, (heap_setCell_other _ _ _ _ e).trans hh, r⟩⟩

/-- one byte of it -/
theorem Any8.at {w : World} {base n c : Nat} {a : Option Addr} (h : Any8 w base (.slice a n c) n) (i : Nat) (hi : i < n) :
    ∃ g x cur, a = some ⟨g, 0, none⟩ ∧ base ≤ g ∧ w.heap[g]? = some (.cells cur 5 (0, 0)) ∧ w.cell? ⟨g, i, none⟩ = some (.int .u8 (ub x)) ∧ w.frozen? ⟨g, i, none⟩ = false := by
  obtain ⟨l, hl, ho⟩ := h
  have ho' := ho
  obtain ⟨h1, h2⟩ := ho'
  rcases h2 with ⟨hv, h0⟩ | ⟨g, cap, cur, hv, hg, hh, r⟩
  · omega
  · simp only [Value.slice.injEq] at hv
    obtain ⟨rfl, _, rfl⟩ := hv
    obtain ⟨hc, hf⟩ := own8_cell ho i (by omega)
    exact ⟨g, _, cur, rfl, hg, hh, hc, hf⟩

/-- a row of frames of the call's own, whatever their bodies' bytes are -/
def FAny (w : World) (base : Nat) (v : Value) (G : List FrV) : Prop := w.ownsRow base 34 2 v G.length (flatG G) ∧ ∀ g ∈ G, Any8 w base g.2.2 g.2.1.length

theorem FOwn.any {w : World} {base : Nat} {v : Value} {G : List FrV} (h : FOwn w base v G) : FAny w base v G := ⟨h.1, fun g hg => (h.2 g hg).any⟩

theorem FAny.below {w w' : World} {base : Nat} {v : Value} {G : List FrV} (h : FAny w base v G) (hb : Below w.heap.size w w') : FAny w' base v G :=
  ⟨ownsRow_below h.1 hb, fun g hg => (h.2 g hg).below hb⟩

theorem FAny.base {w : World} {base base' : Nat} {v : Value} {G : List FrV} (h : FAny w base v G) (hb : base' ≤ base) : FAny w base' v G :=
  ⟨ownsRow_base h.1 hb, fun g hg => (h.2 g hg).base hb⟩

theorem FAny.set {w : World} {base : Nat} {v : Value} {G : List FrV} (h : FAny w base v G) {g : Nat} {cur : Array Value} (hg : w.heap[g]? = some (.cells cur 5 (0, 0))) (i : Nat) (x : B8) :
    FAny (w.setCell ⟨g, i, none⟩ (.int .u8 (ub x))) base v G := by
  refine ⟨?_, fun f hf => (h.2 f hf).set g i x⟩
  obtain ⟨h1, h2⟩ := h.1
  refine ⟨h1, ?_⟩
  rcases h2 with h2 | ⟨g', cap, cur', hv, hb, hh, r⟩
  · exact .inl h2
  · refine .inr ⟨g', cap, cur', hv, hb, (heap_setCell_other _ _ _ _ ?_).trans hh, r⟩
    intro e
    have e' : g' = g := e
    subst e'
    rw [hg] at hh
    simp at hh

/-- one frame's body -/
theorem FAny.at {w : World} {base n c : Nat} {a : Option Addr} {G : List FrV} (h : FAny w base (.slice a n c) G) (k : Nat) (hk : k < n) :
    ∃ b ba bc, a = some ⟨b, 0, none⟩ ∧ w.cell? ⟨b, k * 2 + 1, none⟩ = some (.slice ba (G.getD k fr0).2.1.length bc) ∧ Any8 w base (.slice ba (G.getD k fr0).2.1.length bc) (G.getD k fr0).2.1.length := by
  obtain ⟨⟨hl, h1⟩, h2⟩ := h
  rcases h1 with ⟨hv, h0⟩ | ⟨g, cap, cur, hv, hg, hh, hnc, hcm, hcs, ht⟩
  · simp only [Value.slice.injEq] at hv
    omega
  · simp only [Value.slice.injEq] at hv
    obtain ⟨rfl, rfl, rfl⟩ := hv
    obtain ⟨f1, f2⟩ := flatG_get G k hk
    have hcell : w.cell? ⟨g, k * 2 + 1, none⟩ = some (G.getD k fr0).2.2 := by
      have h1 : cur.toList[k * 2 + 1]? = some (G.getD k fr0).2.2 := by
        rw [← f2, ← ht, List.getElem?_take, if_pos (by omega)]
      simp only [World.cell?, hh, Option.isSome_none, Bool.false_eq_true, if_false]
      rw [← Array.getElem?_toList]
      exact h1
    have hA := h2 _ (getD_mem G k hk)
    obtain ⟨l, hll, ho⟩ := hA
    obtain ⟨ba, bc, e, _⟩ := own8_form ho
    rw [hll] at e
    rw [e] at hcell ho
    exact ⟨g, ba, bc, rfl, hcell, l, hll, ho⟩

theorem xor_ff (c : B8) : Go.bits .xor .u8 (ub c) 255 = ub (c ^^^ 255#8) := by
  rw [show (255 : Int) = ub 255#8 from rfl, bits_xor_bb]

/-- a frame's own block stays where a byte is put down elsewhere -/
theorem frame_stays {w : World} {p g i : Nat} {C cur : Array Value} {v : Value} (h : w.heap[p]? = some (.cells C 34 (0, 0))) (hg : w.heap[g]? = some (.cells cur 5 (0, 0))) :
    (w.setCell ⟨g, i, none⟩ v).heap[p]? = some (.cells C 34 (0, 0)) := by
  refine (heap_setCell_other _ _ _ _ ?_).trans h
  intro e
  have e' : p = g := e
  subst e'
  rw [h] at hg
  simp at hg
end Go.Proofs.Ytlfeahalgolbgaa
