/-
  Rows of bytes, carried on.
-/
import Derived.Test.YtlfeahalgolbgaaWalkF
namespace Go.Proofs.Ytlfeahalgolbgaa
open Go.RowKit
set_option linter.unusedVariables false

theorem ret_b {a b : Bool} (h : a = b) : Ending.returned (.bool a) = .returned (.bool b) := by rw [h]

theorem Row8.below {w w' : World} {a : Option Addr} {n : Nat} {l : List B8} (h : Row8 w a n l) (hb : Below w.heap.size w w') : Row8 w' a n l := by
  obtain ⟨h1, h2, h3⟩ := h
  refine ⟨h1, h2, fun h0 => ?_⟩
  obtain ⟨b, o, ha, hc⟩ := h3 h0
  refine ⟨b, o, ha, fun i hi => ?_⟩
  have hcc := hc i hi
  rw [hb.cell (p := ⟨b, o + i, none⟩) (block_lt_of_cell hcc)]
  exact hcc

theorem below_alloc (w : World) (o : Obj) : Below w.heap.size w (w.alloc o) := (Below.refl _ _).alloc (Nat.le_refl _) _

theorem below_grown_none {w w' : World} (h : w.grownBy w' none) : Below w.heap.size w w' :=
  ⟨h.os, h.tape, h.output, h.size, fun k hk => h.block k hk (by simp)⟩

/-- what is owned from base on, and a world below base as it was -/
theorem below_grown {w0 w w' : World} {v : Value} {base : Nat} {l : List B8} (hb : Below base w0 w) (hg : w.grownBy w' v.ownBlock) (ho : Own8 w base v l) (hs : base ≤ w.heap.size) : Below base w0 w' :=
  hb.grown hg hs (fun k hk => (World.ownsRow.lt ho k hk).1)

theorem own8_made (w : World) (base : Nat) (hb : base ≤ w.heap.size) : Own8 (w.alloc (.cells #[] 5)) base (.slice (some ⟨w.heap.size, 0, none⟩) 0 0) [] :=
  World.ownsRow_made w #[] 0 hb (by decide) rfl

/-- what is owned stays owned where only newer blocks turn -/
theorem Own8.below {w w' : World} {base : Nat} {v : Value} {l : List B8} (h : Own8 w base v l) (hb : Below w.heap.size w w') : Own8 w' base v l := by
  obtain ⟨h1, h2⟩ := h
  refine ⟨h1, ?_⟩
  rcases h2 with h2 | ⟨g, cap, cur, hv, hg, hh, r⟩
  · exact .inl h2
  · refine .inr ⟨g, cap, cur, hv, hg, ?_, r⟩
    rw [hb.block g (by rcases Nat.lt_or_ge g w.heap.size with h' | h'; exact h'; rw [Array.getElem?_eq_none h'] at hh; cases hh)]
    exact hh

theorem Own8.base {w : World} {base base' : Nat} {v : Value} {l : List B8} (h : Own8 w base v l) (hb : base' ≤ base) : Own8 w base' v l := by
  obtain ⟨h1, h2⟩ := h
  refine ⟨h1, ?_⟩
  rcases h2 with h2 | ⟨g, cap, cur, hv, hg, r⟩
  · exact .inl h2
  · exact .inr ⟨g, cap, cur, hv, Nat.le_trans hb hg, r⟩

end Go.Proofs.Ytlfeahalgolbgaa
