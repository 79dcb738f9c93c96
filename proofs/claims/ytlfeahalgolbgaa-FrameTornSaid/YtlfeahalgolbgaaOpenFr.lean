/-
  An argument of frames.
-/
import Derived.Test.YtlfeahalgolbgaaOpen
import Derived.Test.YtlfeahalgolbgaaFRow
import Derived.Deep.Slices
import Derived.ChangeSame
namespace Go.Proofs.Ytlfeahalgolbgaa
open Go.ChangeShapes Go.WideShapes Go.ChangeAt Go.RowKit
set_option linter.unusedVariables false

/-- a slice's value reads as bytes, how many ever -/
def IsRowW (w : World) (v : Value) (l : List B8) : Prop :=
  ∃ a c, v = .slice a l.length c ∧ l.length ≤ c ∧ (0 < l.length → ∃ b off, a = some ⟨b, off, none⟩ ∧ ∀ i, i < l.length → w.cell? ⟨b, off + i, none⟩ = some (.int .u8 (ub (l.getD i 0#8))))

def FRowW (w : World) (a : Option Addr) (n : Nat) (G : List FrV) : Prop :=
  n = G.length ∧ n ≤ 281474976710656 ∧ (∀ g ∈ G, IsRowW w g.2.2 g.2.1) ∧
  (0 < n → ∃ b o, a = some ⟨b, o, none⟩ ∧ ∀ i, i < n → w.cell? ⟨b, o + i * 2, none⟩ = some (.int .u8 (ub (G.getD i fr0).1)) ∧ w.cell? ⟨b, o + i * 2 + 1, none⟩ = some (G.getD i fr0).2.2)

theorem FRowW.row {w : World} {a : Option Addr} {n : Nat} {G : List FrV} (h : FRowW w a n G) (hb : ∀ g ∈ G, g.2.1.length ≤ 281474976710656) : FRow w a n G := by
  obtain ⟨h1, h2, h3, h4⟩ := h
  refine ⟨h1, h2, fun g hg => ?_, h4⟩
  obtain ⟨a, c, e, hl, hr⟩ := h3 g hg
  exact ⟨a, c, e, hl, rfl, hb g hg, hr⟩

theorem FRowW.at {w : World} {a : Option Addr} {n : Nat} {G : List FrV} (h : FRowW w a n G) (i : Nat) (hi : i < n) :
    ∃ b o ba bc, a = some ⟨b, o, none⟩ ∧ w.cell? ⟨b, o + i * 2, none⟩ = some (.int .u8 (ub (G.getD i fr0).1)) ∧ w.cell? ⟨b, o + i * 2 + 1, none⟩ = some (.slice ba (G.getD i fr0).2.1.length bc) := by
  obtain ⟨h1, h2, h3, h4⟩ := h
  obtain ⟨b, o, ha, hc⟩ := h4 (by omega)
  obtain ⟨c1, c2⟩ := hc i hi
  obtain ⟨ba, bc, e, hl, hr⟩ := h3 _ (getD_mem G i (by omega))
  rw [e] at c2
  exact ⟨b, o, ba, bc, ha, c1, c2⟩

theorem FRowW.below {w w' : World} {a : Option Addr} {n : Nat} {G : List FrV} (h : FRowW w a n G) (hb : Below w.heap.size w w') : FRowW w' a n G := by
  obtain ⟨h1, h2, h3, h4⟩ := h
  refine ⟨h1, h2, fun g hg => ?_, fun h0 => ?_⟩
  · obtain ⟨a, c, e, hl, hr⟩ := h3 g hg
    refine ⟨a, c, e, hl, fun h0 => ?_⟩
    obtain ⟨b, o, ha, hc⟩ := hr h0
    exact ⟨b, o, ha, fun i hi => (hb.cell (cell_lt (hc i hi))).trans (hc i hi)⟩
  · obtain ⟨b, o, ha, hc⟩ := h4 h0
    refine ⟨b, o, ha, fun i hi => ?_⟩
    obtain ⟨c1, c2⟩ := hc i hi
    exact ⟨(hb.cell (cell_lt c1)).trans c1, (hb.cell (cell_lt c2)).trans c2⟩

theorem Try.cells34 : Try.prog.cellsOf 34 = 2 := by kernel_rfl
theorem Try.cells22 : Try.prog.cellsOf 22 = 1 := by kernel_rfl
theorem Try.bytes34 : Try.prog.bytesOf 34 = 32 := by kernel_rfl

/-- bytes in a cell -/
theorem open_body {H : Type} {enc : TypeId × Value → H} {W : World} {n : Nat} {v : Value} {x : DataW H × List MemPlace}
    (hf : DataW.trod enc Try.prog W 0 (fun _ => true) true n 22 [v] = some x) : ∃ l : List B8, IsRowW W v l := by
  rcases open_ints Try.underlying22 Try.underlying5 Try.cells5 hf with ⟨hcs, _⟩ | ⟨y, l', c', zs, hcs, _, hl, hm, hz, hx, hcell, hwz⟩
  · simp at hcs
    exact ⟨[], none, 0, hcs, by simp, fun h => absurd h (by simp)⟩
  · simp at hcs
    subst hcs
    rw [if_pos rfl] at hz
    obtain ⟨bs, rfl⟩ := bytes_of zs hwz
    rw [List.length_map] at hz hcell
    have hlen : (bs.take l').length = l' := by rw [List.length_take]; omega
    refine ⟨bs.take l', some y, c', by rw [hlen], by omega, fun h0 => ?_⟩
    rw [hlen] at h0 ⊢
    obtain ⟨b, o, spot⟩ := y
    have hc0 := hcell 0 (by omega)
    have hspot : spot = none := by simpa [Addr.add] using World.cell?_spot hc0
    subst hspot
    refine ⟨b, o, rfl, fun i hi => ?_⟩
    have hc := hcell i (by omega)
    rw [addr_add] at hc
    rw [hc]
    have h1 : i < bs.length := by omega
    simp only [List.getD_eq_getElem?_getD, List.getElem?_map, List.getElem?_eq_getElem h1, Option.map_some, Option.getD_some, List.getElem?_take, if_pos hi]

/-- a slice of frames that came in -/
theorem open_frames {H : Type} {enc : TypeId × Value → H} {W : World} {a : Option Addr} {len cap : Nat} {d : DataW H} {p : List MemPlace}
    (ht : DataW.Trod enc Try.prog W 0 (fun _ => true) true 48 (.slice a len cap) d p)
    (hsz : ∀ (elems spare : List (DataW H)), d = .slice elems spare → (elems.length + spare.length) * Try.prog.bytesOf 34 ≤ reachBytes) :
    ∃ G : List FrV, FRowW W a len G ∧ len ≤ cap ∧ cap ≤ 140737488351232 := by
  obtain ⟨fuel, hf⟩ := ht
  rcases Go.Deep.open_slice Try.underlying48 hf with ⟨hcs, _⟩ | ⟨x, l', c', m, n, D, Pl, hcs, _, hl, hm, hmm, hx, hel⟩
  · simp [Value.cells] at hcs
    obtain ⟨rfl, rfl, rfl⟩ := hcs
    exact ⟨[], ⟨rfl, by omega, (fun g hg => by cases hg), fun h => absurd h (by omega)⟩, by omega, by omega⟩
  · simp [Value.cells] at hcs
    obtain ⟨rfl, rfl, rfl⟩ := hcs
    rw [if_pos rfl] at hmm
    subst hmm
    simp only [Prod.mk.injEq] at hx
    have hs := hsz _ _ hx.1
    rw [Try.bytes34] at hs
    simp only [List.length_map, List.length_range, reachBytes] at hs
    have hone : ∀ i, i < len → ∃ g : FrV, W.cell? (x.add (i * 2)) = some (.int .u8 (ub g.1)) ∧ W.cell? ((x.add (i * 2)).add 1) = some g.2.2 ∧ IsRowW W g.2.2 g.2.1 := by
      intro i hi
      obtain ⟨cs', hc1, hc2⟩ := hel i (by omega)
      rw [Try.cells34] at hc1
      obtain ⟨_, hlen, hcell⟩ := World.cells?_some hc1
      obtain ⟨y0, y1, k, _, _, e0, e1⟩ := trod_struct2 Try.underlying34 hc2
      match cs', hlen with
      | [c0, c1], _ =>
        obtain ⟨z, hz, _, hwz⟩ := DataW.trod_int Try.underlying5 (by rw [Try.cells5] at e0; simpa using e0)
        rw [Try.cells22] at e1
        obtain ⟨l, hl'⟩ := open_body (by simpa using e1)
        obtain ⟨b8, hb8⟩ := byte_of hwz
        simp only [List.cons.injEq, and_true] at hz
        subst hz
        subst hb8
        refine ⟨(b8, l, c1), ?_, ?_, hl'⟩
        · have := hcell 0 (by omega)
          simpa [Addr.add] using this
        · have := hcell 1 (by omega)
          simpa using this
    obtain ⟨g, hg⟩ := Go.Deep.choose_lt (α := FrV) hone
    refine ⟨(List.range len).map g, ⟨by simp, by omega, fun f hf => ?_, fun h0 => ?_⟩, hl, by omega⟩
    · obtain ⟨i, hi, rfl⟩ := List.mem_map.1 hf
      exact (hg i (List.mem_range.1 hi)).2.2
    · obtain ⟨b, o, spot⟩ := x
      have hc0 := (hg 0 (by omega)).1
      have hspot : spot = none := by simpa [Addr.add] using World.cell?_spot hc0
      subst hspot
      refine ⟨b, o, rfl, fun i hi => ?_⟩
      obtain ⟨c1, c2, _⟩ := hg i hi
      rw [addr_add] at c1 c2
      rw [addr_add] at c2
      have e : ((List.range len).map g).getD i fr0 = g i := by simp [List.getD_eq_getElem?_getD, hi]
      rw [e]
      exact ⟨c1, c2⟩
end Go.Proofs.Ytlfeahalgolbgaa
