/-
  What the arguments of a law come to: a life, happenings.
-/
import Derived.Test.YtjfgjcoehahlcaaRows
import Derived.Test.YtjfgjcoehahlcaaHRow
import Derived.WalkKit
import Derived.ProofKit
import Derived.OpenShut
import Derived.ShutString
import Derived.ChangeOld
import Derived.Below
import Derived.SizedLaws
import Derived.Deep.Slices
import Derived.Deep.Strs
import Derived.ChangeSame
namespace Go.Proofs.Ytjfgjcoehahlcaa
open Go.ChangeShapes Go.WideShapes Go.ChangeAt Go.RowKit
set_option linter.unusedVariables false

theorem Try.own : ownKnob Try.prog.godebug = none := by kernel_rfl
theorem Try.laidOut : laidOutB Try.prog = true := by kernel_rfl
theorem Try.cells3 : Try.prog.cellsOf 3 = 1 := by kernel_rfl
theorem Try.cells23 : Try.prog.cellsOf 23 = 3 := by kernel_rfl
theorem Try.cells31 : Try.prog.cellsOf 31 = 3 := by kernel_rfl
theorem Try.bytes31 : Try.prog.bytesOf 31 = 24 := by kernel_rfl

instance : Inhabited Hp := ⟨hp0⟩

/-- three numbers of a struct -/
theorem open_three {H : Type} {enc : TypeId × Value → H} {W : World} {n : Nat} {cs : List Value} {x : DataW H × List MemPlace} {t : TypeId} {f0 f1 f2 : Field} (ht : Try.prog.underlying t = some (.struct #[f0, f1, f2]))
    (e0 : f0.type = 3 ∧ f0.offset = 0) (e1 : f1.type = 3 ∧ f1.offset = 1) (e2 : f2.type = 3 ∧ f2.offset = 2) (hc : Try.prog.cellsOf t = 3)
    (hf : DataW.trod enc Try.prog W 0 (fun _ => true) true n t cs = some x) : ∃ a b c : Int, cs = [.int .i64 a, .int .i64 b, .int .i64 c] := by
  obtain ⟨y0, y1, y2, k, _, hlen, h0, h1, h2⟩ := Go.Deep.trod_struct3 ht hf
  rw [hc] at hlen
  rw [e0.1, e0.2, Try.cells3] at h0
  rw [e1.1, e1.2, Try.cells3] at h1
  rw [e2.1, e2.2, Try.cells3] at h2
  match cs, hlen with
  | [c0, c1, c2], _ =>
    obtain ⟨a, ha, _, _⟩ := DataW.trod_int Try.underlying3 h0
    obtain ⟨b, hb, _, _⟩ := DataW.trod_int Try.underlying3 h1
    obtain ⟨c, hc', _, _⟩ := DataW.trod_int Try.underlying3 h2
    simp at ha hb hc'
    exact ⟨a, b, c, by rw [ha, hb, hc']⟩

/-- a life that came in -/
theorem open_life {H : Type} {enc : TypeId × Value → H} {W : World} {v : Value} {d : DataW H} {p : List MemPlace} (ht : DataW.Trod enc Try.prog W 0 (fun _ => true) true 23 v d p)
    (hv : ∃ cs, v = .agg cs ∧ cs.size = Try.prog.cellsOf 23) : ∃ l : Lf, v = lv l := by
  obtain ⟨cs, rfl, _⟩ := hv
  obtain ⟨fuel, hf⟩ := ht
  obtain ⟨a, b, c, e⟩ := open_three Try.underlying23 ⟨rfl, rfl⟩ ⟨rfl, rfl⟩ ⟨rfl, rfl⟩ Try.cells23 hf
  refine ⟨⟨a, b, c⟩, ?_⟩
  have e' : cs.toList = [.int .i64 a, .int .i64 b, .int .i64 c] := e
  unfold lv
  congr 1
  apply Array.toList_inj.1
  rw [e']

/-- happenings that came in -/
theorem open_haps {H : Type} {enc : TypeId × Value → H} {W : World} {a : Option Addr} {len cap : Nat} {d : DataW H} {p : List MemPlace}
    (ht : DataW.Trod enc Try.prog W 0 (fun _ => true) true 24 (.slice a len cap) d p)
    (hsz : ∀ (elems spare : List (DataW H)), d = .slice elems spare → (elems.length + spare.length) * Try.prog.bytesOf 31 ≤ reachBytes) :
    ∃ G : List Hp, HRow W a len G ∧ len ≤ cap ∧ cap ≤ 140737488351232 := by
  obtain ⟨fuel, hf⟩ := ht
  rcases Go.Deep.open_slice Try.underlying24 hf with ⟨hcs, _⟩ | ⟨x, l', c', m, n, D, Pl, hcs, _, hl, hm, hmm, hx, hel⟩
  · simp [Value.cells] at hcs
    obtain ⟨rfl, rfl, rfl⟩ := hcs
    exact ⟨[], ⟨rfl, fun h => absurd h (by omega)⟩, by omega, by omega⟩
  · simp [Value.cells] at hcs
    obtain ⟨rfl, rfl, rfl⟩ := hcs
    rw [if_pos rfl] at hmm
    subst hmm
    simp only [Prod.mk.injEq] at hx
    have hs := hsz _ _ hx.1
    rw [Try.bytes31] at hs
    simp only [List.length_map, List.length_range, reachBytes] at hs
    have hone : ∀ i, i < len → ∃ g : Hp, W.cell? (x.add (i * 3)) = some (.int .i64 g.k) ∧ W.cell? ((x.add (i * 3)).add 1) = some (.int .i64 g.n) ∧ W.cell? ((x.add (i * 3)).add 2) = some (.int .i64 g.c) := by
      intro i hi
      obtain ⟨cs', hc1, hc2⟩ := hel i (by omega)
      rw [Try.cells31] at hc1
      obtain ⟨_, hlen, hcell⟩ := World.cells?_some hc1
      obtain ⟨k, n', c, rfl⟩ := open_three Try.underlying31 ⟨rfl, rfl⟩ ⟨rfl, rfl⟩ ⟨rfl, rfl⟩ Try.cells31 hc2
      refine ⟨⟨k, n', c⟩, ?_, ?_, ?_⟩
      · have := hcell 0 (by omega)
        simpa [Addr.add] using this
      · have := hcell 1 (by omega)
        simpa using this
      · have := hcell 2 (by omega)
        simpa using this
    obtain ⟨g, hg⟩ := Go.Deep.choose_lt (α := Hp) hone
    refine ⟨(List.range len).map g, ⟨by simp, fun h0 => ?_⟩, hl, by omega⟩
    obtain ⟨b, o, spot⟩ := x
    have hc0 := (hg 0 (by omega)).1
    have hspot : spot = none := by simpa [Addr.add] using World.cell?_spot hc0
    subst hspot
    refine ⟨b, o, rfl, fun i hi => ?_⟩
    obtain ⟨c1, c2, c3⟩ := hg i hi
    rw [Addr.add_mid] at c1 c2 c3
    rw [Addr.add_mid] at c2 c3
    have e : ((List.range len).map g).getD i hp0 = g i := by simp [List.getD_eq_getElem?_getD, hi]
    rw [e]
    exact ⟨c1, c2, c3⟩
end Go.Proofs.Ytjfgjcoehahlcaa
