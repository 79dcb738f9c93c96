/-
  Happenings that came in: a nil slice has no room.
-/
import Derived.Test.YtjfgjcoehahlcaaOpen
namespace Go.Proofs.Ytjfgjcoehahlcaa
open Go.ChangeShapes Go.WideShapes Go.ChangeAt Go.RowKit
set_option linter.unusedVariables false

theorem haps_nil {H : Type} {enc : TypeId × Value → H} {W : World} {a : Option Addr} {len cap : Nat} {d : DataW H} {p : List MemPlace}
    (ht : DataW.Trod enc Try.prog W 0 (fun _ => true) true 24 (.slice a len cap) d p) : a = none → cap = 0 := by
  obtain ⟨fuel, hf⟩ := ht
  rcases Go.Deep.open_slice Try.underlying24 hf with ⟨hcs, _⟩ | ⟨x, l', c', m, n, D, Pl, hcs, _⟩
  · simp [Value.cells] at hcs
    exact fun _ => hcs.2.2
  · simp [Value.cells] at hcs
    intro h
    rw [hcs.1] at h
    cases h
end Go.Proofs.Ytjfgjcoehahlcaa
