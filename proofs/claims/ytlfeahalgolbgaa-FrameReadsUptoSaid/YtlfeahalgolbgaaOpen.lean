/-
  What the arguments of a law come to: bytes, words, lists of bytes.
-/
import Derived.Test.YtlfeahalgolbgaaRows
import Derived.Test.YtlfeahalgolbgaaMem
import Derived.WalkKit
import Derived.ProofKit
import Derived.OpenShut
import Derived.ShutString
import Derived.ChangeOld
import Derived.Below
import Derived.SizedLaws
namespace Go.Proofs.Ytlfeahalgolbgaa
open Go.ChangeShapes Go.WideShapes Go.ChangeAt Go.RowKit

theorem Try.own : ownKnob Try.prog.godebug = none := by kernel_rfl
theorem Try.laidOut : laidOutB Try.prog = true := by kernel_rfl
theorem Try.cells5 : Try.prog.cellsOf 5 = 1 := by kernel_rfl
theorem Try.bytes5 : Try.prog.bytesOf 5 = 1 := by kernel_rfl

theorem word_of {n : Int} (h : (Lit.int .u32 n).wf = true) : ∃ s : W32, n = u s := by
  have hb : 0 ≤ n ∧ n < 4294967296 := by
    simp [Lit.wf, IntKind.min, IntKind.max, IntKind.bits, IntKind.signed] at h
    omega
  refine ⟨BitVec.ofNat 32 n.toNat, ?_⟩
  unfold u
  rw [BitVec.toNat_ofNat, Nat.mod_eq_of_lt (by omega)]
  omega

theorem byte_of {n : Int} (h : (Lit.int .u8 n).wf = true) : ∃ c : B8, n = ub c := by
  have hb : 0 ≤ n ∧ n < 256 := by
    simp [Lit.wf, IntKind.min, IntKind.max, IntKind.bits, IntKind.signed] at h
    omega
  refine ⟨BitVec.ofNat 8 n.toNat, ?_⟩
  unfold ub
  rw [BitVec.toNat_ofNat, Nat.mod_eq_of_lt (by omega)]
  omega

theorem bytes_of (zs : List Int) : (∀ n ∈ zs, (Lit.int .u8 n).wf = true) → ∃ l : List B8, zs = l.map ub := by
  induction zs with
  | nil => intro _; exact ⟨[], rfl⟩
  | cons z zs ih =>
    intro h
    obtain ⟨c, hc⟩ := byte_of (h z (by simp))
    obtain ⟨l, hl⟩ := ih (fun n hn => h n (by simp [hn]))
    exact ⟨c :: l, by simp [hc, hl]⟩

/-- a slice of bytes that came in: nil, or a row -/
theorem open_bytes {H : Type} {enc : TypeId × Value → H} {W : World} {a : Option Addr} {len cap : Nat} {d : DataW H} {p : List MemPlace}
    (ht : DataW.Trod enc Try.prog W 0 (fun _ => true) true 22 (.slice a len cap) d p)
    (hsz : ∀ (elems spare : List (DataW H)), d = .slice elems spare → (elems.length + spare.length) * Try.prog.bytesOf 5 ≤ reachBytes) :
    ∃ l : List B8, Row8 W a len l ∧ len ≤ cap ∧ cap ≤ 140737488351232 ∧ (a = none → cap = 0) := by
  obtain ⟨fuel, hf⟩ := ht
  rcases open_ints Try.underlying22 Try.underlying5 Try.cells5 hf with ⟨hcs, _⟩ | ⟨x, l', c', zs, hcs, _, hl, hm, hz, hx, hcell, hwz⟩
  · simp [Value.cells] at hcs
    obtain ⟨rfl, rfl, rfl⟩ := hcs
    exact ⟨[], ⟨rfl, by omega, fun h => absurd h (by omega)⟩, by omega, by omega, fun _ => rfl⟩
  · simp [Value.cells] at hcs
    obtain ⟨rfl, rfl, rfl⟩ := hcs
    rw [if_pos rfl] at hz
    simp only [Prod.mk.injEq] at hx
    have hs := hsz _ _ hx.1
    rw [Try.bytes5] at hs
    simp only [lits, List.length_map, List.length_take, List.length_drop, reachBytes] at hs
    obtain ⟨bs, rfl⟩ := bytes_of zs hwz
    rw [List.length_map] at hz hcell
    refine ⟨bs.take len, ⟨by rw [List.length_take]; omega, by rw [List.length_map] at hs; omega, fun h0 => ?_⟩, hl, by rw [List.length_map] at hs; omega, fun h => by cases h⟩
    obtain ⟨b, o, spot⟩ := x
    have hc0 := hcell 0 (by omega)
    have hspot : spot = none := by simpa [Addr.add] using World.cell?_spot hc0
    subst hspot
    refine ⟨b, o, rfl, fun i hi => ?_⟩
    have hc := hcell i (by omega)
    rw [addr_add] at hc
    rw [hc]
    have h1 : i < bs.length := by omega
    simp only [List.getD_eq_getElem?_getD, List.getElem?_map, List.getElem?_eq_getElem h1, Option.map_some, Option.getD_some, List.getElem?_take, if_pos hi]
end Go.Proofs.Ytlfeahalgolbgaa
