/-
  The contracts of SameBytes (it only draws) and of the law's sameFrames.
-/
import Derived.Test.YtlfeahalgolbgaaPutWalk
namespace Go.Proofs.Ytlfeahalgolbgaa
open Go.RowKit
set_option linter.unusedVariables false

theorem Row8.drew {w : World} {a : Option Addr} {n : Nat} {l : List B8} (h : Row8 w a n l) (m : Nat) : Row8 (w.drewN m) a n l := h.below (below_drewN (Below.refl _ _) m)

theorem drewN_add (w : World) (m k : Nat) : (w.drewN m).drewN k = w.drewN (m + k) := by
  simp [World.drewN, Nat.add_assoc]

set_option maxRecDepth 100000 in
set_option maxHeartbeats 400000 in
theorem same_drew (a : Option Addr) (n c : Nat) (a' : Option Addr) (c' : Nat) (l : List B8) (w : World) (h1 : Row8 w a n l) (h2 : Row8 w a' n l) :
    Calls Try.prog 22 #[.slice a n c, .slice a' n c'] w fun e w' => e = .returned (.bool true) ∧ ∃ m, w' = w.drewN m := by
  have hm := h1.2.1
  have H1 := Lib.hid h1
  have H2 := Lib.hid h2
  clear h1 h2
  go_enter Try.func22, Try.ntmps22
  go_wp2
  go_loopw [5] (fun i wr => ∃ k m : Nat, k ≤ n ∧ i = .int .i64 k ∧ wr = w.drewN m) (fun i _ => n - (intOf i).toNat)
  case atStart => exact ⟨0, 0, by omega, rfl, rfl⟩
  case round =>
    obtain ⟨k, m, hk, rfl, rfl⟩ := hrel
    by_cases hlt : k < n
    · obtain ⟨b, o, rfl, hc1⟩ := (H1.out.drew m).cellAt k hlt
      obtain ⟨b', o', rfl, hc2⟩ := (H2.out.drew m).cellAt k hlt
      generalize l.getD k 0#8 = x at *
      have i1 : (0 : Int) ≤ (k : Int) := by omega
      have i2 : (k : Int) < (n : Int) := by omega
      have HW := Lib.hid (drewN_add w m)
      generalize w.drewN m = wr at *
      go_wp2
      go_quiet (fail)
      go_wp2
      go_roundw
      case rel => exact ⟨k + 1, _, by omega, by go_num, HW.out _⟩
      case measure => simp [intOf]; omega
    · obtain rfl : k = n := by omega
      go_wp2
      go_ret
      exact ⟨rfl, m, rfl⟩

/-- the frames are the same: their values may differ -/
def SameF (G G' : List FrV) : Prop := frs G = frs G'

theorem same_at {G G' : List FrV} (h : frs G = frs G') (k : Nat) (hk : k < G.length) : (G.getD k fr0).1 = (G'.getD k fr0).1 ∧ (G.getD k fr0).2.1 = (G'.getD k fr0).2.1 := by
  have hl : G.length = G'.length := by rw [← frs_length, h, frs_length]
  have h1 : (frs G)[k]? = (frs G')[k]? := by rw [h]
  simp only [frs, List.getElem?_map, List.getElem?_eq_getElem hk, List.getElem?_eq_getElem (show k < G'.length by omega), Option.map_some, Option.some.injEq, Prod.mk.injEq] at h1
  simp only [List.getD_eq_getElem?_getD, List.getElem?_eq_getElem hk, List.getElem?_eq_getElem (show k < G'.length by omega), Option.getD_some]
  exact h1

theorem FRow.drew {w : World} {a : Option Addr} {n : Nat} {G : List FrV} (h : FRow w a n G) (m : Nat) : FRow (w.drewN m) a n G := h.below (below_drewN (Below.refl _ _) m)

set_option maxRecDepth 100000 in
set_option maxHeartbeats 800000 in
theorem sameFrames_true (a : Option Addr) (n c : Nat) (a' : Option Addr) (c' : Nat) (G G' : List FrV) (w : World) (h1 : FRow w a n G) (h2 : FRow w a' n G') (hs : frs G = frs G') :
    Calls Try.prog 31 #[.slice a n c, .slice a' n c'] w fun e w' => e = .returned (.bool true) ∧ ∃ m, w' = w.drewN m := by
  have hm := h1.2.1
  have HL := Lib.hid h1.1
  have H1 := Lib.hid h1
  have H2 := Lib.hid h2
  have HS := Lib.hid hs
  clear h1 h2 hs
  go_enter Try.func31, Try.ntmps31
  go_wp2
  go_loopw [5] (fun i wr => ∃ k m : Nat, k ≤ n ∧ i = .int .i64 k ∧ wr = w.drewN m) (fun i _ => n - (intOf i).toNat)
  case atStart => exact ⟨0, 0, by omega, rfl, rfl⟩
  case round =>
    obtain ⟨k, m, hk, rfl, rfl⟩ := hrel
    by_cases hlt : k < n
    · obtain ⟨b, o, ba, bc, rfl, hc1, hc2, hlc, hrow⟩ := (H1.out.drew m).at k hlt
      obtain ⟨b', o', ba', bc', rfl, hc1', hc2', hlc', hrow'⟩ := (H2.out.drew m).at k hlt
      have hsa := same_at HS.out k (by rw [← HL.out]; exact hlt)
      generalize G.getD k fr0 = g at *
      generalize G'.getD k fr0 = g' at *
      obtain ⟨kd, bd, bv1⟩ := g
      obtain ⟨kd', bd', bv2⟩ := g'
      dsimp only at *
      obtain ⟨rfl, rfl⟩ := hsa
      have i1 : (0 : Int) ≤ (k : Int) := by omega
      have i2 : (k : Int) < (n : Int) := by omega
      have HW := Lib.hid (drewN_add w m)
      have HR := Lib.hid hrow
      have HR' := Lib.hid hrow'
      clear hrow hrow'
      generalize w.drewN m = wr at *
      go_wp2
      go_quiet ((go_at_call 22; refine Calls.quiet_of (same_drew _ _ _ _ _ bd _ (HR.out.drew _) (HR'.out.drew _))))
      go_wp2
      go_roundw
      case rel => exact ⟨k + 1, _, by omega, by go_num, HW.out _⟩
      case measure => simp [intOf]; omega
    · obtain rfl : k = n := by omega
      go_wp2
      go_ret
      exact ⟨rfl, m, rfl⟩
end Go.Proofs.Ytlfeahalgolbgaa
