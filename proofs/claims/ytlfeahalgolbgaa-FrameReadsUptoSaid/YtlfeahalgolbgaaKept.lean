/-
  The contract of Kept.
-/
import Derived.Test.YtlfeahalgolbgaaKit
namespace Go.Proofs.Ytlfeahalgolbgaa
open Go.RowKit
set_option linter.unusedVariables false

theorem getD_left (l m : List B8) (k : Nat) (h : k < l.length) : (l ++ m).getD k 0#8 = l.getD k 0#8 := by
  simp [List.getD_eq_getElem?_getD, List.getElem?_append, h]

theorem pad_val (l : List B8) (k : Nat) (h1 : l.length ≤ k) (h2 : k < l.length + 5) : (l ++ pad 5).getD k 0#8 = 222#8 := by
  have : ∀ j : Fin 5, (pad 5).getD j.val 0#8 = 222#8 := by decide
  have h3 := this ⟨k - l.length, by omega⟩
  rw [← h3]
  simp only [List.getD_eq_getElem?_getD, List.getElem?_append]
  rw [if_neg (by omega)]

set_option maxRecDepth 100000 in
set_option maxHeartbeats 400000 in
theorem kept_true (g n : Nat) (a' : Option Addr) (c' : Nat) (l : List B8) (w : World) (h1 : Bytes w g (l ++ pad 5)) (h2 : Row8 w a' n l) :
    Calls Try.prog 23 #[.slice (some ⟨g, 0, none⟩) n (n + 5), .slice a' n c'] w fun e w' => e = .returned (.bool true) ∧ Below w.heap.size w w' := by
  have hm := h2.2.1
  have HL := Lib.hid h2.1
  have H1 := Lib.hid h1
  have H2 := Lib.hid h2
  clear h1 h2
  go_enter Try.func23, Try.ntmps23
  go_wp2
  go_loopw [6] (fun i wr => ∃ k : Nat, k ≤ n ∧ i = .int .i64 k ∧ Below w.heap.size w wr) (fun i _ => n - (intOf i).toNat)
  case atStart => exact ⟨0, by omega, rfl, Below.refl _ _⟩
  case round =>
    obtain ⟨k, hk, rfl, hb⟩ := hrel
    by_cases hlt : k < n
    · obtain ⟨b', o', rfl, hc2⟩ := (H2.out.below hb).cellAt k hlt
      have hc1 := ((H1.out.below hb).cell k (by rw [List.length_append, ← HL.out]; omega)).1
      rw [getD_left _ _ _ (by rw [← HL.out]; exact hlt)] at hc1
      generalize l.getD k 0#8 = x at *
      have i1 : (0 : Int) ≤ (k : Int) := by omega
      have i2 : (k : Int) < (n : Int) := by omega
      have i3 : (k : Int) < (n : Int) + 5 := by omega
      go_wp2
      go_quiet (fail)
      go_wp2
      go_roundw
      case rel => exact ⟨k + 1, by omega, by go_num, below_drewN hb _⟩
      case measure => simp [intOf]; omega
    · go_wp2
      go_loopw [7] (fun i wr => ∃ m : Nat, n ≤ m ∧ m ≤ n + 5 ∧ i = .int .i64 m ∧ Below w.heap.size w wr) (fun i _ => n + 5 - (intOf i).toNat)
      case atStart => exact ⟨n, by omega, by omega, rfl, hb⟩
      case round =>
        clear hb
        obtain ⟨m, h1, h2, rfl, hb⟩ := hrel
        by_cases hlt2 : m < n + 5
        · have hc1 := ((H1.out.below hb).cell m (by rw [List.length_append, ← HL.out]; simp [pad]; omega)).1
          rw [pad_val _ _ (by rw [← HL.out]; exact h1) (by rw [← HL.out]; exact hlt2), show ub 222#8 = 222 from rfl] at hc1
          go_wp2
          go_roundw
          case rel => exact ⟨m + 1, by omega, by omega, by go_num, hb⟩
          case measure => simp [intOf]; omega
        · go_wp2
          go_ret
          exact ⟨rfl, hb⟩
end Go.Proofs.Ytlfeahalgolbgaa
