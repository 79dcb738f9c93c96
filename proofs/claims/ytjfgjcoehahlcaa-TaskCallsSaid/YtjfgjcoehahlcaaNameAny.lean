/-
  The contracts of Name, the program's and the document's: any state.
-/
import Derived.Test.YtjfgjcoehahlcaaWalkE
namespace Go.Proofs.Ytjfgjcoehahlcaa
open Go.RowKit
set_option linter.unusedVariables false

def nameOf (s : Int) : Value :=
  if s = 1 then .string { data := #[115, 101, 116, 117, 112] } else if s = 2 then .string { data := #[114, 117, 110, 110, 105, 110, 103] } else if s = 3 then .string { data := #[115, 116, 111, 112, 112, 105, 110, 103] }
  else if s = 4 then .string { data := #[100, 101, 97, 100] } else .string { data := #[] }

theorem nameOf_out {s : Int} (h : s < 1 ∨ 4 < s) : nameOf s = .string { data := #[] } := by
  unfold nameOf
  rw [if_neg (by omega), if_neg (by omega), if_neg (by omega), if_neg (by omega)]

set_option maxRecDepth 100000 in
set_option maxHeartbeats 1600000 in
theorem name_any (s : Int) (w : World) : Calls Try.prog 12 #[.int .i64 s] w fun e w' => e = .returned (nameOf s) ∧ Below w.heap.size w w' := by
  by_cases h : s < 0 ∨ 4 < s
  · rw [nameOf_out (by omega)]
    rcases h with h | h
    · go_enter Try.func12, Try.ntmps12
      go_wp2_with fail
      go_ret
      exact ⟨rfl, below_alloc w _⟩
    · have h0 : 0 ≤ s := by omega
      have h5 : 5 ≤ s := by omega
      go_enter Try.func12, Try.ntmps12
      go_wp2_with fail
      go_ret
      exact ⟨rfl, below_alloc w _⟩
  · have hs : s = 0 ∨ s = 1 ∨ s = 2 ∨ s = 3 ∨ s = 4 := by omega
    clear h
    rcases hs with rfl | rfl | rfl | rfl | rfl
    all_goals
      go_enter Try.func12, Try.ntmps12
      go_wp2_with fail
      go_ret
      exact ⟨rfl, below_alloc w _⟩

set_option maxRecDepth 100000 in
set_option maxHeartbeats 1600000 in
theorem rname_any (s : Int) (w : World) : Calls Try.prog 17 #[.int .i64 s] w fun e w' => e = .returned (nameOf s) ∧ Below w.heap.size w w' := by
  by_cases h : s < 1 ∨ 4 < s
  · rw [nameOf_out h]
    rcases h with h | h
    · go_enter Try.func17, Try.ntmps17
      go_wp2_with fail
      go_ret
      exact ⟨rfl, Below.refl _ _⟩
    · have h0 : 1 ≤ s := by omega
      go_enter Try.func17, Try.ntmps17
      go_wp2_with fail
      go_ret
      exact ⟨rfl, Below.refl _ _⟩
  · have hs : s = 1 ∨ s = 2 ∨ s = 3 ∨ s = 4 := by omega
    clear h
    rcases hs with rfl | rfl | rfl | rfl
    all_goals
      go_enter Try.func17, Try.ntmps17
      go_wp2_with fail
      go_ret
      exact ⟨rfl, below_alloc w _⟩
end Go.Proofs.Ytjfgjcoehahlcaa
