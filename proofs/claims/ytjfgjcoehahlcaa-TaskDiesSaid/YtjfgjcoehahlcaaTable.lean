/-
  The contract of table.
-/
import Derived.Test.YtjfgjcoehahlcaaWalkE
import Derived.Deep.MidRow
namespace Go.Proofs.Ytjfgjcoehahlcaa
open Go.RowKit
set_option linter.unusedVariables false

/-- the table: who was laid by dead lies at p1, p2, p3 -/
def tabC (p1 p2 p3 : Nat) : Array Value := #[fv 26, fv 27, dv p1, fv 28, dv p2, dv p3, fv 29, fv 27, fv 30, fv 28, dv p2, dv p3, fv 29, dv p1, fv 28, fv 31, dv p2, dv p3, fv 29, fv 29, fv 28, fv 28, fv 28, fv 28]
def old24 : Array Value := #[.nilFunc, .nilFunc, .nilFunc, .nilFunc, .nilFunc, .nilFunc, .nilFunc, .nilFunc, .nilFunc, .nilFunc, .nilFunc, .nilFunc, .nilFunc, .nilFunc, .nilFunc, .nilFunc, .nilFunc, .nilFunc, .nilFunc, .nilFunc, .nilFunc, .nilFunc, .nilFunc, .nilFunc]

theorem Try.size45 : (Try.prog.info? 45).map (·.size) = some 24 := by kernel_rfl
theorem Try.und45 : Try.prog.underlying 45 = some (.array 4 44) := by kernel_rfl

abbrev w4 (w : World) : World := (((w.alloc (.cells old24 45)).alloc (.cells #[.int .i64 256] 3)).alloc (.cells #[.int .i64 257] 3)).alloc (.cells #[.int .i64 258] 3)

theorem alloc_block (w : World) (o : Obj) : (w.alloc o).heap[w.heap.size]? = some o := by
  show (w.heap.push o)[w.heap.size]? = some o
  simp

theorem w4_old (w : World) : (w4 w).heap[w.heap.size]? = some (.cells old24 45 (0, 0)) :=
  ((below3 (w.alloc (.cells old24 45)) _ _ _).block w.heap.size (by simp)).trans (alloc_block w _)

theorem w4_1 (w : World) : (w4 w).heap[w.heap.size + 1]? = some (.cells #[.int .i64 256] 3 (0, 0)) := by
  have h := alloc_block (w.alloc (.cells old24 45)) (.cells #[.int .i64 256] 3)
  rw [show (w.alloc (.cells old24 45)).heap.size = w.heap.size + 1 by simp] at h
  refine ((below_alloc _ _).block (w.heap.size + 1) (by simp)).trans (((below_alloc _ _).block (w.heap.size + 1) (by simp)).trans h)

theorem w4_2 (w : World) : (w4 w).heap[w.heap.size + 1 + 1]? = some (.cells #[.int .i64 257] 3 (0, 0)) := by
  have h := alloc_block ((w.alloc (.cells old24 45)).alloc (.cells #[.int .i64 256] 3)) (.cells #[.int .i64 257] 3)
  rw [show ((w.alloc (.cells old24 45)).alloc (.cells #[.int .i64 256] 3)).heap.size = w.heap.size + 1 + 1 by simp] at h
  exact ((below_alloc _ _).block (w.heap.size + 1 + 1) (by simp)).trans h

theorem w4_3 (w : World) : (w4 w).heap[w.heap.size + 1 + 1 + 1]? = some (.cells #[.int .i64 258] 3 (0, 0)) := by
  have h := alloc_block (((w.alloc (.cells old24 45)).alloc (.cells #[.int .i64 256] 3)).alloc (.cells #[.int .i64 257] 3)) (.cells #[.int .i64 258] 3)
  rwa [show (((w.alloc (.cells old24 45)).alloc (.cells #[.int .i64 256] 3)).alloc (.cells #[.int .i64 257] 3)).heap.size = w.heap.size + 1 + 1 + 1 by simp] at h

theorem row_one {w : World} {g : Nat} {x : Value} {cs : Array Value} {k : Nat} (h : w.heap[k]? = some (.cells #[x] 3 (0, 0))) (hk : k ≠ g) : (w.setRow g cs).cell? ⟨k, 0, none⟩ = some x := by
  rw [cell_of_row _ k 0 #[x] 3 (0, 0) ((setRow_other w g k cs hk).trans h)]
  rfl

def TabPost (w : World) (e : Ending) (w' : World) : Prop := ∃ p1 p2 p3, e = .returned (.agg (tabC p1 p2 p3)) ∧
    w'.cell? ⟨p1, 0, none⟩ = some (.int .i64 256) ∧ w'.cell? ⟨p2, 0, none⟩ = some (.int .i64 257) ∧ w'.cell? ⟨p3, 0, none⟩ = some (.int .i64 258) ∧ Below w.heap.size w w'

set_option maxRecDepth 100000 in
set_option maxHeartbeats 1600000 in
theorem table_any (w : World) : Calls Try.prog 22 #[] w (TabPost w) := by
  have HO := Lib.hid (w4_old w)
  go_enter Try.func22, Try.ntmps22
  go_wp2_with (first
    | (go_at_call 25; refine (dead_any _ _).mono ?_; rintro e w' ⟨rfl, rfl⟩)
    | ((with_reducible show wpList _ _ _ (Oper.mk none (.store 45 _ _) _ _ _ _ :: _) _ _); refine wpList_store_row rfl 45 (.tmp 0) (.tmp 19) rfl w.heap.size (tabC (w.heap.size + 1) (w.heap.size + 1 + 1) (w.heap.size + 1 + 1 + 1)) rfl rfl 45 old24 HO.out ?c2 ?c3 ?c4 ?_))
  case c2 => rw [Try.size45]; rfl
  case c3 => rfl
  case c4 => simp [tabC, fv, dv, Value.oneCell']
  refine bodyPost_ret (v := .agg (tabC (w.heap.size + 1) (w.heap.size + 1 + 1) (w.heap.size + 1 + 1 + 1))) ?_ rfl ⟨_, _, _, rfl, row_one (w4_1 w) (by omega), row_one (w4_2 w) (by omega), row_one (w4_3 w) (by omega), ?_⟩
  · exact results_cell_row (p := 0) (ty := 45) Try.results22 _ _ w.heap.size 45 (tabC (w.heap.size + 1) (w.heap.size + 1 + 1) (w.heap.size + 1 + 1 + 1)) (0, 0) _ rfl (setRow_heap (w4 w) w.heap.size old24 _ 45 _ HO.out) Try.und45 rfl (by rw [Try.size45]; rfl)
  · exact ((below_alloc w _).trans ((below3 (w.alloc (.cells old24 45)) _ _ _).mono (by simp))).trans ⟨rfl, rfl, rfl, by simp, fun k hk => setRow_other (w4 w) w.heap.size k _ (by omega)⟩
end Go.Proofs.Ytjfgjcoehahlcaa
