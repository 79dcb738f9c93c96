/-
  What Happen's walk leans on: boxes, the table's places.
-/
import Derived.Test.YtjfgjcoehahlcaaTable
import Derived.Test.YtjfgjcoehahlcaaWalkB
import Derived.Test.YtjfgjcoehahlcaaWalkD
import Derived.Deep.RegionHeld3
namespace Go.Proofs.Ytjfgjcoehahlcaa
open Go.RowKit
set_option linter.unusedVariables false

def tabR (s : Nat) (p1 p2 p3 : Nat) : Array Value := match s with
  | 1 => #[fv 26, fv 27, dv p1, fv 28, dv p2, dv p3]
  | 2 => #[fv 29, fv 27, fv 30, fv 28, dv p2, dv p3]
  | 3 => #[fv 29, dv p1, fv 28, fv 31, dv p2, dv p3]
  | _ => #[fv 29, fv 29, fv 28, fv 28, fv 28, fv 28]

theorem idx1 (p1 p2 p3 : Nat) (w : World) : (Instr.index 45 (.agg (tabC p1 p2 p3)) (.int .i64 (IntKind.i64.wrap 0))).run Try.prog w = .ok (.agg (tabR 1 p1 p2 p3)) w := by
  kernel_rfl
theorem idx11 (p1 p2 p3 : Nat) (w : World) : (Instr.index 44 (.agg (tabR 1 p1 p2 p3)) (.int .i64 (IntKind.i64.wrap 0))).run Try.prog w = .ok (.func (.func 26) #[] #[]) w := by
  kernel_rfl

def HapPost (w : World) (x : Lf) (r : Int) (e : Ending) (w' : World) : Prop := e = .returned (.tuple #[lv x, .int .i64 r]) ∧ Below w.heap.size w w'

def Box (w : World) (b : Nat) (x y z : Value) : Prop := w.cell? ⟨b, 0, none⟩ = some x ∧ w.cell? ⟨b, 1, none⟩ = some y ∧ w.cell? ⟨b, 2, none⟩ = some z

theorem box_row {w : World} {b : Nat} {x y z : Value} {t : TypeId} {fr : Nat × Nat} (h : w.heap[b]? = some (.cells #[x, y, z] t fr)) : Box w b x y z :=
  ⟨by rw [cell_of_row _ b 0 _ t fr h]; rfl, by rw [cell_of_row _ b 1 _ t fr h]; rfl, by rw [cell_of_row _ b 2 _ t fr h]; rfl⟩

theorem box_cells {w w' : World} {b : Nat} {x y z : Value} (hb : Below w.heap.size w w') (h : Box w b x y z) : Box w' b x y z := by
  obtain ⟨h0, h1, h2⟩ := h
  have hl := World.block_lt_of_cell? w _ h0
  exact ⟨(hb.cell (p := ⟨b, 0, none⟩) hl).trans h0, (hb.cell (p := ⟨b, 1, none⟩) hl).trans h1, (hb.cell (p := ⟨b, 2, none⟩) hl).trans h2⟩

theorem boxA (w : World) (x y z : Value) (o1 o2 : Obj) : Box (((w.alloc (.cells #[x, y, z] 23)).alloc o1).alloc o2) w.heap.size x y z :=
  box_row (((below_alloc _ _).block _ (by simp; omega)).trans (((below_alloc _ _).block _ (by simp)).trans (alloc_block w (.cells #[x, y, z] 23))))

theorem boxB (w : World) (x y z : Value) (o1 o2 : Obj) : Box (((w.alloc o1).alloc (.cells #[x, y, z] 31)).alloc o2) (w.heap.size + 1) x y z := by
  have h := alloc_block (w.alloc o1) (.cells #[x, y, z] 31)
  rw [show (w.alloc o1).heap.size = w.heap.size + 1 by simp] at h
  exact box_row (((below_alloc _ _).block _ (by simp)).trans h)

/-- a struct of three cells that may be written -/
def FBox (w : World) (b : Nat) (x y z : Value) : Prop :=
  w.cell? ⟨b, 0, none⟩ = some x ∧ w.cell? ⟨b, 1, none⟩ = some y ∧ w.cell? ⟨b, 2, none⟩ = some z ∧ w.frozen? ⟨b, 0, none⟩ = false ∧ w.frozen? ⟨b, 1, none⟩ = false ∧ w.frozen? ⟨b, 2, none⟩ = false

theorem fbox_row {w : World} {b : Nat} {x y z : Value} {t : TypeId} (h : w.heap[b]? = some (.cells #[x, y, z] t (0, 0))) : FBox w b x y z := by
  obtain ⟨h0, h1, h2⟩ := box_row h
  exact ⟨h0, h1, h2, frozen_of_row w b 0 _ t h, frozen_of_row w b 1 _ t h, frozen_of_row w b 2 _ t h⟩

theorem fbox_below {w w' : World} {b : Nat} {x y z : Value} (hb : Below w.heap.size w w') (h : FBox w b x y z) : FBox w' b x y z := by
  obtain ⟨h0, h1, h2, f0, f1, f2⟩ := h
  have hl := World.block_lt_of_cell? w _ h0
  obtain ⟨k0, k1, k2⟩ := box_cells hb ⟨h0, h1, h2⟩
  exact ⟨k0, k1, k2, (hb.frozen (p := ⟨b, 0, none⟩) hl).trans f0, (hb.frozen (p := ⟨b, 1, none⟩) hl).trans f1, (hb.frozen (p := ⟨b, 2, none⟩) hl).trans f2⟩

abbrev z3 : Value := .int .i64 0
theorem fbox_alloc (w : World) : FBox (w.alloc (.cells #[z3, z3, z3] 23)) w.heap.size z3 z3 z3 := fbox_row (alloc_block w _)

theorem fbox_drew {w : World} {b : Nat} {x y z : Value} (h : FBox w b x y z) : FBox w.drew b x y z := h

theorem fboxC (w : World) (o1 o2 : Obj) : FBox (((w.alloc o1).alloc o2).alloc (.cells #[z3, z3, z3] 23)) (w.heap.size + 1 + 1) z3 z3 z3 := by
  have h := fbox_alloc ((w.alloc o1).alloc o2)
  rwa [show ((w.alloc o1).alloc o2).heap.size = w.heap.size + 1 + 1 by simp] at h

/-- what the region holds to -/
def six (p q : Nat) (x y z x' y' z' : Value) (w2 w : World) : Prop :=
  (w.cell? ⟨p, 0, none⟩ = some x ∧ w.cell? ⟨p, 1, none⟩ = some y ∧ w.cell? ⟨p, 2, none⟩ = some z ∧ w.cell? ⟨q, 0, none⟩ = some x' ∧ w.cell? ⟨q, 1, none⟩ = some y' ∧ w.cell? ⟨q, 2, none⟩ = some z') ∧ Below w2.heap.size w2 w

theorem six_of {p q : Nat} {x y z x' y' z' : Value} {w2 w : World} (hb : Below w2.heap.size w2 w) (h : Box w2 p x y z) (h' : Box w2 q x' y' z') :
    (w.cell? ⟨p, 0, none⟩ = some x ∧ w.cell? ⟨p, 1, none⟩ = some y ∧ w.cell? ⟨p, 2, none⟩ = some z ∧ w.cell? ⟨q, 0, none⟩ = some x' ∧ w.cell? ⟨q, 1, none⟩ = some y' ∧ w.cell? ⟨q, 2, none⟩ = some z') ∧ Below w2.heap.size w2 w := by
  obtain ⟨k0, k1, k2⟩ := box_cells hb h
  obtain ⟨k3, k4, k5⟩ := box_cells hb h'
  exact ⟨⟨k0, k1, k2, k3, k4, k5⟩, hb⟩

theorem below_fl {w1 w2 w3 : World} (k : Below w2.heap.size w2 w3) (h : Below w1.heap.size w1 w2) : Below w1.heap.size w1 w3 := below_into h k
theorem below_st {w1 w2 : World} {b i : Nat} {v : Value} (hb : w1.heap.size ≤ b) (h : Below w1.heap.size w1 w2) : Below w1.heap.size w1 (w2.setCell ⟨b, i, none⟩ v) := h.setCell hb v

/-- a block that is just such a struct -/
def RBox (w : World) (b : Nat) (x y z : Value) : Prop := w.heap[b]? = some (.cells #[x, y, z] 23 (0, 0))

theorem RBox.f {w : World} {b : Nat} {x y z : Value} (h : RBox w b x y z) : FBox w b x y z := fbox_row h
theorem RBox.lt {w : World} {b : Nat} {x y z : Value} (h : RBox w b x y z) : b < w.heap.size := by
  rcases Nat.lt_or_ge b w.heap.size with h' | h'
  · exact h'
  · unfold RBox at h; rw [Array.getElem?_eq_none h'] at h; cases h
theorem RBox.below {w w' : World} {b : Nat} {x y z : Value} (h : RBox w b x y z) (hb : Below w.heap.size w w') : RBox w' b x y z := (hb.block b h.lt).trans h
theorem RBox.drew {w : World} {b : Nat} {x y z : Value} (h : RBox w b x y z) : RBox w.drew b x y z := h
theorem rbox_alloc (w : World) (x y z : Value) : RBox (w.alloc (.cells #[x, y, z] 23)) w.heap.size x y z := alloc_block w _
theorem RBox.set3 {w : World} {b : Nat} {x y z : Value} (h : RBox w b x y z) (x' y' z' : Value) : RBox (((w.setCell ⟨b, 0, none⟩ x').setCell ⟨b, 1, none⟩ y').setCell ⟨b, 2, none⟩ z') b x' y' z' := by
  have h0 := heap_setCell_same w b 0 _ 23 x' h
  have h1 := heap_setCell_same _ b 1 _ 23 y' h0
  exact heap_setCell_same _ b 2 _ 23 z' h1
theorem RBox.other3 {w : World} {b p : Nat} {x y z : Value} (h : RBox w b x y z) (hp : b ≠ p) (x' y' z' : Value) : RBox (((w.setCell ⟨p, 0, none⟩ x').setCell ⟨p, 1, none⟩ y').setCell ⟨p, 2, none⟩ z') b x y z :=
  (heap_setCell_other _ _ _ _ hp).trans ((heap_setCell_other _ _ _ _ hp).trans ((heap_setCell_other _ _ _ _ hp).trans h))
theorem rboxC (w : World) (o1 o2 : Obj) : RBox (((w.alloc o1).alloc o2).alloc (.cells #[z3, z3, z3] 23)) (w.heap.size + 1 + 1) z3 z3 z3 := by
  have h := rbox_alloc ((w.alloc o1).alloc o2) z3 z3 z3
  rwa [show ((w.alloc o1).alloc o2).heap.size = w.heap.size + 1 + 1 by simp] at h

theorem below_set3 {B b : Nat} {a w : World} (hb : B ≤ b) (h : Below B a w) (x y z : Value) : Below B a (((w.setCell ⟨b, 0, none⟩ x).setCell ⟨b, 1, none⟩ y).setCell ⟨b, 2, none⟩ z) :=
  ((h.setCell hb x).setCell hb y).setCell hb z

theorem cf26 (args : Array Value) (w : World) : (callFunc 26 args).run Try.prog w = .ok (.enter 26 args) w := by kernel_rfl
theorem cf31 (args : Array Value) (w : World) : (callFunc 31 args).run Try.prog w = .ok (.enter 31 args) w := by kernel_rfl
end Go.Proofs.Ytjfgjcoehahlcaa
