/-
  A row of happenings, and what they make of a life step by step.
-/
import Derived.Test.YtjfgjcoehahlcaaHappen
namespace Go.Proofs.Ytjfgjcoehahlcaa
open Go.RowKit
set_option linter.unusedVariables false

abbrev hp0 : Hp := ⟨0, 0, 0⟩

/-- a slice that reads as happenings -/
def HRow (w : World) (a : Option Addr) (n : Nat) (G : List Hp) : Prop :=
  n = G.length ∧ (0 < n → ∃ b o, a = some ⟨b, o, none⟩ ∧ ∀ i, i < n → w.cell? ⟨b, o + i * 3, none⟩ = some (.int .i64 (G.getD i hp0).k) ∧ w.cell? ⟨b, o + i * 3 + 1, none⟩ = some (.int .i64 (G.getD i hp0).n) ∧ w.cell? ⟨b, o + i * 3 + 2, none⟩ = some (.int .i64 (G.getD i hp0).c))

theorem HRow.below {w w' : World} {a : Option Addr} {n : Nat} {G : List Hp} (h : HRow w a n G) (hb : Below w.heap.size w w') : HRow w' a n G := by
  obtain ⟨h1, h2⟩ := h
  refine ⟨h1, fun h0 => ?_⟩
  obtain ⟨b, o, ha, hc⟩ := h2 h0
  refine ⟨b, o, ha, fun i hi => ?_⟩
  obtain ⟨c0, c1, c2⟩ := hc i hi
  exact ⟨(hb.cell (World.block_lt_of_cell? w _ c0)).trans c0, (hb.cell (World.block_lt_of_cell? w _ c1)).trans c1, (hb.cell (World.block_lt_of_cell? w _ c2)).trans c2⟩

theorem HRow.at {w : World} {a : Option Addr} {n : Nat} {G : List Hp} (h : HRow w a n G) (i : Nat) (hi : i < n) :
    ∃ b o, a = some ⟨b, o, none⟩ ∧ b < w.heap.size ∧ w.cell? ⟨b, o + i * 3, none⟩ = some (.int .i64 (G.getD i hp0).k) ∧ w.cell? ⟨b, o + i * 3 + 1, none⟩ = some (.int .i64 (G.getD i hp0).n) ∧ w.cell? ⟨b, o + i * 3 + 2, none⟩ = some (.int .i64 (G.getD i hp0).c) := by
  obtain ⟨h1, h2⟩ := h
  obtain ⟨b, o, ha, hc⟩ := h2 (by omega)
  obtain ⟨c0, c1, c2⟩ := hc i hi
  exact ⟨b, o, ha, World.block_lt_of_cell? w _ c0, c0, c1, c2⟩

/-- k happenings have gone: the life, the refusals, and what is still to come -/
def RunAt (G : List Hp) (R : Option (Lf × Nat)) (k : Nat) (x : Lf) (m : Nat) : Prop := R = run x m (G.drop k)

theorem runAt_start (l : Lf) (G : List Hp) : RunAt G (run l 0 G) 0 l 0 := by unfold RunAt; rw [List.drop_zero]
theorem runAt_end {G : List Hp} {R : Option (Lf × Nat)} {k : Nat} {x : Lf} {m : Nat} (h : RunAt G R k x m) (hk : G.length ≤ k) : R = some (x, m) := by
  unfold RunAt at h; rw [h, List.drop_of_length_le hk]; rfl
theorem drop_one {G : List Hp} {k : Nat} (hk : k < G.length) : G.drop k = G.getD k hp0 :: G.drop (k + 1) := by
  rw [List.drop_eq_getElem_cons hk]
  simp [List.getD_eq_getElem?_getD, hk]
theorem runAt_ok {G : List Hp} {R : Option (Lf × Nat)} {k : Nat} {x y : Lf} {m : Nat} (h : RunAt G R k x m) (hk : k < G.length) (hh : happen x (G.getD k hp0) = (y, 0)) : RunAt G R (k + 1) y m := by
  unfold RunAt at h ⊢
  rw [h, drop_one hk, run, hh]
  rfl
theorem runAt_no {G : List Hp} {R : Option (Lf × Nat)} {k : Nat} {x y : Lf} {m : Nat} (h : RunAt G R k x m) (hk : k < G.length) (hh : happen x (G.getD k hp0) = (y, 13)) : RunAt G R (k + 1) x (m + 1) := by
  unfold RunAt at h ⊢
  rw [h, drop_one hk, run, hh]
  rfl
theorem runAt_bad {G : List Hp} {R : Option (Lf × Nat)} {k : Nat} {x y : Lf} {m : Nat} (h : RunAt G R k x m) (hk : k < G.length) (hh : happen x (G.getD k hp0) = (y, 2)) : R = none := by
  unfold RunAt at h
  rw [h, drop_one hk, run, hh]
  rfl

theorem all_some {l : Lf} {G : List Hp} {x : Lf} {m : Nat} (h : OkL l) (hr : run l 0 G = some (x, m)) : all l G = (x, m, 0) := by
  unfold all; rw [if_pos h, hr]
theorem all_none {l : Lf} {G : List Hp} (h : OkL l) (hr : run l 0 G = none) : all l G = (none', 0, 2) := by
  unfold all; rw [if_pos h, hr]
theorem all_bad {l : Lf} {G : List Hp} (h : ¬ OkL l) : all l G = (none', 0, 2) := by
  unfold all; rw [if_neg h]

def AllPost (w : World) (r : Lf × Nat × Nat) (e : Ending) (w' : World) : Prop := e = .returned (.tuple #[lv r.1, .int .i64 r.2.1, .int .i64 r.2.2]) ∧ Below w.heap.size w w'

/-- six cells are as they were -/
theorem six_any {w2 w : World} {a0 a1 a2 b0 b1 b2 : Addr} {x y z x' y' z' : Value} (hb : Below w2.heap.size w2 w) (h0 : w2.cell? a0 = some x) (h1 : w2.cell? a1 = some y) (h2 : w2.cell? a2 = some z) (k0 : w2.cell? b0 = some x') (k1 : w2.cell? b1 = some y') (k2 : w2.cell? b2 = some z') :
    (w.cell? a0 = some x ∧ w.cell? a1 = some y ∧ w.cell? a2 = some z ∧ w.cell? b0 = some x' ∧ w.cell? b1 = some y' ∧ w.cell? b2 = some z') ∧ Below w2.heap.size w2 w :=
  ⟨⟨(hb.cell (World.block_lt_of_cell? _ _ h0)).trans h0, (hb.cell (World.block_lt_of_cell? _ _ h1)).trans h1, (hb.cell (World.block_lt_of_cell? _ _ h2)).trans h2, (hb.cell (World.block_lt_of_cell? _ _ k0)).trans k0, (hb.cell (World.block_lt_of_cell? _ _ k1)).trans k1, (hb.cell (World.block_lt_of_cell? _ _ k2)).trans k2⟩, hb⟩

/-- the three ends of a happening -/
theorem happen_ends (l : Lf) (h : Hp) : (∃ x, happen l h = (x, 0) ∧ OkL l ∧ OkH h) ∨ (happen l h = (none', 13) ∧ OkL l ∧ OkH h) ∨ (happen l h = (none', 2) ∧ ¬ (OkL l ∧ OkH h)) := by
  by_cases h1 : OkL l ∧ OkH h
  · cases hs : step l h with
    | none => exact .inr (.inl ⟨happen_none h1 hs, h1.1, h1.2⟩)
    | some x => exact .inl ⟨x, happen_some h1 hs, h1.1, h1.2⟩
  · exact .inr (.inr ⟨happen_bad h1, h1⟩)
end Go.Proofs.Ytjfgjcoehahlcaa
