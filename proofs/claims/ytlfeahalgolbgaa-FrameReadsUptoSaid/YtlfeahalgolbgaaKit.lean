/-
  The contracts of the statements' helpers: SameBytes, Own, Kept.
-/
import Derived.Test.YtlfeahalgolbgaaMemB
import Derived.Test.YtlfeahalgolbgaaZerosWalk
import Derived.Deep.QuietTactic
import Derived.BigQuiet
import Derived.Laws.CopyOwn
namespace Go.Proofs.Ytlfeahalgolbgaa
open Go.RowKit
set_option linter.unusedVariables false

theorem below_drewN {B : Nat} {a w : World} (h : Below B a w) (n : Nat) : Below B a (w.drewN n) := ⟨h.os, h.tape, h.output, h.size, h.block⟩

theorem Row8.cellAt {w : World} {a : Option Addr} {n : Nat} {l : List B8} (h : Row8 w a n l) (k : Nat) (hk : k < n) : ∃ b o, a = some ⟨b, o, none⟩ ∧ w.cell? ⟨b, o + k, none⟩ = some (.int .u8 (ub (l.getD k 0#8))) := by
  obtain ⟨_, _, h3⟩ := h
  obtain ⟨b, o, ha, hc⟩ := h3 (by omega)
  exact ⟨b, o, ha, hc k hk⟩

set_option maxRecDepth 100000 in
set_option maxHeartbeats 400000 in
theorem same_true (a : Option Addr) (n c : Nat) (a' : Option Addr) (c' : Nat) (l : List B8) (w : World) (h1 : Row8 w a n l) (h2 : Row8 w a' n l) :
    Calls Try.prog 22 #[.slice a n c, .slice a' n c'] w fun e w' => e = .returned (.bool true) ∧ Below w.heap.size w w' := by
  have hm := h1.2.1
  have H1 := Lib.hid h1
  have H2 := Lib.hid h2
  clear h1 h2
  go_enter Try.func22, Try.ntmps22
  go_wp2
  go_loopw [5] (fun i wr => ∃ k : Nat, k ≤ n ∧ i = .int .i64 k ∧ Below w.heap.size w wr) (fun i _ => n - (intOf i).toNat)
  case atStart => exact ⟨0, by omega, rfl, Below.refl _ _⟩
  case round =>
    obtain ⟨k, hk, rfl, hb⟩ := hrel
    by_cases hlt : k < n
    · obtain ⟨b, o, rfl, hc1⟩ := (H1.out.below hb).cellAt k hlt
      obtain ⟨b', o', rfl, hc2⟩ := (H2.out.below hb).cellAt k hlt
      generalize l.getD k 0#8 = x at *
      have i1 : (0 : Int) ≤ (k : Int) := by omega
      have i2 : (k : Int) < (n : Int) := by omega
      go_wp2
      go_quiet (fail)
      go_wp2
      go_roundw
      case rel => exact ⟨k + 1, by omega, by go_num, below_drewN hb _⟩
      case measure => simp [intOf]; omega
    · obtain rfl : k = n := by omega
      go_wp2
      go_ret
      exact ⟨rfl, hb⟩

/-- a block of bytes, known whole -/
def Bytes (w : World) (g : Nat) (l : List B8) : Prop := w.heap[g]? = some (.cells (l.map bv).toArray 5 (0, 0))

theorem Bytes.cell {w : World} {g : Nat} {l : List B8} (h : Bytes w g l) (i : Nat) (hi : i < l.length) : w.cell? ⟨g, i, none⟩ = some (.int .u8 (ub (l.getD i 0#8))) ∧ w.frozen? ⟨g, i, none⟩ = false := by
  constructor
  · rw [cell_of_row w g i _ 5 _ h]
    simp [bv, List.getD_eq_getElem?_getD, hi]
  · exact frozen_of_row w g i _ 5 h

theorem Bytes.store {w : World} {g : Nat} {l : List B8} (h : Bytes w g l) (i : Nat) (x : B8) : Bytes (w.setCell ⟨g, i, none⟩ (.int .u8 (ub x))) g (l.set i x) := by
  unfold Bytes
  rw [heap_setCell_same w g i _ 5 _ h]
  congr 2
  simp [bv]

theorem Bytes.below {w w' : World} {g : Nat} {l : List B8} (h : Bytes w g l) (hb : Below w.heap.size w w') : Bytes w' g l := (hb.block g (lt_of_block h)).trans h

theorem Bytes.row {w : World} {g : Nat} {l m : List B8} (h : Bytes w g (l ++ m)) (hm : l.length ≤ 281474976710656) : Row8 w (some ⟨g, 0, none⟩) l.length l := by
  refine ⟨rfl, hm, fun _ => ⟨g, 0, rfl, fun i hi => ?_⟩⟩
  rw [Nat.zero_add, (h.cell i (by rw [List.length_append]; omega)).1]
  simp [List.getD_eq_getElem?_getD, List.getElem?_append, hi]

def pad (j : Nat) : List B8 := List.replicate j 222#8 ++ List.replicate (5 - j) 0#8

theorem pad_set (l : List B8) (j : Nat) (hj : j < 5) : (l ++ pad j).set (l.length + j) 222#8 = l ++ pad (j + 1) := by
  rw [List.set_append_right _ _ (by omega), show l.length + j - l.length = j by omega]
  congr 1
  match j, hj with
  | 0, _ => rfl
  | 1, _ => rfl
  | 2, _ => rfl
  | 3, _ => rfl
  | 4, _ => rfl

def OwnPost (w : World) (n : Nat) (l : List B8) (e : Ending) (w' : World) : Prop :=
  ∃ g, e = .returned (.slice (some ⟨g, 0, none⟩) n (n + 5)) ∧ w.heap.size ≤ g ∧ Bytes w' g (l ++ pad 5) ∧ Below w.heap.size w w'

theorem Try.size5 : (Try.prog.info? 5).map (·.size) = some 1 := by kernel_rfl

set_option maxRecDepth 100000 in
set_option maxHeartbeats 400000 in
theorem own_any (a : Option Addr) (n c : Nat) (l : List B8) (w : World) (h : Row8 w a n l) (hn : n ≤ 140737488351232) :
    Calls Try.prog 19 #[.slice a n c] w (OwnPost w n l) := by
  have HL := Lib.hid h.1
  have H := Lib.hid h
  clear h
  have hmk : ∀ w : World, (Instr.makeSlice 22 (.int .i64 ((n : Int) + 5)) (.int .i64 ((n : Int) + 5))).run Try.prog w = .ok (.slice (some ⟨w.heap.size, 0, none⟩) (n + 5) (n + 5)) (w.alloc (.cells (zeroRow (n + 5)) 5)) := fun w => by
    have := make8 w (n + 5) (by omega)
    rwa [show ((n + 5 : Nat) : Int) = (n : Int) + 5 by omega] at this
  go_enter Try.func19, Try.ntmps19
  go_wp2_with ((with_reducible show wpList _ _ _ (Oper.mk (some 11) _ _ _ _ _ :: _) _ _); refine wpList_copy_splice rfl (.tmp 9) (.tmp 10) 22 22 rfl 5 Try.underlying22 Try.size5 _ _ _ _ _ _ rfl rfl w.heap.size 0 ((List.replicate (n + 5) 0#8).map bv) 5 (Go.heap_alloc_new w _) (l.map bv) ?c1 ?c2 ?c3 (bv_one l) w.heap.size w (below_alloc w _) (Nat.le_refl _) ?_)
  case c1 => rw [List.length_map, ← HL.out]; exact (Nat.min_eq_left (by omega)).symm
  case c2 =>
    intro h0
    rw [← HL.out] at h0
    obtain ⟨h1, _, h3⟩ := H.out.below (below_alloc w (.cells (zeroRow (n + 5)) 5))
    obtain ⟨b, o, ha, hc⟩ := h3 h0
    exact ⟨_, ha, fun j x hx => Row8.news h1 hc j (bv x) (by simp [hx])⟩
  case c3 => simp [← HL.out]
  intro w2 hg2 hb2
  have hB : Bytes w2 w.heap.size (l ++ pad 0) := by
    show _ = _
    rw [hg2.out]
    congr 3
    unfold splice
    rw [List.take_zero, List.nil_append, Nat.zero_add, List.length_map, ← HL.out, List.map_append]
    congr 1
    simp [pad]
  clear hg2
  go_wp2_with fail
  go_loopw [4] (fun i wr => ∃ m : Nat, n ≤ m ∧ m ≤ n + 5 ∧ i = .int .i64 m ∧ Bytes wr w.heap.size (l ++ pad (m - n)) ∧ Below w.heap.size w wr) (fun i _ => n + 5 - (intOf i).toNat)
  case atStart => exact ⟨n, by omega, by omega, rfl, by rw [Nat.sub_self]; exact hB, hb2⟩
  case round =>
    clear hB hmk
    obtain ⟨m, h1, h2, rfl, hB, hb⟩ := hrel
    have hlen : (l ++ pad (m - n)).length = n + 5 := by rw [List.length_append, ← HL.out]; simp [pad]; omega
    by_cases hlt : m < n + 5
    · obtain ⟨hc, hf⟩ := hB.cell m (by omega)
      have hN : Bytes (wr.setCell ⟨w.heap.size, m, none⟩ (.int .u8 222)) w.heap.size (l ++ pad (m + 1 - n)) := by
        have := hB.store m 222#8
        have e := pad_set l (m - n) (by omega)
        rw [← HL.out, show n + (m - n) = m by omega, show m - n + 1 = m + 1 - n by omega] at e
        rw [e] at this
        exact this
      have HN := Lib.hid hN
      clear hN hB hlen
      go_wp2
      go_roundw
      case rel => exact ⟨m + 1, by omega, by omega, by go_num, HN.out, hb.setCell (Nat.le_refl _) _⟩
      case measure => simp [intOf]; omega
    · have hB5 : Hid (Bytes wr w.heap.size (l ++ pad 5)) := by
        rw [show m - n = 5 by omega] at hB; exact hB
      clear hB hlen
      go_wp2
      go_ret
      exact ⟨w.heap.size, rfl, Nat.le_refl _, hB5.out, hb⟩
end Go.Proofs.Ytlfeahalgolbgaa
