/-
  The contract of square.
-/
import Derived.Test.YtlfeahalgolbgaaWalkC
namespace Go.Proofs.Ytlfeahalgolbgaa
open Go.RowKit

/-- a block of words -/
def Words (w : World) (b : Nat) (t : TypeId) (cs : List W32) : Prop := w.heap[b]? = some (.cells (cs.map uv).toArray t (0, 0))

theorem Words.cell {w : World} {b : Nat} {t : TypeId} {cs : List W32} (h : Words w b t cs) (i : Nat) (hi : i < cs.length) :
    w.cell? ⟨b, i, none⟩ = some (.int .u32 (u (cs.getD i 0#32))) ∧ w.frozen? ⟨b, i, none⟩ = false := by
  constructor
  · rw [cell_of_row w b i _ t _ h]
    simp [uv, List.getD_eq_getElem?_getD, hi]
  · exact frozen_of_row w b i _ t h

theorem Words.store {w : World} {b : Nat} {t : TypeId} {cs : List W32} (h : Words w b t cs) (i : Nat) (x : W32) : Words (w.setCell ⟨b, i, none⟩ (.int .u32 (u x))) b t (cs.set i x) := by
  unfold Words
  rw [heap_setCell_same w b i _ t _ h]
  congr 2
  simp [uv]

theorem squareDone {m : Nat → W32} {cs : List W32} (hl : cs.length = 32) (h : ∀ j, j < 32 → cs.getD j 0#32 = mt m (m j) 32) : cs = (List.range 32).map fun i => mt m (m i) 32 := by
  apply List.ext_getElem?
  intro j
  by_cases hj : j < 32
  · have := h j hj
    rw [List.getD_eq_getElem?_getD] at this
    rw [List.getElem?_eq_getElem (by omega)] at this ⊢
    simp only [Option.getD_some] at this
    simp [this, hj]
  · rw [List.getElem?_eq_none (by omega)]
    simp [hj]

def SqRel (m : Nat → W32) (w : World) (k : Nat) (wr : World) : Prop :=
  ∃ cs : List W32, cs.length = 32 ∧ (∀ j, j < k → cs.getD j 0#32 = mt m (m j) 32) ∧ Words wr (w.heap.size + 1) 69 cs ∧
    (∃ old : Array Value, old.size = 32 ∧ wr.heap[w.heap.size]? = some (.cells old 69 (0, 0))) ∧ Below w.heap.size w wr

theorem sqrel_step {m : Nat → W32} {w wr : World} {k : Nat} (h : SqRel m w k wr) (hk : k < 32) :
    SqRel m w (k + 1) (wr.setCell ⟨w.heap.size + 1, k, none⟩ (.int .u32 (u (mt m (m k) 32)))) := by
  obtain ⟨cs, h1, h2, h3, ⟨old, h4, h5⟩, h6⟩ := h
  refine ⟨cs.set k (mt m (m k) 32), by simp [h1], fun j hj => ?_, h3.store k _, ⟨old, h4, ?_⟩, h6.setCell (by simp) _⟩
  · by_cases e : j = k
    · subst e; simp [List.getD_eq_getElem?_getD, h1, hk]
    · rw [← h2 j (by omega)]
      simp [List.getD_eq_getElem?_getD, show k ≠ j by omega]
  · rw [heap_setCell_other _ _ _ _ (by simp)]; exact h5

theorem sqrel_start (m : Nat → W32) (w : World) (A C : Array Value) (hA : A.size = 32) (hC : C = ((List.replicate 32 0#32).map uv).toArray) : SqRel m w 0 ((w.alloc (.cells A 69)).alloc (.cells C 69)) := by
  subst hC
  exact ⟨List.replicate 32 0#32, by simp, fun j hj => absurd hj (by omega), heap_alloc2_new w _ _, ⟨A, hA, heap_alloc2_old w _ _⟩, ((Below.refl _ _).alloc (Nat.le_refl _) _).alloc (by simp) _⟩

theorem Try.size69 : (Try.prog.info? 69).map (·.size) = some 32 := by kernel_rfl

set_option maxRecDepth 100000 in
set_option maxHeartbeats 400000 in
theorem square_any (b o : Nat) (m : Nat → W32) (w : World) (hc : ∀ i, i < 32 → w.cell? ⟨b, o + i, none⟩ = some (.int .u32 (u (m i)))) :
    Calls Try.prog 52 #[.pointer (some ⟨b, o, none⟩)] w fun e w' => e = .returned (.agg (((List.range 32).map fun i => mt m (m i) 32).map uv).toArray) ∧ Below w.heap.size w w' := by
  have hbl : b < w.heap.size := block_lt_of_cell (hc 0 (by omega))
  have HC := Lib.hid hc
  clear hc
  go_enter Try.func52, Try.ntmps52
  go_wp2
  go_loopw [5] (fun i wr => ∃ k : Nat, k ≤ 32 ∧ i = .int .i64 k ∧ SqRel m w k wr) (fun i _ => 32 - (intOf i).toNat)
  case atStart => exact ⟨0, by omega, rfl, sqrel_start m w _ _ rfl rfl⟩
  case round =>
    obtain ⟨k, hk, rfl, hrel⟩ := hrel
    by_cases hlt : k < 32
    · have hcw : ∀ i, i < 32 → wr.cell? ⟨b, o + i, none⟩ = some (.int .u32 (u (m i))) := fun i hi => by
        obtain ⟨_, _, _, _, _, hb⟩ := hrel
        rw [hb.cell (p := ⟨b, o + i, none⟩) hbl]; exact HC.out i hi
      have hcell := hcw k hlt
      have hst : (∃ v, wr.cell? ⟨w.heap.size + 1, k, none⟩ = some v) ∧ wr.frozen? ⟨w.heap.size + 1, k, none⟩ = false := by
        obtain ⟨cs, h1, _, h3, _, _⟩ := hrel
        exact ⟨⟨_, (h3.cell k (by omega)).1⟩, (h3.cell k (by omega)).2⟩
      obtain ⟨⟨v, hv⟩, hf⟩ := hst
      have HCW := Lib.hid hcw
      have HN := Lib.hid (sqrel_step hrel hlt)
      clear hcw hrel
      go_wp2_with (go_at_call 51; refine (times_any _ _ m _ _ HCW.out).mono ?_; rintro e w' ⟨rfl, rfl⟩)
      go_roundw
      case rel => exact ⟨k + 1, by omega, by go_num, HN.out⟩
      case measure => simp [intOf]; omega
    · obtain rfl : k = 32 := by omega
      obtain ⟨cs, h1, h2, h3, ⟨old, h4, h5⟩, h6⟩ := hrel
      have HS := Lib.hid (squareDone h1 h2)
      have HW := Lib.hid h3
      have HO := Lib.hid h5
      have HB := Lib.hid h6
      clear h2 h3 h5 h6
      go_wp2_with (first
        | ((with_reducible show wpList _ _ _ (Oper.mk (some 18) _ _ _ _ _ :: _) _ _); refine wpList_load_row rfl 69 (.tmp 3) rfl (w.heap.size + 1) rfl 69 (cs.map uv).toArray (0, 0) _ HW.out Try.underlying69 rfl ?c1 ?_)
        | ((with_reducible show wpList _ _ _ (Oper.mk none (.store 69 _ _) _ _ _ _ :: _) _ _); refine wpList_store_row rfl 69 (.tmp 2) (.tmp 18) rfl w.heap.size (cs.map uv).toArray rfl rfl 69 old HO.out ?c2 ?c3 ?c4 ?_))
      case c1 => rw [Try.size69]; simp [h1]
      case c2 => rw [Try.size69]; simp [h1]
      case c3 => simp [h1, h4]
      case c4 => exact all_oneCell_toArray (fun v hv => by obtain ⟨x, _, rfl⟩ := List.mem_map.1 hv; rfl)
      refine bodyPost_ret (v := .agg (cs.map uv).toArray) ?_ rfl ⟨by rw [HS.out], ?_⟩
      · exact results_cell_row (p := 2) (ty := 69) Try.results52 _ _ w.heap.size 69 (cs.map uv).toArray (0, 0) _ rfl (setRow_heap wr w.heap.size old _ 69 _ HO.out) Try.underlying69 rfl (by rw [Try.size69]; simp [h1])
      · exact HB.out.trans ⟨rfl, rfl, rfl, by simp, fun k hk => setRow_other wr w.heap.size k _ (by omega)⟩
end Go.Proofs.Ytlfeahalgolbgaa
