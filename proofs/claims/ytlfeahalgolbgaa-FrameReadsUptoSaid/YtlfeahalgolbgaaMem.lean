/-
  Rows of bytes of the call's own, and append onto them.
-/
import Derived.Test.YtlfeahalgolbgaaWalkB
namespace Go.Proofs.Ytlfeahalgolbgaa
open Go.RowKit

/-- a slice of bytes in a row of the call's own, from its head on -/
def Own8 (w : World) (base : Nat) (v : Value) (l : List B8) : Prop := w.ownsRow base 5 1 v l.length (l.map bv)

theorem nextcap_le {need old : Nat} (h : old < need) : Builtin.nextslicecap need old ≤ need + need / 4 + 1024 := by
  unfold Builtin.nextslicecap
  split
  · omega
  · split
    · omega
    · rw [growBy_four]
      repeat' split
      all_goals omega

theorem Try.info5 : ∃ i z, Try.prog.info? 5 = some i ∧ i.zero = some z ∧ i.size = 1 ∧ i.bytes = 1 ∧ z = .int .u8 0 := by
  have h : (Try.prog.info? 5).map (fun i => (i.zero, i.size, i.bytes)) = some (some (.int .u8 0), 1, 1) := by kernel_rfl
  cases hq : Try.prog.info? 5 with
  | none => rw [hq] at h; cases h
  | some i =>
    rw [hq] at h
    simp only [Option.map_some, Option.some.injEq, Prod.mk.injEq] at h
    exact ⟨i, _, rfl, h.1, h.2.1, h.2.2, rfl⟩

theorem bv_one (l : List B8) : ∀ x ∈ l.map bv, x.oneCell' = true := by
  intro x hx
  obtain ⟨c, _, rfl⟩ := List.mem_map.1 hx
  rfl

theorem addr_add (b o j : Nat) : (⟨b, o, none⟩ : Addr).add j = ⟨b, o + j, none⟩ := by unfold Addr.add; split <;> simp_all

theorem Row8.news {w : World} {b o len : Nat} {l : List B8} (hl : len = l.length) (h : ∀ i, i < len → w.cell? ⟨b, o + i, none⟩ = some (.int .u8 (ub (l.getD i 0#8)))) :
    ∀ j x, (l.map bv)[j]? = some x → w.cell? ((⟨b, o, none⟩ : Addr).add j) = some x := by
  intro j x hx
  have hj : j < l.length := by
    have := (List.getElem?_eq_some_iff.1 hx).1
    simpa using this
  rw [addr_add, h j (by omega)]
  rw [List.getElem?_map, List.getElem?_eq_getElem hj] at hx
  simp only [Option.map_some, Option.some.injEq] at hx
  rw [← hx, bv, List.getD_eq_getElem?_getD, List.getElem?_eq_getElem hj]
  rfl

theorem Own8.row {w : World} {base : Nat} {a : Option Addr} {n c : Nat} {l : List B8} (h : Own8 w base (.slice a n c) l) (hm : l.length ≤ 281474976710656) : Row8 w a n l := by
  obtain ⟨hl, h⟩ := h
  rcases h with ⟨hv, h0⟩ | ⟨g, cap, cur, hv, hg, hh, hnc, hcm, hcs, ht⟩
  · simp only [Value.slice.injEq] at hv
    obtain ⟨rfl, rfl, rfl⟩ := hv
    exact ⟨h0.symm, by omega, fun h => absurd h (by omega)⟩
  · simp only [Value.slice.injEq] at hv
    obtain ⟨rfl, rfl, rfl⟩ := hv
    refine ⟨rfl, hm, fun _ => ⟨g, 0, rfl, fun i hi => ?_⟩⟩
    rw [Nat.mul_one] at ht
    have h1 : cur.toList[i]? = (l.map bv)[i]? := by
      rw [← ht, List.getElem?_take, if_pos hi]
    simp only [World.cell?, hh, Nat.zero_add, Option.isSome_none, Bool.false_eq_true, if_false]
    rw [← Array.getElem?_toList, h1, List.getElem?_map, List.getElem?_eq_getElem hi, Option.map_some, bv, List.getD_eq_getElem?_getD, List.getElem?_eq_getElem hi]
    rfl

theorem own8_form {w : World} {base : Nat} {v : Value} {l : List B8} (h : Own8 w base v l) : ∃ a c, v = .slice a l.length c ∧ l.length ≤ c := by
  obtain ⟨hl, h⟩ := h
  rcases h with ⟨hv, h0⟩ | ⟨g, cap, cur, hv, hg, hh, hnc, hcm, hcs, ht⟩
  · exact ⟨none, 0, by rw [hv, h0], by omega⟩
  · exact ⟨_, cap, hv, hnc⟩

theorem own8_block {w : World} {base : Nat} {v : Value} {l : List B8} (h : Own8 w base v l) (h0 : 0 < l.length) : ∃ g c, v = .slice (some ⟨g, 0, none⟩) l.length c ∧ base ≤ g ∧ l.length ≤ c ∧ g < w.heap.size := by
  obtain ⟨hl, h⟩ := h
  rcases h with ⟨hv, hn⟩ | ⟨g, cap, cur, hv, hg, hh, hnc, hcm, hcs, ht⟩
  · omega
  · refine ⟨g, cap, hv, hg, hnc, ?_⟩
    rcases Nat.lt_or_ge g w.heap.size with h' | h'
    · exact h'
    · rw [Array.getElem?_eq_none h'] at hh; cases hh

theorem own8_cell {w : World} {base g n c : Nat} {l : List B8} (h : Own8 w base (.slice (some ⟨g, 0, none⟩) n c) l) (i : Nat) (hi : i < l.length) :
    w.cell? ⟨g, i, none⟩ = some (.int .u8 (ub (l.getD i 0#8))) ∧ w.frozen? ⟨g, i, none⟩ = false := by
  obtain ⟨hl, h⟩ := h
  rcases h with ⟨hv, hn⟩ | ⟨g', cap, cur, hv, hg, hh, hnc, hcm, hcs, ht⟩
  · cases hv
  · simp only [Value.slice.injEq, Option.some.injEq, Addr.mk.injEq, and_true] at hv
    obtain ⟨rfl, rfl, rfl⟩ := hv
    rw [Nat.mul_one] at ht
    have h1 : cur.toList[i]? = (l.map bv)[i]? := by
      rw [← ht, List.getElem?_take, if_pos hi]
    constructor
    · simp only [World.cell?, hh, Option.isSome_none, Bool.false_eq_true, if_false]
      rw [← Array.getElem?_toList, h1, List.getElem?_map, List.getElem?_eq_getElem hi, Option.map_some, bv, List.getD_eq_getElem?_getD, List.getElem?_eq_getElem hi]
      rfl
    · simp [World.frozen?, hh]

theorem own8_store {w : World} {base g n c : Nat} {l : List B8} (h : Own8 w base (.slice (some ⟨g, 0, none⟩) n c) l) (i : Nat) (b : B8) :
    Own8 (w.setCell ⟨g, i, none⟩ (bv b)) base (.slice (some ⟨g, 0, none⟩) n c) (l.set i b) := by
  obtain ⟨hl, h⟩ := h
  rcases h with ⟨hv, hn⟩ | ⟨g', cap, cur, hv, hg, hh, hnc, hcm, hcs, ht⟩
  · cases hv
  · simp only [Value.slice.injEq, Option.some.injEq, Addr.mk.injEq, and_true] at hv
    obtain ⟨rfl, rfl, rfl⟩ := hv
    rw [Nat.mul_one] at ht
    refine ⟨by simp, .inr ⟨g, c, cur.setIfInBounds i (bv b), by rw [List.length_set], hg, heap_setCell_same w g i cur 5 _ hh, by rw [List.length_set]; exact hnc, hcm, by rw [Array.size_setIfInBounds]; exact hcs, ?_⟩⟩
    rw [Array.toList_setIfInBounds, List.length_set, Nat.mul_one, List.map_set, ← ht, List.take_set]

/-- nothing is appended -/
theorem run_append_none8 (w : World) (ty : TypeId) (a : Option Addr) (n c : Nat) (hn : n ≤ c) (xa : Option Addr) (cx : Nat) :
    (Builtin.append_ #[22, 22] ty #[.slice a n c, .slice xa 0 cx]).run Try.prog w = .ok (.slice a n c) w := by
  obtain ⟨i, z, hi, hz, hs, hb, hzz⟩ := Try.info5
  cases a with
  | none => cases xa <;> simp [Builtin.append_, run_underlying Try.underlying22, sizeOf, typeInfo, hi, Builtin.lenOf, Builtin.firstCells, hn, loadCells, loadCellsFrom]
  | some a => cases xa <;> simp [Builtin.append_, run_underlying Try.underlying22, sizeOf, typeInfo, hi, Builtin.lenOf, Builtin.firstCells, hn, storeCells, loadCells, loadCellsFrom]

theorem grown8 (w : World) (base : Nat) (l l2 : List B8) (old : Nat) (hb : l.length + l2.length ≤ 140737492549632) (hbase : base ≤ w.heap.size) (row : Option Nat) :
    Own8 (w.drew.alloc (.cells ((l.map bv).toArray ++ (l2.map bv).toArray ++ Builtin.zeroCells (Value.int .u8 0).cells (grownCap w (l.length + l2.length) old 5 - (l.length + l2.length))) 5)) base
      (.slice (some ⟨w.heap.size, 0, none⟩) (l.length + l2.length) (grownCap w (l.length + l2.length) old 5)) (l ++ l2) ∧
    w.grownBy (w.drew.alloc (.cells ((l.map bv).toArray ++ (l2.map bv).toArray ++ Builtin.zeroCells (Value.int .u8 0).cells (grownCap w (l.length + l2.length) old 5 - (l.length + l2.length))) 5)) row := by
  have hge := grownCap_ge w (l.length + l2.length) old 5
  have hcm : grownCap w (l.length + l2.length) old 5 ≤ maxLen := grownCap_le_maxLen w (l.length + l2.length) old 5 (by unfold maxLen; omega)
  refine ⟨⟨by simp, .inr ⟨w.heap.size, _, _, by rw [List.length_append], hbase, Go.heap_alloc_new w.drew _, by rw [List.length_append]; exact hge, hcm, ?_, ?_⟩⟩, ⟨rfl, rfl, rfl, by simp, fun k hk _ => Go.heap_alloc_old w.drew _ hk⟩⟩
  · simp only [Array.size_append, List.size_toArray, List.length_map, size_zeroCells]
    simp [Value.cells]
    omega
  · simp only [Array.toList_append, List.append_assoc]
    rw [← List.append_assoc, ← List.map_append, show (l ++ l2).length * 1 = ((l ++ l2).map bv).length by simp]
    exact List.take_left

/-- append onto a row of the call's own -/
theorem run_append8 (w : World) (base : Nat) (ty : TypeId) (v : Value) (l : List B8) (hown : Own8 w base v l) (xa : Option Addr) (m cx : Nat) (l2 : List B8) (h2 : Row8 w xa m l2)
    (hb : l.length + l2.length ≤ 140737492549632) (hbase : base ≤ w.heap.size) :
    ∃ v' w', (Builtin.append_ #[22, 22] ty #[v, .slice xa m cx]).run Try.prog w = .ok v' w' ∧ Own8 w' base v' (l ++ l2) ∧ w.grownBy w' v.ownBlock := by
  obtain ⟨hl2, hm2, hc2⟩ := h2
  by_cases hm : m = 0
  · subst hm
    obtain rfl : l2 = [] := List.eq_nil_of_length_eq_zero hl2.symm
    obtain ⟨a, c, rfl, hc⟩ := own8_form hown
    exact ⟨_, _, run_append_none8 w ty a _ c hc xa cx, by simpa using hown, ⟨rfl, rfl, rfl, Nat.le_refl _, fun _ _ _ => rfl⟩⟩
  · obtain ⟨xb, xo, rfl, hcell⟩ := hc2 (by omega)
    have hnews := Row8.news hl2 hcell
    obtain ⟨i, z, hi, hz, hs, hbt, hzz⟩ := Try.info5
    subst hzz
    have hl1 : (l2.map bv).length = m * i.size := by rw [List.length_map, hs]; omega
    obtain ⟨hx, hown'⟩ := hown
    rcases hown' with ⟨rfl, hn0⟩ | ⟨g, cap, cur, rfl, hbg, hg, hnc, hcm, hcs, htake⟩
    · obtain rfl : l = [] := List.eq_nil_of_length_eq_zero hn0
      have hr := run_append_nil (P := Try.prog) w 22 ty 5 i _ Try.underlying22 hi hz ⟨xb, xo, none⟩ m cx (l2.map bv) hl1 hnews (by omega) (by omega) (by rw [hbt]; omega)
      have hgr := grown8 w base [] l2 0 hb hbase (Value.ownBlock (.slice none 0 0))
      rw [hl2] at hr ⊢
      simp only [List.map_nil, List.nil_append, List.length_nil, Nat.zero_add, Array.empty_append] at hgr ⊢
      exact ⟨_, _, hr, hgr.1, hgr.2⟩
    · by_cases hroom : l.length + m ≤ cap
      · have hr := run_append_room (P := Try.prog) w 22 ty 5 i Try.underlying22 hi g l.length cap cur hg ⟨xb, xo, none⟩ m cx (l2.map bv) hl1 hnews (bv_one l2) hroom (by rw [hs, List.length_map]; omega)
        refine ⟨_, _, hr, ⟨by simp, .inr ⟨g, cap, _, by rw [List.length_append, hl2], hbg, setRow_heap w g cur _ 5 _ hg, by rw [List.length_append]; omega, hcm, ?_, ?_⟩⟩, ⟨rfl, rfl, rfl, by simp, fun k _ hk => setRow_other w g k _ (fun e => hk (by simp [Value.ownBlock, e]))⟩⟩
        · simp only [List.size_toArray, List.length_append, List.length_take, List.length_drop, Array.length_toList, List.length_map, hs]
          omega
        · rw [hs, htake, show (l ++ l2).length * 1 = (l.map bv ++ l2.map bv).length by simp, List.map_append]
          exact List.take_left
      · have holds : ∀ j x, (l.map bv)[j]? = some x → w.cell? ((⟨g, 0, none⟩ : Addr).add j) = some x := World.ownsRow.cells (base := base) (e := 5) (size := 1) (v := .slice (some ⟨g, 0, none⟩) l.length cap) (n := l.length) ⟨hx, .inr ⟨g, cap, cur, rfl, hbg, hg, hnc, hcm, hcs, htake⟩⟩ (g := g) rfl
        have hn := nextcap_le (need := l.length + m) (old := cap) (by omega)
        have hr := run_append_grow (P := Try.prog) w 22 ty 5 i _ Try.underlying22 hi hz ⟨g, 0, none⟩ l.length cap (l.map bv) (by rw [List.length_map, hs]; omega) holds ⟨xb, xo, none⟩ m cx (l2.map bv) hl1 hnews (by omega) (by omega) (by rw [hbt, Nat.mul_one]; omega)
        have hgr := grown8 w base l l2 cap hb hbase (Value.ownBlock (.slice (some ⟨g, 0, none⟩) l.length cap))
        rw [hl2] at hr ⊢
        exact ⟨_, _, hr, hgr.1, hgr.2⟩

/-- append behind a slice without room: a new row -/
theorem run_append8_new (w : World) (ty : TypeId) (a : Option Addr) (n c : Nat) (l : List B8) (h1 : Row8 w a n l) (xa : Option Addr) (m cx : Nat) (l2 : List B8) (h2 : Row8 w xa m l2)
    (hc : c < n + m) (hnil : a = none → c = 0) (hb : l.length + l2.length ≤ 140737492549632) (hnc : n ≤ c) :
    ∃ v' w', (Builtin.append_ #[22, 22] ty #[.slice a n c, .slice xa m cx]).run Try.prog w = .ok v' w' ∧ Own8 w' w.heap.size v' (l ++ l2) ∧ w.grownBy w' none := by
  obtain ⟨hl1, hm1, hc1⟩ := h1
  obtain ⟨hl2, hm2, hc2⟩ := h2
  obtain ⟨xb, xo, rfl, hcell⟩ := hc2 (by omega)
  have hnews := Row8.news hl2 hcell
  obtain ⟨i, z, hi, hz, hs, hbt, hzz⟩ := Try.info5
  subst hzz
  have hll : (l2.map bv).length = m * i.size := by rw [List.length_map, hs]; omega
  cases a with
  | none =>
    obtain rfl := hnil rfl
    have hn0 : n = 0 := by omega
    subst hn0
    obtain rfl : l = [] := List.eq_nil_of_length_eq_zero hl1.symm
    have hr := run_append_nil (P := Try.prog) w 22 ty 5 i _ Try.underlying22 hi hz ⟨xb, xo, none⟩ m cx (l2.map bv) hll hnews (by omega) (by omega) (by rw [hbt]; omega)
    have hgr := grown8 w w.heap.size [] l2 0 hb (Nat.le_refl _) none
    rw [hl2] at hr ⊢
    simp only [List.map_nil, List.nil_append, List.length_nil, Nat.zero_add, Array.empty_append] at hgr ⊢
    exact ⟨_, _, hr, hgr.1, hgr.2⟩
  | some a =>
    have holds : ∀ j x, (l.map bv)[j]? = some x → w.cell? (a.add j) = some x := by
      by_cases h0 : 0 < n
      · obtain ⟨b, o, ha, hce⟩ := hc1 h0
        obtain rfl := Option.some.inj ha
        exact Row8.news hl1 hce
      · obtain rfl : l = [] := List.eq_nil_of_length_eq_zero (by omega)
        intro j x hx
        simp at hx
    have hn := nextcap_le (need := n + m) (old := c) (by omega)
    have hr := run_append_grow (P := Try.prog) w 22 ty 5 i _ Try.underlying22 hi hz a n c (l.map bv) (by rw [List.length_map, hs]; omega) holds ⟨xb, xo, none⟩ m cx (l2.map bv) hll hnews (by omega) (by omega) (by rw [hbt, Nat.mul_one]; omega)
    have hgr := grown8 w w.heap.size l l2 c hb (Nat.le_refl _) none
    rw [hl1, hl2] at hr ⊢
    exact ⟨_, _, hr, hgr.1, hgr.2⟩

/-- append at a plain region -/
theorem wpList_append8 {ops : Array Oper} {rest : List Oper} {o : Oper} {a : Act} {w : World} {Q : Exit → Act → World → Prop} (hgd : o.guard = none) (s x : Operand)
    (ho : o.op = .call { callee := .builtin .append, args := #[s, x], argTypes := #[22, 22] }) (base : Nat) (v : Value) (l : List B8) (hs : a.eval s = v) (hown : Own8 w base v l)
    (xa : Option Addr) (m cx : Nat) (l2 : List B8) (hx : a.eval x = .slice xa m cx) (h2 : Row8 w xa m l2) (hb : l.length + l2.length ≤ 140737492549632) (hbase : base ≤ w.heap.size)
    (h : ∀ v' w', Own8 w' base v' (l ++ l2) → w.grownBy w' v.ownBlock → wpList Try.prog ops Q rest (a.put o.dst v') w') : wpList Try.prog ops Q (o :: rest) a w := by
  obtain ⟨v', w', hr, h3, h4⟩ := run_append8 w base o.type v l hown xa m cx l2 h2 hb hbase
  refine wpList_plain hgd fun _ hK => ?_
  unfold Oper.wp execOp
  simp only [ho, resolve, invoke, builtin, Sem.run_bind, Sem.run_pure, Result.andThen_ok, List.map_toArray, List.map_cons, List.map_nil, hs, hx, hr]
  exact hK _ _ (h v' w' h3 h4)
end Go.Proofs.Ytlfeahalgolbgaa
