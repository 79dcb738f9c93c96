/-
  The contract of over: a sum turned over many zeros.
-/
import Derived.Test.YtlfeahalgolbgaaWalkD
namespace Go.Proofs.Ytlfeahalgolbgaa
open Go.RowKit
set_option linter.unusedVariables false

theorem below_into {w1 w2 w3 : World} (h : Below w1.heap.size w1 w2) (k : Below w2.heap.size w2 w3) : Below w1.heap.size w1 w3 := h.trans (k.mono h.size)

theorem u_bit (k : Nat) (h : k < 32) : (2 : Int) ^ k % 4294967296 = u (1#32 <<< k) := by
  have : ∀ k : Fin 32, (2 : Int) ^ k.val % 4294967296 = u (1#32 <<< k.val) := by decide +kernel
  exact this ⟨k, h⟩

def OvRel1 (w : World) (k : Nat) (wr : World) : Prop :=
  ∃ cs : List W32, cs.length = 64 ∧ (∀ j, j < k → cs.getD j 0#32 = it 8 (1#32 <<< j)) ∧ Words wr w.heap.size 70 cs ∧ Below w.heap.size w wr

theorem ovrel1_step {w wr : World} {k : Nat} (h : OvRel1 w k wr) (hk : k < 32) :
    OvRel1 w (k + 1) (wr.setCell ⟨w.heap.size, k, none⟩ (.int .u32 (u (byB (1#32 <<< k) 0#8)))) := by
  obtain ⟨cs, h1, h2, h3, h6⟩ := h
  refine ⟨cs.set k (byB (1#32 <<< k) 0#8), by simp [h1], fun j hj => ?_, h3.store k _, h6.setCell (by simp) _⟩
  by_cases e : j = k
  · subst e; rw [byB_zero]; simp [List.getD_eq_getElem?_getD, h1, show j < 64 by omega]
  · rw [← h2 j (by omega)]
    simp [List.getD_eq_getElem?_getD, show k ≠ j by omega]

theorem ovrel1_start (w : World) (C : Array Value) (hC : C = ((List.replicate 64 0#32).map uv).toArray) : OvRel1 w 0 (w.alloc (.cells C 70)) := by
  subst hC
  exact ⟨List.replicate 64 0#32, by simp, fun j hj => absurd hj (by omega), Go.heap_alloc_new w _, (Below.refl _ _).alloc (Nat.le_refl _) _⟩

/-- the matrix in use is c steps; r times so many are still to be done -/
def OvRel2 (w : World) (z : W32) (r : Nat) (x : W32) (wr : World) : Prop :=
  ∃ (cs : List W32) (c : Nat), cs.length = 64 ∧ (∀ j, j < 32 → cs.getD j 0#32 = it c (1#32 <<< j)) ∧ Words wr w.heap.size 70 cs ∧ Below w.heap.size w wr ∧ it (c * r) x = z

def setAll : List W32 → Nat → List W32 → List W32
  | cs, _, [] => cs
  | cs, o, v :: r => setAll (cs.set o v) (o + 1) r

theorem setAll_length : ∀ (vs cs : List W32) (o : Nat), (setAll cs o vs).length = cs.length
  | [], _, _ => rfl
  | v :: r, cs, o => by rw [setAll, setAll_length r, List.length_set]

theorem setAll_out : ∀ (vs cs : List W32) (o j : Nat), (j < o ∨ o + vs.length ≤ j) → (setAll cs o vs).getD j 0#32 = cs.getD j 0#32
  | [], _, _, _, _ => rfl
  | v :: r, cs, o, j, h => by
    rw [List.length_cons] at h
    rw [setAll, setAll_out r _ _ _ (by omega)]
    simp [List.getD_eq_getElem?_getD, show o ≠ j by omega]

theorem setAll_in : ∀ (vs cs : List W32) (o j : Nat), o + vs.length ≤ cs.length → j < vs.length → (setAll cs o vs).getD (o + j) 0#32 = vs.getD j 0#32
  | v :: r, cs, o, 0, h, _ => by
    rw [List.length_cons] at h
    rw [setAll, setAll_out r _ _ _ (by omega)]
    simp [List.getD_eq_getElem?_getD, show o < cs.length by omega]
  | v :: r, cs, o, j + 1, h, hj => by
    rw [List.length_cons] at h hj
    rw [setAll, show o + (j + 1) = o + 1 + j by omega, setAll_in r _ _ j (by rw [List.length_set]; omega) (by omega)]
    rfl

theorem words_setCells {b : Nat} {t : TypeId} : ∀ (vs : List W32) (cs : List W32) (o : Nat) (w : World), Words w b t cs → Words (w.setCells b o (vs.map uv)) b t (setAll cs o vs)
  | [], _, _, _, h => h
  | v :: r, cs, o, w, h => words_setCells r (cs.set o v) (o + 1) _ (h.store o v)

theorem below_setCells {B b : Nat} {a : World} (hb : B ≤ b) : ∀ (vs : List Value) (o : Nat) (w : World), Below B a w → Below B a (w.setCells b o vs)
  | [], _, _, h => h
  | v :: r, o, w, h => below_setCells hb r (o + 1) _ (h.setCell hb v)

theorem Words.there {w : World} {b : Nat} {t : TypeId} {cs : List W32} (h : Words w b t cs) (o n : Nat) (hn : o + n ≤ cs.length) : w.there b o n := fun j hj => by
  have := h.cell (o + j) (by omega)
  exact ⟨by rw [this.1]; rfl, this.2⟩

theorem Words.rangeAt {w : World} {b : Nat} {t : TypeId} {cs : List W32} (h : Words w b t cs) (o : Nat) (vs : List W32) (hn : o + vs.length ≤ cs.length) (hv : ∀ j, j < vs.length → cs.getD (o + j) 0#32 = vs.getD j 0#32) :
    w.rangeAt b o (vs.map uv) := fun j v hj => by
  have hl : j < vs.length := by have := (List.getElem?_eq_some_iff.1 hj).1; simpa using this
  rw [(h.cell (o + j) (by omega)).1, hv j hl]
  rw [List.getElem?_map, List.getElem?_eq_getElem hl] at hj
  simp only [Option.map_some, Option.some.injEq] at hj
  rw [← hj, uv, List.getD_eq_getElem?_getD, List.getElem?_eq_getElem hl]
  rfl

theorem uv_one (vs : List W32) : ((vs.map uv).toArray).all (·.oneCell') = true := all_oneCell_toArray (fun v hv => by obtain ⟨x, _, rfl⟩ := List.mem_map.1 hv; rfl)

def sq (cs : List W32) : List W32 := (List.range 32).map fun i => mt (fun j => cs.getD j 0#32) (cs.getD i 0#32) 32
theorem sq_length (cs : List W32) : (sq cs).length = 32 := by simp [sq]

theorem square_cs (b : Nat) (t : TypeId) (cs : List W32) (w : World) (h : Words w b t cs) (hl : cs.length = 64) :
    Calls Try.prog 52 #[.pointer (some ⟨b, 0, none⟩)] w fun e w' => e = .returned (.agg ((sq cs).map uv).toArray) ∧ Below w.heap.size w w' :=
  square_any b 0 (fun j => cs.getD j 0#32) w (fun i hi => by rw [Nat.zero_add]; exact (h.cell i (by omega)).1)

/-- the square put down behind, and taken forward -/
theorem ovrel2_step {w wr : World} {z x' : W32} {r c : Nat} {cs vs : List W32} (h1 : cs.length = 64) (h2 : ∀ j, j < 32 → cs.getD j 0#32 = it c (1#32 <<< j)) (h3 : Words wr w.heap.size 70 cs) (h4 : Below w.heap.size w wr)
    (h5 : it (2 * c * (r / 2)) x' = z) (hv : vs = sq cs) :
    OvRel2 w z (r / 2) x' ((wr.setCells w.heap.size 32 (vs.map uv)).setCells w.heap.size 0 (vs.map uv)) := by
  have hl : vs.length = 32 := by rw [hv, sq_length]
  unfold sq at hv
  refine ⟨setAll (setAll cs 32 vs) 0 vs, 2 * c, by rw [setAll_length, setAll_length, h1], fun j hj => ?_, words_setCells vs _ 0 _ (words_setCells vs cs 32 wr h3), below_setCells (Nat.le_refl _) _ _ _ (below_setCells (Nat.le_refl _) _ _ _ h4), h5⟩
  have := setAll_in vs (setAll cs 32 vs) 0 j (by rw [setAll_length]; omega) (by omega)
  rw [Nat.zero_add] at this
  rw [this, hv]
  simp only [List.getD_eq_getElem?_getD, List.getElem?_map, List.getElem?_range hj, Option.map_some, Option.getD_some]
  rw [mt_all c _ _ (fun j hj => by rw [← h2 j hj]; simp [List.getD_eq_getElem?_getD])]
  rw [← List.getD_eq_getElem?_getD, h2 j hj, it_twice]

theorem and_one_i64 (r : Nat) (h : r ≤ 9223372036854775807) : bits .and .i64 (r : Int) 1 = ((r % 2 : Nat) : Int) := by
  show IntKind.i64.wrap ((BitVec.ofInt 64 (r : Int) &&& BitVec.ofInt 64 ((1 : Nat) : Int)).toNat : Int) = _
  rw [BitVec.toNat_and, ofInt_u64 r (by omega), ofInt_u64 1 (by omega), nat_mask1]
  rcases Nat.mod_two_eq_zero_or_one r with h | h <;> rw [h] <;> rfl
theorem odd_t {r : Nat} (h : r ≤ 9223372036854775807) (ho : r % 2 = 1) : (bits .and .i64 (r : Int) 1 == 1) = true := by rw [and_one_i64 r h, ho]; rfl
theorem odd_f {r : Nat} (h : r ≤ 9223372036854775807) (ho : ¬ r % 2 = 1) : (bits .and .i64 (r : Int) 1 == 1) = false := by
  rw [and_one_i64 r h, show r % 2 = 0 by omega]; rfl

theorem half_odd {c r : Nat} {x z : W32} (h : it (c * r) x = z) (ho : r % 2 = 1) : it (2 * c * (r / 2)) (it c x) = z := by
  rw [← it_add, ← h]
  congr 1
  have : r = 2 * (r / 2) + 1 := by omega
  generalize r / 2 = q at this
  subst this
  rw [Nat.mul_add, Nat.mul_one, Nat.mul_assoc, Nat.mul_left_comm, Nat.add_comm]
theorem half_even {c r : Nat} {x z : W32} (h : it (c * r) x = z) (ho : ¬ r % 2 = 1) : it (2 * c * (r / 2)) x = z := by
  rw [← h]
  congr 1
  have : r = 2 * (r / 2) := by omega
  generalize r / 2 = q at this
  subst this
  rw [Nat.mul_assoc, Nat.mul_left_comm]

set_option maxRecDepth 100000 in
set_option maxHeartbeats 400000 in
theorem over_any (s : W32) (N : Nat) (w : World) (hN : N ≤ 9223372036854775807) :
    Calls Try.prog 45 #[.int .u32 (u s), .int .i64 N] w fun e w' => e = .returned (.int .u32 (u (it (8 * N) s))) ∧ Below w.heap.size w w' := by
  go_enter Try.func45, Try.ntmps45
  go_wp2
  go_loopw [7] (fun i wr => ∃ k : Nat, k ≤ 32 ∧ i = .int .i64 k ∧ OvRel1 w k wr) (fun i _ => 32 - (intOf i).toNat)
  case atStart => exact ⟨0, by omega, rfl, ovrel1_start w _ rfl⟩
  case round =>
    obtain ⟨k, hk, rfl, hrel⟩ := hrel
    by_cases hlt : k < 32
    · have hst : (∃ v, wr.cell? ⟨w.heap.size, k, none⟩ = some v) ∧ wr.frozen? ⟨w.heap.size, k, none⟩ = false := by
        obtain ⟨cs, h1, _, h3, _⟩ := hrel
        exact ⟨⟨_, (h3.cell k (by omega)).1⟩, (h3.cell k (by omega)).2⟩
      obtain ⟨⟨v, hv⟩, hf⟩ := hst
      have HN := Lib.hid (ovrel1_step hrel hlt)
      have HU := Lib.hid (u_bit k hlt)
      clear hrel
      go_wp2_with fail
      rw [HU.out]
      refine (byByte_any (1#32 <<< k) 0#8 _).mono ?_
      rintro e w' ⟨rfl, rfl⟩
      go_wp2_with fail
      go_roundw
      case rel => exact ⟨k + 1, by omega, by go_num, HN.out⟩
      case measure => simp [intOf]; omega
    · have HR : OvRel2 w (it (8 * N) s) N s wr := by
        obtain ⟨cs, h1, h2, h3, h4⟩ := hrel
        exact ⟨cs, 8, h1, fun j hj => h2 j (by omega), h3, h4, rfl⟩
      clear hrel
      generalize hz : it (8 * N) s = z at *
      have HZ0 := Lib.hid hz
      clear hz
      go_wp2
      go_loopw [0, 1] (fun y n wr => ∃ (r : Nat) (x : W32), r ≤ 9223372036854775807 ∧ n = .int .i64 r ∧ y = .int .u32 (u x) ∧ OvRel2 w z r x wr) (fun _ n _ => (intOf n).toNat)
      case atStart => exact ⟨N, s, hN, rfl, rfl, HR⟩
      case round =>
        clear HR
        rename_i wr0 _ _ wr
        obtain ⟨r, x, hr, rfl, rfl, hrel⟩ := hrel
        by_cases h0 : 0 < r
        · obtain ⟨cs, c, h1, h2, h3, h4, h5⟩ := hrel
          have hcw : ∀ i, i < 32 → wr.cell? ⟨w.heap.size, 0 + i, none⟩ = some (.int .u32 (u (cs.getD i 0#32))) := fun i hi => by rw [Nat.zero_add]; exact (h3.cell i (by omega)).1
          have HCW := Lib.hid hcw
          have HM := Lib.hid (mt_all c (fun j => cs.getD j 0#32) x (fun j hj => h2 j hj))
          have H3 := Lib.hid h3
          have H5 := Lib.hid h5
          clear hcw h5
          by_cases hodd : r % 2 = 1
          · have ht := odd_t hr hodd
            have H6 := Lib.hid (half_odd H5.out hodd)
            clear hodd
            go_wp2_with fail
            refine (times_any w.heap.size 0 (fun j => cs.getD j 0#32) x wr HCW.out).mono ?_
            rintro e w' ⟨rfl, rfl⟩
            rw [HM.out]
            go_wp2_with fail
            refine (square_cs w.heap.size 70 cs wr H3.out h1).mono ?_
            rintro e w2 ⟨rfl, hb2⟩
            have h32 : Words w2 w.heap.size 70 cs := (hb2.block _ (lt_of_block h3)).trans h3
            have h42 := below_into h4 hb2
            have hvl := sq_length cs
            have HS := Lib.hid (ovrel2_step (vs := sq cs) h1 h2 h32 h42 H6.out rfl)
            generalize sq cs = vs at *
            have HT1 := Lib.hid (h32.there 32 ((vs.map uv).toArray.size) (by simp; omega))
            have h33 := words_setCells vs cs 32 w2 h32
            have HR1 := Lib.hid (h33.rangeAt 32 vs (by rw [setAll_length]; omega) (fun j hj => setAll_in vs cs 32 j (by omega) hj))
            have HT2 := Lib.hid (h33.there 0 ((vs.map uv).toArray.size) (by rw [setAll_length]; simp; omega))
            have HZ : Hid ((Try.prog.info? 69).map (·.size) = some (vs.map uv).toArray.size) := by rw [Try.size69]; simp [hvl, Hid]
            have HZ2 : Hid ((Try.prog.info? 69).map (·.size) = some (vs.map uv).length) := by rw [Try.size69]; simp [hvl, Hid]
            clear h2 h3 h4 h32 h42 h33 hb2
            go_wp2_with (first
              | ((with_reducible show wpList _ _ _ (Oper.mk none (.store 69 (.tmp 29) _) _ _ _ _ :: _) _ _); refine wpList_store_mid rfl 69 (.tmp 29) (.tmp 28) rfl w.heap.size 32 (vs.map uv).toArray rfl rfl HT1.out HZ.out (uv_one vs) ?_)
              | ((with_reducible show wpList _ _ _ (Oper.mk (some 31) _ _ _ _ _ :: _) _ _); refine wpList_load_mid rfl 69 (.tmp 30) rfl w.heap.size 32 rfl (vs.map uv) _ HR1.out Try.underlying69 rfl HZ2.out ?_)
              | ((with_reducible show wpList _ _ _ (Oper.mk none (.store 69 (.tmp 32) _) _ _ _ _ :: _) _ _); refine wpList_store_mid rfl 69 (.tmp 32) (.tmp 31) rfl w.heap.size 0 (vs.map uv).toArray rfl rfl HT2.out HZ.out (uv_one vs) ?_))
            go_roundw
            case rel => exact ⟨r / 2, it c x, by omega, by go_num, rfl, HS.out⟩
            case measure => simp [intOf]; omega
          · have ht := odd_f hr hodd
            have H6 := Lib.hid (half_even H5.out hodd)
            clear hodd
            go_wp2_with fail
            refine (square_cs w.heap.size 70 cs wr H3.out h1).mono ?_
            rintro e w2 ⟨rfl, hb2⟩
            have h32 : Words w2 w.heap.size 70 cs := (hb2.block _ (lt_of_block h3)).trans h3
            have h42 := below_into h4 hb2
            have hvl := sq_length cs
            have HS := Lib.hid (ovrel2_step (vs := sq cs) h1 h2 h32 h42 H6.out rfl)
            generalize sq cs = vs at *
            have HT1 := Lib.hid (h32.there 32 ((vs.map uv).toArray.size) (by simp; omega))
            have h33 := words_setCells vs cs 32 w2 h32
            have HR1 := Lib.hid (h33.rangeAt 32 vs (by rw [setAll_length]; omega) (fun j hj => setAll_in vs cs 32 j (by omega) hj))
            have HT2 := Lib.hid (h33.there 0 ((vs.map uv).toArray.size) (by rw [setAll_length]; simp; omega))
            have HZ : Hid ((Try.prog.info? 69).map (·.size) = some (vs.map uv).toArray.size) := by rw [Try.size69]; simp [hvl, Hid]
            have HZ2 : Hid ((Try.prog.info? 69).map (·.size) = some (vs.map uv).length) := by rw [Try.size69]; simp [hvl, Hid]
            clear h2 h3 h4 h32 h42 h33 hb2
            go_wp2_with (first
              | ((with_reducible show wpList _ _ _ (Oper.mk none (.store 69 (.tmp 29) _) _ _ _ _ :: _) _ _); refine wpList_store_mid rfl 69 (.tmp 29) (.tmp 28) rfl w.heap.size 32 (vs.map uv).toArray rfl rfl HT1.out HZ.out (uv_one vs) ?_)
              | ((with_reducible show wpList _ _ _ (Oper.mk (some 31) _ _ _ _ _ :: _) _ _); refine wpList_load_mid rfl 69 (.tmp 30) rfl w.heap.size 32 rfl (vs.map uv) _ HR1.out Try.underlying69 rfl HZ2.out ?_)
              | ((with_reducible show wpList _ _ _ (Oper.mk none (.store 69 (.tmp 32) _) _ _ _ _ :: _) _ _); refine wpList_store_mid rfl 69 (.tmp 32) (.tmp 31) rfl w.heap.size 0 (vs.map uv).toArray rfl rfl HT2.out HZ.out (uv_one vs) ?_))
            go_roundw
            case rel => exact ⟨r / 2, x, by omega, by go_num, rfl, HS.out⟩
            case measure => simp [intOf]; omega
        · obtain rfl : r = 0 := by omega
          obtain ⟨cs, c, h1, h2, h3, h4, h5⟩ := hrel
          have H5 := Lib.hid (show x = z from h5)
          clear h2 h3 h5
          go_wp2
          go_ret
          exact ⟨ret_u (congrArg u (H5.out.trans HZ0.out.symm)), h4⟩
end Go.Proofs.Ytlfeahalgolbgaa
