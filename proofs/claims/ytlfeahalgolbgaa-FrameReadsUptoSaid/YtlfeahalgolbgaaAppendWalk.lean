/-
  The contract of frame.Append.
-/
import Derived.Test.YtlfeahalgolbgaaFrMem
namespace Go.Proofs.Ytlfeahalgolbgaa
open Go.RowKit
set_option linter.unusedVariables false
attribute [local go_sem] low0 low8 low16 low24

theorem nat0 (n : Nat) : (n : Int) % (256 : Int) = ub (BitVec.ofNat 8 n) := by unfold ub; rw [BitVec.toNat_ofNat]; omega
theorem nat8 (n : Nat) : (n : Int) / (256 : Int) % (256 : Int) = ub (BitVec.ofNat 8 (n / 256)) := by unfold ub; rw [BitVec.toNat_ofNat]; omega
theorem nat16 (n : Nat) : (n : Int) / (65536 : Int) % (256 : Int) = ub (BitVec.ofNat 8 (n / 65536)) := by unfold ub; rw [BitVec.toNat_ofNat]; omega

theorem hd4_small (k : B8) (n : Nat) : (hd4 k n).length ≤ 281474976710656 := by simp [hd4]

theorem own8_tail {w : World} {base g N c : Nat} {l m : List B8} (h : Own8 w base (.slice (some ⟨g, 0, none⟩) N c) (l ++ m)) (hm : m.length ≤ 281474976710656) : Row8 w (some ⟨g, l.length, none⟩) m.length m := by
  refine ⟨rfl, hm, fun _ => ⟨g, l.length, rfl, fun i hi => ?_⟩⟩
  rw [(own8_cell h (l.length + i) (by rw [List.length_append]; omega)).1]
  rw [List.getD_eq_getElem?_getD, List.getElem?_append_right (by omega), Nat.add_sub_cancel_left, ← List.getD_eq_getElem?_getD]

def AppPost (w : World) (l : List B8) (e : Ending) (w' : World) : Prop :=
  ∃ v, e = .returned (.tuple #[v, .int .i64 0]) ∧ Own8 w' w.heap.size v l ∧ Below w.heap.size w w'

theorem append_long (a : Option Addr) (n c : Nat) (kind : B8) (a' : Option Addr) (m c' : Nat) (w : World) (hm : 1048576 < m) (hm2 : m ≤ 281474976710656) :
    Calls Try.prog 20 #[.slice a n c, .agg #[.int .u8 (ub kind), .slice a' m c']] w fun e w' => e = .returned (.tuple #[.slice none 0 0, .int .i64 3]) ∧ Below w.heap.size w w' := by
  go_enter Try.func20, Try.ntmps20
  go_wp2_with fail
  go_ret2
  exact ⟨rfl, below_alloc w _⟩

set_option maxRecDepth 100000 in
set_option maxHeartbeats 800000 in
theorem append_any (a : Option Addr) (n c : Nat) (l : List B8) (kind : B8) (a' : Option Addr) (m c' : Nat) (body : List B8) (w : World) (r1 : Row8 w a n l) (r2 : Row8 w a' m body)
    (hn : n ≤ 140737488351232) (hnc : n ≤ c) (hnil : a = none → c = 0) (hm : m ≤ 1048576) :
    Calls Try.prog 20 #[.slice a n c, .agg #[.int .u8 (ub kind), .slice a' m c']] w (AppPost w (l ++ frB kind body)) := by
  have HL := Lib.hid r1.1
  have HM := Lib.hid r2.1
  have R1 := Lib.hid r1
  have R2 := Lib.hid r2
  have e0 := nat0 m
  have e8 := nat8 m
  have e16 := nat16 m
  clear r1 r2
  go_enter Try.func20, Try.ntmps20
  go_wp2_with fail
  have hbb := below_alloc w (.cells #[.int .u8 (ub kind), .slice a' m c'] 34)
  have hc0 : (w.alloc (.cells #[.int .u8 (ub kind), .slice a' m c'] 34)).cell? ⟨w.heap.size, 0, none⟩ = some (.int .u8 (ub kind)) := by simp
  have hc1 : (w.alloc (.cells #[.int .u8 (ub kind), .slice a' m c'] 34)).cell? ⟨w.heap.size, 1, none⟩ = some (.slice a' m c') := by simp
  have hsz : w.heap.size + 1 ≤ (w.alloc (.cells #[.int .u8 (ub kind), .slice a' m c'] 34)).heap.size := by simp
  generalize w.alloc (.cells #[.int .u8 (ub kind), .slice a' m c'] 34) = wb at *
  have S1 := Lib.hid (R1.out.below hbb)
  have S2 := Lib.hid (R2.out.below hbb)
  have i1 : (0 : Int) ≤ (n : Int) := by omega
  have i2 : (n : Int) ≤ (c : Int) := by omega
  go_region_law (refine step_append8_new rfl (.tmp 19) (.tmp 30) rfl _ _ _ l rfl (S1.out.below (by exact ((Below.refl _ _).alloc (Nat.le_refl _) _).drew)) _ 4 4 (hd4 kind m) rfl (by exact (row8_new wb (hd4 kind m) _ rfl (hd4_small kind m)).below ((Below.refl _ _).drew)) (by omega) (by intro h; have := hnil h; omega) (by simp [hd4, ← HL.out]; omega) (by omega) ?_; intro v2 w2 hown2 hg2)
  have hb2 : Below wb.heap.size wb w2 := (((Below.refl _ _).alloc (Nat.le_refl _) _).drew).trans ((below_grown_none hg2).mono (by simp))
  have hown2b := hown2.base (show w.heap.size + 1 ≤ _ by simp; omega)
  clear hg2 hown2
  obtain ⟨g, c2, rfl, hgb, hc2, _⟩ := own8_block hown2b (by simp [hd4])
  have hlen : (l ++ hd4 kind m).length = n + 4 := by simp [hd4, ← HL.out]
  rw [hlen] at hown2b hc2 ⊢
  have HO2 := Lib.hid hown2b
  have hrow := own8_tail hown2b (hd4_small kind m)
  rw [← HL.out] at hrow
  have HR2 := Lib.hid hrow
  have hd1 := (hb2.cell (p := ⟨w.heap.size, 1, none⟩) (by simp; omega)).trans hc1
  clear hown2b hrow hlen hc0 hc1
  have i3 : (n : Int) ≤ (n : Int) + 4 := by omega
  go_wp2_with fail
  refine (sum_any _ _ _ (hd4 kind m) _ _ rfl HR2.out).mono ?_
  rintro e w' ⟨rfl, rfl⟩
  have hbw2 : Below w.heap.size w w2 := below_into hbb hb2
  obtain ⟨s, hs⟩ : ∃ s, s = sumOf (hd4 kind m) := ⟨_, rfl⟩
  rw [← hs]
  have HS := Lib.hid hs
  clear hs
  have hbs2 : w.heap.size + 1 ≤ w2.heap.size := by have := hb2.size; omega
  go_wp2_with fail
  have hh4 : (hd4 kind m).length = 4 := rfl
  have hl4 : ∀ s, (le4 s).length = 4 := fun s => rfl
  have HBD : Hid ((l ++ hd4 kind m ++ le4 s).length + body.length ≤ 140737492549632) := by
    show _ ≤ _
    rw [List.length_append, List.length_append, hh4, hl4, ← HL.out, ← HM.out]; omega
  have HBD1 : Hid ((l ++ hd4 kind m).length ≤ 140737492549600) := by
    show _ ≤ _
    rw [List.length_append, hh4, ← HL.out]; omega
  have HBD3 : Hid ((l ++ hd4 kind m ++ le4 s ++ body).length ≤ 140737492549600) := by
    show _ ≤ _
    rw [List.length_append, List.length_append, List.length_append, hh4, hl4, ← HL.out, ← HM.out]; omega
  have HFIN : Hid (l ++ frB kind body = l ++ hd4 kind m ++ le4 s ++ body ++ le4 (more s body)) := by
    show _ = _
    unfold frB
    rw [← HM.out, ← HS.out]
    simp only [List.append_assoc]
  clear hh4 hl4 HS
  go_region_law (first
    | (go_simp; go_at_call 42; refine (put_own (w.heap.size + 1) _ (l ++ hd4 kind m) s _ (HO2.out.below (Below.refl _ _).drew) HBD1.out (by simp; omega)).mono ?_; rintro e w3 ⟨v3, rfl, hown3, hb3, hs3⟩; have hd3 := (hb3.cell (p := ⟨w.heap.size, 1, none⟩) (by simp)).trans hd1)
    | (refine step_append8 rfl (.tmp 39) (.tmp 41) rfl (w.heap.size + 1) v3 (l ++ hd4 kind m ++ le4 s) rfl hown3 _ m _ body rfl (R2.out.below (by exact hbw2.trans ((Below.refl _ _).drew.trans (hb3.mono (by omega))))) HBD.out (Nat.le_trans (m := w2.heap.size) hbs2 hs3) ?_; intro v4 w4 hown4 hg4))
  all_goals
    have hbs3 : w.heap.size + 1 ≤ w3.heap.size := Nat.le_trans (m := w2.heap.size) hbs2 hs3
    have hb4 : Below (w.heap.size + 1) w2 w4 := below_grown ((Below.refl _ _).drew.trans hb3) hg4 hown3 hbs3
    have hd4' := (hb4.cell (p := ⟨w.heap.size, 1, none⟩) (by simp)).trans hd1
    have hb24 : Below w.heap.size w w4 := hbw2.trans (hb4.mono (by omega))
    have R4 := Lib.hid (R2.out.below hb24)
    have HO4 := Lib.hid hown4
    have hs4 : w.heap.size + 1 ≤ w4.heap.size := by have := hg4.size; omega
    clear hown3 hown4 hg4 hd3 hd1 hb3 hb2 hbb
    go_wp2_with fail
    refine (more_any s _ _ _ body _ R4.out).mono ?_
    rintro e w' ⟨rfl, rfl⟩
    go_wp2_with fail
    refine (put_own (w.heap.size + 1) _ (l ++ hd4 kind m ++ le4 s ++ body) (more s body) _ HO4.out HBD3.out hs4).mono ?_
    rintro e w5 ⟨v5, rfl, hown5, hb5, hs5⟩
    rw [← HFIN.out] at hown5
    go_wp2_with fail
    go_ret2
    exact ⟨v5, rfl, hown5.base (by omega), hb24.trans (hb5.mono (by omega))⟩
end Go.Proofs.Ytlfeahalgolbgaa
