/-
  The contract of the document's Append.
-/
import Derived.Test.YtlfeahalgolbgaaAppendWalk
import Derived.Test.YtlfeahalgolbgaaRefWalk
namespace Go.Proofs.Ytlfeahalgolbgaa
open Go.RowKit
set_option linter.unusedVariables false

theorem Row8.grown {w w' : World} {g o n : Nat} {l : List B8} {row : Option Nat} (h : Row8 w (some ⟨g, o, none⟩) n l) (hg : w.grownBy w' row) (hne : some g ≠ row) : Row8 w' (some ⟨g, o, none⟩) n l := by
  obtain ⟨h1, h2, h3⟩ := h
  refine ⟨h1, h2, fun h0 => ?_⟩
  obtain ⟨b, o', ha, hc⟩ := h3 h0
  refine ⟨b, o', ha, fun i hi => ?_⟩
  simp only [Option.some.injEq, Addr.mk.injEq, and_true] at ha
  obtain ⟨rfl, rfl⟩ := ha
  exact hg.cell (hc i hi) hne

theorem own8_cast {w : World} {base : Nat} {v : Value} {l l' : List B8} (h : Own8 w base v l) (e : l = l') : Own8 w base v l' := e ▸ h

theorem nat16' (n : Nat) (h : n ≤ 1048576) : (n : Int) / (65536 : Int) = ub (BitVec.ofNat 8 (n / 65536)) := by unfold ub; rw [BitVec.toNat_ofNat]; omega

theorem rappend_long (a : Option Addr) (n c : Nat) (kind : B8) (a' : Option Addr) (m c' : Nat) (w : World) (hm : 1048576 < m) (hm2 : m ≤ 281474976710656) :
    Calls Try.prog 21 #[.slice a n c, .agg #[.int .u8 (ub kind), .slice a' m c']] w fun e w' => e = .returned (.tuple #[.slice none 0 0, .int .i64 3]) ∧ Below w.heap.size w w' := by
  go_enter Try.func21, Try.ntmps21
  go_wp2_with fail
  go_ret2
  exact ⟨rfl, below_alloc w _⟩

set_option maxRecDepth 100000 in
set_option maxHeartbeats 1600000 in
theorem rappend_any (a : Option Addr) (n c : Nat) (l : List B8) (kind : B8) (a' : Option Addr) (m c' : Nat) (body : List B8) (w : World) (r1 : Row8 w a n l) (r2 : Row8 w a' m body)
    (hn : n ≤ 140737488351232) (hm : m ≤ 1048576) :
    Calls Try.prog 21 #[.slice a n c, .agg #[.int .u8 (ub kind), .slice a' m c']] w (AppPost w (l ++ frB kind body)) := by
  have HL := Lib.hid r1.1
  have HM := Lib.hid r2.1
  have R1 := Lib.hid r1
  have R2 := Lib.hid r2
  have e0 := nat0 m
  have e8 := nat8 m
  have e16 := nat16' m hm
  clear r1 r2
  go_enter Try.func21, Try.ntmps21
  go_wp2_with fail
  obtain ⟨h4, hh4⟩ : ∃ h4, hd4 kind m = h4 := ⟨_, rfl⟩
  have hh4l : h4.length = 4 := by rw [← hh4]; rfl
  have hrow0 := row8_new (w.alloc (.cells #[.int .u8 (ub kind), .slice a' m c'] 34)) (hd4 kind m) #[.int .u8 (ub kind), .int .u8 (ub (BitVec.ofNat 8 m)), .int .u8 (ub (BitVec.ofNat 8 (m / 256))), .int .u8 (ub (BitVec.ofNat 8 (m / 65536)))] rfl (hd4_small kind m)
  have hbw := ((Below.refl w.heap.size w).alloc (Nat.le_refl _) (.cells #[.int .u8 (ub kind), .slice a' m c'] 34)).alloc (by simp) (.cells #[.int .u8 (ub kind), .int .u8 (ub (BitVec.ofNat 8 m)), .int .u8 (ub (BitVec.ofNat 8 (m / 256))), .int .u8 (ub (BitVec.ofNat 8 (m / 65536)))] 5)
  have hc1 : ((w.alloc (.cells #[.int .u8 (ub kind), .slice a' m c'] 34)).alloc (.cells #[.int .u8 (ub kind), .int .u8 (ub (BitVec.ofNat 8 m)), .int .u8 (ub (BitVec.ofNat 8 (m / 256))), .int .u8 (ub (BitVec.ofNat 8 (m / 65536)))] 5)).cell? ⟨w.heap.size, 1, none⟩ = some (.slice a' m c') := by simp
  have hsz : w.heap.size + 2 = ((w.alloc (.cells #[.int .u8 (ub kind), .slice a' m c'] 34)).alloc (.cells #[.int .u8 (ub kind), .int .u8 (ub (BitVec.ofNat 8 m)), .int .u8 (ub (BitVec.ofNat 8 (m / 256))), .int .u8 (ub (BitVec.ofNat 8 (m / 65536)))] 5)).heap.size := by simp
  rw [show (w.alloc (.cells #[.int .u8 (ub kind), .slice a' m c'] 34)).heap.size = w.heap.size + 1 by simp, hh4, hh4l] at hrow0
  generalize (w.alloc (.cells #[.int .u8 (ub kind), .slice a' m c'] 34)).alloc (.cells #[.int .u8 (ub kind), .int .u8 (ub (BitVec.ofNat 8 m)), .int .u8 (ub (BitVec.ofNat 8 (m / 256))), .int .u8 (ub (BitVec.ofNat 8 (m / 65536)))] 5) = wb at *
  have HR0 := Lib.hid hrow0
  have HSZ := Lib.hid hsz
  clear hrow0 hsz e0 e8 e16
  refine (rsum_any _ _ _ h4 _ _ rfl HR0.out).mono ?_
  rintro e w' ⟨rfl, rfl⟩
  obtain ⟨s, hs⟩ : ∃ s, sumOf h4 = s := ⟨_, rfl⟩
  rw [hs]
  have hl4 : (le4 s).length = 4 := rfl
  have HFIN : Hid (l ++ frB kind body = l ++ h4 ++ le4 s ++ body ++ le4 (more s body)) := by
    show _ = _
    unfold frB
    rw [← HM.out, hh4, hs]
    simp only [List.append_assoc]
  have B1 : Hid (l.length + h4.length ≤ 140737492549632) := by show _ ≤ _; rw [hh4l, ← HL.out]; omega
  have B2 : Hid ((l ++ h4).length + (le4 s).length ≤ 140737492549632) := by show _ ≤ _; rw [List.length_append, hh4l, hl4, ← HL.out]; omega
  have B3 : Hid ((l ++ h4 ++ le4 s).length + body.length ≤ 140737492549632) := by show _ ≤ _; rw [List.length_append, List.length_append, hh4l, hl4, ← HL.out, ← HM.out]; omega
  have B4 : Hid ((l ++ h4 ++ le4 s ++ body).length + (le4 (more s body)).length ≤ 140737492549632) := by show _ ≤ _; rw [List.length_append, List.length_append, List.length_append, hh4l, hl4, show (le4 (more s body)).length = 4 from rfl, ← HL.out, ← HM.out]; omega
  have B0 : Hid (([] : List B8).length + l.length ≤ 140737492549632) := by show _ ≤ _; rw [List.length_nil, ← HL.out]; omega
  clear hh4 hs hl4 hh4l
  have hszb : w.heap.size + 2 ≤ wb.heap.size := Nat.le_of_eq HSZ.out
  -- the bytes in front, the head, its sum
  go_wp2_with (at_builtin; refine wpList_append8 rfl _ _ rfl wb.heap.size _ [] rfl (own8_made wb _ (Nat.le_refl _)) _ _ _ l rfl (R1.out.below (hbw.alloc (by omega) _)) B0.out (by simp) ?_)
  intro v2 w2 hown2 hg2
  have hb2 : Below wb.heap.size wb w2 := below_grown (below_alloc wb _) hg2 (own8_made wb _ (Nat.le_refl _)) (by simp)
  have HO2 : Hid (Own8 w2 wb.heap.size v2 l) := own8_cast hown2 (by simp)
  clear hg2 hown2
  go_wp2_with (at_builtin; refine wpList_append8 rfl _ _ rfl wb.heap.size _ l rfl HO2.out _ _ _ h4 rfl (HR0.out.below hb2) B1.out hb2.size ?_)
  intro v3 w3 hown3 hg3
  have hb3 : Below wb.heap.size wb w3 := below_grown hb2 hg3 HO2.out hb2.size
  have HO3 : Hid (Own8 w3 wb.heap.size v3 (l ++ h4)) := own8_cast hown3 (by simp)
  clear hg3 hown3
  go_wp2_with fail
  refine (four_any s _).mono ?_
  rintro e w4 ⟨g4, rfl, hg4, hr4, hb4⟩
  have HO4 := Lib.hid (HO3.out.below hb4)
  have HR4 := Lib.hid hr4
  have hb14 : Below wb.heap.size wb w4 := below_into hb3 hb4
  clear hr4
  go_wp2_with (at_builtin; refine wpList_append8 rfl _ _ rfl wb.heap.size _ (l ++ h4) rfl HO4.out _ _ _ (le4 s) rfl HR4.out B2.out hb14.size ?_)
  intro v5 w5 hown5 hg5
  have hb5 : Below wb.heap.size wb w5 := below_grown hb14 hg5 HO4.out hb14.size
  have HO5 : Hid (Own8 w5 wb.heap.size v5 (l ++ h4 ++ le4 s)) := own8_cast hown5 (by simp)
  have hd5 := (hb5.cell (p := ⟨w.heap.size, 1, none⟩) (by simp; omega)).trans hc1
  have hbw5 : Below w.heap.size w w5 := hbw.trans (hb5.mono (by omega))
  have hs5 : wb.heap.size ≤ w5.heap.size := hb5.size
  clear hg5 hown5 hb2 hb3 hb4 hb14 hb5 hc1 hbw hg4
  go_wp2_with fail
  have hD : Below w5.heap.size w5 w5.drew := (Below.refl _ _).drew
  have hN : w.heap.size < wb.heap.size := by omega
  have hN5 : w.heap.size < w5.heap.size := by omega
  go_region_law (first
    | (go_simp; go_at_call 33; refine (rmore_any s _ _ _ body _ (R2.out.below (by first | exact hbw5.drew | exact hbA | exact hbF))).mono ?_; rintro e w' ⟨rfl, rfl⟩)
    | (go_simp; go_at_call 43; refine (four_any _ _).mono ?_; rintro e wF ⟨gF, rfl, hgF, hrF, hF⟩; have hsF := hF.size; have hbF : Below w.heap.size w wF := (by first | exact hbw5.trans ((hD.trans hF).mono (by omega)) | exact hbA.trans (hF.mono (by omega))); have qF : wF.cell? ⟨w.heap.size, 1, none⟩ = some (.slice a' m c') := (by first | exact (hF.cell (p := ⟨w.heap.size, 1, none⟩) hN5).trans hd5 | exact (hF.cell (p := ⟨w.heap.size, 1, none⟩) hNA).trans qA))
    | (refine step_append8 rfl (.tmp 36) (.tmp 38) rfl wb.heap.size v5 (l ++ h4 ++ le4 s) (by go_simp) (by first | exact HO5.out.below hD | exact HO5.out.below (hD.trans hF)) a' m c' body (by go_simp) (R2.out.below (by first | exact hbw5.drew | exact hbF)) B3.out (by first | exact hs5 | exact Nat.le_trans hs5 hsF) ?_; intro vA wA hownA hgA; have hbA5 : Below wb.heap.size w5 wA := (by first | exact below_grown (hD.mono hs5) hgA (HO5.out.below hD) hs5 | exact below_grown ((hD.trans hF).mono hs5) hgA (HO5.out.below (hD.trans hF)) (Nat.le_trans hs5 hsF)); have hbA : Below w.heap.size w wA := hbw5.trans (hbA5.mono (by omega)); have qA : wA.cell? ⟨w.heap.size, 1, none⟩ = some (.slice a' m c') := (hbA5.cell (p := ⟨w.heap.size, 1, none⟩) hN).trans hd5; have hNA : w.heap.size < wA.heap.size := Nat.lt_of_lt_of_le hN5 hbA5.size)
    | (refine step_append8 rfl (.tmp 39) (.tmp 44) rfl wb.heap.size vA (l ++ h4 ++ le4 s ++ body) (by go_simp) (by first | exact own8_cast hownA (by simp) | exact own8_cast (hownA.below hF) (by simp)) (some ⟨gF, 0, none⟩) 4 4 (le4 (more s body)) (by go_simp) (by first | exact hrF | exact hrF.grown hgA (by intro e; have := World.ownsRow.lt (HO5.out) gF e.symm; omega)) B4.out (by first | exact Nat.le_trans hs5 hbA5.size | exact Nat.le_trans (Nat.le_trans hs5 hbA5.size) hsF) ?_; intro vZ wZ hownZ hgZ))
  all_goals
    have hbZ : Below w.heap.size w wZ := (by first | exact below_grown hbA hgZ (hownA.base (by omega)) (Nat.le_of_lt hNA) | exact below_grown hbF hgZ ((hownA.below hF).base (by omega)) (Nat.le_trans (Nat.le_of_lt hNA) hsF))
    have hoZ : Own8 wZ w.heap.size vZ (l ++ frB kind body) := by
      rw [HFIN.out]
      exact own8_cast (hownZ.base (by omega)) (by simp)
    have HZ1 := Lib.hid hbZ
    have HZ2 := Lib.hid hoZ
    clear hbZ hoZ hownZ hgZ hownA hgA hgF hrF hF hbF qF hbA5 hbA qA hd5 hbw5
    go_wp2_with fail
    go_ret2
    exact ⟨vZ, rfl, HZ2.out, HZ1.out⟩
end Go.Proofs.Ytlfeahalgolbgaa
