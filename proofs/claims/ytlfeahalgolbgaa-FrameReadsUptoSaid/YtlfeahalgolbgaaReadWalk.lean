/-
  The contract of frame.Read.
-/
import Derived.Test.YtlfeahalgolbgaaGetWalk
import Derived.Test.YtlfeahalgolbgaaAppendWalk
namespace Go.Proofs.Ytlfeahalgolbgaa
open Go.RowKit
set_option linter.unusedVariables false

def len3 (l : List B8) : Nat := (l.getD 1 0#8).toNat + (l.getD 2 0#8).toNat * 256 + (l.getD 3 0#8).toNat * 65536

theorem or64 (x y : Nat) (i : Nat) (hx : x < 2 ^ i) (hy : y % 2 ^ i = 0) (h : x + y < 4294967296) : bits .or .i64 (x : Int) (y : Int) = ((x + y : Nat) : Int) := by
  show IntKind.i64.wrap ((BitVec.ofInt 64 (x : Int) ||| BitVec.ofInt 64 (y : Int)).toNat : Int) = _
  rw [BitVec.toNat_or, ofInt_u64 x (by omega), ofInt_u64 y (by omega), Nat.or_comm, nat_join i y x hy hx, Nat.add_comm, IntKind.wrap_i64]
  omega

theorem or_len3 (x1 x2 x3 : B8) : bits .or .i64 (bits .or .i64 (ub x1) (ub x2 * 256)) (ub x3 * 65536) = ((x1.toNat + x2.toNat * 256 + x3.toNat * 65536 : Nat) : Int) := by
  have h1 := x1.isLt
  have h2 := x2.isLt
  have h3 := x3.isLt
  unfold ub
  rw [show (x2.toNat : Int) * 256 = ((x2.toNat * 256 : Nat) : Int) by omega, show (x3.toNat : Int) * 65536 = ((x3.toNat * 65536 : Nat) : Int) by omega]
  rw [or64 x1.toNat (x2.toNat * 256) 8 (by omega) (by omega) (by omega)]
  rw [or64 (x1.toNat + x2.toNat * 256) (x3.toNat * 65536) 16 (by omega) (by omega) (by omega)]

def RdErr (w : World) (er : Int) (e : Ending) (w' : World) : Prop :=
  e = .returned (.tuple #[.agg #[.int .u8 0, .slice none 0 0], .int .i64 0, .int .i64 er]) ∧ Below w.heap.size w w'

theorem read_short (a : Option Addr) (n c : Nat) (w : World) (hn : n < 8) : Calls Try.prog 24 #[.slice a n c] w (RdErr w 4) := by
  go_enter Try.func24, Try.ntmps24
  go_wp2
  exact bodyPost_ret (v := .tuple #[.agg #[.int .u8 0, .slice none 0 0], .int .i64 0, .int .i64 4]) (by simp [results, Try.results24, go_sem]) rfl ⟨rfl, below_alloc w _⟩

theorem Row8.cut {w : World} {b o n : Nat} {l : List B8} (h : Row8 w (some ⟨b, o, none⟩) n l) (k m : Nat) (hm : k + m ≤ n) : Row8 w (some ⟨b, o + k, none⟩) m ((l.drop k).take m) := by
  obtain ⟨h1, h2, h3⟩ := h
  refine ⟨by rw [List.length_take, List.length_drop]; omega, by omega, fun h0 => ?_⟩
  obtain ⟨b', o', ha, hc⟩ := h3 (by omega)
  simp only [Option.some.injEq, Addr.mk.injEq, and_true] at ha
  obtain ⟨rfl, rfl⟩ := ha
  refine ⟨b, o + k, rfl, fun i hi => ?_⟩
  rw [Nat.add_assoc, hc (k + i) (by omega)]
  simp [List.getD_eq_getElem?_getD, hi]

theorem own8_nil (w : World) (base : Nat) : Own8 w base (.slice none 0 0) [] := World.ownsRow_nil _ _ _ _

/-- what Read tells: a frame's kind and body, how many bytes, the error -/
def readF (l : List B8) : B8 × List B8 × Nat × Nat :=
  if l.length < 8 then (0#8, [], 0, 4)
  else if numL (l.drop 4) ≠ sumOf (l.take 4) ∨ 1048576 < len3 l then (0#8, [], 0, 5)
  else if l.length < 12 + len3 l then (0#8, [], 0, 4)
  else if numL (l.drop (8 + len3 l)) ≠ more (sumOf (l.take 4)) ((l.drop 8).take (len3 l)) then (0#8, [], 0, 5)
  else (l.getD 0 0#8, (l.drop 8).take (len3 l), 12 + len3 l, 0)

def RdPost (w : World) (r : B8 × List B8 × Nat × Nat) (e : Ending) (w' : World) : Prop :=
  ∃ ba bc, e = .returned (.tuple #[.agg #[.int .u8 (ub r.1), .slice ba r.2.1.length bc], .int .i64 r.2.2.1, .int .i64 r.2.2.2]) ∧ Own8 w' w.heap.size (.slice ba r.2.1.length bc) r.2.1 ∧ Below w.heap.size w w'

theorem rdErr_post {w : World} {er : Nat} {e : Ending} {w' : World} (h : RdErr w er e w') : RdPost w (0#8, [], 0, er) e w' :=
  ⟨none, 0, h.1, World.ownsRow_nil _ _ _ _, h.2⟩

theorem Row8.tail {w : World} {b o n : Nat} {l : List B8} (h : Row8 w (some ⟨b, o, none⟩) n l) (k : Nat) (hk : k ≤ n) : Row8 w (some ⟨b, o + k, none⟩) (n - k) (l.drop k) := by
  have := h.cut k (n - k) (by omega)
  rwa [List.take_of_length_le (by rw [List.length_drop, ← h.1]; exact Nat.le_refl _)] at this

set_option maxRecDepth 100000 in
set_option maxHeartbeats 1600000 in
theorem read_main (a : Option Addr) (n c : Nat) (l : List B8) (w : World) (h : Row8 w a n l) (hn : 8 ≤ n) (hnc : n ≤ c) (hnn : n ≤ 140737492549632) : Calls Try.prog 24 #[.slice a n c] w (RdPost w (readF l)) := by
  obtain ⟨b, o, rfl, hcc⟩ := h.2.2 (by omega)
  have hb := below_alloc w (.cells #[.int .u8 0, .slice none 0 0] 34)
  have HR := Lib.hid (h.below hb)
  have HR0 := Lib.hid h
  have HL := Lib.hid h.1
  have hc0 : ∀ k, k < n → (w.alloc (.cells #[.int .u8 0, .slice none 0 0] 34)).cell? ⟨b, o + k, none⟩ = some (.int .u8 (ub (l.getD k 0#8))) := fun k hk => by
    have := hcc k hk
    rw [hb.cell (p := ⟨b, o + k, none⟩) (block_lt_of_cell this)]; exact this
  have g0 := hc0 0 (by omega)
  have g1 := hc0 1 (by omega)
  have g2 := hc0 2 (by omega)
  have g3 := hc0 3 (by omega)
  rw [Nat.add_zero] at g0
  have hbx : b < w.heap.size := block_lt_of_cell (hcc 0 (by omega))
  have HCC := Lib.hid hcc
  have HM : Hid (len3 l = (l.getD 1 0#8).toNat + (l.getD 2 0#8).toNat * 256 + (l.getD 3 0#8).toNat * 65536) := rfl
  have HO := Lib.hid (or_len3 (l.getD 1 0#8) (l.getD 2 0#8) (l.getD 3 0#8))
  have hm24 : len3 l < 16777216 := by
    have h1 := (l.getD 1 0#8).isLt
    have h2 := (l.getD 2 0#8).isLt
    have h3 := (l.getD 3 0#8).isLt
    unfold len3; omega
  have HK0 : Hid (readF l = if numL (l.drop 4) ≠ sumOf (l.take 4) ∨ 1048576 < len3 l then (0#8, [], 0, 5)
    else if l.length < 12 + len3 l then (0#8, [], 0, 4)
    else if numL (l.drop (8 + len3 l)) ≠ more (sumOf (l.take 4)) ((l.drop 8).take (len3 l)) then (0#8, [], 0, 5)
    else (l.getD 0 0#8, (l.drop 8).take (len3 l), 12 + len3 l, 0)) := by
      show _ = _
      unfold readF; rw [if_neg (by rw [← HL.out]; omega)]
  clear hc0 hcc h hb
  generalize readF l = res at *
  generalize len3 l = m at *
  generalize l.getD 0 0#8 = x0 at *
  generalize l.getD 1 0#8 = x1 at *
  generalize l.getD 2 0#8 = x2 at *
  generalize l.getD 3 0#8 = x3 at *
  have p1 := ub_lo x1
  have p2 := ub_hi x1
  have p3 := ub_lo x2
  have p4 := ub_hi x2
  have p5 := ub_lo x3
  have p6 := ub_hi x3
  have i1 : (1 : Int) < (n : Int) := by omega
  have i2 : (2 : Int) < (n : Int) := by omega
  have i3 : (3 : Int) < (n : Int) := by omega
  go_enter Try.func24, Try.ntmps24
  go_wp2_with fail
  refine (sum_any _ _ _ (l.take 4) _ _ rfl ?_).mono ?_
  · have := HR.out.cut 0 4 (by omega)
    simpa using this
  rintro e w' ⟨rfl, rfl⟩
  go_wp2_with fail
  go_quiet (fail)
  go_wp2_with fail
  rw [HO.out, ← HM.out]
  refine (get_any _ _ _ (l.drop 4) _ ?_ (by omega) _ rfl).mono ?_
  · exact (HR.out.below (below_drewN (Below.refl _ _) nq)).tail 4 (by omega)
  rintro e w2 ⟨rfl, hb2⟩
  have hbw : Below w.heap.size w w2 := (below_drewN (below_alloc w _) nq).trans (hb2.mono (by simp))
  have hx0 : w2.cell? ⟨w.heap.size, 0, none⟩ = some (.int .u8 0) := by
    rw [hb2.cell (p := ⟨w.heap.size, 0, none⟩) (by simp)]; simp
  have hx1 : w2.cell? ⟨w.heap.size, 1, none⟩ = some (.slice none 0 0) := by
    rw [hb2.cell (p := ⟨w.heap.size, 1, none⟩) (by simp)]; simp
  have hf0 : w2.frozen? ⟨w.heap.size, 0, none⟩ = false := by
    rw [hb2.frozen (p := ⟨w.heap.size, 0, none⟩) (by simp)]; simp
  have hf1 : w2.frozen? ⟨w.heap.size, 1, none⟩ = false := by
    rw [hb2.frozen (p := ⟨w.heap.size, 1, none⟩) (by simp)]; simp
  have hsz2 : w.heap.size < w2.heap.size := by have := hb2.size; simp at this; omega
  clear hb2 g1 g2 g3 p1 p2 p3 p4 p5 p6 i1 i2 i3
  obtain ⟨z, hz⟩ : ∃ z, numL (l.drop 4) = z := ⟨_, rfl⟩
  obtain ⟨s, hs⟩ : ∃ s, sumOf (l.take 4) = s := ⟨_, rfl⟩
  rw [hz, hs]
  have HK1 : Hid (res = if z ≠ s ∨ 1048576 < m then (0#8, [], 0, 5)
    else if l.length < 12 + m then (0#8, [], 0, 4)
    else if numL (l.drop (8 + m)) ≠ more s ((l.drop 8).take m) then (0#8, [], 0, 5)
    else (x0, (l.drop 8).take m, 12 + m, 0)) := by
      have := HK0.out
      rw [hz, hs] at this
      exact this
  clear hz hs
  by_cases hzs : z = s
  · subst hzs
    have t2 : (u z != u z) = false := by rw [bne, beq_self_eq_true]; rfl
    by_cases hmx : 1048576 < m
    · have HK2 : Hid (res = (0#8, [], 0, 5)) := by
        show _ = _
        rw [HK1.out, if_pos (.inr hmx)]
      go_wp2_with fail
      exact bodyPost_ret (v := .tuple #[.agg #[.int .u8 0, .slice none 0 0], .int .i64 0, .int .i64 5]) (by simp [results, Try.results24, go_sem, hx0, hx1]) rfl (by rw [HK2.out]; exact rdErr_post ⟨rfl, (hbw.setCell (Nat.le_refl _) _).setCell (Nat.le_refl _) _⟩)
    have HK3 : Hid (res = if l.length < 12 + m then (0#8, [], 0, 4)
      else if numL (l.drop (8 + m)) ≠ more z ((l.drop 8).take m) then (0#8, [], 0, 5)
      else (x0, (l.drop 8).take m, 12 + m, 0)) := by
        show _ = _
        rw [HK1.out, if_neg (by intro h; rcases h with h | h; exact h rfl; exact hmx h)]
    by_cases hsh : n < 12 + m
    · have HK2 : Hid (res = (0#8, [], 0, 4)) := by
        show _ = _
        rw [HK3.out, if_pos (by rw [← HL.out]; exact hsh)]
      go_wp2_with fail
      exact bodyPost_ret (v := .tuple #[.agg #[.int .u8 0, .slice none 0 0], .int .i64 0, .int .i64 4]) (by simp [results, Try.results24, go_sem, hx0, hx1]) rfl (by rw [HK2.out]; exact rdErr_post ⟨rfl, (hbw.setCell (Nat.le_refl _) _).setCell (Nat.le_refl _) _⟩)
    have HK4 : Hid (res = if numL (l.drop (8 + m)) ≠ more z ((l.drop 8).take m) then (0#8, [], 0, 5)
      else (x0, (l.drop 8).take m, 12 + m, 0)) := by
        show _ = _
        rw [HK3.out, if_neg (by rw [← HL.out]; exact hsh)]
    have HR2 := Lib.hid (HR0.out.below hbw)
    have hxb : w2.cell? ⟨b, o, none⟩ = some (.int .u8 (ub x0)) := by
      have e : (w.alloc (.cells #[.int .u8 0, .slice none 0 0] 34)).cell? ⟨b, o, none⟩ = w.cell? ⟨b, o, none⟩ := (below_alloc w _).cell (p := ⟨b, o, none⟩) hbx
      rw [hbw.cell (p := ⟨b, o, none⟩) hbx, ← e]; exact g0
    clear HK0 HK1 HK3 HO HM g0
    by_cases hm0 : m = 0
    · subst hm0
      obtain ⟨body, hbody⟩ : ∃ body, (l.drop 8).take 0 = body := ⟨_, rfl⟩
      have hbl : body.length = 0 := by rw [← hbody, List.length_take, List.length_drop, ← HL.out]; omega
      have hrb : Row8 w2 (some ⟨b, o, none⟩) 0 body := ⟨by omega, by omega, fun h => absurd h (by omega)⟩
      have HRB := Lib.hid hrb
      have hrt : Row8 w2 (some ⟨b, o + 8, none⟩) (n - 8) (l.drop 8) := HR2.out.tail 8 (by omega)
      have HRT := Lib.hid hrt
      obtain ⟨z2, hz2⟩ : ∃ z2, numL (l.drop 8) = z2 := ⟨_, rfl⟩
      obtain ⟨s2, hs2⟩ : ∃ s2, more z body = s2 := ⟨_, rfl⟩
      have HK5 : Hid (res = if z2 ≠ s2 then (0#8, [], 0, 5) else (x0, body, 12, 0)) := by
        have := HK4.out
        rw [hbody] at this
        simp only [Nat.add_zero] at this; rw [hz2, hs2] at this
        exact this
      have HBL := Lib.hid hbl
      have HZ2 := Lib.hid hz2
      have HS2 := Lib.hid hs2
      clear hrb hrt hbl hbody hz2 hs2
      go_wp2_with fail
      refine (get_any _ _ _ (l.drop 8) _ HRT.out (by omega) z2 HZ2.out).mono ?_
      rintro e w3 ⟨rfl, hb3⟩
      go_wp2_with fail
      refine (more_any z _ _ _ body _ (HRB.out.below hb3)).mono ?_
      rintro e w' ⟨rfl, rfl⟩
      rw [HS2.out]
      have hy0 := (hb3.cell (p := ⟨w.heap.size, 0, none⟩) hsz2).trans hx0
      have hy1 := (hb3.cell (p := ⟨w.heap.size, 1, none⟩) hsz2).trans hx1
      have hz0 := (hb3.frozen (p := ⟨w.heap.size, 0, none⟩) hsz2).trans hf0
      have hz1 := (hb3.frozen (p := ⟨w.heap.size, 1, none⟩) hsz2).trans hf1
      have hyb := (hb3.cell (p := ⟨b, o, none⟩) (by simp; omega)).trans hxb
      have hbw3 : Below w.heap.size w w3 := below_into hbw hb3
      have hsz3 : w.heap.size < w3.heap.size := by have := hb3.size; omega
      clear hx0 hx1 hf0 hf1 hxb hsz2
      by_cases hzz : z2 = s2
      · subst hzz
        have t3 : (u z2 != u z2) = false := by rw [bne, beq_self_eq_true]; rfl
        have HK6 : Hid (res = (x0, body, 12, 0)) := by
          show _ = _
          rw [HK5.out, if_neg (fun h => h rfl)]
        go_wp2_with fail
        have HBD : Hid (([] : List B8).length + body.length ≤ 140737492549632) := by
          show _ ≤ _
          rw [HBL.out, List.length_nil]; omega
        have k0 : 0 < n := by omega
        have k1 : (0 : Int) < (n : Int) := by omega
        go_region_law (refine step_append8 rfl (.const (.slice none 0 0)) (.tmp 66) rfl (w.heap.size + 1) (.slice none 0 0) [] rfl (own8_nil _ _) (some ⟨b, o, none⟩) 0 0 body (by go_simp) ((HRB.out.below hb3).below (Below.refl w3.heap.size w3).drew) HBD.out hsz3 ?_; intro v4 w4 hown4 hg4; obtain ⟨va, vc, rfl, hvc⟩ := own8_form hown4; have hb4 := (below_grown_none hg4); have q0 := (hb4.cell (p := ⟨w.heap.size, 0, none⟩) hsz3).trans hy0; have q1 := (hb4.cell (p := ⟨w.heap.size, 1, none⟩) hsz3).trans hy1; have q2 := (hb4.frozen (p := ⟨w.heap.size, 0, none⟩) hsz3).trans hz0; have q3 := (hb4.frozen (p := ⟨w.heap.size, 1, none⟩) hsz3).trans hz1; have q4 := (hb4.cell (p := ⟨b, o, none⟩) (show b < w3.heap.size by omega)).trans hyb)
        all_goals
          have hfin : RdPost w res (.returned (.tuple #[.agg #[.int .u8 (ub x0), .slice va body.length vc], .int .i64 ((12 : Nat) : Int), .int .i64 0])) ((w4.setCell ⟨w.heap.size, 0, none⟩ (.int .u8 (ub x0))).setCell ⟨w.heap.size, 1, none⟩ (.slice va body.length vc)) := by
            rw [HK6.out]
            refine ⟨va, vc, rfl, Own8.base (base := w.heap.size + 1) (ownsRow_setCell_below (ownsRow_setCell_below hown4 (by simp) _) (by simp) _) (by omega), ?_⟩
            exact ((hbw3.trans ((Below.refl _ _).drew.trans (hb4.mono (Nat.le_of_lt hsz3)))).setCell (Nat.le_refl _) _).setCell (Nat.le_refl _) _
          have HFIN := Lib.hid hfin
          clear hfin hown4 hg4 hb4
          go_wp2_with fail
          exact bodyPost_ret (v := .tuple #[.agg #[.int .u8 (ub x0), .slice va body.length vc], .int .i64 12, .int .i64 0]) (by simp [results, Try.results24, go_sem, q0, q1]; rfl) rfl HFIN.out
      · have t3 : (u z2 == u s2) = false := by rw [beq_eq_false_iff_ne]; intro h; exact hzz (u_inj.1 h)
        have t4 : (u z2 != u s2) = true := by rw [bne, t3]; rfl
        have HK2 : Hid (res = (0#8, [], 0, 5)) := by
          show _ = _
          rw [HK5.out, if_pos hzz]
        go_wp2_with fail
        exact bodyPost_ret (v := .tuple #[.agg #[.int .u8 0, .slice none 0 0], .int .i64 0, .int .i64 5]) (by simp [results, Try.results24, go_sem, hy0, hy1]) rfl (by rw [HK2.out]; exact rdErr_post ⟨rfl, (hbw3.setCell (Nat.le_refl _) _).setCell (Nat.le_refl _) _⟩)
    · have j0 : (0 : Int) < (m : Int) := by omega
      have j1 : (0 : Int) ≤ (m : Int) := by omega
      have j2 : (8 : Int) + (m : Int) ≤ (n : Int) := by omega
      have j3 : (8 : Int) + (m : Int) ≤ (c : Int) := by omega
      have j4 : (n : Int) ≤ (c : Int) := by omega
      obtain ⟨body, hbody⟩ : ∃ body, (l.drop 8).take m = body := ⟨_, rfl⟩
      have hbl : body.length = m := by rw [← hbody, List.length_take, List.length_drop, ← HL.out]; omega
      have hrb : Row8 w2 (some ⟨b, o + 8, none⟩) m body := by rw [← hbody]; exact HR2.out.cut 8 m (by omega)
      have HRB := Lib.hid hrb
      have hrt : Row8 w2 (some ⟨b, o + (8 + m), none⟩) (n - (8 + m)) (l.drop (8 + m)) := HR2.out.tail (8 + m) (by omega)
      have HRT := Lib.hid hrt
      obtain ⟨z2, hz2⟩ : ∃ z2, numL (l.drop (8 + m)) = z2 := ⟨_, rfl⟩
      obtain ⟨s2, hs2⟩ : ∃ s2, more z body = s2 := ⟨_, rfl⟩
      have HK5 : Hid (res = if z2 ≠ s2 then (0#8, [], 0, 5) else (x0, body, 12 + m, 0)) := by
        have := HK4.out
        rw [hbody] at this
        rw [hz2, hs2] at this
        exact this
      have HBL := Lib.hid hbl
      have HZ2 := Lib.hid hz2
      have HS2 := Lib.hid hs2
      clear hrb hrt hbl hbody hz2 hs2
      go_wp2_with fail
      refine (get_any _ _ _ (l.drop (8 + m)) _ HRT.out (by omega) z2 HZ2.out).mono ?_
      rintro e w3 ⟨rfl, hb3⟩
      go_wp2_with fail
      refine (more_any z _ _ _ body _ (HRB.out.below hb3)).mono ?_
      rintro e w' ⟨rfl, rfl⟩
      rw [HS2.out]
      have hy0 := (hb3.cell (p := ⟨w.heap.size, 0, none⟩) hsz2).trans hx0
      have hy1 := (hb3.cell (p := ⟨w.heap.size, 1, none⟩) hsz2).trans hx1
      have hz0 := (hb3.frozen (p := ⟨w.heap.size, 0, none⟩) hsz2).trans hf0
      have hz1 := (hb3.frozen (p := ⟨w.heap.size, 1, none⟩) hsz2).trans hf1
      have hyb := (hb3.cell (p := ⟨b, o, none⟩) (by simp; omega)).trans hxb
      have hbw3 : Below w.heap.size w w3 := below_into hbw hb3
      have hsz3 : w.heap.size < w3.heap.size := by have := hb3.size; omega
      clear hx0 hx1 hf0 hf1 hxb hsz2
      by_cases hzz : z2 = s2
      · subst hzz
        have t3 : (u z2 != u z2) = false := by rw [bne, beq_self_eq_true]; rfl
        have HK6 : Hid (res = (x0, body, 12 + m, 0)) := by
          show _ = _
          rw [HK5.out, if_neg (fun h => h rfl)]
        go_wp2_with fail
        have HBD : Hid (([] : List B8).length + body.length ≤ 140737492549632) := by
          show _ ≤ _
          rw [HBL.out, List.length_nil]; omega
        have k0 : 0 < n := by omega
        have k1 : (0 : Int) < (n : Int) := by omega
        go_region_law (refine step_append8 rfl (.const (.slice none 0 0)) (.tmp 66) rfl (w.heap.size + 1) (.slice none 0 0) [] rfl (own8_nil _ _) (some ⟨b, o + 8, none⟩) m m body (by go_simp) ((HRB.out.below hb3).below (Below.refl w3.heap.size w3).drew) HBD.out hsz3 ?_; intro v4 w4 hown4 hg4; obtain ⟨va, vc, rfl, hvc⟩ := own8_form hown4; have hb4 := (below_grown_none hg4); have q0 := (hb4.cell (p := ⟨w.heap.size, 0, none⟩) hsz3).trans hy0; have q1 := (hb4.cell (p := ⟨w.heap.size, 1, none⟩) hsz3).trans hy1; have q2 := (hb4.frozen (p := ⟨w.heap.size, 0, none⟩) hsz3).trans hz0; have q3 := (hb4.frozen (p := ⟨w.heap.size, 1, none⟩) hsz3).trans hz1; have q4 := (hb4.cell (p := ⟨b, o, none⟩) (show b < w3.heap.size by omega)).trans hyb)
        all_goals
          have hfin : RdPost w res (.returned (.tuple #[.agg #[.int .u8 (ub x0), .slice va body.length vc], .int .i64 ((12 + m : Nat) : Int), .int .i64 0])) ((w4.setCell ⟨w.heap.size, 0, none⟩ (.int .u8 (ub x0))).setCell ⟨w.heap.size, 1, none⟩ (.slice va body.length vc)) := by
            rw [HK6.out]
            refine ⟨va, vc, rfl, Own8.base (base := w.heap.size + 1) (ownsRow_setCell_below (ownsRow_setCell_below hown4 (by simp) _) (by simp) _) (by omega), ?_⟩
            exact ((hbw3.trans ((Below.refl _ _).drew.trans (hb4.mono (Nat.le_of_lt hsz3)))).setCell (Nat.le_refl _) _).setCell (Nat.le_refl _) _
          have HFIN := Lib.hid hfin
          have HW : Hid (IntKind.i64.wrap (IntKind.i64.wrap (8 + (m : Int)) + 4) = 12 + (m : Int)) := by
            show _ = _
            rw [IntKind.wrap_i64, IntKind.wrap_i64]; omega
          clear hfin hown4 hg4 hb4
          go_wp2_with fail
          exact bodyPost_ret (v := .tuple #[.agg #[.int .u8 (ub x0), .slice va body.length vc], .int .i64 ((12 + m : Nat) : Int), .int .i64 0]) (by simp [results, Try.results24, go_sem, q0, q1]; exact HW.out) rfl HFIN.out
      · have t3 : (u z2 == u s2) = false := by rw [beq_eq_false_iff_ne]; intro h; exact hzz (u_inj.1 h)
        have t4 : (u z2 != u s2) = true := by rw [bne, t3]; rfl
        have HK2 : Hid (res = (0#8, [], 0, 5)) := by
          show _ = _
          rw [HK5.out, if_pos hzz]
        go_wp2_with fail
        exact bodyPost_ret (v := .tuple #[.agg #[.int .u8 0, .slice none 0 0], .int .i64 0, .int .i64 5]) (by simp [results, Try.results24, go_sem, hy0, hy1]) rfl (by rw [HK2.out]; exact rdErr_post ⟨rfl, (hbw3.setCell (Nat.le_refl _) _).setCell (Nat.le_refl _) _⟩)
  · have t1 : (u z == u s) = false := by rw [beq_eq_false_iff_ne]; intro h; exact hzs (u_inj.1 h)
    have t2 : (u z != u s) = true := by rw [bne, t1]; rfl
    have HK2 : Hid (res = (0#8, [], 0, 5)) := by
      show _ = _
      rw [HK1.out, if_pos (.inl hzs)]
    clear hzs
    go_wp2_with fail
    exact bodyPost_ret (v := .tuple #[.agg #[.int .u8 0, .slice none 0 0], .int .i64 0, .int .i64 5]) (by simp [results, Try.results24, go_sem, hx0, hx1]) rfl (by rw [HK2.out]; exact rdErr_post ⟨rfl, (hbw.setCell (Nat.le_refl _) _).setCell (Nat.le_refl _) _⟩)
end Go.Proofs.Ytlfeahalgolbgaa
