/-
  The contract of the document's Read.
-/
import Derived.Test.YtlfeahalgolbgaaLives3
import Derived.Test.YtlfeahalgolbgaaRefWalk
import Derived.Test.YtlfeahalgolbgaaSameWalk
namespace Go.Proofs.Ytlfeahalgolbgaa
open Go.RowKit
set_option linter.unusedVariables false

theorem Row8.len {w : World} {a : Option Addr} {n n' : Nat} {l : List B8} (h : Row8 w a n l) (e : n' = n) : Row8 w a n' l := e ▸ h

set_option maxRecDepth 100000 in
set_option maxHeartbeats 400000 in
theorem number_drew (a : Option Addr) (n c : Nat) (l : List B8) (w : World) (h : Row8 w a n l) (hn : 4 ≤ n) (z : W32) (hz : numL l = z) :
    Calls Try.prog 50 #[.slice a n c] w fun e w' => e = .returned (.int .u32 (u z)) ∧ ∃ m, w' = w.drewN m := by
  obtain ⟨_, _, hc⟩ := h
  obtain ⟨b, o, rfl, hcc⟩ := hc (by omega)
  have h0 := hcc 0 (by omega)
  have h1 := hcc 1 (by omega)
  have h2 := hcc 2 (by omega)
  have h3 := hcc 3 (by omega)
  rw [Nat.add_zero] at h0
  clear hcc hc
  have HE : Hid (u z = _) := congrArg u hz.symm
  unfold numL at HE
  clear hz
  generalize l.getD 0 0#8 = x0 at *
  generalize l.getD 1 0#8 = x1 at *
  generalize l.getD 2 0#8 = x2 at *
  generalize l.getD 3 0#8 = x3 at *
  have HO := Lib.hid (or_num4 x0 x1 x2 x3)
  have a0 := ub_lo x0
  have a1 := ub_lo x1
  have a2 := ub_lo x2
  have a3 := ub_lo x3
  have b0 := ub_hi x0
  have b1 := ub_hi x1
  have b2 := ub_hi x2
  have b3 := ub_hi x3
  have i0 : (0 : Int) < (n : Int) := by omega
  have i1 : (1 : Int) < (n : Int) := by omega
  have i2 : (2 : Int) < (n : Int) := by omega
  have i3 : (3 : Int) < (n : Int) := by omega
  go_enter Try.func50, Try.ntmps50
  go_wp2
  go_quiet (fail)
  go_wp2
  go_ret
  exact ⟨ret_u (HO.out.trans HE.out.symm), _, rfl⟩

theorem rread_short (a : Option Addr) (n c : Nat) (w : World) (hn : n < 8) : Calls Try.prog 37 #[.slice a n c] w (RdErr w 4) := by
  go_enter Try.func37, Try.ntmps37
  go_wp2
  exact bodyPost_ret (v := .tuple #[.agg #[.int .u8 0, .slice none 0 0], .int .i64 0, .int .i64 4]) (by simp [results, Try.results37, go_sem]) rfl ⟨rfl, below_alloc w _⟩

theorem numL_take (l : List B8) : numL (l.take 4) = numL l := by
  simp [numL, List.getD_eq_getElem?_getD]

theorem sum_len3 (x1 x2 x3 : B8) : ub x1 + ub x2 * 256 + ub x3 * 65536 = ((x1.toNat + x2.toNat * 256 + x3.toNat * 65536 : Nat) : Int) := by
  unfold ub; omega

set_option maxRecDepth 100000 in
set_option maxHeartbeats 1600000 in
theorem rread_main (a : Option Addr) (n c : Nat) (l : List B8) (w : World) (h : Row8 w a n l) (hn : 8 ≤ n) (hnc : n ≤ c) (hnn : n ≤ 140737492549632) : Calls Try.prog 37 #[.slice a n c] w (RdPost w (readF l)) := by
  obtain ⟨b, o, rfl, hcc⟩ := h.2.2 (by omega)
  have hb := below_alloc w (.cells #[.int .u8 0, .slice none 0 0] 34)
  have HR := Lib.hid (h.below hb)
  have HR0 := Lib.hid h
  have HL := Lib.hid h.1
  have hc0 : ∀ k, k < n → (w.alloc (.cells #[.int .u8 0, .slice none 0 0] 34)).cell? ⟨b, o + k, none⟩ = some (.int .u8 (ub (l.getD k 0#8))) := fun k hk => by
    have := hcc k hk
    rw [hb.cell (p := ⟨b, o + k, none⟩) (block_lt_of_cell this)]; exact this
  have g0 := hc0 0 (by omega)
  have g1 := hc0 1 (by omega)
  have g2 := hc0 2 (by omega)
  have g3 := hc0 3 (by omega)
  rw [Nat.add_zero] at g0
  have hbx : b < w.heap.size := block_lt_of_cell (hcc 0 (by omega))
  have HCC := Lib.hid hcc
  have HO : Hid (ub (l.getD 1 0#8) + ub (l.getD 2 0#8) * 256 + ub (l.getD 3 0#8) * 65536 = ((len3 l : Nat) : Int)) := by
    show _ = _
    rw [sum_len3]; rfl
  have hm24 : len3 l < 16777216 := by
    have h1 := (l.getD 1 0#8).isLt
    have h2 := (l.getD 2 0#8).isLt
    have h3 := (l.getD 3 0#8).isLt
    unfold len3; omega
  have HK0 : Hid (readF l = if numL (l.drop 4) ≠ sumOf (l.take 4) ∨ 1048576 < len3 l then (0#8, [], 0, 5)
    else if l.length < 12 + len3 l then (0#8, [], 0, 4)
    else if numL (l.drop (8 + len3 l)) ≠ more (sumOf (l.take 4)) ((l.drop 8).take (len3 l)) then (0#8, [], 0, 5)
    else (l.getD 0 0#8, (l.drop 8).take (len3 l), 12 + len3 l, 0)) := by
      show _ = _
      unfold readF; rw [if_neg (by rw [← HL.out]; omega)]
  clear hc0 hcc h hb
  generalize readF l = res at *
  generalize len3 l = m at *
  generalize l.getD 0 0#8 = x0 at *
  generalize l.getD 1 0#8 = x1 at *
  generalize l.getD 2 0#8 = x2 at *
  generalize l.getD 3 0#8 = x3 at *
  have p1 := ub_lo x1
  have p2 := ub_hi x1
  have p3 := ub_lo x2
  have p4 := ub_hi x2
  have p5 := ub_lo x3
  have p6 := ub_hi x3
  have i1 : (1 : Int) < (n : Int) := by omega
  have i2 : (2 : Int) < (n : Int) := by omega
  have i3 : (3 : Int) < (n : Int) := by omega
  go_enter Try.func37, Try.ntmps37
  go_wp2_with fail
  refine (rsum_any _ _ _ (l.take 4) _ _ rfl ?_).mono ?_
  · have := HR.out.cut 0 4 (by omega)
    simpa using this
  rintro e w' ⟨rfl, rfl⟩
  go_wp2_with fail
  go_quiet (fail)
  go_wp2_with fail
  rw [HO.out]
  refine (number_drew _ _ _ ((l.drop 4).take 4) _ ?_ (by omega) _ (numL_take _)).mono ?_
  · exact (HR.out.below (below_drewN (Below.refl _ _) nq)).cut 4 4 (by omega)
  rintro e w2 ⟨rfl, m2, rfl⟩
  rw [drewN_add]
  have hbw : Below w.heap.size w ((w.alloc (.cells #[.int .u8 0, .slice none 0 0] 34)).drewN (nq + m2)) := below_drewN (below_alloc w _) _
  have hx0 : ((w.alloc (.cells #[.int .u8 0, .slice none 0 0] 34)).drewN (nq + m2)).cell? ⟨w.heap.size, 0, none⟩ = some (.int .u8 0) := by simp
  have hx1 : ((w.alloc (.cells #[.int .u8 0, .slice none 0 0] 34)).drewN (nq + m2)).cell? ⟨w.heap.size, 1, none⟩ = some (.slice none 0 0) := by simp
  have hf0 : ((w.alloc (.cells #[.int .u8 0, .slice none 0 0] 34)).drewN (nq + m2)).frozen? ⟨w.heap.size, 0, none⟩ = false := by simp
  have hf1 : ((w.alloc (.cells #[.int .u8 0, .slice none 0 0] 34)).drewN (nq + m2)).frozen? ⟨w.heap.size, 1, none⟩ = false := by simp
  have hsz2 : w.heap.size < ((w.alloc (.cells #[.int .u8 0, .slice none 0 0] 34)).drewN (nq + m2)).heap.size := by simp
  obtain ⟨w2, hw2⟩ : ∃ w2, ((w.alloc (.cells #[.int .u8 0, .slice none 0 0] 34)).drewN (nq + m2)) = w2 := ⟨_, rfl⟩
  rw [hw2] at hbw hx0 hx1 hf0 hf1 hsz2 ⊢
  clear hw2 g1 g2 g3 p1 p2 p3 p4 p5 p6 i1 i2 i3
  obtain ⟨z, hz⟩ : ∃ z, numL (l.drop 4) = z := ⟨_, rfl⟩
  obtain ⟨s, hs⟩ : ∃ s, sumOf (l.take 4) = s := ⟨_, rfl⟩
  rw [hz, hs]
  have HK1 : Hid (res = if z ≠ s ∨ 1048576 < m then (0#8, [], 0, 5)
    else if l.length < 12 + m then (0#8, [], 0, 4)
    else if numL (l.drop (8 + m)) ≠ more s ((l.drop 8).take m) then (0#8, [], 0, 5)
    else (x0, (l.drop 8).take m, 12 + m, 0)) := by
      have := HK0.out
      rw [hz, hs] at this
      exact this
  clear hz hs
  by_cases hzs : z = s
  · subst hzs
    have t2 : (u z != u z) = false := by rw [bne, beq_self_eq_true]; rfl
    by_cases hmx : 1048576 < m
    · have HK2 : Hid (res = (0#8, [], 0, 5)) := by
        show _ = _
        rw [HK1.out, if_pos (.inr hmx)]
      go_wp2_with fail
      exact bodyPost_ret (v := .tuple #[.agg #[.int .u8 0, .slice none 0 0], .int .i64 0, .int .i64 5]) (by simp [results, Try.results37, go_sem, hx0, hx1]) rfl (by rw [HK2.out]; exact rdErr_post ⟨rfl, (hbw.setCell (Nat.le_refl _) _).setCell (Nat.le_refl _) _⟩)
    have HK3 : Hid (res = if l.length < 12 + m then (0#8, [], 0, 4)
      else if numL (l.drop (8 + m)) ≠ more z ((l.drop 8).take m) then (0#8, [], 0, 5)
      else (x0, (l.drop 8).take m, 12 + m, 0)) := by
        show _ = _
        rw [HK1.out, if_neg (by intro h; rcases h with h | h; exact h rfl; exact hmx h)]
    by_cases hsh : n < 12 + m
    · have HK2 : Hid (res = (0#8, [], 0, 4)) := by
        show _ = _
        rw [HK3.out, if_pos (by rw [← HL.out]; exact hsh)]
      go_wp2_with fail
      exact bodyPost_ret (v := .tuple #[.agg #[.int .u8 0, .slice none 0 0], .int .i64 0, .int .i64 4]) (by simp [results, Try.results37, go_sem, hx0, hx1]) rfl (by rw [HK2.out]; exact rdErr_post ⟨rfl, (hbw.setCell (Nat.le_refl _) _).setCell (Nat.le_refl _) _⟩)
    have HK4 : Hid (res = if numL (l.drop (8 + m)) ≠ more z ((l.drop 8).take m) then (0#8, [], 0, 5)
      else (x0, (l.drop 8).take m, 12 + m, 0)) := by
        show _ = _
        rw [HK3.out, if_neg (by rw [← HL.out]; exact hsh)]
    have HR2 := Lib.hid (HR0.out.below hbw)
    have hxb : w2.cell? ⟨b, o, none⟩ = some (.int .u8 (ub x0)) := by
      have e : (w.alloc (.cells #[.int .u8 0, .slice none 0 0] 34)).cell? ⟨b, o, none⟩ = w.cell? ⟨b, o, none⟩ := (below_alloc w _).cell (p := ⟨b, o, none⟩) hbx
      rw [hbw.cell (p := ⟨b, o, none⟩) hbx, ← e]; exact g0
    clear HK0 HK1 HK3 HO g0
    have j0 : (0 : Int) ≤ (m : Int) := by omega
    have j2 : (8 : Int) + (m : Int) ≤ (n : Int) := by omega
    have j3 : (12 : Int) + (m : Int) ≤ (n : Int) := by omega
    have j4 : (n : Int) ≤ (c : Int) := by omega
    obtain ⟨body, hbody⟩ : ∃ body, (l.drop 8).take m = body := ⟨_, rfl⟩
    have hbl : body.length = m := by rw [← hbody, List.length_take, List.length_drop, ← HL.out]; omega
    have hrb : Row8 w2 (some ⟨b, o + 8, none⟩) m body := by rw [← hbody]; exact HR2.out.cut 8 m (by omega)
    have HRB := Lib.hid hrb
    have hrt : Row8 w2 (some ⟨b, o + (8 + m), none⟩) 4 ((l.drop (8 + m)).take 4) := HR2.out.cut (8 + m) 4 (by omega)
    have HRT := Lib.hid hrt
    obtain ⟨z2, hz2⟩ : ∃ z2, numL (l.drop (8 + m)) = z2 := ⟨_, rfl⟩
    obtain ⟨s2, hs2⟩ : ∃ s2, more z body = s2 := ⟨_, rfl⟩
    have HK5 : Hid (res = if z2 ≠ s2 then (0#8, [], 0, 5) else (x0, body, 12 + m, 0)) := by
      have := HK4.out
      rw [hbody] at this
      rw [hz2, hs2] at this
      exact this
    have HBL := Lib.hid hbl
    have HZ2 : Hid (numL ((l.drop (8 + m)).take 4) = z2) := by show _ = _; rw [numL_take]; exact hz2
    have HS2 := Lib.hid hs2
    have HBD : Hid (([] : List B8).length + body.length ≤ 140737492549632) := by
      show _ ≤ _
      rw [HBL.out, List.length_nil]; omega
    have hsz2' : w.heap.size + 1 ≤ w2.heap.size := hsz2
    have HM0 : Hid (Own8 (w2.alloc (.cells #[] 5)) (w.heap.size + 1) (.slice (some ⟨w2.heap.size, 0, none⟩) 0 0) []) := own8_made w2 _ hsz2'
    clear hrb hrt hbl hbody hz2 hs2
    go_wp2_with (at_builtin; refine wpList_append8 rfl _ _ rfl (w.heap.size + 1) _ [] rfl HM0.out _ (8 + m - 8) _ body rfl ((HRB.out.below (below_alloc _ _)).len (by omega)) HBD.out (by simp; omega) ?_)
    intro v3 w3 hown3 hg3
    have hb3 : Below (w.heap.size + 1) w2 w3 := below_grown ((below_alloc w2 _).mono hsz2) hg3 HM0.out (by simp; omega)
    obtain ⟨va, vc, rfl, hvc⟩ := own8_form hown3
    have hy0 := (hb3.cell (p := ⟨w.heap.size, 0, none⟩) (by simp)).trans hx0
    have hy1 := (hb3.cell (p := ⟨w.heap.size, 1, none⟩) (by simp)).trans hx1
    have hz0 := (hb3.frozen (p := ⟨w.heap.size, 0, none⟩) (by simp)).trans hf0
    have hz1 := (hb3.frozen (p := ⟨w.heap.size, 1, none⟩) (by simp)).trans hf1
    have hyb := (hb3.cell (p := ⟨b, o, none⟩) (by simp; omega)).trans hxb
    have hbw3 : Below w.heap.size w w3 := hbw.trans (hb3.mono (by omega))
    have hsz3 : w.heap.size < w3.heap.size := by have := hb3.size; omega
    have HR3 := Lib.hid (hown3.row (by rw [HBL.out]; omega))
    have HO3 := Lib.hid hown3
    have HRT3 : Hid (Row8 w3 (some ⟨b, o + (8 + m), none⟩) 4 ((l.drop (8 + m)).take 4)) := (HR0.out.below hbw3).cut (8 + m) 4 (by omega)
    clear hx0 hx1 hf0 hf1 hxb hsz2 hown3 hg3 hb3
    go_wp2_with fail
    go_quiet ((first | (go_at_call 33; refine Calls.quiet_of_same ((rmore_any z _ _ _ body _ (HR3.out.drew _)).mono (fun _ _ hh => ⟨hh.1, hh.2.symm⟩))) | (go_at_call 50; refine Calls.quiet_of (number_drew _ _ _ _ _ ((HRT3.out.drew _).len (by omega)) (by omega) z2 HZ2.out))))
    rw [HS2.out]
    have hbw4 : Below w.heap.size w (w3.drewN nq) := below_drewN hbw3 nq
    have k0 : (0 : Int) < (n : Int) := by omega
    by_cases hzz : z2 = s2
    · subst hzz
      have t3 : (u z2 != u z2) = false := by rw [bne, beq_self_eq_true]; rfl
      have HK6 : Hid (res = (x0, body, 12 + m, 0)) := by
        show _ = _
        rw [HK5.out, if_neg (fun h => h rfl)]
      have hfin : RdPost w res (.returned (.tuple #[.agg #[.int .u8 (ub x0), .slice va body.length vc], .int .i64 ((12 + m : Nat) : Int), .int .i64 0])) (((w3.drewN nq).setCell ⟨w.heap.size, 0, none⟩ (.int .u8 (ub x0))).setCell ⟨w.heap.size, 1, none⟩ (.slice va body.length vc)) := by
        rw [HK6.out]
        refine ⟨va, vc, rfl, Own8.base (base := w.heap.size + 1) (ownsRow_setCell_below (ownsRow_setCell_below (HO3.out.below (below_drewN (Below.refl _ _) _)) (by simp) _) (by simp) _) (by omega), ?_⟩
        exact (hbw4.setCell (Nat.le_refl _) _).setCell (Nat.le_refl _) _
      have HFIN := Lib.hid hfin
      have HW : Hid (IntKind.i64.wrap ((m : Int) + 12) = 12 + (m : Int)) := by
        show _ = _
        rw [IntKind.wrap_i64]; omega
      clear hfin
      go_wp2_with fail
      exact bodyPost_ret (v := .tuple #[.agg #[.int .u8 (ub x0), .slice va body.length vc], .int .i64 ((12 + m : Nat) : Int), .int .i64 0]) (by simp [results, Try.results37, go_sem, hy0, hy1]; omega) rfl HFIN.out
    · have t3 : (u s2 == u z2) = false := by rw [beq_eq_false_iff_ne]; intro h; exact hzz (u_inj.1 h).symm
      have t4 : (u s2 != u z2) = true := by rw [bne, t3]; rfl
      have HK2 : Hid (res = (0#8, [], 0, 5)) := by
        show _ = _
        rw [HK5.out, if_pos hzz]
      clear hzz
      go_wp2_with fail
      exact bodyPost_ret (v := .tuple #[.agg #[.int .u8 0, .slice none 0 0], .int .i64 0, .int .i64 5]) (by simp [results, Try.results37, go_sem, hy0, hy1]) rfl (by rw [HK2.out]; exact rdErr_post ⟨rfl, (hbw4.setCell (Nat.le_refl _) _).setCell (Nat.le_refl _) _⟩)
  · have t1 : (u s == u z) = false := by rw [beq_eq_false_iff_ne]; intro h; exact hzs (u_inj.1 h).symm
    have t2 : (u s != u z) = true := by rw [bne, t1]; rfl
    have HK2 : Hid (res = (0#8, [], 0, 5)) := by
      show _ = _
      rw [HK1.out, if_pos (.inl hzs)]
    clear hzs
    go_wp2_with fail
    exact bodyPost_ret (v := .tuple #[.agg #[.int .u8 0, .slice none 0 0], .int .i64 0, .int .i64 5]) (by simp [results, Try.results37, go_sem, hx0, hx1]) rfl (by rw [HK2.out]; exact rdErr_post ⟨rfl, (hbw.setCell (Nat.le_refl _) _).setCell (Nat.le_refl _) _⟩)
end Go.Proofs.Ytlfeahalgolbgaa
