/-
  The walk of FrameAltered.
-/
import Derived.Test.YtlfeahalgolbgaaAltered
import Derived.Test.YtlfeahalgolbgaaLives3
namespace Go.Proofs.Ytlfeahalgolbgaa
open Go.RowKit
set_option linter.unusedVariables false

theorem xor_shl8 (c : B8) (t : Nat) (h : t < 8) : Go.bits .xor .u8 (ub c) ((2 : Int) ^ t % 256) = ub (c ^^^ 1#8 <<< t) := by
  have e : ∀ t : Fin 8, ((2 : Int) ^ t.val % 256) = ub (1#8 <<< t.val) := by decide +kernel
  rw [e ⟨t, h⟩, bits_xor_bb]

theorem burst_store {w : World} {base g n c : Nat} {l : List B8} {p k : Nat} {bits : W32} (hb : bits.getLsbD k = true) (h : Own8 w base (.slice (some ⟨g, 0, none⟩) n c) (burst l p bits k)) {c0 : B8}
    (hc : (burst l p bits k).getD ((p + k) / 8) 0#8 = c0) :
    Own8 (w.setCell ⟨g, (p + k) / 8, none⟩ (.int .u8 (Go.bits .xor .u8 (ub c0) ((2 : Int) ^ ((p + k) % 8) % 256)))) base (.slice (some ⟨g, 0, none⟩) n c) (burst l p bits (k + 1)) := by
  rw [xor_shl8 _ _ (Nat.mod_lt _ (by decide)), burst_t hb, flip, hc]
  exact own8_store h _ _

set_option maxHeartbeats 400000 in
theorem altered_long (kind : B8) (a : Option Addr) (m c : Nat) (at_ : Int) (bits : W32) (a' : Option Addr) (n c' : Nat) (w : World) (hm : 3000 < m) (hm2 : m ≤ 281474976710656) :
    Calls Try.prog 5 #[.int .u8 (ub kind), .slice a m c, .int .i64 at_, .int .u32 (u bits), .slice a' n c'] w fun e w' => e = .returned (.bool true) ∧ Below w.heap.size w w' := by
  go_enter Try.func5, Try.ntmps5
  go_wp2_with fail
  refine (lives3_any _).mono ?_
  rintro e w1 ⟨rfl, hb1⟩
  go_wp2_with fail
  go_ret
  exact ⟨rfl, hb1⟩

set_option maxRecDepth 100000 in
set_option maxHeartbeats 1600000 in
theorem altered_main (kind : B8) (a : Option Addr) (m c : Nat) (body : List B8) (at_ : Int) (bits : W32) (a' : Option Addr) (n c' : Nat) (rest : List B8) (w : World)
    (r1 : Row8 w a m body) (r2 : Row8 w a' n rest) (hm : m ≤ 3000) (hn : n ≤ 140737488351232) :
    Calls Try.prog 5 #[.int .u8 (ub kind), .slice a m c, .int .i64 at_, .int .u32 (u bits), .slice a' n c'] w fun e w' => e = .returned (.bool true) ∧ Below w.heap.size w w' := by
  have HM := Lib.hid r1.1
  have HN := Lib.hid r2.1
  have R1 := Lib.hid r1
  have R2 := Lib.hid r2
  have hlen : (frB kind body).length = m + 12 := by rw [frB_length, ← HM.out]
  have F0 : Hid (readF (frB kind body ++ rest) = (kind, body, m + 12, 0)) := by
    show _ = _
    rw [readF_frame kind body rest (by rw [← HM.out]; omega), ← HM.out, Nat.add_comm]
  have F1 : Hid (∀ p i, i ≤ 32 → p + i ≤ 8 * (m + 12) → lo i bits ≠ 0#32 → readF (burst (frB kind body) p bits i ++ rest) = (0#8, [], 0, 5)) := by
    intro p i hi hp hb
    exact readF_turned kind body (by rw [← HM.out]; omega) p bits i hi (by rw [← HM.out]; exact hp) hb rest
  clear r1 r2
  have gk1 := ub_lo kind
  have gk2 := ub_hi kind
  go_enter Try.func5, Try.ntmps5
  go_wp2_with fail
  refine (lives3_any _).mono ?_
  rintro e w1 ⟨rfl, hb1⟩
  go_wp2_with fail
  refine (append_any none 0 0 [] kind _ m _ body _ ⟨rfl, by decide, fun h => absurd h (by decide)⟩ (R1.out.below hb1) (by decide) (by decide) (fun _ => rfl) (by omega)).mono ?_
  rintro e w2 ⟨v2, rfl, hown2, hb2⟩
  rw [List.nil_append] at hown2
  generalize frB kind body = L at *
  obtain ⟨g2, c2, rfl, hgb2, hlc2, hgs2⟩ := own8_block hown2 (by omega)
  rw [hlen] at hown2 hlc2 ⊢
  obtain ⟨N, hNm⟩ : ∃ N, m + 12 = N := ⟨_, rfl⟩
  rw [hNm] at hown2 hlc2 hlen F0 F1 ⊢
  have hN3 : N ≤ 3012 := by omega
  have hN1 : 12 ≤ N := by omega
  have HNm := Lib.hid hNm
  have HLEN := Lib.hid hlen
  have hrow2 := hown2.row (by omega)
  have HR2 := Lib.hid hrow2
  have hb12 := below_into hb1 hb2
  clear hown2 hrow2 hNm hlen hb1 hb2
  have hpb := pick_bounds at_ (8 * (N : Int)) (by omega)
  go_wp2_with fail
  refine (pick_any _ _ _ (by omega) (by omega)).mono ?_
  rintro e w' ⟨rfl, rfl⟩
  obtain ⟨p, hp⟩ := Int.eq_ofNat_of_zero_le hpb.1
  rw [hp] at hpb ⊢
  have hpn : p < 8 * N := by omega
  clear hp hpb
  have B0 : Hid (([] : List B8).length + L.length ≤ 140737492549632) := by show _ ≤ _; rw [List.length_nil, HLEN.out]; omega
  go_wp2_with (at_builtin; refine wpList_append8 rfl _ _ rfl w2.heap.size _ [] rfl (own8_made w2 _ (Nat.le_refl _)) _ _ _ L rfl (HR2.out.below (below_alloc w2 _)) B0.out (by simp) ?_)
  intro v3 w3 hown3 hg3
  have hb3 : Below w2.heap.size w2 w3 := below_grown (below_alloc w2 _) hg3 (own8_made w2 _ (Nat.le_refl _)) (by simp)
  have ho3 : Own8 w3 w2.heap.size v3 L := by simpa using hown3
  have hLe := HLEN.out
  obtain ⟨g, vc, rfl, hbg, _, hgs⟩ := own8_block ho3 (by omega)
  rw [hLe] at ho3 ⊢
  have HO := Lib.hid ho3
  clear hg3 hown3 ho3 hLe
  go_wp2_with fail
  go_loopw [14, 16] (fun t i wr => ∃ k : Nat, k ≤ 32 ∧ p + k ≤ 8 * N ∧ i = .int .i64 k ∧ t = .bool (turned k bits) ∧ Own8 wr w2.heap.size (.slice (some ⟨g, 0, none⟩) N vc) (burst L p bits k) ∧ Below w2.heap.size w2 wr) (fun _ i _ => 32 - (intOf i).toNat)
  case atStart => exact ⟨0, by omega, by omega, rfl, by rw [turned_zero], HO.out, hb3⟩
  case round =>
    obtain ⟨k, hk, hpk, rfl, rfl, hown, hbr⟩ := hrel
    by_cases hlt : k < 32 ∧ p + k < 8 * N
    · obtain ⟨hlt, hin⟩ := hlt
      have hbl : (burst L p bits k).length = N := by rw [burst_length]; exact HLEN.out
      have hcf := own8_cell hown ((p + k) / 8) (by omega)
      obtain ⟨hcell, hfr⟩ := hcf
      cases hb : bits.getLsbD k
      · have ht := tstk_f hb
        have HT := Lib.hid (turned_f hb)
        have HX := Lib.hid hown
        have HB := Lib.hid (burst_f (l := L) (p := p) hb)
        clear hb hown hcell hfr hbl
        go_wp2_with fail
        go_roundw
        case rel => exact ⟨k + 1, by omega, by omega, by go_num, by rw [HT.out], by rw [HB.out]; exact HX.out, hbr⟩
        case measure => simp [intOf]; omega
      · have ht := tstk_t hb
        have HT := Lib.hid (turned_t hb)
        generalize hc0 : (burst L p bits k).getD ((p + k) / 8) 0#8 = c0 at *
        have HX := Lib.hid (burst_store hb hown hc0)
        have gc1 := ub_lo c0
        have gc2 := ub_hi c0
        clear hb hown hc0 hbl
        go_wp2_with fail
        go_roundw
        case rel => exact ⟨k + 1, by omega, by omega, by go_num, by rw [HT.out], HX.out, hbr.setCell hbg _⟩
        case measure => simp [intOf]; omega
    · have hbl : (burst L p bits k).length = N := by rw [burst_length]; exact HLEN.out
      have HX := Lib.hid hown
      have FT : turned k bits = true → readF (burst L p bits k ++ rest) = (0#8, [], 0, 5) := by
        intro h
        exact F1.out p k hk hpk (by unfold turned at h; exact of_decide_eq_true h)
      have FF : turned k bits = false → readF (burst L p bits k ++ rest) = (kind, body, N, 0) := by
        intro h
        have e : lo k bits = 0#32 := by
          unfold turned at h
          have := of_decide_eq_false h
          exact Classical.byContradiction this
        rw [burst_id L p bits k e]; exact F0.out
      have BD : Hid ((burst L p bits k).length + rest.length ≤ 140737492549632) := by show _ ≤ _; rw [hbl, ← HN.out]; omega
      have hbw : Below w.heap.size w wr := below_into hb12 hbr
      have RR := Lib.hid (R2.out.below hbw)
      have RB := Lib.hid (R1.out.below hbw)
      have hsr : w2.heap.size ≤ wr.heap.size := hbr.size
      have hL4 : Hid ((burst L p bits k ++ rest).length ≤ 140737492549632) := by show _ ≤ _; rw [List.length_append, hbl, ← HN.out]; omega
      clear hown hbl F0 F1 B0 HO
      generalize burst L p bits k = B at *
      cases htt : turned k bits
      all_goals
        rw [htt] at FT FF
      · have HR := Lib.hid (FF rfl)
        clear FT FF htt
        by_cases hk2 : k < 32
        · have hpe' : ¬ (p : Int) + (k : Int) < 8 * (N : Int) := by omega
          go_wp2_with (at_builtin; refine wpList_append8 rfl _ _ rfl w2.heap.size _ B rfl HX.out _ _ _ rest rfl RR.out BD.out hsr ?_)
          intro v4 w4 hown4 hg4
          have hb4 : Below w2.heap.size w2 w4 := below_grown hbr hg4 HX.out hsr
          generalize B ++ rest = LL at *
          obtain ⟨b4, d4, rfl, hd4⟩ := own8_form hown4
          have hbnd := hL4.out
          have HR4 := Lib.hid (hown4.row (by omega))
          generalize LL.length = M at *
          clear hown4 hg4
          go_wp2_with fail
          refine (read_to _ _ _ LL _ HR4.out hd4 hbnd HR.out (kn := ub kind) rfl (bl := m) HM.out.symm (mn := (N : Int)) (en := 0) rfl rfl).mono ?_
          rintro e w5 ⟨ba, bc, rfl, hown5, hb5⟩
          have HB5 := Lib.hid (hown5.row (by rw [← HM.out]; omega))
          have hw5 : Below w.heap.size w w5 := below_into (below_into hb12 hb4) hb5
          clear hown5
          go_wp2_with fail
          refine (same_true _ _ _ _ _ body _ (HB5.out.below (below_alloc w5 _)) (R1.out.below (hw5.trans ((below_alloc w5 _).mono hw5.size)))).mono ?_
          rintro e w6 ⟨rfl, hb6⟩
          go_wp2_with fail
          go_ret
          exact ⟨rfl, below_into hw5 ((below_alloc w5 _).trans (hb6.mono (by simp)))⟩
        · go_wp2_with (at_builtin; refine wpList_append8 rfl _ _ rfl w2.heap.size _ B rfl HX.out _ _ _ rest rfl RR.out BD.out hsr ?_)
          intro v4 w4 hown4 hg4
          have hb4 : Below w2.heap.size w2 w4 := below_grown hbr hg4 HX.out hsr
          generalize B ++ rest = LL at *
          obtain ⟨b4, d4, rfl, hd4⟩ := own8_form hown4
          have hbnd := hL4.out
          have HR4 := Lib.hid (hown4.row (by omega))
          generalize LL.length = M at *
          clear hown4 hg4
          go_wp2_with fail
          refine (read_to _ _ _ LL _ HR4.out hd4 hbnd HR.out (kn := ub kind) rfl (bl := m) HM.out.symm (mn := (N : Int)) (en := 0) rfl rfl).mono ?_
          rintro e w5 ⟨ba, bc, rfl, hown5, hb5⟩
          have HB5 := Lib.hid (hown5.row (by rw [← HM.out]; omega))
          have hw5 : Below w.heap.size w w5 := below_into (below_into hb12 hb4) hb5
          clear hown5
          go_wp2_with fail
          refine (same_true _ _ _ _ _ body _ (HB5.out.below (below_alloc w5 _)) (R1.out.below (hw5.trans ((below_alloc w5 _).mono hw5.size)))).mono ?_
          rintro e w6 ⟨rfl, hb6⟩
          go_wp2_with fail
          go_ret
          exact ⟨rfl, below_into hw5 ((below_alloc w5 _).trans (hb6.mono (by simp)))⟩
      · have HR := Lib.hid (FT rfl)
        clear FT FF htt
        by_cases hk2 : k < 32
        · have hpe' : ¬ (p : Int) + (k : Int) < 8 * (N : Int) := by omega
          go_wp2_with (at_builtin; refine wpList_append8 rfl _ _ rfl w2.heap.size _ B rfl HX.out _ _ _ rest rfl RR.out BD.out hsr ?_)
          intro v4 w4 hown4 hg4
          have hb4 : Below w2.heap.size w2 w4 := below_grown hbr hg4 HX.out hsr
          generalize B ++ rest = LL at *
          obtain ⟨b4, d4, rfl, hd4⟩ := own8_form hown4
          have hbnd := hL4.out
          have HR4 := Lib.hid (hown4.row (by omega))
          generalize LL.length = M at *
          clear hown4 hg4
          go_wp2_with fail
          refine (read_to _ _ _ LL _ HR4.out hd4 hbnd HR.out (kn := 0) rfl (bl := 0) rfl (mn := 0) (en := 5) rfl rfl).mono ?_
          rintro e w5 ⟨ba, bc, rfl, hown5, hb5⟩
          have hw5 : Below w.heap.size w w5 := below_into (below_into hb12 hb4) hb5
          clear hown5
          go_wp2_with fail
          go_ret
          exact ⟨rfl, below_into hw5 (below_alloc w5 _)⟩
        · go_wp2_with (at_builtin; refine wpList_append8 rfl _ _ rfl w2.heap.size _ B rfl HX.out _ _ _ rest rfl RR.out BD.out hsr ?_)
          intro v4 w4 hown4 hg4
          have hb4 : Below w2.heap.size w2 w4 := below_grown hbr hg4 HX.out hsr
          generalize B ++ rest = LL at *
          obtain ⟨b4, d4, rfl, hd4⟩ := own8_form hown4
          have hbnd := hL4.out
          have HR4 := Lib.hid (hown4.row (by omega))
          generalize LL.length = M at *
          clear hown4 hg4
          go_wp2_with fail
          refine (read_to _ _ _ LL _ HR4.out hd4 hbnd HR.out (kn := 0) rfl (bl := 0) rfl (mn := 0) (en := 5) rfl rfl).mono ?_
          rintro e w5 ⟨ba, bc, rfl, hown5, hb5⟩
          have hw5 : Below w.heap.size w w5 := below_into (below_into hb12 hb4) hb5
          clear hown5
          go_wp2_with fail
          go_ret
          exact ⟨rfl, below_into hw5 (below_alloc w5 _)⟩

theorem frameAltered_any (kind : B8) (a : Option Addr) (m c : Nat) (body : List B8) (at_ : Int) (bits : W32) (a' : Option Addr) (n c' : Nat) (rest : List B8) (w : World)
    (r1 : Row8 w a m body) (_ : m ≤ c) (_ : c ≤ 140737488351232) (_ : a = none → c = 0) (_ : (Lit.int .i64 at_).wf = true) (r2 : Row8 w a' n rest) (_ : n ≤ c') (_ : c' ≤ 140737488351232) (_ : a' = none → c' = 0) :
    Calls Try.prog 5 #[.int .u8 (ub kind), .slice a m c, .int .i64 at_, .int .u32 (u bits), .slice a' n c'] w fun e w' => e = .returned (.bool true) ∧ Below w.heap.size w w' := by
  by_cases h : 3000 < m
  · exact altered_long kind a m c at_ bits a' n c' w h r1.2.1
  · exact altered_main kind a m c body at_ bits a' n c' rest w r1 r2 (by omega) (by omega)
end Go.Proofs.Ytlfeahalgolbgaa
