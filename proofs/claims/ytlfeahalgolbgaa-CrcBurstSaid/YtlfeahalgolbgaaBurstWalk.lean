/-
  The walk of CrcBurst.
-/
import Derived.Test.YtlfeahalgolbgaaMem
import Derived.Test.YtlfeahalgolbgaaBurst
namespace Go.Proofs.Ytlfeahalgolbgaa
open Go.RowKit

theorem Row8.below {w w' : World} {a : Option Addr} {n : Nat} {l : List B8} (h : Row8 w a n l) (hb : Below w.heap.size w w') : Row8 w' a n l := by
  obtain ⟨h1, h2, h3⟩ := h
  refine ⟨h1, h2, fun h0 => ?_⟩
  obtain ⟨b, o, ha, hc⟩ := h3 h0
  refine ⟨b, o, ha, fun i hi => ?_⟩
  have hcc := hc i hi
  rw [hb.cell (p := ⟨b, o + i, none⟩) (block_lt_of_cell hcc)]
  exact hcc

theorem below_into {w1 w2 w3 : World} (h : Below w1.heap.size w1 w2) (k : Below w2.heap.size w2 w3) : Below w1.heap.size w1 w3 := h.trans (k.mono h.size)

theorem own8_made (w : World) (base : Nat) (hb : base ≤ w.heap.size) : Own8 (w.alloc (.cells #[] 5)) base (.slice (some ⟨w.heap.size, 0, none⟩) 0 0) [] :=
  World.ownsRow_made w #[] 0 hb (by decide) rfl

theorem ret_b {a b : Bool} (h : a = b) : Ending.returned (.bool a) = .returned (.bool b) := by rw [h]
theorem u_shr (a : W32) (k : Nat) : u a / (2 : Int) ^ k = u (a >>> k) := by
  unfold u; rw [BitVec.toNat_ushiftRight, Nat.shiftRight_eq_div_pow, Int.natCast_ediv, Int.natCast_pow]; rfl
theorem tstk_t {a : W32} {k : Nat} (h : a.getLsbD k = true) : (Go.bits .and .u32 (u a / (2 : Int) ^ k) 1 == 1) = true := by
  rw [u_shr]; exact tst_t (by rw [BitVec.getLsbD_ushiftRight]; exact h)
theorem tstk_f {a : W32} {k : Nat} (h : a.getLsbD k = false) : (Go.bits .and .u32 (u a / (2 : Int) ^ k) 1 == 1) = false := by
  rw [u_shr]; exact tst_f (by rw [BitVec.getLsbD_ushiftRight]; exact h)

theorem bits_xor_bb (a b : B8) : Go.bits .xor .u8 (ub a) (ub b) = ub (a ^^^ b) := by
  unfold ub; rw [u8_xor_nat _ _ a.isLt b.isLt, BitVec.toNat_xor]
theorem xor_shl8 (c : B8) (t : Nat) (h : t < 8) : Go.bits .xor .u8 (ub c) ((2 : Int) ^ t % 256) = ub (c ^^^ 1#8 <<< t) := by
  have e : ∀ t : Fin 8, ((2 : Int) ^ t.val % 256) = ub (1#8 <<< t.val) := by decide +kernel
  rw [e ⟨t, h⟩, bits_xor_bb]

theorem burst_store {w : World} {base g n c : Nat} {l : List B8} {p k : Nat} {bits : W32} (hb : bits.getLsbD k = true) (h : Own8 w base (.slice (some ⟨g, 0, none⟩) n c) (burst l p bits k)) {c0 : B8}
    (hc : (burst l p bits k).getD ((p + k) / 8) 0#8 = c0) :
    Own8 (w.setCell ⟨g, (p + k) / 8, none⟩ (.int .u8 (Go.bits .xor .u8 (ub c0) ((2 : Int) ^ ((p + k) % 8) % 256)))) base (.slice (some ⟨g, 0, none⟩) n c) (burst l p bits (k + 1)) := by
  rw [xor_shl8 _ _ (Nat.mod_lt _ (by decide)), burst_t hb, flip, hc]
  exact own8_store h _ _

set_option maxRecDepth 100000 in
set_option maxHeartbeats 400000 in
theorem burst_main (a : Option Addr) (len cap : Nat) (l : List B8) (at_ : Int) (bits : W32) (w : World) (hr : Row8 w a len l) (h1 : 0 < len) (h2 : len ≤ 10000) :
    Calls Try.prog 3 #[.slice a len cap, .int .i64 at_, .int .u32 (u bits)] w fun e w' => e = .returned (.bool true) ∧ Below w.heap.size w w' := by
  obtain rfl := hr.1
  have HR := Lib.hid hr
  clear hr
  have ht1 : ((l.length : Int) == 0) = false := by rw [beq_eq_false_iff_ne]; omega
  have ht2 : ¬ ((10000 : Int) < (l.length : Int)) := by omega
  go_enter Try.func3, Try.ntmps3
  go_wp2_with fail
  refine (lives_any _).mono ?_
  rintro e w1 ⟨rfl, hb1⟩
  have HR1 := Lib.hid (HR.out.below hb1)
  go_wp2_with (at_builtin; refine wpList_append8 rfl _ _ rfl w1.heap.size _ [] rfl (own8_made w1 _ (Nat.le_refl _)) _ _ _ l rfl (HR1.out.below ((Below.refl _ _).alloc (Nat.le_refl _) _)) ?cb ?cc ?_)
  case cb => simp; omega
  case cc => simp
  intro v' w2 hown2 hg2
  have hb2 : Below w1.heap.size w1 w2 := ((Below.refl _ _).alloc (Nat.le_refl _) _).grown hg2 (by simp) (fun k hk => by cases hk; exact Nat.le_refl _)
  have hb12 := below_into hb1 hb2
  obtain ⟨g, vc, rfl, hbg, _, hgs⟩ := own8_block hown2 h1
  clear hg2
  have HR2 := Lib.hid (HR1.out.below hb2)
  have HO := Lib.hid hown2
  clear hown2
  have hpb := pick_bounds at_ (8 * (l.length : Int)) (by omega)
  go_wp2_with fail
  refine (pick_any _ _ _ (by omega) (by omega)).mono ?_
  rintro e w' ⟨rfl, rfl⟩
  obtain ⟨p, hp⟩ := Int.eq_ofNat_of_zero_le hpb.1
  rw [hp] at hpb ⊢
  have hpn : p < 8 * l.length := by omega
  clear hp hpb
  go_wp2_with fail
  go_loopw [9, 10] (fun t i wr => ∃ k : Nat, k ≤ 32 ∧ p + k ≤ 8 * l.length ∧ i = .int .i64 k ∧ t = .bool (turned k bits) ∧ Own8 wr w1.heap.size (.slice (some ⟨g, 0, none⟩) l.length vc) (burst l p bits k) ∧ Below w1.heap.size w1 wr) (fun _ i _ => 32 - (intOf i).toNat)
  case atStart => exact ⟨0, by omega, by omega, rfl, by rw [turned_zero], HO.out, hb2⟩
  case round =>
    obtain ⟨k, hk, hpk, rfl, rfl, hown, hbr⟩ := hrel
    by_cases hlt : k < 32 ∧ p + k < 8 * l.length
    · obtain ⟨hlt, hin⟩ := hlt
      have hbl := burst_length l p bits k
      have hcf := own8_cell hown ((p + k) / 8) (by omega)
      obtain ⟨hcell, hfr⟩ := hcf
      cases hb : bits.getLsbD k
      · have ht := tstk_f hb
        have HT := Lib.hid (turned_f hb)
        have HX := Lib.hid hown
        have HB := Lib.hid (burst_f (l := l) (p := p) hb)
        clear hb hown hcell hfr hbl
        go_wp2_with fail
        go_roundw
        case rel => exact ⟨k + 1, by omega, by omega, by go_num, by rw [HT.out], by rw [HB.out]; exact HX.out, hbr⟩
        case measure => simp [intOf]; omega
      · have ht := tstk_t hb
        have HT := Lib.hid (turned_t hb)
        generalize hc0 : (burst l p bits k).getD ((p + k) / 8) 0#8 = c0 at *
        have HX := Lib.hid (burst_store hb hown hc0)
        have gc1 := ub_lo c0
        have gc2 := ub_hi c0
        clear hb hown hc0 hbl
        go_wp2_with fail
        go_roundw
        case rel => exact ⟨k + 1, by omega, by omega, by go_num, by rw [HT.out], HX.out, hbr.setCell hbg _⟩
        case measure => simp [intOf]; omega
    · have HE := Lib.hid (burst_turned 0#32 l p bits k hk hpk)
      have hbl := burst_length l p bits k
      have HX := Lib.hid hown
      have HRr := Lib.hid (HR1.out.below hbr)
      have hrow := hown.row (by omega)
      have HRO := Lib.hid hrow
      have hab : (u (sumOf (burst l p bits k)) == u (sumOf l)) = !(turned k bits) := by
        rw [← HE.out, Bool.eq_iff_iff, beq_iff_eq, u_inj]
        unfold sumOf
        simp
      clear hown hbl hrow
      generalize hx : u (sumOf (burst l p bits k)) = x at *
      generalize hy : u (sumOf l) = y at *
      generalize turned k bits = t at *
      have SX := Lib.hid hx
      have SY := Lib.hid hy
      have HAB := Lib.hid hab
      clear hx hy hab
      by_cases hk2 : k < 32
      · have hpe' : ¬ (p : Int) + (k : Int) < 8 * (l.length : Int) := by omega
        go_wp2_with fail
        refine (sum_any _ _ _ (burst l p bits k) _ x SX.out HRO.out).mono ?_
        rintro e w' ⟨rfl, rfl⟩
        go_wp2_with fail
        refine (sum_any _ _ _ l _ y SY.out HRr.out).mono ?_
        rintro e w' ⟨rfl, rfl⟩
        go_wp2_with fail
        go_ret
        exact ⟨ret_b (by rw [bne, HAB.out]; cases t <;> rfl), below_into hb1 hbr⟩
      · go_wp2_with fail
        refine (sum_any _ _ _ (burst l p bits k) _ x SX.out HRO.out).mono ?_
        rintro e w' ⟨rfl, rfl⟩
        go_wp2_with fail
        refine (sum_any _ _ _ l _ y SY.out HRr.out).mono ?_
        rintro e w' ⟨rfl, rfl⟩
        go_wp2_with fail
        go_ret
        exact ⟨ret_b (by rw [bne, HAB.out]; cases t <;> rfl), below_into hb1 hbr⟩

set_option maxHeartbeats 400000 in
theorem burst_short (a : Option Addr) (len cap : Nat) (at_ : Int) (bits : W32) (w : World) (h1 : len = 0 ∨ 10000 < len) (hm : len ≤ 281474976710656) :
    Calls Try.prog 3 #[.slice a len cap, .int .i64 at_, .int .u32 (u bits)] w fun e w' => e = .returned (.bool true) ∧ Below w.heap.size w w' := by
  rcases h1 with h1 | h1
  · have ht1 : ((len : Int) == 0) = true := by rw [beq_iff_eq]; omega
    clear h1
    go_enter Try.func3, Try.ntmps3
    go_wp2_with fail
    refine (lives_any _).mono ?_
    rintro e w1 ⟨rfl, hb1⟩
    go_wp2_with fail
    go_ret
    exact ⟨rfl, hb1⟩
  · have ht1 : ((len : Int) == 0) = false := by rw [beq_eq_false_iff_ne]; omega
    have ht2 : (10000 : Int) < (len : Int) := by omega
    go_enter Try.func3, Try.ntmps3
    go_wp2_with fail
    refine (lives_any _).mono ?_
    rintro e w1 ⟨rfl, hb1⟩
    go_wp2_with fail
    go_ret
    exact ⟨rfl, hb1⟩

theorem burst_any (a : Option Addr) (len cap : Nat) (l : List B8) (at_ : Int) (bits : W32) (w : World) (hr : Row8 w a len l)
    (_ : len ≤ cap) (_ : cap ≤ 140737488351232) (_ : a = none → cap = 0) (_ : (Lit.int .i64 at_).wf = true) :
    Calls Try.prog 3 #[.slice a len cap, .int .i64 at_, .int .u32 (u bits)] w fun e w' => e = .returned (.bool true) ∧ Below w.heap.size w w' := by
  by_cases h : len = 0 ∨ 10000 < len
  · exact burst_short a len cap at_ bits w h hr.2.1
  · exact burst_main a len cap l at_ bits w hr (by omega) (by omega)
end Go.Proofs.Ytlfeahalgolbgaa
