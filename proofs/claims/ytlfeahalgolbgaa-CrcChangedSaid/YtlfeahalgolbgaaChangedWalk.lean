/-
  The walk of CrcChanged.
-/
import Derived.Test.YtlfeahalgolbgaaMemB
import Derived.Deep.RegionWith
namespace Go.Proofs.Ytlfeahalgolbgaa
open Go.RowKit
set_option linter.unusedVariables false

theorem changed_at (x : W32) (at_ : Nat) (c d : B8) (N : Nat) (w : World) (hN : N ≤ 9223372036854775807) (h1 : at_ < N) (z : W32) (hz : changedF x (N - 1 - at_) c d = z) :
    Calls Try.prog 27 #[.int .u32 (u x), .int .i64 at_, .int .u8 (ub c), .int .u8 (ub d), .int .i64 N] w fun e w' => e = .returned (.tuple #[.int .u32 (u z), .int .i64 0]) ∧ Below w.heap.size w w' := by
  subst hz; exact changed_any x at_ c d N w hN h1

theorem changedF_sum (l : List B8) (i : Nat) (h : i < l.length) (d : B8) : changedF (sumOf l) (l.length - 1 - i) (l.getD i 0#8) d = sumOf (l.set i d) := by
  unfold sumOf
  rw [more_set l i h d 0#32, List.getD_eq_getElem?_getD, List.getElem?_eq_getElem h]
  rfl

set_option maxRecDepth 100000 in
set_option maxHeartbeats 400000 in
theorem changed_main (a : Option Addr) (len cap : Nat) (l : List B8) (at_ : Int) (d : B8) (w : World) (hr : Row8 w a len l) (h0 : 0 < len) (hm : len ≤ 140737488351232) :
    Calls Try.prog 7 #[.slice a len cap, .int .i64 at_, .int .u8 (ub d)] w fun e w' => e = .returned (.bool true) ∧ Below w.heap.size w w' := by
  obtain rfl := hr.1
  have HR := Lib.hid hr
  clear hr
  have ht1 : ((l.length : Int) == 0) = false := by rw [beq_eq_false_iff_ne]; omega
  have gd1 := ub_lo d
  have gd2 := ub_hi d
  have hpb := pick_bounds at_ (l.length : Int) (by omega)
  obtain ⟨p, hp⟩ := Int.eq_ofNat_of_zero_le hpb.1
  have hpl : p < l.length := by omega
  have HP := Lib.hid hp
  have HC := Lib.hid (changedF_sum l p hpl d)
  clear hpb hp
  go_enter Try.func7, Try.ntmps7
  go_wp2_with fail
  refine (lives_any _).mono ?_
  rintro e w1 ⟨rfl, hb1⟩
  have HR1 := Lib.hid (HR.out.below hb1)
  go_wp2_with fail
  refine (pick_any _ _ _ (by omega) (by omega)).mono ?_
  rintro e w' ⟨rfl, rfl⟩
  rw [HP.out]
  go_wp2_with (at_builtin; refine wpList_append8 rfl _ _ rfl w1.heap.size _ [] rfl (own8_made w1 _ (Nat.le_refl _)) _ _ _ l rfl (HR1.out.below (below_alloc w1 _)) ?cb ?cc ?_)
  case cb => simp; omega
  case cc => simp
  intro v2 w2 hown2 hg2
  have hb2 : Below w1.heap.size w1 w2 := below_grown (below_alloc w1 _) hg2 (own8_made w1 _ (Nat.le_refl _)) (by simp)
  obtain ⟨g, vc, rfl, hbg, _, hgs⟩ := own8_block hown2 h0
  obtain ⟨hcell, hfr⟩ := own8_cell hown2 p hpl
  have hb3 := hb2.setCell (p := ⟨g, p, none⟩) hbg (.int .u8 (ub d))
  have HO : Hid (Own8 (w2.setCell ⟨g, p, none⟩ (.int .u8 (ub d))) w1.heap.size (.slice (some ⟨g, 0, none⟩) l.length vc) (l.set p d)) := own8_store hown2 p d
  have HR3 := Lib.hid (HR1.out.below hb3)
  clear hown2 hg2
  go_wp2_with fail
  generalize w2.setCell ⟨g, p, none⟩ (.int .u8 (ub d)) = w3 at *
  clear hcell hfr hb2
  obtain ⟨b, off, rfl, hcs⟩ := HR3.out.2.2 h0
  have hc3 := hcs p hpl
  clear hcs
  generalize hc0 : l.getD p 0#8 = c0 at *
  have gc1 := ub_lo c0
  have gc2 := ub_hi c0
  have HC0 := Lib.hid hc0
  clear hc0
  go_region_with (first
    | (go_at_call 17; refine (sum_any _ _ _ l _ _ rfl (HR3.out.below ((Below.refl _ _).drew))).mono ?_; rintro e w' ⟨rfl, rfl⟩)
    | (go_at_call 27; refine (changed_at _ p c0 d l.length _ (by omega) (by omega) _ HC.out).mono ?_; rintro e w4 ⟨rfl, hb4⟩))
  all_goals
    have hb5 : Below w3.heap.size w3 w4 := ((Below.refl _ _).drew).trans hb4
    go_wp2_with fail
    refine (sum_any _ _ _ (l.set p d) _ _ rfl ((HO.out.row (by rw [List.length_set]; omega)).below hb5)).mono ?_
    rintro e w' ⟨rfl, rfl⟩
    go_wp2_with fail
    go_ret
    exact ⟨rfl, below_into hb1 (below_into hb3 hb5)⟩

set_option maxHeartbeats 400000 in
theorem changed_none (a : Option Addr) (cap : Nat) (at_ : Int) (d : B8) (w : World) :
    Calls Try.prog 7 #[.slice a 0 cap, .int .i64 at_, .int .u8 (ub d)] w fun e w' => e = .returned (.bool true) ∧ Below w.heap.size w w' := by
  go_enter Try.func7, Try.ntmps7
  go_wp2_with fail
  refine (lives_any _).mono ?_
  rintro e w1 ⟨rfl, hb1⟩
  go_wp2_with fail
  go_ret
  exact ⟨rfl, hb1⟩

theorem crcChanged_any (a : Option Addr) (len cap : Nat) (l : List B8) (at_ : Int) (d : B8) (w : World) (hr : Row8 w a len l) (_ : len ≤ cap) (_ : cap ≤ 140737488351232) (_ : a = none → cap = 0) (_ : (Lit.int .i64 at_).wf = true) :
    Calls Try.prog 7 #[.slice a len cap, .int .i64 at_, .int .u8 (ub d)] w fun e w' => e = .returned (.bool true) ∧ Below w.heap.size w w' := by
  by_cases h : len = 0
  · subst h; exact changed_none a cap at_ d w
  · exact changed_main a len cap l at_ d w hr (by omega) (by omega)
end Go.Proofs.Ytlfeahalgolbgaa
