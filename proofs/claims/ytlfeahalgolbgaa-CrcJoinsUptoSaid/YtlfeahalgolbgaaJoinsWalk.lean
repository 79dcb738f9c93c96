/-
  The walks of CrcJoins and CrcNames.
-/
import Derived.Test.YtlfeahalgolbgaaMemB
namespace Go.Proofs.Ytlfeahalgolbgaa
open Go.RowKit
set_option linter.unusedVariables false

theorem joined_at (x y : W32) (N : Nat) (w : World) (hN : N ≤ 9223372036854775807) (z : W32) (hz : joinedF x y N = z) :
    Calls Try.prog 25 #[.int .u32 (u x), .int .u32 (u y), .int .i64 N] w fun e w' => e = .returned (.tuple #[.int .u32 (u z), .int .i64 0]) ∧ Below w.heap.size w w' := by
  subst hz; exact joined_any x y N w hN

theorem joinedF_sum (a b : List B8) : joinedF (sumOf a) (sumOf b) b.length = sumOf (a ++ b) := by
  rw [sumOf_append, more_join]; rfl

set_option maxRecDepth 100000 in
set_option maxHeartbeats 400000 in
theorem crcJoins_any (a0 : Option Addr) (len0 cap0 : Nat) (l0 : List B8) (a1 : Option Addr) (len1 cap1 : Nat) (l1 : List B8) (a2 : Option Addr) (len2 cap2 : Nat) (l2 : List B8) (w : World)
    (r0 : Row8 w a0 len0 l0) (_ : len0 ≤ cap0) (_ : cap0 ≤ 140737488351232) (_ : a0 = none → cap0 = 0) (r1 : Row8 w a1 len1 l1) (_ : len1 ≤ cap1) (_ : cap1 ≤ 140737488351232) (_ : a1 = none → cap1 = 0)
    (r2 : Row8 w a2 len2 l2) (_ : len2 ≤ cap2) (_ : cap2 ≤ 140737488351232) (_ : a2 = none → cap2 = 0) (hs : len0 + len1 + len2 ≤ 1048576) :
    Calls Try.prog 6 #[.slice a0 len0 cap0, .slice a1 len1 cap1, .slice a2 len2 cap2] w fun e w' => e = .returned (.bool true) ∧ Below w.heap.size w w' := by
  rename_i e1 e2 e3 e4 e5 e6 e7 e8 e9
  clear e1 e2 e3 e4 e5 e6 e7 e8 e9
  obtain rfl := r0.1
  obtain rfl := r1.1
  obtain rfl := r2.1
  have R0 := Lib.hid r0
  have R1 := Lib.hid r1
  have R2 := Lib.hid r2
  clear r0 r1 r2
  obtain ⟨ab, hab⟩ : ∃ ab, l0 ++ l1 = ab := ⟨_, rfl⟩
  obtain ⟨abc, habc⟩ : ∃ abc, ab ++ l2 = abc := ⟨_, rfl⟩
  have J1 : Hid (joinedF (sumOf l0) (sumOf l1) l1.length = sumOf ab) := by rw [← hab]; exact joinedF_sum l0 l1
  have J2 : Hid (joinedF (sumOf ab) (sumOf l2) l2.length = sumOf abc) := by rw [← habc]; exact joinedF_sum ab l2
  have J3 : Hid (more (sumOf l0) l1 = sumOf ab) := by rw [← hab]; exact (sumOf_append l0 l1).symm
  have hl1 : ab.length = l0.length + l1.length := by rw [← hab, List.length_append]
  have hl2 : abc.length = ab.length + l2.length := by rw [← habc, List.length_append]
  have HAB := Lib.hid hab
  have HABC := Lib.hid habc
  have HL1 := Lib.hid hl1
  have HL2 := Lib.hid hl2
  have hs1 : ab.length ≤ 140737492549632 := by omega
  have hs2 : abc.length ≤ 140737492549632 := by omega
  clear hab habc hl1 hl2
  go_enter Try.func6, Try.ntmps6
  go_wp2_with fail
  refine (lives_any _).mono ?_
  rintro e w1 ⟨rfl, hb1⟩
  have S0 := Lib.hid (R0.out.below hb1)
  have S1 := Lib.hid (R1.out.below hb1)
  have S2 := Lib.hid (R2.out.below hb1)
  clear R0 R1 R2
  -- append([]byte{}, a..), then b
  go_wp2_with (at_builtin; refine wpList_append8 rfl _ _ rfl w1.heap.size _ [] rfl (own8_made w1 _ (Nat.le_refl _)) _ _ _ l0 rfl (S0.out.below (below_alloc w1 _)) ?cb1 ?cc1 ?_)
  case cb1 => simp; omega
  case cc1 => simp
  intro v2 w2 hown2 hg2
  have hb2 : Below w1.heap.size w1 w2 := below_grown (below_alloc w1 _) hg2 (own8_made w1 _ (Nat.le_refl _)) (by simp)
  clear hg2
  go_wp2_with (at_builtin; refine wpList_append8 rfl _ _ rfl w1.heap.size _ l0 rfl hown2 _ _ _ l1 rfl (S1.out.below hb2) ?cb2 ?cc2 ?_)
  case cb2 => omega
  case cc2 => exact hb2.size
  intro v3 w3 hown3 hg3
  have hb3 : Below w1.heap.size w1 w3 := below_grown hb2 hg3 hown2 hb2.size
  have hown3b : Own8 w3 w1.heap.size v3 ab := by rw [← HAB.out]; exact hown3
  obtain ⟨x3, c3, rfl, hc3⟩ := own8_form hown3b
  have hr3 := Lib.hid (hown3b.row (by omega))
  clear hg3 hown2 hown3 hown3b hb2 hc3
  -- the two, then c
  go_wp2_with (at_builtin; refine wpList_append8 rfl _ _ rfl w3.heap.size _ [] rfl (own8_made w3 _ (Nat.le_refl _)) _ _ _ ab rfl (hr3.out.below (below_alloc w3 _)) ?cb3 ?cc3 ?_)
  case cb3 => simp; omega
  case cc3 => simp
  intro v4 w4 hown4 hg4
  have hb4 : Below w3.heap.size w3 w4 := below_grown (below_alloc w3 _) hg4 (own8_made w3 _ (Nat.le_refl _)) (by simp)
  clear hg4
  go_wp2_with (at_builtin; refine wpList_append8 rfl _ _ rfl w3.heap.size _ ab rfl hown4 _ _ _ l2 rfl ((S2.out.below hb3).below hb4) ?cb4 ?cc4 ?_)
  case cb4 => have := HL2.out; omega
  case cc4 => exact hb4.size
  intro v5 w5 hown5 hg5
  have hb5 : Below w3.heap.size w3 w5 := below_grown hb4 hg5 hown4 hb4.size
  have hown5b : Own8 w5 w3.heap.size v5 abc := by rw [← HABC.out]; exact hown5
  obtain ⟨x5, c5, rfl, hc5⟩ := own8_form hown5b
  have hr5 := Lib.hid (hown5b.row (by omega))
  have hb15 := below_into hb3 hb5
  have T0 := Lib.hid (S0.out.below hb15)
  have T1 := Lib.hid (S1.out.below hb15)
  have T2 := Lib.hid (S2.out.below hb15)
  have T3 := Lib.hid (hr3.out.below hb5)
  clear hg5 hown4 hown5 hown5b hb4 hc5 S0 S1 S2 hr3
  -- the sums
  go_wp2_with fail
  refine (sum_any _ _ _ l0 _ _ rfl T0.out).mono ?_
  rintro e w' ⟨rfl, rfl⟩
  go_wp2_with fail
  refine (sum_any _ _ _ l1 _ _ rfl T1.out).mono ?_
  rintro e w' ⟨rfl, rfl⟩
  go_wp2_with fail
  refine (joined_at _ _ l1.length _ (by omega) _ J1.out).mono ?_
  rintro e w6 ⟨rfl, hb6⟩
  go_wp2_with fail
  refine (sum_any _ _ _ l2 _ _ rfl (T2.out.below hb6)).mono ?_
  rintro e w' ⟨rfl, rfl⟩
  go_wp2_with fail
  refine (joined_at _ _ l2.length _ (by omega) _ J2.out).mono ?_
  rintro e w7 ⟨rfl, hb7⟩
  have hb67 := below_into hb6 hb7
  go_wp2_with fail
  refine (sum_any _ _ _ ab _ _ rfl (T3.out.below hb67)).mono ?_
  rintro e w' ⟨rfl, rfl⟩
  go_wp2_with fail
  refine (sum_any _ _ _ abc _ _ rfl (hr5.out.below hb67)).mono ?_
  rintro e w' ⟨rfl, rfl⟩
  go_wp2_with fail
  refine (sum_any _ _ _ l0 _ _ rfl (T0.out.below hb67)).mono ?_
  rintro e w' ⟨rfl, rfl⟩
  go_wp2_with fail
  refine (more_any (sumOf l0) _ _ _ l1 _ (T1.out.below hb67)).mono ?_
  rintro e w' ⟨rfl, rfl⟩
  rw [J3.out]
  go_wp2_with fail
  go_ret
  exact ⟨rfl, below_into hb1 (below_into hb15 hb67)⟩
end Go.Proofs.Ytlfeahalgolbgaa
