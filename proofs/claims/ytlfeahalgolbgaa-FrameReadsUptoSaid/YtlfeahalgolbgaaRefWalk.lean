/-
  The contracts of the document's answer for the checksum.
-/
import Derived.Test.YtlfeahalgolbgaaMemB
import Derived.Test.YtlfeahalgolbgaaRefPlain
namespace Go.Proofs.Ytlfeahalgolbgaa
open Go.RowKit
set_option linter.unusedVariables false
attribute [local go_sem] bits_xor_uu bits_xor_ub bits_xor_poly u_half bits_not_u bits_xor_bb

theorem rtimes_any (s : W32) (w : World) : Calls Try.prog 47 #[.int .u32 (u s)] w fun e w' => e = .returned (.int .u32 (u (stp s))) ∧ w = w' := by
  cases hb : s.getLsbD 0
  · have ht := tst_f hb
    have H := Lib.hid (stp_f hb)
    clear hb
    go_enter Try.func47, Try.ntmps47
    go_wp2
    go_ret
    exact ⟨ret_u (by rw [H.out]), rfl⟩
  · have ht := tst_t hb
    have H := Lib.hid (stp_t hb)
    clear hb
    go_enter Try.func47, Try.ntmps47
    go_wp2
    go_ret
    exact ⟨ret_u (by rw [H.out]), rfl⟩

set_option maxRecDepth 100000 in
set_option maxHeartbeats 400000 in
theorem rmore_any (s : W32) (a : Option Addr) (len cap : Nat) (l : List B8) (w : World) (h : Row8 w a len l) :
    Calls Try.prog 33 #[.int .u32 (u s), .slice a len cap] w fun e w' => e = .returned (.int .u32 (u (more s l))) ∧ w = w' := by
  obtain ⟨hl, hm, hc⟩ := h
  have HL := Lib.hid hl
  clear hl
  go_enter Try.func33, Try.ntmps33
  go_wp2
  go_loop [5, 6] (fun x i => ∃ k : Nat, k ≤ len ∧ i = .int .i64 k ∧ x = .int .u32 (u (crcS (s ^^^ ones) (l.take k)))) (fun _ i => len - (intOf i).toNat)
  case atStart => exact ⟨0, by omega, rfl, rfl⟩
  case round =>
    obtain ⟨k, hk, rfl, rfl⟩ := hrel
    by_cases hlt : k < len
    · obtain ⟨b, off, rfl, hcell⟩ := hc (by omega)
      have hk1 := hcell k hlt
      have HS := Lib.hid (crc_step (s ^^^ ones) l k (by rw [← HL.out]; exact hlt))
      clear hcell hc
      generalize l.getD k 0#8 = c at *
      generalize crcS (s ^^^ ones) (l.take k) = x at *
      have g3 := ub_lo c
      have g4 := ub_hi c
      have H0 : Todo 0 (x ^^^ c.setWidth 32) (byB x c) := rfl
      go_wp2
      generalize x ^^^ c.setWidth 32 = y0 at *
      clear g3 g4
      go_loop [5, 7] (fun z i => ∃ (j : Nat) (y : W32), j ≤ 8 ∧ i = .int .i64 j ∧ z = .int .u32 (u y) ∧ Todo j y (byB x c)) (fun _ i => 8 - (intOf i).toNat)
      case atStart => exact ⟨0, y0, by omega, rfl, rfl, H0⟩
      case round =>
        obtain ⟨j, y, hj, rfl, rfl, HT⟩ := hrel
        by_cases hlt8 : j < 8
        · have HN : Hid (Todo (j + 1) (stp y) (byB x c)) := by
            show it (8 - (j + 1)) (stp y) = _
            have := HT
            unfold Todo at this
            rw [show 8 - j = (8 - (j + 1)) + 1 by omega] at this
            exact this
          clear HT H0
          go_wp2_with (go_at_call 47; refine (rtimes_any _ _).mono ?_; rintro e w' ⟨rfl, rfl⟩)
          go_round
          case rel => exact ⟨j + 1, _, by omega, by go_num, rfl, HN.out⟩
          case measure => simp [intOf]; omega
        · obtain rfl : j = 8 := by omega
          have HY := Lib.hid (show y = byB x c from HT)
          clear HT H0
          go_wp2
          go_round
          case rel => exact ⟨k + 1, by omega, by go_num, by rw [HS.out, HY.out]⟩
          case measure => simp [intOf]; omega
    · obtain rfl : k = len := by omega
      have hfull : l.take k = l := List.take_of_length_le (by rw [HL.out]; exact Nat.le_refl _)
      rw [hfull]
      clear hfull
      go_wp2
      go_ret
      exact ⟨rfl, rfl⟩

theorem rsum_any (a : Option Addr) (len cap : Nat) (l : List B8) (w : World) (n : Int) (hn : u (sumOf l) = n) (h : Row8 w a len l) :
    Calls Try.prog 32 #[.slice a len cap] w fun e w' => e = .returned (.int .u32 n) ∧ w = w' := by
  have HN := Lib.hid hn
  clear hn
  have hm := rmore_any 0#32 a len cap l w h
  rw [u_zero] at hm
  have HM := Lib.hid hm
  clear hm h
  go_enter Try.func32, Try.ntmps32
  go_wp2_with fail
  refine HM.out.mono ?_
  rintro e w' ⟨rfl, rfl⟩
  go_wp2_with fail
  go_ret
  exact ⟨ret_u HN.out, rfl⟩

/-- k bits are still to be asked -/
def PrRel (a z : W32) (c k : Nat) (b out : W32) : Prop := b = it (32 - k) (it c uno) ∧ out ^^^ it c (lo k a) = z

set_option maxRecDepth 100000 in
set_option maxHeartbeats 400000 in
theorem product_any (a : W32) (c : Nat) (b : W32) (w : World) (hb : b = it c uno) :
    Calls Try.prog 48 #[.int .u32 (u a), .int .u32 (u b)] w fun e w' => e = .returned (.int .u32 (u (it c a))) ∧ w = w' := by
  have H0 : PrRel a (it c a) c 32 b 0#32 := ⟨by rw [hb]; rfl, by rw [lo_all (by omega), BitVec.zero_xor]⟩
  generalize hz : it c a = z at *
  have HZ := Lib.hid hz
  clear hz hb
  go_enter Try.func48, Try.ntmps48
  go_wp2
  go_loop [1, 5, 6] (fun y x i => ∃ (k : Nat) (bb out : W32), k ≤ 32 ∧ i = .int .i64 ((k : Int) - 1) ∧ y = .int .u32 (u bb) ∧ x = .int .u32 (u out) ∧ PrRel a z c k bb out) (fun _ _ i => (intOf i + 1).toNat)
  case atStart => exact ⟨32, b, 0#32, by omega, rfl, rfl, rfl, H0⟩
  case round =>
    clear H0
    obtain ⟨k, bb, out, hk, rfl, rfl, rfl, hr⟩ := hrel
    cases k with
    | zero =>
      have HO : Hid (out = z) := by
        have := hr.2
        rw [lo_zero, it_zero, BitVec.xor_zero] at this
        exact this
      clear hr
      go_wp2
      go_ret
      exact ⟨ret_u (by rw [HO.out]), rfl⟩
    | succ j =>
      rw [show ((j + 1 : Nat) : Int) - 1 = (j : Int) by omega]
      obtain ⟨h1, h2⟩ := hr
      have h3 : stp bb = it (32 - j) (it c uno) := by
        rw [show 32 - j = (32 - (j + 1)) + 1 by omega, it_succ, h1]
      have h4 : bb = it (31 - j) (it c uno) := by rw [h1]; congr 1; omega
      cases hb : a.getLsbD j
      · have ht := tstk_f hb
        have HN : Hid (PrRel a z c j (stp bb) out) := ⟨h3, prod_step_f h2 hb⟩
        clear hb h1 h2 h3 h4
        go_wp2_with (go_at_call 47; refine (rtimes_any _ _).mono ?_; rintro e w' ⟨rfl, rfl⟩)
        go_round
        case rel => exact ⟨j, _, _, by omega, rfl, rfl, rfl, HN.out⟩
        case measure => simp [intOf]
      · have ht := tstk_t hb
        have HN : Hid (PrRel a z c j (stp bb) (out ^^^ bb)) := ⟨h3, by rw [h4]; exact prod_step_t (by omega) h2 hb⟩
        clear hb h1 h2 h3 h4
        go_wp2_with (go_at_call 47; refine (rtimes_any _ _).mono ?_; rintro e w' ⟨rfl, rfl⟩)
        go_round
        case rel => exact ⟨j, _, _, by omega, rfl, rfl, rfl, HN.out⟩
        case measure => simp [intOf]

/-- what a power's loop comes to: the square is c steps, p steps are done, r times c are still to be done -/
def PwRel (n r : Nat) (out sq : W32) : Prop := ∃ p c, out = it p uno ∧ sq = it c uno ∧ p + c * r = n

theorem pw_odd {n r : Nat} {out sq : W32} (h : PwRel n r out sq) (ho : r % 2 = 1) : ∃ c, sq = it c uno ∧ PwRel n (r / 2) (it c out) (it c sq) := by
  obtain ⟨p, c, h1, h2, h3⟩ := h
  refine ⟨c, h2, p + c, 2 * c, by rw [h1, ← it_add], by rw [h2, ← it_add]; congr 1; omega, ?_⟩
  have e : r = 2 * (r / 2) + 1 := by omega
  generalize r / 2 = q at *
  subst e
  rw [Nat.mul_add, Nat.mul_one] at h3
  rw [Nat.mul_comm 2 c, Nat.mul_assoc]
  omega
theorem pw_even {n r : Nat} {out sq : W32} (h : PwRel n r out sq) (ho : ¬ r % 2 = 1) : ∃ c, sq = it c uno ∧ PwRel n (r / 2) out (it c sq) := by
  obtain ⟨p, c, h1, h2, h3⟩ := h
  refine ⟨c, h2, p, 2 * c, h1, by rw [h2, ← it_add]; congr 1; omega, ?_⟩
  have e : r = 2 * (r / 2) := by omega
  generalize r / 2 = q at *
  subst e
  rw [Nat.mul_comm 2 c, Nat.mul_assoc]
  omega

theorem u_uno : u uno = 2147483648 := by kernel_rfl
theorem u_sq : u (it 8 uno) = 8388608 := by kernel_rfl

set_option maxRecDepth 100000 in
set_option maxHeartbeats 400000 in
theorem power_any (N : Nat) (w : World) (hN : N ≤ 9223372036854775807) :
    Calls Try.prog 49 #[.int .i64 N] w fun e w' => e = .returned (.int .u32 (u (it (8 * N) uno))) ∧ w = w' := by
  have H0 : PwRel (8 * N) N uno (it 8 uno) := ⟨0, 8, rfl, rfl, by omega⟩
  have H1 := Lib.hid u_uno
  have H2 := Lib.hid u_sq
  go_enter Try.func49, Try.ntmps49
  go_wp2
  go_loop [0, 3, 4] (fun n x y => ∃ (r : Nat) (out sq : W32), r ≤ 9223372036854775807 ∧ n = .int .i64 r ∧ x = .int .u32 (u out) ∧ y = .int .u32 (u sq) ∧ PwRel (8 * N) r out sq) (fun n _ _ => (intOf n).toNat)
  case atStart => exact ⟨N, uno, it 8 uno, hN, rfl, by rw [H1.out], by rw [H2.out], H0⟩
  case round =>
    clear H0
    obtain ⟨r, out, sq, hr, rfl, rfl, rfl, hrel⟩ := hrel
    by_cases h0 : 0 < r
    · by_cases hodd : r % 2 = 1
      · have ht : ((r : Int) % 2 == 1) = true := by rw [beq_iff_eq]; omega
        obtain ⟨c, hc, hn⟩ := pw_odd hrel hodd
        have HC := Lib.hid hc
        have HN := Lib.hid hn
        clear hrel hodd hc hn
        go_wp2_with fail
        refine (product_any out c sq _ HC.out).mono ?_
        rintro e w' ⟨rfl, rfl⟩
        go_wp2_with fail
        refine (product_any sq c sq _ HC.out).mono ?_
        rintro e w' ⟨rfl, rfl⟩
        go_wp2_with fail
        go_round
        case rel => exact ⟨r / 2, _, _, by omega, by go_num, rfl, rfl, HN.out⟩
        case measure => simp [intOf]; omega
      · have ht : ((r : Int) % 2 == 1) = false := by rw [beq_eq_false_iff_ne]; omega
        obtain ⟨c, hc, hn⟩ := pw_even hrel hodd
        have HC := Lib.hid hc
        have HN := Lib.hid hn
        clear hrel hodd hc hn
        go_wp2_with fail
        refine (product_any sq c sq _ HC.out).mono ?_
        rintro e w' ⟨rfl, rfl⟩
        go_wp2_with fail
        go_round
        case rel => exact ⟨r / 2, _, _, by omega, by go_num, rfl, rfl, HN.out⟩
        case measure => simp [intOf]; omega
    · obtain rfl : r = 0 := by omega
      have HO : Hid (out = it (8 * N) uno) := by
        obtain ⟨p, c, h1, h2, h3⟩ := hrel
        rw [Nat.mul_zero, Nat.add_zero] at h3
        show out = _
        rw [h1, h3]
      clear hrel
      go_wp2
      go_ret
      exact ⟨ret_u (congrArg u HO.out), rfl⟩

theorem rzeros_any (x : W32) (N : Nat) (w : World) (hN : N ≤ 9223372036854775807) :
    Calls Try.prog 34 #[.int .u32 (u x), .int .i64 N] w fun e w' => e = .returned (.tuple #[.int .u32 (u (zerosF x N)), .int .i64 0]) ∧ w = w' := by
  have HP := Lib.hid (power_any N w hN)
  go_enter Try.func34, Try.ntmps34
  go_wp2_with fail
  refine HP.out.mono ?_
  rintro e w' ⟨rfl, rfl⟩
  go_wp2_with fail
  refine (product_any (x ^^^ ones) (8 * N) _ _ rfl).mono ?_
  rintro e w' ⟨rfl, rfl⟩
  go_wp2_with fail
  go_ret2
  exact ⟨rfl, rfl⟩

theorem rzeros_neg (x : W32) (n : Int) (w : World) (hN : n < 0) :
    Calls Try.prog 34 #[.int .u32 (u x), .int .i64 n] w fun e w' => e = .returned (.tuple #[.int .u32 0, .int .i64 2]) ∧ w = w' := by
  go_enter Try.func34, Try.ntmps34
  go_wp2_with fail
  go_ret2
  exact ⟨rfl, rfl⟩

theorem rjoined_any (x y : W32) (N : Nat) (w : World) (hN : N ≤ 9223372036854775807) :
    Calls Try.prog 35 #[.int .u32 (u x), .int .u32 (u y), .int .i64 N] w fun e w' => e = .returned (.tuple #[.int .u32 (u (joinedF x y N)), .int .i64 0]) ∧ w = w' := by
  have HP := Lib.hid (power_any N w hN)
  go_enter Try.func35, Try.ntmps35
  go_wp2_with fail
  refine HP.out.mono ?_
  rintro e w' ⟨rfl, rfl⟩
  go_wp2_with fail
  refine (product_any x (8 * N) _ _ rfl).mono ?_
  rintro e w' ⟨rfl, rfl⟩
  go_wp2_with fail
  go_ret2
  exact ⟨rfl, rfl⟩

theorem rjoined_neg (x y : W32) (n : Int) (w : World) (hN : n < 0) :
    Calls Try.prog 35 #[.int .u32 (u x), .int .u32 (u y), .int .i64 n] w fun e w' => e = .returned (.tuple #[.int .u32 0, .int .i64 2]) ∧ w = w' := by
  go_enter Try.func35, Try.ntmps35
  go_wp2_with fail
  go_ret2
  exact ⟨rfl, rfl⟩

theorem ub_wide (c : B8) : ub c = u (c.setWidth 32) := by
  unfold ub u; rw [BitVec.toNat_setWidth, Nat.mod_eq_of_lt (by have := c.isLt; omega)]

set_option maxRecDepth 100000 in
set_option maxHeartbeats 400000 in
theorem rchanged_any (x : W32) (at_ : Nat) (c d : B8) (N : Nat) (w : World) (hN : N ≤ 9223372036854775807) (h1 : at_ < N) :
    Calls Try.prog 36 #[.int .u32 (u x), .int .i64 at_, .int .u8 (ub c), .int .u8 (ub d), .int .i64 N] w fun e w' => e = .returned (.tuple #[.int .u32 (u (changedF x (N - 1 - at_) c d)), .int .i64 0]) ∧ w = w' := by
  have HP := Lib.hid (power_any (N - 1 - at_) w (by omega))
  have HE := Lib.hid (show ((N - 1 - at_ : Nat) : Int) = (N : Int) - 1 - (at_ : Int) by omega)
  have HW := Lib.hid (ub_wide (c ^^^ d))
  have gc1 := ub_lo (c ^^^ d)
  have gc2 := ub_hi (c ^^^ d)
  have H0 : Todo 0 ((c ^^^ d).setWidth 32) (byB 0#32 (c ^^^ d)) := by
    show it 8 _ = it 8 _
    rw [BitVec.zero_xor]
  have t3 : decide (N ≤ at_) = false := by rw [decide_eq_false_iff_not]; omega
  go_enter Try.func36, Try.ntmps36
  go_wp2
  go_loop [12, 13] (fun z i => ∃ (j : Nat) (y : W32), j ≤ 8 ∧ i = .int .i64 j ∧ z = .int .u32 (u y) ∧ Todo j y (byB 0#32 (c ^^^ d))) (fun _ i => 8 - (intOf i).toNat)
  case atStart => exact ⟨0, (c ^^^ d).setWidth 32, by omega, rfl, by rw [HW.out], H0⟩
  case round =>
    clear gc1 gc2 H0
    obtain ⟨j, y, hj, rfl, rfl, HT⟩ := hrel
    by_cases hlt8 : j < 8
    · have HN : Hid (Todo (j + 1) (stp y) (byB 0#32 (c ^^^ d))) := by
        show it (8 - (j + 1)) (stp y) = _
        have := HT
        unfold Todo at this
        rw [show 8 - j = (8 - (j + 1)) + 1 by omega] at this
        exact this
      clear HT
      go_wp2_with (go_at_call 47; refine (rtimes_any _ _).mono ?_; rintro e w' ⟨rfl, rfl⟩)
      go_round
      case rel => exact ⟨j + 1, _, by omega, by go_num, rfl, HN.out⟩
      case measure => simp [intOf]; omega
    · obtain rfl : j = 8 := by omega
      have HY := Lib.hid (show y = byB 0#32 (c ^^^ d) from HT)
      clear HT
      go_wp2_with fail
      rw [← HE.out]
      refine HP.out.mono ?_
      rintro e w' ⟨rfl, rfl⟩
      go_wp2_with fail
      refine (product_any y (8 * (N - 1 - at_)) _ _ rfl).mono ?_
      rintro e w' ⟨rfl, rfl⟩
      rw [HY.out]
      go_wp2_with fail
      go_ret2
      exact ⟨rfl, rfl⟩

theorem rchanged_bad (x : W32) (at_ : Int) (c d : B8) (n : Int) (w : World) (h1 : ¬ (1 ≤ n ∧ 0 ≤ at_ ∧ at_ < n)) :
    Calls Try.prog 36 #[.int .u32 (u x), .int .i64 at_, .int .u8 (ub c), .int .u8 (ub d), .int .i64 n] w fun e w' => e = .returned (.tuple #[.int .u32 0, .int .i64 2]) ∧ w = w' := by
  have h2 : n < 1 ∨ (¬ n < 1 ∧ at_ < 0) ∨ (¬ n < 1 ∧ ¬ at_ < 0 ∧ n ≤ at_) := by omega
  clear h1
  rcases h2 with h2 | ⟨h2, h3⟩ | ⟨h2, h3, h4⟩
  all_goals
    go_enter Try.func36, Try.ntmps36
    go_wp2_with fail
    go_ret2
    exact ⟨rfl, rfl⟩
end Go.Proofs.Ytlfeahalgolbgaa
