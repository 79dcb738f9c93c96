/-
  The contracts of Sum, Pick, and of the first examples of the chapter on the checksum.
-/
import Derived.Test.YtlfeahalgolbgaaWalkA
import Derived.Lib.SlBytesConst
import Derived.KernelRfl
namespace Go.Proofs.Ytlfeahalgolbgaa
open Go.RowKit

set_option maxHeartbeats 400000 in
theorem sum_any (a : Option Addr) (len cap : Nat) (l : List B8) (w : World) (n : Int) (hn : u (sumOf l) = n) (h : Row8 w a len l) :
    Calls Try.prog 17 #[.slice a len cap] w fun e w' => e = .returned (.int .u32 n) ∧ w = w' := by
  have HN := Lib.hid hn
  clear hn
  have hm := more_any 0#32 a len cap l w h
  rw [u_zero] at hm
  have HM := Lib.hid hm
  clear hm h
  go_enter Try.func17, Try.ntmps17
  go_wp2_with (go_at_call 26; refine HM.out.mono ?_; rintro e w' ⟨rfl, rfl⟩)
  go_ret
  exact ⟨ret_u HN.out, rfl⟩

theorem ret_i {k : IntKind} {a b : Int} (h : a = b) : Ending.returned (.int k a) = .returned (.int k b) := by rw [h]

/-- a byte as the model holds it -/
def bv (c : B8) : Value := .int .u8 (ub c)

theorem row8_block {w : World} {b : Nat} {t : TypeId} {fr : Nat × Nat} {C : Array Value} (l : List B8) (h : w.heap[b]? = some (.cells C t fr)) (hC : C = (l.map bv).toArray)
    (hm : l.length ≤ 281474976710656) : Row8 w (some ⟨b, 0, none⟩) l.length l := by
  refine ⟨rfl, hm, fun _ => ⟨b, 0, rfl, fun i hi => ?_⟩⟩
  subst hC
  simp [World.cell?, h, bv, List.getD_eq_getElem?_getD, hi]

def pick (x n : Int) : Int := (x.tmod n + n).tmod n

theorem tmod_bounds (x n : Int) (h : 0 < n) : -n < x.tmod n ∧ x.tmod n < n := by
  have h1 := Int.tmod_lt_of_pos x h
  have h2 : -n < x.tmod n := by
    have := Int.lt_tmod_of_pos x h
    omega
  exact ⟨h2, h1⟩

theorem pick_bounds (x n : Int) (h : 0 < n) : 0 ≤ pick x n ∧ pick x n < n := by
  obtain ⟨h1, h2⟩ := tmod_bounds x n h
  unfold pick
  have h3 : 0 ≤ x.tmod n + n := by omega
  exact ⟨Int.tmod_nonneg n h3, Int.tmod_lt_of_pos _ h⟩

set_option maxHeartbeats 400000 in
theorem pick_any (x n : Int) (w : World) (h : 0 < n) (hn : n ≤ 2305843009213693952) :
    Calls Try.prog 16 #[.int .i64 x, .int .i64 n] w fun e w' => e = .returned (.int .i64 (pick x n)) ∧ w = w' := by
  obtain ⟨h1, h2⟩ := tmod_bounds x n h
  have HE := Lib.hid (show (x.tmod n + n) % n = pick x n from (Int.tmod_eq_emod_of_nonneg (by omega)).symm)
  go_enter Try.func16, Try.ntmps16
  go_wp2
  go_ret
  exact ⟨ret_i HE.out, rfl⟩

theorem heap_new (w : World) (o : Obj) {N : Nat} (hN : N = w.heap.size) : (w.alloc o).heap[N]? = some o := by
  subst hN
  show (w.heap.push o)[w.heap.size]? = some o
  simp

theorem conv_const (w : World) (C : Array Value) (n c N : Nat) (hN : N = w.heap.size) : (convert 22 22 (.slice (some ⟨N, 0, none⟩) n c)).run Try.prog (w.alloc (.cells C 5)) = .ok (.slice (some ⟨N, 0, none⟩) n c) (w.alloc (.cells C 5 (C.size, C.size + 1))) := by
  subst hN
  exact Lib.run_convert_bytes_const (P := Try.prog) w 22 5 C n c Try.underlying22 Try.underlying5
attribute [local go_sem] conv_const

set_option maxHeartbeats 400000 in
theorem lives_any (w : World) :
    Calls Try.prog 15 #[] w fun e w' => e = .returned (.bool true) ∧ Below w.heap.size w w' := by
  go_enter Try.func15, Try.ntmps15
  go_wp2_with fail
  refine (sum_any _ _ _ [49#8, 50#8, 51#8, 52#8, 53#8, 54#8, 55#8, 56#8, 57#8] _ 3421780262 (by kernel_rfl) (row8_block _ (heap_new _ _ (by simp)) rfl (by decide))).mono ?_
  rintro e w' ⟨rfl, rfl⟩
  go_wp2_with fail
  refine (sum_any _ _ _ [49#8, 50#8, 51#8, 52#8] _ 2615402659 (by kernel_rfl) (row8_block _ (heap_new _ _ (by simp)) rfl (by decide))).mono ?_
  rintro e w' ⟨rfl, rfl⟩
  go_wp2_with fail
  refine (more_any (BitVec.ofNat 32 2615402659) _ _ _ [53#8, 54#8, 55#8, 56#8, 57#8] _ (row8_block _ (heap_new _ _ (by simp)) rfl (by decide))).mono ?_
  rintro e w' ⟨rfl, rfl⟩
  rw [show u (more 2615402659#32 [53#8, 54#8, 55#8, 56#8, 57#8]) = 3421780262 by kernel_rfl]
  go_wp2_with fail
  go_ret
  exact ⟨rfl, ((((Below.refl _ _).alloc (Nat.le_refl _) _).alloc (by simp) _).alloc (by simp; omega) _)⟩

end Go.Proofs.Ytlfeahalgolbgaa
