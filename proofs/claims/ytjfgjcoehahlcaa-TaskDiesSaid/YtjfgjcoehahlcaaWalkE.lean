/-
  The contracts of the changes: runs, exits, stays, refused, stops, ticks, and the closure of dead.
-/
import Derived.Test.YtjfgjcoehahlcaaWalkA
namespace Go.Proofs.Ytjfgjcoehahlcaa
open Go.RowKit
set_option linter.unusedVariables false

def ChPost (w : World) (x : Lf) (b : Bool) (e : Ending) (w' : World) : Prop := e = .returned (.tuple #[lv x, .bool b]) ∧ Below w.heap.size w w'

theorem below3 (w : World) (a b c : Obj) : Below w.heap.size w (((w.alloc a).alloc b).alloc c) := (((Below.refl _ _).alloc (Nat.le_refl _) a).alloc (by simp) b).alloc (by simp; omega) c

set_option maxHeartbeats 400000 in
theorem runs_any (l : Lf) (h : Hp) (w : World) : Calls Try.prog 26 #[lv l, hv h] w (ChPost w ⟨2, 0, 0⟩ true) := by
  obtain ⟨s, g, c⟩ := l
  obtain ⟨k, n, d⟩ := h
  unfold lv hv
  dsimp only
  go_enter Try.func26, Try.ntmps26
  go_wp2_with fail
  exact bodyPost_ret (v := .tuple #[.agg #[.int .i64 2, .int .i64 0, .int .i64 0], .bool true]) (by simp [results, Try.results26, go_sem]) rfl ⟨rfl, below3 w _ _ _⟩

set_option maxHeartbeats 400000 in
theorem exits_any (l : Lf) (h : Hp) (w : World) : Calls Try.prog 27 #[lv l, hv h] w (ChPost w ⟨4, 0, h.c⟩ true) := by
  obtain ⟨s, g, c⟩ := l
  obtain ⟨k, n, d⟩ := h
  unfold lv hv
  dsimp only
  go_enter Try.func27, Try.ntmps27
  go_wp2_with fail
  exact bodyPost_ret (v := .tuple #[.agg #[.int .i64 4, .int .i64 0, .int .i64 d], .bool true]) (by simp [results, Try.results27, go_sem]) rfl ⟨rfl, below3 w _ _ _⟩

set_option maxHeartbeats 400000 in
theorem stays_any (l : Lf) (h : Hp) (w : World) : Calls Try.prog 28 #[lv l, hv h] w (ChPost w l true) := by
  obtain ⟨s, g, c⟩ := l
  obtain ⟨k, n, d⟩ := h
  unfold lv hv
  dsimp only
  go_enter Try.func28, Try.ntmps28
  go_wp2_with fail
  exact bodyPost_ret (v := .tuple #[.agg #[.int .i64 s, .int .i64 g, .int .i64 c], .bool true]) (by simp [results, Try.results28, go_sem]) rfl ⟨rfl, below3 w _ _ _⟩

set_option maxHeartbeats 400000 in
theorem refused_any (l : Lf) (h : Hp) (w : World) : Calls Try.prog 29 #[lv l, hv h] w (ChPost w l false) := by
  obtain ⟨s, g, c⟩ := l
  obtain ⟨k, n, d⟩ := h
  unfold lv hv
  dsimp only
  go_enter Try.func29, Try.ntmps29
  go_wp2_with fail
  exact bodyPost_ret (v := .tuple #[.agg #[.int .i64 s, .int .i64 g, .int .i64 c], .bool false]) (by simp [results, Try.results29, go_sem]) rfl ⟨rfl, below3 w _ _ _⟩

set_option maxHeartbeats 400000 in
theorem stops_any (l : Lf) (h : Hp) (w : World) : Calls Try.prog 30 #[lv l, hv h] w (ChPost w ⟨3, 5, 0⟩ true) := by
  obtain ⟨s, g, c⟩ := l
  obtain ⟨k, n, d⟩ := h
  unfold lv hv
  dsimp only
  go_enter Try.func30, Try.ntmps30
  go_wp2_with fail
  exact bodyPost_ret (v := .tuple #[.agg #[.int .i64 3, .int .i64 5, .int .i64 0], .bool true]) (by simp [results, Try.results30, go_sem]) rfl ⟨rfl, below3 w _ _ _⟩

set_option maxHeartbeats 400000 in
theorem ticks_dead (l : Lf) (h : Hp) (w : World) (hg : l.g ≤ h.n) : Calls Try.prog 31 #[lv l, hv h] w (ChPost w ⟨4, 0, 256⟩ true) := by
  obtain ⟨s, g, c⟩ := l
  obtain ⟨k, n, d⟩ := h
  unfold lv hv
  dsimp only at *
  go_enter Try.func31, Try.ntmps31
  go_wp2_with fail
  exact bodyPost_ret (v := .tuple #[.agg #[.int .i64 4, .int .i64 0, .int .i64 256], .bool true]) (by simp [results, Try.results31, go_sem]) rfl ⟨rfl, below3 w _ _ _⟩

set_option maxHeartbeats 400000 in
theorem ticks_on (l : Lf) (h : Hp) (w : World) (hg : h.n < l.g) (h0 : 0 ≤ h.n) (h5 : l.g ≤ 5) : Calls Try.prog 31 #[lv l, hv h] w (ChPost w ⟨l.s, l.g - h.n, l.c⟩ true) := by
  obtain ⟨s, g, c⟩ := l
  obtain ⟨k, n, d⟩ := h
  unfold lv hv
  dsimp only at *
  go_enter Try.func31, Try.ntmps31
  go_wp2_with fail
  refine bodyPost_ret (v := .tuple #[.agg #[.int .i64 s, .int .i64 (g - n), .int .i64 c], .bool true]) (by simp [results, Try.results31, go_sem]) rfl ⟨rfl, below3 w _ _ _⟩

set_option maxHeartbeats 400000 in
theorem dead1_any (l : Lf) (h : Hp) (p : Nat) (x : Int) (w : World) (hp : w.cell? ⟨p, 0, none⟩ = some (.int .i64 x)) : Calls Try.prog 32 #[lv l, hv h, .pointer (some ⟨p, 0, none⟩)] w (ChPost w ⟨4, 0, x⟩ true) := by
  have hp3 : ((((w.alloc (.cells #[.int .i64 l.s, .int .i64 l.g, .int .i64 l.c] 23)).alloc (.cells #[.int .i64 h.k, .int .i64 h.n, .int .i64 h.c] 31))).alloc (.cells #[.int .i64 0, .int .i64 0, .int .i64 0] 23)).cell? ⟨p, 0, none⟩ = some (.int .i64 x) := by
    rw [(below3 w _ _ _).cell (p := ⟨p, 0, none⟩) (World.block_lt_of_cell? w _ hp)]; exact hp
  obtain ⟨s, g, c⟩ := l
  obtain ⟨k, n, d⟩ := h
  unfold lv hv
  dsimp only at *
  go_enter Try.func32, Try.ntmps32
  go_wp2_with fail
  exact bodyPost_ret (v := .tuple #[.agg #[.int .i64 4, .int .i64 0, .int .i64 x], .bool true]) (by simp [results, Try.results32, go_sem]) rfl ⟨rfl, below3 w _ _ _⟩

theorem mf (fn : Fn) (first cap : Array Value) (w : World) : (Instr.makeFunc fn first cap).run Try.prog w = .ok (.func fn first cap) w := rfl

set_option maxHeartbeats 400000 in
theorem dead_any (x : Int) (w : World) : Calls Try.prog 25 #[.int .i64 x] w fun e w' => e = .returned (.func (.func 32) #[] #[.pointer (some ⟨w.heap.size, 0, none⟩)]) ∧ w' = w.alloc (.cells #[.int .i64 x] 3) := by
  have hmf := mf
  go_enter Try.func25, Try.ntmps25
  go_wp2_with fail
  go_ret
  exact ⟨rfl, rfl⟩

def fv (n : Nat) : Value := .func (.func n) #[] #[]
def dv (p : Nat) : Value := .func (.func 32) #[] #[.pointer (some ⟨p, 0, none⟩)]

end Go.Proofs.Ytjfgjcoehahlcaa
