/-
  The contract of Happen: every life, every happening.
-/
import Derived.Test.YtjfgjcoehahlcaaHapTakes
import Derived.Test.YtjfgjcoehahlcaaHapRefused
import Derived.Test.YtjfgjcoehahlcaaHapDead
import Derived.Test.YtjfgjcoehahlcaaPlainB
namespace Go.Proofs.Ytjfgjcoehahlcaa
open Go.RowKit
set_option linter.unusedVariables false

theorem errL_ok {l : Lf} (h : OkL l) : errL l = 0 := if_pos h
theorem okH_ok {h : Hp} (k : OkH h) : okH h = true := decide_eq_true k

theorem cf27 (args : Array Value) (w : World) : (callFunc 27 args).run Try.prog w = .ok (.enter 27 args) w := by kernel_rfl
theorem cf28 (args : Array Value) (w : World) : (callFunc 28 args).run Try.prog w = .ok (.enter 28 args) w := by kernel_rfl
theorem cf29 (args : Array Value) (w : World) : (callFunc 29 args).run Try.prog w = .ok (.enter 29 args) w := by kernel_rfl
theorem cf30 (args : Array Value) (w : World) : (callFunc 30 args).run Try.prog w = .ok (.enter 30 args) w := by kernel_rfl
theorem ix1 (p1 p2 p3 : Nat) (w : World) : (Instr.index 45 (.agg (tabC p1 p2 p3)) (.int .i64 (IntKind.i64.wrap (1 - 1)))).run Try.prog w = .ok (.agg (tabR 1 p1 p2 p3)) w := by kernel_rfl
theorem ix11 (p1 p2 p3 : Nat) (w : World) : (Instr.index 44 (.agg (tabR 1 p1 p2 p3)) (.int .i64 (IntKind.i64.wrap (1 - 1)))).run Try.prog w = .ok (.func (.func 26) #[] #[]) w := by kernel_rfl
theorem ix12 (p1 p2 p3 : Nat) (w : World) : (Instr.index 44 (.agg (tabR 1 p1 p2 p3)) (.int .i64 (IntKind.i64.wrap (2 - 1)))).run Try.prog w = .ok (.func (.func 27) #[] #[]) w := by kernel_rfl
theorem ix13 (p1 p2 p3 : Nat) (w : World) : (Instr.index 44 (.agg (tabR 1 p1 p2 p3)) (.int .i64 (IntKind.i64.wrap (3 - 1)))).run Try.prog w = .ok (.func (.func 32) #[] #[.pointer (some ⟨p1, 0, none⟩)]) w := by kernel_rfl
theorem ix14 (p1 p2 p3 : Nat) (w : World) : (Instr.index 44 (.agg (tabR 1 p1 p2 p3)) (.int .i64 (IntKind.i64.wrap (4 - 1)))).run Try.prog w = .ok (.func (.func 28) #[] #[]) w := by kernel_rfl
theorem ix15 (p1 p2 p3 : Nat) (w : World) : (Instr.index 44 (.agg (tabR 1 p1 p2 p3)) (.int .i64 (IntKind.i64.wrap (5 - 1)))).run Try.prog w = .ok (.func (.func 32) #[] #[.pointer (some ⟨p2, 0, none⟩)]) w := by kernel_rfl
theorem ix16 (p1 p2 p3 : Nat) (w : World) : (Instr.index 44 (.agg (tabR 1 p1 p2 p3)) (.int .i64 (IntKind.i64.wrap (6 - 1)))).run Try.prog w = .ok (.func (.func 32) #[] #[.pointer (some ⟨p3, 0, none⟩)]) w := by kernel_rfl
theorem ix2 (p1 p2 p3 : Nat) (w : World) : (Instr.index 45 (.agg (tabC p1 p2 p3)) (.int .i64 (IntKind.i64.wrap (2 - 1)))).run Try.prog w = .ok (.agg (tabR 2 p1 p2 p3)) w := by kernel_rfl
theorem ix21 (p1 p2 p3 : Nat) (w : World) : (Instr.index 44 (.agg (tabR 2 p1 p2 p3)) (.int .i64 (IntKind.i64.wrap (1 - 1)))).run Try.prog w = .ok (.func (.func 29) #[] #[]) w := by kernel_rfl
theorem ix22 (p1 p2 p3 : Nat) (w : World) : (Instr.index 44 (.agg (tabR 2 p1 p2 p3)) (.int .i64 (IntKind.i64.wrap (2 - 1)))).run Try.prog w = .ok (.func (.func 27) #[] #[]) w := by kernel_rfl
theorem ix23 (p1 p2 p3 : Nat) (w : World) : (Instr.index 44 (.agg (tabR 2 p1 p2 p3)) (.int .i64 (IntKind.i64.wrap (3 - 1)))).run Try.prog w = .ok (.func (.func 30) #[] #[]) w := by kernel_rfl
theorem ix24 (p1 p2 p3 : Nat) (w : World) : (Instr.index 44 (.agg (tabR 2 p1 p2 p3)) (.int .i64 (IntKind.i64.wrap (4 - 1)))).run Try.prog w = .ok (.func (.func 28) #[] #[]) w := by kernel_rfl
theorem ix25 (p1 p2 p3 : Nat) (w : World) : (Instr.index 44 (.agg (tabR 2 p1 p2 p3)) (.int .i64 (IntKind.i64.wrap (5 - 1)))).run Try.prog w = .ok (.func (.func 32) #[] #[.pointer (some ⟨p2, 0, none⟩)]) w := by kernel_rfl
theorem ix26 (p1 p2 p3 : Nat) (w : World) : (Instr.index 44 (.agg (tabR 2 p1 p2 p3)) (.int .i64 (IntKind.i64.wrap (6 - 1)))).run Try.prog w = .ok (.func (.func 32) #[] #[.pointer (some ⟨p3, 0, none⟩)]) w := by kernel_rfl
theorem ix3 (p1 p2 p3 : Nat) (w : World) : (Instr.index 45 (.agg (tabC p1 p2 p3)) (.int .i64 (IntKind.i64.wrap (3 - 1)))).run Try.prog w = .ok (.agg (tabR 3 p1 p2 p3)) w := by kernel_rfl
theorem ix31 (p1 p2 p3 : Nat) (w : World) : (Instr.index 44 (.agg (tabR 3 p1 p2 p3)) (.int .i64 (IntKind.i64.wrap (1 - 1)))).run Try.prog w = .ok (.func (.func 29) #[] #[]) w := by kernel_rfl
theorem ix32 (p1 p2 p3 : Nat) (w : World) : (Instr.index 44 (.agg (tabR 3 p1 p2 p3)) (.int .i64 (IntKind.i64.wrap (2 - 1)))).run Try.prog w = .ok (.func (.func 32) #[] #[.pointer (some ⟨p1, 0, none⟩)]) w := by kernel_rfl
theorem ix33 (p1 p2 p3 : Nat) (w : World) : (Instr.index 44 (.agg (tabR 3 p1 p2 p3)) (.int .i64 (IntKind.i64.wrap (3 - 1)))).run Try.prog w = .ok (.func (.func 28) #[] #[]) w := by kernel_rfl
theorem ix34 (p1 p2 p3 : Nat) (w : World) : (Instr.index 44 (.agg (tabR 3 p1 p2 p3)) (.int .i64 (IntKind.i64.wrap (4 - 1)))).run Try.prog w = .ok (.func (.func 31) #[] #[]) w := by kernel_rfl
theorem ix35 (p1 p2 p3 : Nat) (w : World) : (Instr.index 44 (.agg (tabR 3 p1 p2 p3)) (.int .i64 (IntKind.i64.wrap (5 - 1)))).run Try.prog w = .ok (.func (.func 32) #[] #[.pointer (some ⟨p2, 0, none⟩)]) w := by kernel_rfl
theorem ix36 (p1 p2 p3 : Nat) (w : World) : (Instr.index 44 (.agg (tabR 3 p1 p2 p3)) (.int .i64 (IntKind.i64.wrap (6 - 1)))).run Try.prog w = .ok (.func (.func 32) #[] #[.pointer (some ⟨p3, 0, none⟩)]) w := by kernel_rfl
theorem ix4 (p1 p2 p3 : Nat) (w : World) : (Instr.index 45 (.agg (tabC p1 p2 p3)) (.int .i64 (IntKind.i64.wrap (4 - 1)))).run Try.prog w = .ok (.agg (tabR 4 p1 p2 p3)) w := by kernel_rfl
theorem ix41 (p1 p2 p3 : Nat) (w : World) : (Instr.index 44 (.agg (tabR 4 p1 p2 p3)) (.int .i64 (IntKind.i64.wrap (1 - 1)))).run Try.prog w = .ok (.func (.func 29) #[] #[]) w := by kernel_rfl
theorem ix42 (p1 p2 p3 : Nat) (w : World) : (Instr.index 44 (.agg (tabR 4 p1 p2 p3)) (.int .i64 (IntKind.i64.wrap (2 - 1)))).run Try.prog w = .ok (.func (.func 29) #[] #[]) w := by kernel_rfl
theorem ix43 (p1 p2 p3 : Nat) (w : World) : (Instr.index 44 (.agg (tabR 4 p1 p2 p3)) (.int .i64 (IntKind.i64.wrap (3 - 1)))).run Try.prog w = .ok (.func (.func 28) #[] #[]) w := by kernel_rfl
theorem ix44 (p1 p2 p3 : Nat) (w : World) : (Instr.index 44 (.agg (tabR 4 p1 p2 p3)) (.int .i64 (IntKind.i64.wrap (4 - 1)))).run Try.prog w = .ok (.func (.func 28) #[] #[]) w := by kernel_rfl
theorem ix45 (p1 p2 p3 : Nat) (w : World) : (Instr.index 44 (.agg (tabR 4 p1 p2 p3)) (.int .i64 (IntKind.i64.wrap (5 - 1)))).run Try.prog w = .ok (.func (.func 28) #[] #[]) w := by kernel_rfl
theorem ix46 (p1 p2 p3 : Nat) (w : World) : (Instr.index 44 (.agg (tabR 4 p1 p2 p3)) (.int .i64 (IntKind.i64.wrap (6 - 1)))).run Try.prog w = .ok (.func (.func 28) #[] #[]) w := by kernel_rfl
theorem hp11 (g c n d : Int) (h1 : OkL ⟨1, g, c⟩ ∧ OkH ⟨1, n, d⟩) (w : World) : Calls Try.prog 9 #[lv ⟨1, g, c⟩, hv ⟨1, n, d⟩] w (HapPost w (happen ⟨1, g, c⟩ ⟨1, n, d⟩).1 (happen ⟨1, g, c⟩ ⟨1, n, d⟩).2) := by
  rw [happen_some h1 (x := ⟨2, 0, 0⟩) (by simp [step])]
  exact hap_takes 1 g c 1 n d 2 0 0 w (errL_ok h1.1) (okH_ok h1.2) (tabR 1) 26 ix1 ix11 cf26 (fun w => runs_any ⟨1, g, c⟩ ⟨1, n, d⟩ w)
theorem hp12 (g c n d : Int) (h1 : OkL ⟨1, g, c⟩ ∧ OkH ⟨2, n, d⟩) (w : World) : Calls Try.prog 9 #[lv ⟨1, g, c⟩, hv ⟨2, n, d⟩] w (HapPost w (happen ⟨1, g, c⟩ ⟨2, n, d⟩).1 (happen ⟨1, g, c⟩ ⟨2, n, d⟩).2) := by
  rw [happen_some h1 (x := ⟨4, 0, d⟩) (by simp [step, dead])]
  exact hap_takes 1 g c 2 n d 4 0 d w (errL_ok h1.1) (okH_ok h1.2) (tabR 1) 27 ix1 ix12 cf27 (fun w => exits_any ⟨1, g, c⟩ ⟨2, n, d⟩ w)
theorem hp13 (g c n d : Int) (h1 : OkL ⟨1, g, c⟩ ∧ OkH ⟨3, n, d⟩) (w : World) : Calls Try.prog 9 #[lv ⟨1, g, c⟩, hv ⟨3, n, d⟩] w (HapPost w (happen ⟨1, g, c⟩ ⟨3, n, d⟩).1 (happen ⟨1, g, c⟩ ⟨3, n, d⟩).2) := by
  rw [happen_some h1 (x := ⟨4, 0, 256⟩) (by simp [step, dead])]
  exact hap_dead 1 g c 3 n d 256 w (errL_ok h1.1) (okH_ok h1.2) (tabR 1) (fun p1 p2 p3 => p1) ix1 ix13 (fun p1 p2 p3 w c1 c2 c3 => c1)
theorem hp14 (g c n d : Int) (h1 : OkL ⟨1, g, c⟩ ∧ OkH ⟨4, n, d⟩) (w : World) : Calls Try.prog 9 #[lv ⟨1, g, c⟩, hv ⟨4, n, d⟩] w (HapPost w (happen ⟨1, g, c⟩ ⟨4, n, d⟩).1 (happen ⟨1, g, c⟩ ⟨4, n, d⟩).2) := by
  rw [happen_some h1 (x := ⟨1, g, c⟩) (by simp [step])]
  exact hap_takes 1 g c 4 n d 1 g c w (errL_ok h1.1) (okH_ok h1.2) (tabR 1) 28 ix1 ix14 cf28 (fun w => stays_any ⟨1, g, c⟩ ⟨4, n, d⟩ w)
theorem hp15 (g c n d : Int) (h1 : OkL ⟨1, g, c⟩ ∧ OkH ⟨5, n, d⟩) (w : World) : Calls Try.prog 9 #[lv ⟨1, g, c⟩, hv ⟨5, n, d⟩] w (HapPost w (happen ⟨1, g, c⟩ ⟨5, n, d⟩).1 (happen ⟨1, g, c⟩ ⟨5, n, d⟩).2) := by
  rw [happen_some h1 (x := ⟨4, 0, 257⟩) (by simp [step, dead])]
  exact hap_dead 1 g c 5 n d 257 w (errL_ok h1.1) (okH_ok h1.2) (tabR 1) (fun p1 p2 p3 => p2) ix1 ix15 (fun p1 p2 p3 w c1 c2 c3 => c2)
theorem hp16 (g c n d : Int) (h1 : OkL ⟨1, g, c⟩ ∧ OkH ⟨6, n, d⟩) (w : World) : Calls Try.prog 9 #[lv ⟨1, g, c⟩, hv ⟨6, n, d⟩] w (HapPost w (happen ⟨1, g, c⟩ ⟨6, n, d⟩).1 (happen ⟨1, g, c⟩ ⟨6, n, d⟩).2) := by
  rw [happen_some h1 (x := ⟨4, 0, 258⟩) (by simp [step, dead])]
  exact hap_dead 1 g c 6 n d 258 w (errL_ok h1.1) (okH_ok h1.2) (tabR 1) (fun p1 p2 p3 => p3) ix1 ix16 (fun p1 p2 p3 w c1 c2 c3 => c3)
theorem hp21 (g c n d : Int) (h1 : OkL ⟨2, g, c⟩ ∧ OkH ⟨1, n, d⟩) (w : World) : Calls Try.prog 9 #[lv ⟨2, g, c⟩, hv ⟨1, n, d⟩] w (HapPost w (happen ⟨2, g, c⟩ ⟨1, n, d⟩).1 (happen ⟨2, g, c⟩ ⟨1, n, d⟩).2) := by
  rw [happen_none h1 (by simp [step])]
  exact hap_refused 2 g c 1 n d 2 g c w (errL_ok h1.1) (okH_ok h1.2) (tabR 2) 29 ix2 ix21 cf29 (fun w => refused_any ⟨2, g, c⟩ ⟨1, n, d⟩ w)
theorem hp22 (g c n d : Int) (h1 : OkL ⟨2, g, c⟩ ∧ OkH ⟨2, n, d⟩) (w : World) : Calls Try.prog 9 #[lv ⟨2, g, c⟩, hv ⟨2, n, d⟩] w (HapPost w (happen ⟨2, g, c⟩ ⟨2, n, d⟩).1 (happen ⟨2, g, c⟩ ⟨2, n, d⟩).2) := by
  rw [happen_some h1 (x := ⟨4, 0, d⟩) (by simp [step, dead])]
  exact hap_takes 2 g c 2 n d 4 0 d w (errL_ok h1.1) (okH_ok h1.2) (tabR 2) 27 ix2 ix22 cf27 (fun w => exits_any ⟨2, g, c⟩ ⟨2, n, d⟩ w)
theorem hp23 (g c n d : Int) (h1 : OkL ⟨2, g, c⟩ ∧ OkH ⟨3, n, d⟩) (w : World) : Calls Try.prog 9 #[lv ⟨2, g, c⟩, hv ⟨3, n, d⟩] w (HapPost w (happen ⟨2, g, c⟩ ⟨3, n, d⟩).1 (happen ⟨2, g, c⟩ ⟨3, n, d⟩).2) := by
  rw [happen_some h1 (x := ⟨3, 5, 0⟩) (by simp [step])]
  exact hap_takes 2 g c 3 n d 3 5 0 w (errL_ok h1.1) (okH_ok h1.2) (tabR 2) 30 ix2 ix23 cf30 (fun w => stops_any ⟨2, g, c⟩ ⟨3, n, d⟩ w)
theorem hp24 (g c n d : Int) (h1 : OkL ⟨2, g, c⟩ ∧ OkH ⟨4, n, d⟩) (w : World) : Calls Try.prog 9 #[lv ⟨2, g, c⟩, hv ⟨4, n, d⟩] w (HapPost w (happen ⟨2, g, c⟩ ⟨4, n, d⟩).1 (happen ⟨2, g, c⟩ ⟨4, n, d⟩).2) := by
  rw [happen_some h1 (x := ⟨2, g, c⟩) (by simp [step])]
  exact hap_takes 2 g c 4 n d 2 g c w (errL_ok h1.1) (okH_ok h1.2) (tabR 2) 28 ix2 ix24 cf28 (fun w => stays_any ⟨2, g, c⟩ ⟨4, n, d⟩ w)
theorem hp25 (g c n d : Int) (h1 : OkL ⟨2, g, c⟩ ∧ OkH ⟨5, n, d⟩) (w : World) : Calls Try.prog 9 #[lv ⟨2, g, c⟩, hv ⟨5, n, d⟩] w (HapPost w (happen ⟨2, g, c⟩ ⟨5, n, d⟩).1 (happen ⟨2, g, c⟩ ⟨5, n, d⟩).2) := by
  rw [happen_some h1 (x := ⟨4, 0, 257⟩) (by simp [step, dead])]
  exact hap_dead 2 g c 5 n d 257 w (errL_ok h1.1) (okH_ok h1.2) (tabR 2) (fun p1 p2 p3 => p2) ix2 ix25 (fun p1 p2 p3 w c1 c2 c3 => c2)
theorem hp26 (g c n d : Int) (h1 : OkL ⟨2, g, c⟩ ∧ OkH ⟨6, n, d⟩) (w : World) : Calls Try.prog 9 #[lv ⟨2, g, c⟩, hv ⟨6, n, d⟩] w (HapPost w (happen ⟨2, g, c⟩ ⟨6, n, d⟩).1 (happen ⟨2, g, c⟩ ⟨6, n, d⟩).2) := by
  rw [happen_some h1 (x := ⟨4, 0, 258⟩) (by simp [step, dead])]
  exact hap_dead 2 g c 6 n d 258 w (errL_ok h1.1) (okH_ok h1.2) (tabR 2) (fun p1 p2 p3 => p3) ix2 ix26 (fun p1 p2 p3 w c1 c2 c3 => c3)
theorem hp31 (g c n d : Int) (h1 : OkL ⟨3, g, c⟩ ∧ OkH ⟨1, n, d⟩) (w : World) : Calls Try.prog 9 #[lv ⟨3, g, c⟩, hv ⟨1, n, d⟩] w (HapPost w (happen ⟨3, g, c⟩ ⟨1, n, d⟩).1 (happen ⟨3, g, c⟩ ⟨1, n, d⟩).2) := by
  rw [happen_none h1 (by simp [step])]
  exact hap_refused 3 g c 1 n d 3 g c w (errL_ok h1.1) (okH_ok h1.2) (tabR 3) 29 ix3 ix31 cf29 (fun w => refused_any ⟨3, g, c⟩ ⟨1, n, d⟩ w)
theorem hp32 (g c n d : Int) (h1 : OkL ⟨3, g, c⟩ ∧ OkH ⟨2, n, d⟩) (w : World) : Calls Try.prog 9 #[lv ⟨3, g, c⟩, hv ⟨2, n, d⟩] w (HapPost w (happen ⟨3, g, c⟩ ⟨2, n, d⟩).1 (happen ⟨3, g, c⟩ ⟨2, n, d⟩).2) := by
  rw [happen_some h1 (x := ⟨4, 0, 256⟩) (by simp [step, dead])]
  exact hap_dead 3 g c 2 n d 256 w (errL_ok h1.1) (okH_ok h1.2) (tabR 3) (fun p1 p2 p3 => p1) ix3 ix32 (fun p1 p2 p3 w c1 c2 c3 => c1)
theorem hp33 (g c n d : Int) (h1 : OkL ⟨3, g, c⟩ ∧ OkH ⟨3, n, d⟩) (w : World) : Calls Try.prog 9 #[lv ⟨3, g, c⟩, hv ⟨3, n, d⟩] w (HapPost w (happen ⟨3, g, c⟩ ⟨3, n, d⟩).1 (happen ⟨3, g, c⟩ ⟨3, n, d⟩).2) := by
  rw [happen_some h1 (x := ⟨3, g, c⟩) (by simp [step])]
  exact hap_takes 3 g c 3 n d 3 g c w (errL_ok h1.1) (okH_ok h1.2) (tabR 3) 28 ix3 ix33 cf28 (fun w => stays_any ⟨3, g, c⟩ ⟨3, n, d⟩ w)
theorem hp34D (g c n d : Int) (h1 : OkL ⟨3, g, c⟩ ∧ OkH ⟨4, n, d⟩) (hg : g ≤ n) (w : World) : Calls Try.prog 9 #[lv ⟨3, g, c⟩, hv ⟨4, n, d⟩] w (HapPost w (happen ⟨3, g, c⟩ ⟨4, n, d⟩).1 (happen ⟨3, g, c⟩ ⟨4, n, d⟩).2) := by
  rw [happen_some h1 (x := ⟨4, 0, 256⟩) (by unfold step; simp [dead]; exact hg)]
  exact hap_takes 3 g c 4 n d 4 0 256 w (errL_ok h1.1) (okH_ok h1.2) (tabR 3) 31 ix3 ix34 cf31 (fun w => ticks_dead ⟨3, g, c⟩ ⟨4, n, d⟩ w hg)
theorem hp34O (g c n d : Int) (h1 : OkL ⟨3, g, c⟩ ∧ OkH ⟨4, n, d⟩) (hg : n < g) (h0 : 0 ≤ n) (h5 : g ≤ 5) (w : World) : Calls Try.prog 9 #[lv ⟨3, g, c⟩, hv ⟨4, n, d⟩] w (HapPost w (happen ⟨3, g, c⟩ ⟨4, n, d⟩).1 (happen ⟨3, g, c⟩ ⟨4, n, d⟩).2) := by
  rw [happen_some h1 (x := ⟨3, g - n, c⟩) (by unfold step; simp; omega)]
  exact hap_takes 3 g c 4 n d 3 (g - n) c w (errL_ok h1.1) (okH_ok h1.2) (tabR 3) 31 ix3 ix34 cf31 (fun w => ticks_on ⟨3, g, c⟩ ⟨4, n, d⟩ w hg h0 h5)
theorem hp35 (g c n d : Int) (h1 : OkL ⟨3, g, c⟩ ∧ OkH ⟨5, n, d⟩) (w : World) : Calls Try.prog 9 #[lv ⟨3, g, c⟩, hv ⟨5, n, d⟩] w (HapPost w (happen ⟨3, g, c⟩ ⟨5, n, d⟩).1 (happen ⟨3, g, c⟩ ⟨5, n, d⟩).2) := by
  rw [happen_some h1 (x := ⟨4, 0, 257⟩) (by simp [step, dead])]
  exact hap_dead 3 g c 5 n d 257 w (errL_ok h1.1) (okH_ok h1.2) (tabR 3) (fun p1 p2 p3 => p2) ix3 ix35 (fun p1 p2 p3 w c1 c2 c3 => c2)
theorem hp36 (g c n d : Int) (h1 : OkL ⟨3, g, c⟩ ∧ OkH ⟨6, n, d⟩) (w : World) : Calls Try.prog 9 #[lv ⟨3, g, c⟩, hv ⟨6, n, d⟩] w (HapPost w (happen ⟨3, g, c⟩ ⟨6, n, d⟩).1 (happen ⟨3, g, c⟩ ⟨6, n, d⟩).2) := by
  rw [happen_some h1 (x := ⟨4, 0, 258⟩) (by simp [step, dead])]
  exact hap_dead 3 g c 6 n d 258 w (errL_ok h1.1) (okH_ok h1.2) (tabR 3) (fun p1 p2 p3 => p3) ix3 ix36 (fun p1 p2 p3 w c1 c2 c3 => c3)
theorem hp41 (g c n d : Int) (h1 : OkL ⟨4, g, c⟩ ∧ OkH ⟨1, n, d⟩) (w : World) : Calls Try.prog 9 #[lv ⟨4, g, c⟩, hv ⟨1, n, d⟩] w (HapPost w (happen ⟨4, g, c⟩ ⟨1, n, d⟩).1 (happen ⟨4, g, c⟩ ⟨1, n, d⟩).2) := by
  rw [happen_none h1 (by simp [step])]
  exact hap_refused 4 g c 1 n d 4 g c w (errL_ok h1.1) (okH_ok h1.2) (tabR 4) 29 ix4 ix41 cf29 (fun w => refused_any ⟨4, g, c⟩ ⟨1, n, d⟩ w)
theorem hp42 (g c n d : Int) (h1 : OkL ⟨4, g, c⟩ ∧ OkH ⟨2, n, d⟩) (w : World) : Calls Try.prog 9 #[lv ⟨4, g, c⟩, hv ⟨2, n, d⟩] w (HapPost w (happen ⟨4, g, c⟩ ⟨2, n, d⟩).1 (happen ⟨4, g, c⟩ ⟨2, n, d⟩).2) := by
  rw [happen_none h1 (by simp [step])]
  exact hap_refused 4 g c 2 n d 4 g c w (errL_ok h1.1) (okH_ok h1.2) (tabR 4) 29 ix4 ix42 cf29 (fun w => refused_any ⟨4, g, c⟩ ⟨2, n, d⟩ w)
theorem hp43 (g c n d : Int) (h1 : OkL ⟨4, g, c⟩ ∧ OkH ⟨3, n, d⟩) (w : World) : Calls Try.prog 9 #[lv ⟨4, g, c⟩, hv ⟨3, n, d⟩] w (HapPost w (happen ⟨4, g, c⟩ ⟨3, n, d⟩).1 (happen ⟨4, g, c⟩ ⟨3, n, d⟩).2) := by
  rw [happen_some h1 (x := ⟨4, g, c⟩) (by simp [step])]
  exact hap_takes 4 g c 3 n d 4 g c w (errL_ok h1.1) (okH_ok h1.2) (tabR 4) 28 ix4 ix43 cf28 (fun w => stays_any ⟨4, g, c⟩ ⟨3, n, d⟩ w)
theorem hp44 (g c n d : Int) (h1 : OkL ⟨4, g, c⟩ ∧ OkH ⟨4, n, d⟩) (w : World) : Calls Try.prog 9 #[lv ⟨4, g, c⟩, hv ⟨4, n, d⟩] w (HapPost w (happen ⟨4, g, c⟩ ⟨4, n, d⟩).1 (happen ⟨4, g, c⟩ ⟨4, n, d⟩).2) := by
  rw [happen_some h1 (x := ⟨4, g, c⟩) (by simp [step])]
  exact hap_takes 4 g c 4 n d 4 g c w (errL_ok h1.1) (okH_ok h1.2) (tabR 4) 28 ix4 ix44 cf28 (fun w => stays_any ⟨4, g, c⟩ ⟨4, n, d⟩ w)
theorem hp45 (g c n d : Int) (h1 : OkL ⟨4, g, c⟩ ∧ OkH ⟨5, n, d⟩) (w : World) : Calls Try.prog 9 #[lv ⟨4, g, c⟩, hv ⟨5, n, d⟩] w (HapPost w (happen ⟨4, g, c⟩ ⟨5, n, d⟩).1 (happen ⟨4, g, c⟩ ⟨5, n, d⟩).2) := by
  rw [happen_some h1 (x := ⟨4, g, c⟩) (by simp [step])]
  exact hap_takes 4 g c 5 n d 4 g c w (errL_ok h1.1) (okH_ok h1.2) (tabR 4) 28 ix4 ix45 cf28 (fun w => stays_any ⟨4, g, c⟩ ⟨5, n, d⟩ w)
theorem hp46 (g c n d : Int) (h1 : OkL ⟨4, g, c⟩ ∧ OkH ⟨6, n, d⟩) (w : World) : Calls Try.prog 9 #[lv ⟨4, g, c⟩, hv ⟨6, n, d⟩] w (HapPost w (happen ⟨4, g, c⟩ ⟨6, n, d⟩).1 (happen ⟨4, g, c⟩ ⟨6, n, d⟩).2) := by
  rw [happen_some h1 (x := ⟨4, g, c⟩) (by simp [step])]
  exact hap_takes 4 g c 6 n d 4 g c w (errL_ok h1.1) (okH_ok h1.2) (tabR 4) 28 ix4 ix46 cf28 (fun w => stays_any ⟨4, g, c⟩ ⟨6, n, d⟩ w)

theorem happen_ok (l : Lf) (h : Hp) (h1 : OkL l ∧ OkH h) (w : World) : Calls Try.prog 9 #[lv l, hv h] w (HapPost w (happen l h).1 (happen l h).2) := by
  have hl := h1.1
  have hh := h1.2
  obtain ⟨s, g, c⟩ := l
  obtain ⟨k, n, d⟩ := h
  unfold OkL at hl
  unfold OkH at hh
  dsimp only at hl hh
  have hs : s = 1 ∨ s = 2 ∨ s = 3 ∨ s = 4 := by omega
  have hk : k = 1 ∨ k = 2 ∨ k = 3 ∨ k = 4 ∨ k = 5 ∨ k = 6 := by omega
  rcases hs with rfl | rfl | rfl | rfl <;> rcases hk with rfl | rfl | rfl | rfl | rfl | rfl
  · exact hp11 g c n d h1 w
  · exact hp12 g c n d h1 w
  · exact hp13 g c n d h1 w
  · exact hp14 g c n d h1 w
  · exact hp15 g c n d h1 w
  · exact hp16 g c n d h1 w
  · exact hp21 g c n d h1 w
  · exact hp22 g c n d h1 w
  · exact hp23 g c n d h1 w
  · exact hp24 g c n d h1 w
  · exact hp25 g c n d h1 w
  · exact hp26 g c n d h1 w
  · exact hp31 g c n d h1 w
  · exact hp32 g c n d h1 w
  · exact hp33 g c n d h1 w
  · by_cases hg : g ≤ n
    · exact hp34D g c n d h1 hg w
    · exact hp34O g c n d h1 (by omega) (by omega) (by omega) w
  · exact hp35 g c n d h1 w
  · exact hp36 g c n d h1 w
  · exact hp41 g c n d h1 w
  · exact hp42 g c n d h1 w
  · exact hp43 g c n d h1 w
  · exact hp44 g c n d h1 w
  · exact hp45 g c n d h1 w
  · exact hp46 g c n d h1 w

set_option maxHeartbeats 800000 in
theorem happen_ba (l : Lf) (h : Hp) (h1 : ¬ (OkL l ∧ OkH h)) (w : World) : Calls Try.prog 9 #[lv l, hv h] w (HapPost w none' 2) := by
  have HC := Lib.hid (check_any l)
  have HF := Lib.hid (fine_any h)
  rcases errL_or l with ⟨hl, e⟩ | ⟨hl, e⟩
  · have e2 : okH h = false := by
      rcases okH_or h with ⟨hh, e2⟩ | ⟨hh, e2⟩
      · exact absurd ⟨hl, hh⟩ h1
      · exact e2
    rw [e] at HC
    rw [e2] at HF
    clear e e2 hl h1
    obtain ⟨s, g, c⟩ := l
    obtain ⟨k, n, d⟩ := h
    unfold lv hv at *
    dsimp only at *
    go_enter Try.func9, Try.ntmps9
    go_wp2_with fail
    refine (HC.out _).mono ?_
    rintro e w1 ⟨rfl, hb1⟩
    obtain ⟨b0, b1, b2⟩ := box_cells hb1 (boxB w (.int .i64 k) (.int .i64 n) (.int .i64 d) (.cells #[.int .i64 s, .int .i64 g, .int .i64 c] 23) (.cells #[z3, z3, z3] 23))
    have r1 := RBox.below (rboxC w (.cells #[.int .i64 s, .int .i64 g, .int .i64 c] 23) (.cells #[.int .i64 k, .int .i64 n, .int .i64 d] 31)) hb1
    have hbw1 := below_into (below3 w _ _ _) hb1
    have HR1 := Lib.hid r1
    clear hb1 r1
    go_wp2_with fail
    refine (HF.out _).mono ?_
    rintro e w2 ⟨rfl, hb2⟩
    have HB := Lib.hid (below_into hbw1 hb2)
    obtain ⟨t0, t1, t2, t3, t4, t5⟩ := (HR1.out.below hb2).f
    clear hb2 hbw1 b0 b1 b2
    go_wp2_with fail
    refine bodyPost_ret (v := .tuple #[.agg #[.int .i64 0, .int .i64 0, .int .i64 0], .int .i64 2]) (by simp [results, Try.results9, go_sem, t0, t1, t2]) rfl ⟨rfl, ?_⟩
    exact below_set3 (by omega) HB.out _ _ _
  · rw [e] at HC
    clear e hl h1
    obtain ⟨s, g, c⟩ := l
    obtain ⟨k, n, d⟩ := h
    unfold lv hv at *
    dsimp only at *
    go_enter Try.func9, Try.ntmps9
    go_wp2_with fail
    refine (HC.out _).mono ?_
    rintro e w1 ⟨rfl, hb1⟩
    have HB := Lib.hid (below_into (below3 w _ _ _) hb1)
    obtain ⟨t0, t1, t2, t3, t4, t5⟩ := (RBox.below (rboxC w (.cells #[.int .i64 s, .int .i64 g, .int .i64 c] 23) (.cells #[.int .i64 k, .int .i64 n, .int .i64 d] 31)) hb1).f
    clear hb1
    go_wp2_with fail
    refine bodyPost_ret (v := .tuple #[.agg #[.int .i64 0, .int .i64 0, .int .i64 0], .int .i64 2]) (by simp [results, Try.results9, go_sem, t0, t1, t2]) rfl ⟨rfl, ?_⟩
    exact below_set3 (by omega) HB.out _ _ _

theorem happen_any (l : Lf) (h : Hp) (w : World) : Calls Try.prog 9 #[lv l, hv h] w (HapPost w (happen l h).1 (happen l h).2) := by
  by_cases h1 : OkL l ∧ OkH h
  · exact happen_ok l h h1 w
  · rw [happen_bad h1]
    exact happen_ba l h h1 w
end Go.Proofs.Ytjfgjcoehahlcaa
