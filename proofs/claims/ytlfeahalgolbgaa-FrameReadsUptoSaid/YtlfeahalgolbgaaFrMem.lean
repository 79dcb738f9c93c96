/-
  Append in a region that draws its order; four bytes put down.
-/
import Derived.Test.YtlfeahalgolbgaaKit
import Derived.Test.YtlfeahalgolbgaaFrPlain
import Derived.Deep.RegionLaw
import Derived.WalkSpells
namespace Go.Proofs.Ytlfeahalgolbgaa
open Go.RowKit
set_option linter.unusedVariables false

/-- append onto a row of the call's own, as one step of a region that draws -/
theorem step_append8 {ops : Array Oper} {o : Oper} {a : Act} {w : World} {K : Act → World → Prop} {Q : Exit → Act → World → Prop} {E : Prop} (hgd : o.guard = none) (s x : Operand)
    (ho : o.op = .call { callee := .builtin .append, args := #[s, x], argTypes := #[22, 22] }) (base : Nat) (v : Value) (l : List B8) (hs : a.eval s = v) (hown : Own8 w base v l)
    (xa : Option Addr) (m cx : Nat) (l2 : List B8) (hx : a.eval x = .slice xa m cx) (h2 : Row8 w xa m l2) (hb : l.length + l2.length ≤ 140737492549632) (hbase : base ≤ w.heap.size)
    (h : ∀ v' w', Own8 w' base v' (l ++ l2) → w.grownBy w' v.ownBlock → K (a.put o.dst v') w') :
    if Region.wanted o (yielded ops a.tmps) = true then Oper.wp Try.prog o a w K Q else E := by
  have hw : Region.wanted o (yielded ops a.tmps) = true := by simp [Region.wanted, hgd]
  rw [if_pos hw]
  obtain ⟨v', w', hr, h3, h4⟩ := run_append8 w base o.type v l hown xa m cx l2 h2 hb hbase
  unfold Oper.wp execOp
  simp only [ho, resolve, invoke, builtin, Sem.run_bind, Sem.run_pure, Result.andThen_ok, List.map_toArray, List.map_cons, List.map_nil, hs, hx, hr]
  exact h v' w' h3 h4

/-- append behind a slice without room, as one step of a region that draws -/
theorem step_append8_new {ops : Array Oper} {o : Oper} {a : Act} {w : World} {K : Act → World → Prop} {Q : Exit → Act → World → Prop} {E : Prop} (hgd : o.guard = none) (s x : Operand)
    (ho : o.op = .call { callee := .builtin .append, args := #[s, x], argTypes := #[22, 22] }) (sa : Option Addr) (n c : Nat) (l : List B8) (hs : a.eval s = .slice sa n c) (h1 : Row8 w sa n l)
    (xa : Option Addr) (m cx : Nat) (l2 : List B8) (hx : a.eval x = .slice xa m cx) (h2 : Row8 w xa m l2) (hc : c < n + m) (hnil : sa = none → c = 0) (hb : l.length + l2.length ≤ 140737492549632) (hnc : n ≤ c)
    (h : ∀ v' w', Own8 w' w.heap.size v' (l ++ l2) → w.grownBy w' none → K (a.put o.dst v') w') :
    if Region.wanted o (yielded ops a.tmps) = true then Oper.wp Try.prog o a w K Q else E := by
  have hw : Region.wanted o (yielded ops a.tmps) = true := by simp [Region.wanted, hgd]
  rw [if_pos hw]
  obtain ⟨v', w', hr, h3, h4⟩ := run_append8_new w o.type sa n c l h1 xa m cx l2 h2 hc hnil hb hnc
  unfold Oper.wp execOp
  simp only [ho, resolve, invoke, builtin, Sem.run_bind, Sem.run_pure, Result.andThen_ok, List.map_toArray, List.map_cons, List.map_nil, hs, hx, hr]
  exact h v' w' h3 h4

theorem low0 (y : W32) : u y % (256 : Int) = ub (y.setWidth 8) := by
  unfold u ub; rw [BitVec.toNat_setWidth]; omega
theorem low8 (y : W32) : u y / (256 : Int) % (256 : Int) = ub ((y >>> 8).setWidth 8) := by
  rw [← low0]; unfold u; rw [BitVec.toNat_ushiftRight, Nat.shiftRight_eq_div_pow]; omega
theorem low16 (y : W32) : u y / (65536 : Int) % (256 : Int) = ub ((y >>> 16).setWidth 8) := by
  rw [← low0]; unfold u; rw [BitVec.toNat_ushiftRight, Nat.shiftRight_eq_div_pow]; omega
theorem low24 (y : W32) : u y / (16777216 : Int) = ub ((y >>> 24).setWidth 8) := by
  rw [← low0]; have := y.isLt; unfold u; rw [BitVec.toNat_ushiftRight, Nat.shiftRight_eq_div_pow]; omega

theorem row8_new (w : World) (l : List B8) (C : Array Value) (hC : C = (l.map bv).toArray) (hm : l.length ≤ 281474976710656) : Row8 (w.alloc (.cells C 5)) (some ⟨w.heap.size, 0, none⟩) l.length l :=
  row8_block l (heap_new w _ rfl) hC hm

theorem le4_small (s : W32) : (le4 s).length ≤ 281474976710656 := by simp [le4]

def PutPost (w : World) (base : Nat) (l : List B8) (e : Ending) (w' : World) : Prop :=
  ∃ v, e = .returned v ∧ Own8 w' base v l ∧ Below base w w' ∧ w.heap.size ≤ w'.heap.size

section
attribute [local go_sem] low0 low8 low16 low24
set_option maxRecDepth 100000 in
set_option maxHeartbeats 400000 in
theorem put_own (base : Nat) (v : Value) (l : List B8) (s : W32) (w : World) (h : Own8 w base v l) (hb : l.length ≤ 140737492549600) (hbase : base ≤ w.heap.size) :
    Calls Try.prog 42 #[v, .int .u32 (u s)] w (PutPost w base (l ++ le4 s)) := by
  have H := Lib.hid h
  have g1 := u_lo s
  have g2 := u_hi s
  have g3 := ub_lo ((s >>> 24).setWidth 8)
  have g4 := ub_hi ((s >>> 24).setWidth 8)
  clear h
  have hown : Own8 (w.alloc (.cells #[.int .u8 (ub (s.setWidth 8)), .int .u8 (ub ((s >>> 8).setWidth 8)), .int .u8 (ub ((s >>> 16).setWidth 8)), .int .u8 (ub ((s >>> 24).setWidth 8))] 5)) base v l := H.out.below (below_alloc w _)
  have HO := Lib.hid hown
  clear hown
  go_enter Try.func42, Try.ntmps42
  go_wp2_with (at_builtin; refine wpList_append8 rfl _ _ rfl base v l rfl HO.out _ _ _ (le4 s) rfl (row8_new w (le4 s) _ rfl (le4_small s)) ?cb ?cc ?_)
  case cb => simp [le4]; omega
  case cc => simp; omega
  intro v2 w2 hown2 hg2
  have hb2 : Below base w w2 := below_grown ((below_alloc w _).mono hbase) hg2 HO.out (by simp; omega)
  have hs2 : w.heap.size ≤ w2.heap.size := by have := hg2.size; simp at this; omega
  clear hg2
  go_wp2_with fail
  go_ret
  exact ⟨v2, rfl, hown2, hb2, hs2⟩

def FourPost (w : World) (s : W32) (e : Ending) (w' : World) : Prop :=
  ∃ g, e = .returned (.slice (some ⟨g, 0, none⟩) 4 4) ∧ w.heap.size ≤ g ∧ Row8 w' (some ⟨g, 0, none⟩) 4 (le4 s) ∧ Below w.heap.size w w'

set_option maxRecDepth 100000 in
set_option maxHeartbeats 400000 in
theorem four_any (s : W32) (w : World) : Calls Try.prog 43 #[.int .u32 (u s)] w (FourPost w s) := by
  have g1 := u_lo s
  have g2 := u_hi s
  have g3 := ub_lo ((s >>> 24).setWidth 8)
  have g4 := ub_hi ((s >>> 24).setWidth 8)
  go_enter Try.func43, Try.ntmps43
  go_wp2_with fail
  go_ret
  exact ⟨w.heap.size, rfl, Nat.le_refl _, row8_new w (le4 s) _ rfl (le4_small s), below_alloc w _⟩
end
end Go.Proofs.Ytlfeahalgolbgaa
