/-
  Append of happenings onto an empty made row, as one step of a region that draws: what it leaves.
-/
import Derived.Test.YtjfgjcoehahlcaaHapMem
import Derived.Test.YtjfgjcoehahlcaaHapKit
namespace Go.Proofs.Ytjfgjcoehahlcaa
open Go.RowKit
set_option linter.unusedVariables false

/-- an empty row that was made -/
theorem own_e (w : World) (base : Nat) (hb : base ≤ w.heap.size) : (w.alloc (.cells #[] 31)).ownsRow base 31 3 (.slice (some ⟨w.heap.size, 0, none⟩) 0 0) 0 [] :=
  World.ownsRow_made w #[] 0 hb (by decide) rfl

theorem own31_below {w w' : World} {base : Nat} {v : Value} {n : Nat} {xs : List Value} (h : w.ownsRow base 31 3 v n xs) (hb : Below w.heap.size w w') : w'.ownsRow base 31 3 v n xs := by
  obtain ⟨h1, h2⟩ := h
  refine ⟨h1, ?_⟩
  rcases h2 with h2 | ⟨g, cap, cur, hv, hg, hh, r⟩
  · exact .inl h2
  · refine .inr ⟨g, cap, cur, hv, hg, ?_, r⟩
    rw [hb.block g (by rcases Nat.lt_or_ge g w.heap.size with h' | h'; exact h'; rw [Array.getElem?_eq_none h'] at hh; cases hh)]
    exact hh

theorem own31_form {w : World} {base : Nat} {v : Value} {n : Nat} {xs : List Value} (h : w.ownsRow base 31 3 v n xs) : ∃ a c, v = .slice a n c := by
  obtain ⟨hl, h⟩ := h
  rcases h with ⟨hv, h0⟩ | ⟨g, cap, cur, hv, hg, hh, hnc, hcm, hcs, ht⟩
  · exact ⟨none, 0, by rw [hv, h0]⟩
  · exact ⟨_, cap, hv⟩

/-- a struct's block stays where a row of happenings grows -/
theorem RBox.grown {w w' : World} {base b n : Nat} {v : Value} {xs : List Value} {x y z : Value} (h : RBox w b x y z) (ho : w.ownsRow base 31 3 v n xs) (hg : w.grownBy w' v.ownBlock) : RBox w' b x y z := by
  unfold RBox
  rw [hg.block b h.lt ?_]
  · exact h
  · intro e
    obtain ⟨_, h3⟩ := ho
    rcases h3 with ⟨rfl, _⟩ | ⟨g', cap', cur', rfl, hb', hh', r'⟩
    · cases e
    · simp only [Value.ownBlock, Option.some.injEq] at e
      subst e
      unfold RBox at h
      rw [h] at hh'
      simp at hh'

theorem step_hap {ops : Array Oper} {o : Oper} {a : Act} {w0 w : World} {K : Act → World → Prop} {Q : Exit → Act → World → Prop} {E : Prop} (hgd : o.guard = none) (s x : Operand)
    (ho : o.op = .call { callee := .builtin .append, args := #[s, x], argTypes := #[24, 24] }) (v : Value) (hs : a.eval s = v) (hb : Below w0.heap.size w0 w) (hown : w.ownsRow w0.heap.size 31 3 v 0 [])
    (xa : Option Addr) (m cx : Nat) (G : List Hp) (hx : a.eval x = .slice xa m cx) (h2 : HRow w0 xa m G) (hnil : xa = none → cx = 0) (hn : m ≤ 4194304)
    (h : ∀ va vc w', HRow w' va m G → Below w0.heap.size w0 w' → (∀ b x y z, RBox w b x y z → RBox w' b x y z) → w.heap.size ≤ w'.heap.size → K (a.put o.dst (.slice va m vc)) w') :
    if Region.wanted o (yielded ops a.tmps) = true then Oper.wp Try.prog o a w K Q else E :=
  step_append31 hgd s x ho w0.heap.size v hs hown xa m cx G hx (h2.below hb) hnil hn hb.size (fun v' w' h3 h4 => by
    obtain ⟨va, vc, rfl⟩ := own31_form h3
    have hl : m = G.length := h2.1
    rw [hl] at h3 ⊢
    exact hl ▸ h va vc w' (hl ▸ hrow_of_own h3) (hb.grown h4 hb.size (fun k hk => (World.ownsRow.lt hown k hk).1)) (fun b x y z hr => hr.grown hown h4) h4.size)
end Go.Proofs.Ytjfgjcoehahlcaa
