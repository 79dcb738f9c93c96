/-
  Rows of frames of the call's own.
-/
import Derived.Test.YtlfeahalgolbgaaScanPlain
import Derived.Test.YtlfeahalgolbgaaLives3
namespace Go.Proofs.Ytlfeahalgolbgaa
open Go.RowKit
set_option linter.unusedVariables false

/-- a frame with the value of its body -/
abbrev FrV := B8 × List B8 × Value

def flatG (G : List FrV) : List Value := G.flatMap fun g => [.int .u8 (ub g.1), g.2.2]
def frs (G : List FrV) : List Fr := G.map fun g => (g.1, g.2.1)

/-- a row of frames of the call's own, each body in a row of its own -/
def FOwn (w : World) (base : Nat) (v : Value) (G : List FrV) : Prop := w.ownsRow base 34 2 v G.length (flatG G) ∧ ∀ g ∈ G, Own8 w base g.2.2 g.2.1

theorem flatG_length (G : List FrV) : (flatG G).length = G.length * 2 := by
  induction G with
  | nil => rfl
  | cons g G ih => simp [flatG] at ih ⊢; omega

theorem fown_nil (w : World) (base : Nat) : FOwn w base (.slice none 0 0) [] := ⟨World.ownsRow_nil _ _ _ _, fun g hg => by cases hg⟩

theorem ownsRow_below {w w' : World} {base : Nat} {e : TypeId} {size : Nat} {v : Value} {n : Nat} {xs : List Value} (h : w.ownsRow base e size v n xs) (hb : Below w.heap.size w w') : w'.ownsRow base e size v n xs := by
  obtain ⟨h1, h2⟩ := h
  refine ⟨h1, ?_⟩
  rcases h2 with h2 | ⟨g, cap, cur, hv, hg, hh, r⟩
  · exact .inl h2
  · refine .inr ⟨g, cap, cur, hv, hg, ?_, r⟩
    rw [hb.block g (by rcases Nat.lt_or_ge g w.heap.size with h' | h'; exact h'; rw [Array.getElem?_eq_none h'] at hh; cases hh)]
    exact hh

theorem FOwn.below {w w' : World} {base : Nat} {v : Value} {G : List FrV} (h : FOwn w base v G) (hb : Below w.heap.size w w') : FOwn w' base v G :=
  ⟨ownsRow_below h.1 hb, fun g hg => (h.2 g hg).below hb⟩

theorem ownsRow_base {w : World} {base base' : Nat} {e : TypeId} {size : Nat} {v : Value} {n : Nat} {xs : List Value} (h : w.ownsRow base e size v n xs) (hb : base' ≤ base) : w.ownsRow base' e size v n xs := by
  obtain ⟨h1, h2⟩ := h
  refine ⟨h1, ?_⟩
  rcases h2 with h2 | ⟨g, cap, cur, hv, hg, r⟩
  · exact .inl h2
  · exact .inr ⟨g, cap, cur, hv, Nat.le_trans hb hg, r⟩

/-- bytes stay where a row of frames turns -/
theorem Own8.other {w w' : World} {base base' : Nat} {x v : Value} {l : List B8} {n : Nat} {xs : List Value} (h : Own8 w base x l) (hv : w.ownsRow base' 34 2 v n xs) (hg : w.grownBy w' v.ownBlock) : Own8 w' base x l := by
  refine World.ownsRow.kept h hg ?_
  obtain ⟨_, h2⟩ := h
  rcases h2 with ⟨rfl, _⟩ | ⟨g, cap, cur, rfl, hb, hh, r⟩
  · exact .inl rfl
  · right
    intro e
    obtain ⟨_, h3⟩ := hv
    rcases h3 with ⟨rfl, _⟩ | ⟨g', cap', cur', rfl, hb', hh', r'⟩
    · cases e
    · simp only [Value.ownBlock, Option.some.injEq] at e
      subst e
      rw [hh] at hh'
      simp at hh'

theorem Try.info34 : (Try.prog.info? 34).map (fun i => (i.size, i.bytes)) = some (2, 32) := by kernel_rfl
theorem Try.zero34 : ((Try.prog.info? 34).bind (·.zero)).map (·.cells) = some #[.int .u8 0, .slice none 0 0] := by kernel_rfl

/-- append of one frame at a plain region -/
theorem wpList_append34 {ops : Array Oper} {rest : List Oper} {o : Oper} {a : Act} {w : World} {Q : Exit → Act → World → Prop} (hgd : o.guard = none) (s x : Operand)
    (ho : o.op = .call { callee := .builtin .append, args := #[s, x], argTypes := #[48, 48] }) (base : Nat) (v : Value) (G : List FrV) (hs : a.eval s = v) (hown : FOwn w base v G)
    (N : Nat) (cx : Nat) (k : B8) (b : List B8) (bv' : Value) (hx : a.eval x = .slice (some ⟨N, 0, none⟩) 1 cx)
    (h0 : w.cell? ⟨N, 0, none⟩ = some (.int .u8 (ub k))) (h1 : w.cell? ⟨N, 1, none⟩ = some bv') (hbo : Own8 w base bv' b) (hfew : G.length ≤ 4194304) (hbase : base ≤ w.heap.size)
    (h : ∀ v' w', FOwn w' base v' (G ++ [(k, b, bv')]) → w.grownBy w' v.ownBlock → wpList Try.prog ops Q rest (a.put o.dst v') w') : wpList Try.prog ops Q (o :: rest) a w := by
  have hi := Try.info34
  have hz := Try.zero34
  cases hq : Try.prog.info? 34 with
  | none => rw [hq] at hi; cases hi
  | some i =>
    rw [hq] at hi hz
    simp only [Option.map_some, Option.some.injEq, Prod.mk.injEq, Option.bind_some] at hi hz
    cases hzz : i.zero with
    | none => rw [hzz] at hz; cases hz
    | some z =>
      rw [hzz] at hz
      simp only [Option.map_some, Option.some.injEq] at hz
      obtain ⟨bva, bvc, hbf, _⟩ := own8_form hbo
      refine wpList_append_own w hgd s x 48 ho base 34 i z 2 32 Try.underlying48 hq hzz hi.1 hi.2 (by rw [hz]; rfl) (by decide) v G.length (flatG G) hs hown.1 ⟨N, 0, none⟩ 1 cx [.int .u8 (ub k), bv'] hx rfl ?_ ?_ (by unfold maxLen; omega) (by omega) hbase ?_
      · intro j x hj
        rw [addr_add]
        match j, hj with
        | 0, hj => simp only [List.getElem?_cons_zero, Option.some.injEq] at hj; subst hj; exact h0
        | 1, hj => simp only [List.getElem?_cons_succ, List.getElem?_cons_zero, Option.some.injEq] at hj; subst hj; exact h1
        | j + 2, hj => simp at hj
      · intro x hx
        simp only [List.mem_cons, List.not_mem_nil, or_false] at hx
        rcases hx with rfl | rfl
        · rfl
        · rw [hbf]; rfl
      · intro v' w' hv' hg _
        refine h v' w' ⟨?_, ?_⟩ hg
        · have e : flatG (G ++ [(k, b, bv')]) = flatG G ++ [.int .u8 (ub k), bv'] := by simp [flatG]
          rw [e, List.length_append]; exact hv'
        · intro g hgm
          rcases List.mem_append.1 hgm with hm | hm
          · exact (hown.2 g hm).other hown.1 hg
          · simp only [List.mem_cons, List.not_mem_nil, or_false] at hm
            subst hm
            exact hbo.other hown.1 hg

end Go.Proofs.Ytlfeahalgolbgaa
