/-
  Rows of happenings of the call's own; append of happenings onto an empty one.
-/
import Derived.Test.YtjfgjcoehahlcaaHRow
import Derived.Deep.RegionLaw
namespace Go.Proofs.Ytjfgjcoehahlcaa
open Go.RowKit
set_option linter.unusedVariables false

def flatH (G : List Hp) : List Value := G.flatMap fun h => [.int .i64 h.k, .int .i64 h.n, .int .i64 h.c]

theorem flatH_length (G : List Hp) : (flatH G).length = G.length * 3 := by
  induction G with
  | nil => rfl
  | cons g G ih => simp [flatH] at ih ⊢; omega

theorem flatH_get (G : List Hp) : ∀ i, i < G.length → (flatH G)[i * 3]? = some (.int .i64 (G.getD i hp0).k) ∧ (flatH G)[i * 3 + 1]? = some (.int .i64 (G.getD i hp0).n) ∧ (flatH G)[i * 3 + 2]? = some (.int .i64 (G.getD i hp0).c) := by
  induction G with
  | nil => intro i h; simp at h
  | cons g G ih =>
    intro i h
    cases i with
    | zero => exact ⟨rfl, rfl, rfl⟩
    | succ i =>
      have := ih i (by simpa using h)
      rw [show (i + 1) * 3 = i * 3 + 3 by omega]
      exact this

theorem hrow_of_own {w : World} {base n c : Nat} {a : Option Addr} {G : List Hp} (h : w.ownsRow base 31 3 (.slice a n c) G.length (flatH G)) : HRow w a n G := by
  obtain ⟨hl, h1⟩ := h
  rcases h1 with ⟨hv, h0⟩ | ⟨g, cap, cur, hv, hg, hh, hnc, hcm, hcs, ht⟩
  · simp only [Value.slice.injEq] at hv
    obtain ⟨rfl, rfl, rfl⟩ := hv
    exact ⟨by omega, fun h => absurd h (by omega)⟩
  · simp only [Value.slice.injEq] at hv
    obtain ⟨rfl, rfl, rfl⟩ := hv
    refine ⟨rfl, fun h0 => ⟨g, 0, rfl, fun i hi => ?_⟩⟩
    obtain ⟨f1, f2, f3⟩ := flatH_get G i hi
    have hcell : ∀ j x, (flatH G)[j]? = some x → w.cell? ⟨g, 0 + j, none⟩ = some x := by
      intro j x hj
      have hjl : j < G.length * 3 := by
        rcases Nat.lt_or_ge j (flatH G).length with h' | h'
        · rwa [flatH_length] at h'
        · rw [List.getElem?_eq_none h'] at hj; cases hj
      have h1 : cur.toList[j]? = some x := by
        rw [← hj, ← ht, List.getElem?_take, if_pos hjl]
      simp only [World.cell?, hh, Nat.zero_add, Option.isSome_none, Bool.false_eq_true, if_false]
      rw [← Array.getElem?_toList]
      exact h1
    exact ⟨hcell _ _ f1, hcell _ _ f2, hcell _ _ f3⟩

theorem Try.info31 : (Try.prog.info? 31).map (fun i => (i.size, i.bytes)) = some (3, 24) := by kernel_rfl
theorem Try.zero31 : ((Try.prog.info? 31).bind (·.zero)).map (·.cells) = some #[.int .i64 0, .int .i64 0, .int .i64 0] := by kernel_rfl

theorem flatH_at {w : World} {b o n : Nat} {G : List Hp} (h : HRow w (some ⟨b, o, none⟩) n G) : ∀ j u, (flatH G)[j]? = some u → w.cell? ((⟨b, o, none⟩ : Addr).add j) = some u := by
  intro j u hj
  have hjl : j < G.length * 3 := by
    rcases Nat.lt_or_ge j (flatH G).length with h' | h'
    · rwa [flatH_length] at h'
    · rw [List.getElem?_eq_none h'] at hj; cases hj
  obtain ⟨h1, h2⟩ := h
  obtain ⟨b', o', ha, hc⟩ := h2 (by omega)
  simp only [Option.some.injEq, Addr.mk.injEq, and_true] at ha
  obtain ⟨rfl, rfl⟩ := ha
  obtain ⟨c0, c1, c2⟩ := hc (j / 3) (by omega)
  obtain ⟨f0, f1, f2⟩ := flatH_get G (j / 3) (by omega)
  have hadd : (⟨b, o, none⟩ : Addr).add j = ⟨b, o + j, none⟩ := by unfold Addr.add; split <;> simp_all
  rw [hadd]
  rcases (by omega : j = j / 3 * 3 ∨ j = j / 3 * 3 + 1 ∨ j = j / 3 * 3 + 2) with e | e | e
  · rw [e, f0] at hj; rw [e, ← hj]; exact c0
  · rw [e, f1] at hj; rw [e, ← hj, ← Nat.add_assoc]; exact c1
  · rw [e, f2] at hj; rw [e, ← hj, ← Nat.add_assoc]; exact c2

/-- append of happenings onto an empty row of the call's own -/
theorem run_append31 (w : World) (base : Nat) (ty : TypeId) (v : Value) (hown : w.ownsRow base 31 3 v 0 []) (a : Option Addr) (n c : Nat) (G : List Hp) (hG : HRow w a n G) (hnil : a = none → c = 0) (hn : n ≤ 4194304) (hbase : base ≤ w.heap.size) :
    ∃ v' w', (Builtin.append_ #[24, 24] ty #[v, .slice a n c]).run Try.prog w = .ok v' w' ∧ w'.ownsRow base 31 3 v' n (flatH G) ∧ w.grownBy w' v.ownBlock := by
  have hi := Try.info31
  have hz := Try.zero31
  cases hq : Try.prog.info? 31 with
  | none => rw [hq] at hi; cases hi
  | some i =>
    rw [hq] at hi hz
    simp only [Option.map_some, Option.some.injEq, Prod.mk.injEq, Option.bind_some] at hi hz
    cases hzz : i.zero with
    | none => rw [hzz] at hz; cases hz
    | some z =>
      rw [hzz] at hz
      simp only [Option.map_some, Option.some.injEq] at hz
      have hlen := hG.1
      cases a with
      | none =>
        have hn0 : n = 0 := by
          rcases Nat.eq_zero_or_pos n with h | h
          · exact h
          · obtain ⟨b, o, e, _⟩ := hG.2 h; cases e
        have hc0 := hnil rfl
        subst hn0
        subst hc0
        obtain rfl : G = [] := List.eq_nil_of_length_eq_zero hlen.symm
        have hr := run_append_owned_none (P := Try.prog) (w := w) base 24 ty 31 i 3 Try.underlying24 hq v 0 [] hown
        exact ⟨v, w, hr, hown, ⟨rfl, rfl, rfl, Nat.le_refl _, fun _ _ _ => rfl⟩⟩
      | some x =>
        have hcells : ∀ j u, (flatH G)[j]? = some u → w.cell? (x.add j) = some u := by
          rcases Nat.eq_zero_or_pos n with h0 | h0
          · obtain rfl : G = [] := List.eq_nil_of_length_eq_zero (by omega)
            intro j u hj
            simp [flatH] at hj
          · obtain ⟨b, o, e, _⟩ := hG.2 h0
            obtain rfl := Option.some.inj e
            exact flatH_at hG
        obtain ⟨v', w', hr, h1, h2, _⟩ := run_append_own (P := Try.prog) (w := w) base 24 ty 31 i z 3 24 Try.underlying24 hq hzz hi.1 hi.2 (by rw [hz]; rfl) (by decide) v 0 [] hown x n c (flatH G) (by rw [flatH_length, hlen]) hcells
          (by intro u hu; obtain ⟨g, _, hg⟩ := List.mem_flatMap.1 hu; simp only [List.mem_cons, List.not_mem_nil, or_false] at hg; rcases hg with rfl | rfl | rfl <;> rfl) (by unfold maxLen; omega) (by omega) hbase
        rw [Nat.zero_add, List.nil_append] at h1
        exact ⟨v', w', hr, h1, h2⟩

/-- .. as one step of a region that draws -/
theorem step_append31 {ops : Array Oper} {o : Oper} {a : Act} {w : World} {K : Act → World → Prop} {Q : Exit → Act → World → Prop} {E : Prop} (hgd : o.guard = none) (s x : Operand)
    (ho : o.op = .call { callee := .builtin .append, args := #[s, x], argTypes := #[24, 24] }) (base : Nat) (v : Value) (hs : a.eval s = v) (hown : w.ownsRow base 31 3 v 0 [])
    (xa : Option Addr) (m cx : Nat) (G : List Hp) (hx : a.eval x = .slice xa m cx) (h2 : HRow w xa m G) (hnil : xa = none → cx = 0) (hn : m ≤ 4194304) (hbase : base ≤ w.heap.size)
    (h : ∀ v' w', w'.ownsRow base 31 3 v' m (flatH G) → w.grownBy w' v.ownBlock → K (a.put o.dst v') w') :
    if Region.wanted o (yielded ops a.tmps) = true then Oper.wp Try.prog o a w K Q else E := by
  have hw : Region.wanted o (yielded ops a.tmps) = true := by simp [Region.wanted, hgd]
  rw [if_pos hw]
  obtain ⟨v', w', hr, h3, h4⟩ := run_append31 w base o.type v hown xa m cx G h2 hnil hn hbase
  unfold Oper.wp execOp
  simp only [ho, resolve, invoke, builtin, Sem.run_bind, Sem.run_pure, Result.andThen_ok, List.map_toArray, List.map_cons, List.map_nil, hs, hx, hr]
  exact h v' w' h3 h4
end Go.Proofs.Ytjfgjcoehahlcaa
