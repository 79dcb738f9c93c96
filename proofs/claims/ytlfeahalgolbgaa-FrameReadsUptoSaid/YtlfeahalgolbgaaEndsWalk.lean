/-
  The contract of frame.Ends.
-/
import Derived.Test.YtlfeahalgolbgaaSameWalk
namespace Go.Proofs.Ytlfeahalgolbgaa
open Go.RowKit
set_option linter.unusedVariables false

/-- where the frames end -/
def endsF : Nat → Nat → List B8 → List Nat
  | 0, _, _ => []
  | f + 1, at_, l => if (readF l).2.2.2 ≠ 0 then [] else (at_ + (readF l).2.2.1) :: endsF f (at_ + (readF l).2.2.1) (l.drop (readF l).2.2.1)

def ends (l : List B8) : List Nat := endsF (l.length + 1) 0 l

def EndsAt (l : List B8) (R E : List Nat) (n : Nat) : Prop := n ≤ l.length ∧ ∃ f, l.length - n < f ∧ R = E ++ endsF f n (l.drop n)

theorem endsAt_start (l : List B8) : EndsAt l (ends l) [] 0 := ⟨by omega, l.length + 1, by omega, by simp [ends]⟩

theorem endsAt_stop {l : List B8} {R E : List Nat} {n : Nat} (h : EndsAt l R E n) {k : B8} {b : List B8} {m er : Nat} (hr : readF (l.drop n) = (k, b, m, er)) (he : er ≠ 0) : R = E := by
  obtain ⟨h1, f, hf, hR⟩ := h
  obtain ⟨g, rfl⟩ : ∃ g, f = g + 1 := ⟨f - 1, by omega⟩
  rw [hR, endsF, hr, if_pos he, List.append_nil]

theorem endsAt_step {l : List B8} {R E : List Nat} {n : Nat} (h : EndsAt l R E n) {k : B8} {b : List B8} {m : Nat} (hr : readF (l.drop n) = (k, b, m, 0)) (hm : 12 ≤ m) (hm2 : n + m ≤ l.length) :
    EndsAt l R (E ++ [n + m]) (n + m) := by
  obtain ⟨h1, f, hf, hR⟩ := h
  obtain ⟨g, rfl⟩ : ∃ g, f = g + 1 := ⟨f - 1, by omega⟩
  refine ⟨hm2, g, by omega, ?_⟩
  rw [hR, endsF, hr, if_neg (by intro h; exact h rfl), List.drop_drop]
  simp

def nv (n : Nat) : Value := .int .i64 (n : Int)

def Own64 (w : World) (base : Nat) (v : Value) (E : List Nat) : Prop := w.ownsRow base 3 1 v E.length (E.map nv)

theorem own64_nil (w : World) (base : Nat) : Own64 w base (.slice none 0 0) [] := World.ownsRow_nil _ _ _ _

theorem ownsRow_below' {w w' : World} {base : Nat} {e : TypeId} {size : Nat} {v : Value} {n : Nat} {xs : List Value} (h : w.ownsRow base e size v n xs) (hb : Below w.heap.size w w') : w'.ownsRow base e size v n xs := ownsRow_below h hb

theorem Own64.below {w w' : World} {base : Nat} {v : Value} {E : List Nat} (h : Own64 w base v E) (hb : Below w.heap.size w w') : Own64 w' base v E := ownsRow_below h hb
theorem Own64.base {w : World} {base base' : Nat} {v : Value} {E : List Nat} (h : Own64 w base v E) (hb : base' ≤ base) : Own64 w base' v E := ownsRow_base h hb

theorem own64_form {w : World} {base : Nat} {v : Value} {E : List Nat} (h : Own64 w base v E) : ∃ a c, v = .slice a E.length c ∧ E.length ≤ c := by
  obtain ⟨hl, h⟩ := h
  rcases h with ⟨hv, h0⟩ | ⟨g, cap, cur, hv, hg, hh, hnc, hcm, hcs, ht⟩
  · exact ⟨none, 0, by rw [hv, h0], by omega⟩
  · exact ⟨_, cap, hv, hnc⟩

theorem own64_cell {w : World} {base n c : Nat} {a : Option Addr} {E : List Nat} (h : Own64 w base (.slice a n c) E) (i : Nat) (hi : i < n) :
    n = E.length ∧ ∃ b, a = some ⟨b, 0, none⟩ ∧ w.cell? ⟨b, i, none⟩ = some (.int .i64 ((E.getD i 0 : Nat) : Int)) := by
  obtain ⟨hl, h⟩ := h
  rcases h with ⟨hv, h0⟩ | ⟨g, cap, cur, hv, hg, hh, hnc, hcm, hcs, ht⟩
  · simp only [Value.slice.injEq] at hv
    omega
  · simp only [Value.slice.injEq] at hv
    obtain ⟨rfl, rfl, rfl⟩ := hv
    refine ⟨rfl, g, rfl, ?_⟩
    rw [Nat.mul_one] at ht
    have h1 : cur.toList[i]? = (E.map nv)[i]? := by
      rw [← ht, List.getElem?_take, if_pos hi]
    simp only [World.cell?, hh, Option.isSome_none, Bool.false_eq_true, if_false]
    rw [← Array.getElem?_toList, h1, List.getElem?_map, List.getElem?_eq_getElem hi, Option.map_some, nv, List.getD_eq_getElem?_getD, List.getElem?_eq_getElem hi]
    rfl

theorem Try.info3 : (Try.prog.info? 3).map (fun i => (i.size, i.bytes)) = some (1, 8) := by kernel_rfl
theorem Try.zero3 : ((Try.prog.info? 3).bind (·.zero)).map (·.cells) = some #[.int .i64 0] := by kernel_rfl

/-- append of one number at a plain region -/
theorem wpList_append57 {ops : Array Oper} {rest : List Oper} {o : Oper} {a : Act} {w : World} {Q : Exit → Act → World → Prop} (hgd : o.guard = none) (s x : Operand)
    (ho : o.op = .call { callee := .builtin .append, args := #[s, x], argTypes := #[57, 57] }) (base : Nat) (v : Value) (E : List Nat) (hs : a.eval s = v) (hown : Own64 w base v E)
    (N : Nat) (cx : Nat) (k : Nat) (hx : a.eval x = .slice (some ⟨N, 0, none⟩) 1 cx)
    (h0 : w.cell? ⟨N, 0, none⟩ = some (.int .i64 k)) (hfew : E.length ≤ 4194304) (hbase : base ≤ w.heap.size)
    (h : ∀ v' w', Own64 w' base v' (E ++ [k]) → w.grownBy w' v.ownBlock → wpList Try.prog ops Q rest (a.put o.dst v') w') : wpList Try.prog ops Q (o :: rest) a w := by
  have hi := Try.info3
  have hz := Try.zero3
  cases hq : Try.prog.info? 3 with
  | none => rw [hq] at hi; cases hi
  | some i =>
    rw [hq] at hi hz
    simp only [Option.map_some, Option.some.injEq, Prod.mk.injEq, Option.bind_some] at hi hz
    cases hzz : i.zero with
    | none => rw [hzz] at hz; cases hz
    | some z =>
      rw [hzz] at hz
      simp only [Option.map_some, Option.some.injEq] at hz
      refine wpList_append_own w hgd s x 57 ho base 3 i z 1 8 Try.underlying57 hq hzz hi.1 hi.2 (by rw [hz]; rfl) (by decide) v E.length (E.map nv) hs hown ⟨N, 0, none⟩ 1 cx [.int .i64 k] hx rfl ?_ ?_ (by unfold maxLen; omega) (by omega) hbase ?_
      · intro j x hj
        rw [addr_add]
        match j, hj with
        | 0, hj => simp only [List.getElem?_cons_zero, Option.some.injEq] at hj; subst hj; exact h0
        | j + 1, hj => simp at hj
      · intro x hx
        simp only [List.mem_cons, List.not_mem_nil, or_false] at hx
        subst hx
        rfl
      · intro v' w' hv' hg _
        refine h v' w' ?_ hg
        have e : (E ++ [k]).map nv = E.map nv ++ [.int .i64 k] := by simp [nv]
        unfold Own64
        rw [e, List.length_append]; exact hv'

def EndsPost (w : World) (E : List Nat) (e : Ending) (w' : World) : Prop :=
  ∃ v, e = .returned v ∧ Own64 w' w.heap.size v E ∧ Below w.heap.size w w'

theorem grown64 {w0 w w' : World} {base : Nat} {v : Value} {E : List Nat} (hb : Below base w0 w) (hg : w.grownBy w' v.ownBlock) (ho : Own64 w base v E) (hs : base ≤ w.heap.size) : Below base w0 w' :=
  hb.grown hg hs (fun k hk => (World.ownsRow.lt ho k hk).1)

theorem alloc_block (w : World) (o : Obj) : (w.alloc o).heap[w.heap.size]? = some o := by
  show (w.heap.push o)[w.heap.size]? = some o
  simp

/-- a frame's block stays where a row of numbers grows -/
theorem apart64 {w w' : World} {base g : Nat} {C : Array Value} {v : Value} {E : List Nat} (h : w.heap[g]? = some (.cells C 34 (0, 0))) (ho : Own64 w base v E) (hg : w.grownBy w' v.ownBlock) : w'.heap[g]? = some (.cells C 34 (0, 0)) := by
  rw [hg.block g (lt_of_block h) ?_]
  · exact h
  · intro e
    obtain ⟨_, h3⟩ := ho
    rcases h3 with ⟨rfl, _⟩ | ⟨g', cap', cur', rfl, hb', hh', r'⟩
    · cases e
    · simp only [Value.ownBlock, Option.some.injEq] at e
      subst e
      rw [h] at hh'
      simp at hh'

set_option maxRecDepth 100000 in
set_option maxHeartbeats 1600000 in
theorem ends_any (a : Option Addr) (N c : Nat) (l : List B8) (w : World) (h : Row8 w a N l) (hnc : N ≤ c) (hN : N ≤ 4194304) : Calls Try.prog 40 #[.slice a N c] w (EndsPost w (ends l)) := by
  have H := Lib.hid h
  have HL := Lib.hid h.1
  have S0 := Lib.hid (endsAt_start l)
  clear h
  go_enter Try.func40, Try.ntmps40
  obtain ⟨⟨k0, b0, m0, er0⟩, hr0⟩ : ∃ r, readF (l.drop 0) = r := ⟨_, rfl⟩
  have HR0 := Lib.hid hr0
  clear hr0
  go_wp2_with fail
  refine (read_to _ _ _ l _ H.out (by omega) (by omega) (by simpa using HR0.out) (kn := ub k0) rfl (bl := b0.length) rfl (mn := (m0 : Int)) (en := (er0 : Int)) rfl rfl).mono ?_
  rintro e w2 ⟨ba, bc, rfl, hown2, hb2⟩
  have HB2 := Lib.hid hb2
  clear hown2 hb2
  go_wp2_with fail
  go_loopw [3, 4, 5, 6, 7] (fun out at_ p mv ev wr => ∃ (n : Nat) (E : List Nat) (k : B8) (b : List B8) (m er g : Nat) (x : B8) (ba : Option Addr) (bl bc : Nat), n ≤ N ∧ at_ = .int .i64 n ∧ 12 * E.length ≤ n ∧ EndsAt l (ends l) E n ∧ readF (l.drop n) = (k, b, m, er) ∧
      p = .pointer (some ⟨g, 0, none⟩) ∧ wr.heap[g]? = some (.cells #[.int .u8 (ub x), .slice ba bl bc] 34 (0, 0)) ∧ mv = .int .i64 m ∧ ev = .int .i64 er ∧ Own64 wr w.heap.size out E ∧ Below w.heap.size w wr) (fun _ i _ _ _ _ => N - (intOf i).toNat)
  case atStart => exact ⟨0, [], k0, b0, m0, er0, w2.heap.size, k0, ba, b0.length, bc, by omega, rfl, by simp, S0.out, HR0.out, rfl, alloc_block _ _, rfl, rfl, own64_nil _ _, below_into HB2.out (below_alloc _ _)⟩
  case round =>
    clear HB2 HR0 w2
    obtain ⟨n, E, k, b, m, er, g, x, ba, bl, bc, hn, rfl, hfew, hea, hr, rfl, hg0, rfl, hev, hown, hb⟩ := hrel
    have hsw : w.heap.size ≤ wr.heap.size := hb.size
    have hlen : (l.drop n).length = N - n := by rw [List.length_drop, ← HL.out]
    have hok : er = 0 → 12 ≤ m ∧ m ≤ N - n := by
      intro h0
      rcases readF_cases (l.drop n) with ⟨k', b', m', hr', h12, hml, hbm⟩ | hr' | hr' <;> rw [hr] at hr' <;> simp only [Prod.mk.injEq] at hr' <;> omega
    by_cases her : er = 0
    · rename_i ev _
      subst her
      obtain ⟨h12, hml⟩ := hok rfl
      clear hok
      have HST := Lib.hid (endsAt_step hea hr h12 (by rw [← HL.out]; omega))
      obtain ⟨bo, o, rfl, _⟩ := H.out.2.2 (by omega)
      have HO := Lib.hid hown
      have hev' : u7 = .int .i64 0 := hev
      clear hea hr hown hev
      subst hev'
      have hg0A := (below_alloc wr (.cells #[.int .i64 ((n : Int) + (m : Int))] 3)).block g (lt_of_block hg0)
      go_wp2_with (at_builtin; refine wpList_append57 rfl _ _ rfl w.heap.size u3 E rfl (HO.out.below (below_alloc _ _)) wr.heap.size _ (n + m) rfl (by simp) (by omega) (by simp; omega) ?_)
      intro v3 w3 hown3 hg3
      have hb3 : Below w.heap.size w w3 := grown64 (hb.alloc (by omega) _) hg3 (HO.out.below (below_alloc _ _)) (by simp; omega)
      have hG := apart64 (hg0A.trans hg0) (HO.out.below (below_alloc _ _)) hg3
      have hG0 : w3.cell? ⟨g, 0, none⟩ = some (.int .u8 (ub x)) := by rw [cell_of_row _ _ _ _ _ _ hG]; rfl
      have hG1 : w3.cell? ⟨g, 1, none⟩ = some (.slice ba bl bc) := by rw [cell_of_row _ _ _ _ _ _ hG]; rfl
      clear hg0 hg0A hG
      have hnm : (n : Int) + (m : Int) = ((n + m : Nat) : Int) := by omega
      have hle : n + m ≤ N := by omega
      rw [hnm]
      have hfew2 : 12 * (E ++ [n + m]).length ≤ n + m := by rw [List.length_append, List.length_singleton]; omega
      obtain ⟨n2, hn2⟩ : ∃ n2, n2 = n + m := ⟨_, rfl⟩
      rw [← hn2] at HST hown3 hle hfew2 ⊢
      obtain ⟨E2, hE2⟩ : ∃ E2, E2 = E ++ [n2] := ⟨_, rfl⟩
      rw [← hE2] at HST hown3 hfew2
      have HO3 := Lib.hid hown3
      clear hown3 hg3 hnm HO hE2 hlen hb hfew
      obtain ⟨⟨k2, b2, m2, er2⟩, hr2⟩ : ∃ r, readF (l.drop n2) = r := ⟨_, rfl⟩
      have HR2 := Lib.hid hr2
      clear hr2
      have HROW := Lib.hid ((H.out.tail n2 hle).below hb3)
      have HN2 := Lib.hid hn2
      clear hn2
      have i1 : (0 : Int) ≤ (n2 : Int) := by omega
      have i2 : (n2 : Int) ≤ (N : Int) := by omega
      have i4 : (n2 : Int) ≤ (c : Int) := by omega
      obtain ⟨sa, hsa⟩ : ∃ sa, sa = (if c = n2 then some (⟨bo, o, none⟩ : Addr) else some ⟨bo, o + n2, none⟩) := ⟨_, rfl⟩
      have HSA : Hid (Row8 w3 sa (N - n2) (l.drop n2)) := by
        show Row8 _ _ _ _
        by_cases hc : c = n2
        · refine ⟨HROW.out.1, HROW.out.2.1, fun h => ?_⟩
          omega
        · rw [hsa, if_neg hc]; exact HROW.out
      have hcall : Hid (Calls Try.prog 24 #[.slice sa (N - n2) (c - n2)] (w3.alloc (.cells #[.int .u8 (ub x), .slice ba bl bc] 34)) (RdTo (w3.alloc (.cells #[.int .u8 (ub x), .slice ba bl bc] 34)) (ub k2) b2 b2.length (m2 : Int) (er2 : Int))) :=
        read_to _ _ _ (l.drop n2) _ (HSA.out.below (below_alloc _ _)) (by omega) (by omega) HR2.out rfl rfl rfl rfl
      by_cases hc : c = n2
      · rw [if_pos hc] at hsa
        obtain ⟨hc1, hc2⟩ : N = c ∧ n2 = c := by omega
        rw [hsa, hc1, hc2, Nat.sub_self] at hcall
        clear hc
        subst hc1
        subst hc2
        go_wp2_with fail
        refine hcall.out.mono ?_
        rintro e w5 ⟨ba5, bc5, rfl, hown5, hb5⟩
        have hb6 := below_into (below_into hb3 (below_alloc w3 (.cells #[.int .u8 (ub x), .slice ba bl bc] 34))) hb5
        have hblk : w5.heap[w3.heap.size]? = some (.cells #[.int .u8 (ub x), .slice ba bl bc] 34 (0, 0)) := (hb5.block _ (by simp)).trans (alloc_block _ _)
        have HO5 := Lib.hid ((HO3.out.below (below_alloc w3 (.cells #[.int .u8 (ub x), .slice ba bl bc] 34))).below hb5)
        clear hown5 hb5 hG0 hG1
        go_wp2_with fail
        go_roundw
        case rel => exact ⟨_, E2, k2, b2, m2, er2, w3.heap.size, x, ba, bl, bc, hle, rfl, hfew2, HST.out, HR2.out, rfl, hblk, rfl, rfl, HO5.out, hb6⟩
        case measure => have := HN2.out; simp [intOf]; omega
      · rw [if_neg hc] at hsa
        rw [hsa] at hcall
        go_wp2_with fail
        refine hcall.out.mono ?_
        rintro e w5 ⟨ba5, bc5, rfl, hown5, hb5⟩
        have hb6 := below_into (below_into hb3 (below_alloc w3 (.cells #[.int .u8 (ub x), .slice ba bl bc] 34))) hb5
        have hblk : w5.heap[w3.heap.size]? = some (.cells #[.int .u8 (ub x), .slice ba bl bc] 34 (0, 0)) := (hb5.block _ (by simp)).trans (alloc_block _ _)
        have HO5 := Lib.hid ((HO3.out.below (below_alloc w3 (.cells #[.int .u8 (ub x), .slice ba bl bc] 34))).below hb5)
        clear hown5 hb5 hG0 hG1
        go_wp2_with fail
        go_roundw
        case rel => exact ⟨n2, E2, k2, b2, m2, er2, w3.heap.size, x, ba, bl, bc, hle, rfl, hfew2, HST.out, HR2.out, rfl, hblk, rfl, rfl, HO5.out, hb6⟩
        case measure => have := HN2.out; simp [intOf]; omega
    · have HE := Lib.hid (endsAt_stop hea hr her)
      have hev2 : ∀ q, q = (er : Int) → u7 = .int .i64 q := by intro q hq; rw [hq]; exact hev
      have hdec : decide ((er : Int) = 0) = false := decide_eq_false (by omega)
      subst hev
      clear hev2 hea hr hok
      go_wp2_with fail
      go_ret
      exact ⟨_, rfl, by rw [HE.out]; exact hown, hb⟩
end Go.Proofs.Ytlfeahalgolbgaa
