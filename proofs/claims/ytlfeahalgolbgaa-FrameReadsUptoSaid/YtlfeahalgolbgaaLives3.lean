/-
  The first examples of the chapter on frames.
-/
import Derived.Test.YtlfeahalgolbgaaReadWalk
namespace Go.Proofs.Ytlfeahalgolbgaa
open Go.RowKit
set_option linter.unusedVariables false

theorem read_any (a : Option Addr) (n c : Nat) (l : List B8) (w : World) (h : Row8 w a n l) (hnc : n ≤ c) (hnn : n ≤ 140737492549632) : Calls Try.prog 24 #[.slice a n c] w (RdPost w (readF l)) := by
  by_cases h8 : n < 8
  · have e : readF l = (0#8, [], 0, 4) := by unfold readF; rw [if_pos (by rw [← h.1]; exact h8)]
    rw [e]
    exact (read_short a n c w h8).mono fun _ _ hh => rdErr_post hh
  · exact read_main a n c l w h (by omega) hnc hnn

def RdTo (w : World) (kn : Int) (body : List B8) (bl : Nat) (mn en : Int) (e : Ending) (w' : World) : Prop :=
  ∃ ba bc, e = .returned (.tuple #[.agg #[.int .u8 kn, .slice ba bl bc], .int .i64 mn, .int .i64 en]) ∧ Own8 w' w.heap.size (.slice ba bl bc) body ∧ Below w.heap.size w w'

theorem read_to (a : Option Addr) (n c : Nat) (l : List B8) (w : World) (h : Row8 w a n l) (hnc : n ≤ c) (hnn : n ≤ 140737492549632) {k : B8} {body : List B8} {m er : Nat} (hr : readF l = (k, body, m, er))
    {kn : Int} (hk : ub k = kn) {bl : Nat} (hbl : body.length = bl) {mn en : Int} (hm : (m : Int) = mn) (he : (er : Int) = en) : Calls Try.prog 24 #[.slice a n c] w (RdTo w kn body bl mn en) := by
  subst hk; subst hbl; subst hm; subst he
  have := read_any a n c l w h hnc hnn
  rw [hr] at this
  exact this

theorem readF_one : readF (frB 1#8 []) = (1#8, [], 12, 0) := by decide +kernel

set_option maxRecDepth 100000 in
set_option maxHeartbeats 800000 in
theorem lives3_any (w : World) : Calls Try.prog 18 #[] w fun e w' => e = .returned (.bool true) ∧ Below w.heap.size w w' := by
  have H1 := Lib.hid readF_one
  go_enter Try.func18, Try.ntmps18
  go_wp2_with fail
  refine (append_any none 0 0 [] 1#8 none 0 0 [] w ⟨rfl, by decide, fun h => absurd h (by decide)⟩ ⟨rfl, by decide, fun h => absurd h (by decide)⟩ (by decide) (by decide) (fun _ => rfl) (by decide)).mono ?_
  rintro e w1 ⟨v, rfl, hown, hb1⟩
  rw [List.nil_append] at hown
  obtain ⟨a, c, rfl, hc⟩ := own8_form hown
  have hlen : (frB 1#8 []).length = 12 := rfl
  rw [hlen] at hc ⊢
  have hrow := hown.row (by decide)
  rw [hlen] at hrow
  have HRow := Lib.hid hrow
  clear hown hrow
  go_wp2_with fail
  refine (read_to _ _ _ (frB 1#8 []) _ HRow.out hc (by decide) H1.out (kn := 1) rfl (bl := 0) rfl (mn := 12) (en := 0) rfl rfl).mono ?_
  rintro e w2 ⟨ba, bc, rfl, hown2, hb2⟩
  clear hown2
  go_wp2_with fail
  go_ret
  exact ⟨rfl, below_into hb1 (below_into hb2 (below_alloc w2 _))⟩
end Go.Proofs.Ytlfeahalgolbgaa
