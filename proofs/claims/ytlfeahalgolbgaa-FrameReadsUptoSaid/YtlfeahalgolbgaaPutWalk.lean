/-
  The contract of the law's put: a list of frames written one behind the other.
-/
import Derived.Test.YtlfeahalgolbgaaFRow
namespace Go.Proofs.Ytlfeahalgolbgaa
open Go.RowKit
set_option linter.unusedVariables false

/-- the bytes of frames, one behind the other -/
def allB (Fs : List Fr) : List B8 := Fs.flatMap fun f => frB f.1 f.2

theorem allB_nil : allB [] = [] := rfl
theorem allB_cons (f : Fr) (Fs : List Fr) : allB (f :: Fs) = frB f.1 f.2 ++ allB Fs := by simp [allB]
theorem allB_append (A B : List Fr) : allB (A ++ B) = allB A ++ allB B := by simp [allB]

theorem allB_small (Fs : List Fr) (m : Nat) (h : ∀ f ∈ Fs, f.2.length ≤ m) : (allB Fs).length ≤ Fs.length * (m + 12) := by
  induction Fs with
  | nil => simp [allB]
  | cons f Fs ih =>
    have h1 := ih (fun g hg => h g (by simp [hg]))
    have h2 := h f (by simp)
    rw [allB_cons, List.length_append, frB_length, List.length_cons, Nat.add_mul]
    omega

theorem frs_take_snoc (G : List FrV) (k : Nat) (h : k < G.length) : frs (G.take (k + 1)) = frs (G.take k) ++ [((G.getD k fr0).1, (G.getD k fr0).2.1)] := by
  rw [List.take_succ_eq_append_getElem h, frs, List.map_append]
  simp [frs, List.getD_eq_getElem?_getD, h]

theorem allB_take_snoc (G : List FrV) (k : Nat) (h : k < G.length) : allB (frs (G.take (k + 1))) = allB (frs (G.take k)) ++ frB (G.getD k fr0).1 (G.getD k fr0).2.1 := by
  rw [frs_take_snoc G k h, allB_append]; simp [allB]

theorem frs_mem {G : List FrV} {m : Nat} (h : ∀ g ∈ G, g.2.1.length ≤ m) : ∀ f ∈ frs G, f.2.length ≤ m := by
  intro f hf
  obtain ⟨g, hg, rfl⟩ := List.mem_map.1 hf
  exact h g hg

theorem allB_take_small {G : List FrV} {m N : Nat} (h : ∀ g ∈ G, g.2.1.length ≤ m) (k : Nat) (hk : k ≤ N) : (allB (frs (G.take k))).length ≤ N * (m + 12) := by
  refine Nat.le_trans (allB_small _ m (frs_mem (fun g hg => h g (List.mem_of_mem_take hg)))) ?_
  refine Nat.mul_le_mul_right _ ?_
  rw [frs_length, List.length_take]; omega

def PutAll (w : World) (l : List B8) (e : Ending) (w' : World) : Prop :=
  ∃ v, e = .returned (.tuple #[v, .bool true]) ∧ Own8 w' w.heap.size v l ∧ Below w.heap.size w w'

set_option maxRecDepth 100000 in
set_option maxHeartbeats 800000 in
theorem put_any (a : Option Addr) (n c : Nat) (G : List FrV) (w : World) (h : FRow w a n G) (hnc : n ≤ c) (hn : n ≤ 40) (hb : ∀ g ∈ G, g.2.1.length ≤ 2000) :
    Calls Try.prog 30 #[.slice a n c] w (PutAll w (allB (frs G))) := by
  have HL := Lib.hid h.1
  have H := Lib.hid h
  have HB := Lib.hid hb
  clear h hb
  go_enter Try.func30, Try.ntmps30
  go_wp2
  go_loopw [4, 5] (fun v i wr => ∃ k : Nat, k ≤ n ∧ i = .int .i64 k ∧ Own8 wr w.heap.size v (allB (frs (G.take k))) ∧ Below w.heap.size w wr) (fun _ i _ => n - (intOf i).toNat)
  case atStart => exact ⟨0, by omega, rfl, own8_nil _ _, Below.refl _ _⟩
  case round =>
    obtain ⟨k, hk, rfl, hown, hbl⟩ := hrel
    by_cases hlt : k < n
    · obtain ⟨b, o, ba, bc, rfl, hc1, hc2, hlc, hrow⟩ := (H.out.below hbl).at k hlt
      have hsm := HB.out _ (getD_mem G k (by rw [← HL.out]; exact hlt))
      have hst := allB_take_snoc G k (by rw [← HL.out]; exact hlt)
      have hts := allB_take_small HB.out k (N := 40) (by omega)
      obtain ⟨l2, hl2⟩ : ∃ l2, allB (frs (G.take (k + 1))) = l2 := ⟨_, rfl⟩
      rw [hl2] at hst
      have HST := Lib.hid hst
      clear hst
      have HK := Lib.hid hl2
      clear hl2
      generalize allB (frs (G.take k)) = l at *
      generalize G.getD k fr0 = g at *
      obtain ⟨kd, bd, bv'⟩ := g
      obtain ⟨va, vc, rfl, hvc⟩ := own8_form hown
      have hr := hown.row (by omega)
      have hnil : va = none → vc = 0 := by
        intro h0
        subst h0
        obtain ⟨_, h1⟩ := hown
        rcases h1 with ⟨hv, _⟩ | ⟨_, _, _, hv, _⟩
        · simp only [Value.slice.injEq] at hv; exact hv.2.2
        · cases hv
      dsimp only at *
      have HR := Lib.hid hr
      have HO := Lib.hid hown
      have HRO := Lib.hid hrow
      have i1 : (0 : Int) ≤ (k : Int) := by omega
      have i2 : (k : Int) < (n : Int) := by omega
      clear hr hown hrow
      go_wp2_with fail
      refine (append_any _ _ _ l kd _ _ _ bd _ HR.out HRO.out (by omega) hvc hnil (by omega)).mono ?_
      rintro e w2 ⟨v2, rfl, hown2, hb2⟩
      have hb3 : Below w.heap.size w w2 := below_into hbl hb2
      have hown3 := hown2.base hbl.size
      clear hown2 hb2
      rw [← HST.out] at hown3
      go_wp2_with fail
      go_roundw
      case rel => exact ⟨k + 1, by omega, by go_num, by rw [HK.out]; exact hown3, hb3⟩
      case measure => simp [intOf]; omega
    · obtain rfl : k = n := by omega
      rw [List.take_of_length_le (by rw [← HL.out]; exact Nat.le_refl _)] at hown
      go_wp2_with fail
      go_ret2
      exact ⟨_, rfl, hown, hbl⟩
end Go.Proofs.Ytlfeahalgolbgaa
