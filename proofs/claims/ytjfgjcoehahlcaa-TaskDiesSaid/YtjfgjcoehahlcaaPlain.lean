/-
  Plain: what becomes of a task. No program here.
-/
namespace Go.Proofs.Ytjfgjcoehahlcaa
set_option linter.unusedVariables false

structure Lf where
  s : Int
  g : Int
  c : Int
deriving DecidableEq

structure Hp where
  k : Int
  n : Int
  c : Int
deriving DecidableEq

/-- may a life be? -/
def OkL (l : Lf) : Prop := (1 ≤ l.s ∧ l.s ≤ 4) ∧ ((l.s = 3 ∧ 1 ≤ l.g ∧ l.g ≤ 5) ∨ (l.s ≠ 3 ∧ l.g = 0)) ∧ ((l.s = 4 ∧ 0 ≤ l.c ∧ l.c ≤ 258) ∨ (l.s ≠ 4 ∧ l.c = 0))
instance (l : Lf) : Decidable (OkL l) := by unfold OkL; infer_instance
def okL (l : Lf) : Bool := decide (OkL l)

/-- may a happening be? -/
def OkH (h : Hp) : Prop := (h.k = 4 ∧ 0 ≤ h.n ∧ h.n ≤ 1048576 ∧ h.c = 0) ∨ (h.k = 2 ∧ 0 ≤ h.c ∧ h.c ≤ 255 ∧ h.n = 0) ∨ (h.k ≠ 4 ∧ h.k ≠ 2 ∧ 1 ≤ h.k ∧ h.k ≤ 6 ∧ h.n = 0 ∧ h.c = 0)
instance (h : Hp) : Decidable (OkH h) := by unfold OkH; infer_instance
def okH (h : Hp) : Bool := decide (OkH h)

def errL (l : Lf) : Int := if OkL l then 0 else 2

theorem errL_or (l : Lf) : (OkL l ∧ errL l = 0) ∨ (¬ OkL l ∧ errL l = 2) := by
  unfold errL; split
  · exact .inl ⟨‹_›, rfl⟩
  · exact .inr ⟨‹_›, rfl⟩
theorem okH_or (h : Hp) : (OkH h ∧ okH h = true) ∨ (¬ OkH h ∧ okH h = false) := by
  unfold okH
  by_cases e : OkH h
  · exact .inl ⟨e, decide_eq_true e⟩
  · exact .inr ⟨e, decide_eq_false e⟩

def dead (c : Int) : Lf := ⟨4, 0, c⟩
def none' : Lf := ⟨0, 0, 0⟩

/-- what a happening makes of a life -/
def step (l : Lf) (h : Hp) : Option Lf :=
  if l.s = 4 then (if h.k = 1 ∨ h.k = 2 then none else some l)
  else if h.k = 1 then (if l.s = 1 then some ⟨2, 0, 0⟩ else none)
  else if h.k = 2 then (if l.s = 3 then some (dead 256) else some (dead h.c))
  else if h.k = 3 then (if l.s = 1 then some (dead 256) else if l.s = 2 then some ⟨3, 5, 0⟩ else some l)
  else if h.k = 4 then (if l.s = 3 then (if l.g ≤ h.n then some (dead 256) else some ⟨l.s, l.g - h.n, l.c⟩) else some l)
  else if h.k = 5 then some (dead 257) else some (dead 258)

/-- the life behind a happening, the error -/
def happen (l : Lf) (h : Hp) : Lf × Nat :=
  if OkL l ∧ OkH h then
    match step l h with
    | some x => (x, 0)
    | none => (none', 13)
  else (none', 2)

/-- lives and refusals, happening by happening; 'none': one may not be -/
def run : Lf → Nat → List Hp → Option (Lf × Nat)
  | l, n, [] => some (l, n)
  | l, n, h :: r =>
    if (happen l h).2 = 0 then run (happen l h).1 n r
    else if (happen l h).2 = 13 then run l (n + 1) r
    else none

def all (l : Lf) (hs : List Hp) : Lf × Nat × Nat :=
  if OkL l then
    match run l 0 hs with
    | some (x, n) => (x, n, 0)
    | none => (none', 0, 2)
  else (none', 0, 2)

def bound (l : Lf) : Int := if l.s = 3 then l.g else if l.s = 2 then 5 else 0
def takes (l : Lf) : Bool := decide (OkL l ∧ l.s ≠ 4)
end Go.Proofs.Ytjfgjcoehahlcaa
