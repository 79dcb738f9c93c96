/-
  No cell of these rows narrows 'for every input' (looked for: loops, veiled, ifaces, maps, wideKeys, modest, calm, conditions, laid).
  DERIVED. THE GIVEN ROWS OF THIS SEAT. 4 by the template 'for every input the law returns true; each argument reads behind the call as it read before'; 0 by the template 'total and deterministic' (their statements: YtjfgjcoehahlcaaTotals.lean).
  GIVEN WITH THE SEED: the statements are not yours to turn. If you find one false, say at which input.
  Laid BY PROGRAM, IN A SANDBOX (cutbox-rows.mjs): the forced cells as the released guide's own fill.sh prints them over the translation 063ff1860439c79b… (all of the seat's roots in one cut). By AI agents, Wed Nov 11 2026. No macro, syntax, notation, axiom, sorry.
-/
import Derived.Test.YtjfgjcoehahlcaaChecked
import GoSem.Claim
import GoSem.ClaimJoined
import GoSem.ClaimMapViews
import Derived.JoinedTies
import Derived.KernelRfl
namespace Go.Proofs.Ytjfgjcoehahlcaa
/- THE CELL 'sum', in the pinned program and in every row, IS THE sha256 OF THE DUMP (.gsa) THAT YtjfgjcoehahlcaaProg.lean LOADS. Nothing in Lean hashes anything: it is a label: what it is worth is what the hold of that sum in a sandbox is worth. -/
noncomputable def Try.pinned : Pinned := { name := "ytjfgjcoehahlcaa", sum := "063ff1860439c79bb8d9110e55670b439b7e60b1f314dce9f811aebfcd2ac2a2", checked := Try.checked }
namespace Rows
def none {H : Type} : Left H := { results := [], args := [] }

/-- 'berthmasterlaw26.TaskDies': WHATEVER THE INPUT: true; the input reads as it did. -/
def taskDiesSpec : ChangeSpec := { name := "taskDies", fn := fun _ => fun
  | [d1, d2] => { results := [.lit (.bool true)], args := [d1, d2] }
  | _ => none }
def taskDiesRow : OpenClaim := { program := "ytjfgjcoehahlcaa", sum := "063ff1860439c79bb8d9110e55670b439b7e60b1f314dce9f811aebfcd2ac2a2", func := "berthmaster/berthmasterlaw26.TaskDies", spec := "taskDies", unfollowed := true, recurses := true, apart := false }
def TaskDiesSaid : Prop := taskDiesRow.holds Try.pinned (OpenSpec.ofChange taskDiesSpec)

/-- ITS FALSE NEIGHBOUR: 'it returns false'. Refute it at one input. -/
def taskDiesWrong : ChangeSpec := { name := "taskDies", fn := fun _ => fun
  | [d1, d2] => { results := [.lit (.bool false)], args := [d1, d2] }
  | _ => none }
def TaskDiesWrongFalsely : Prop := taskDiesRow.holds Try.pinned (OpenSpec.ofChange taskDiesWrong)

/-- 'berthmasterlaw26.TaskNames': WHATEVER THE INPUT: true; the input reads as it did. -/
def taskNamesSpec : ChangeSpec := { name := "taskNames", fn := fun _ => fun
  | [] => { results := [.lit (.bool true)], args := [] }
  | _ => none }
def taskNamesRow : OpenClaim := { program := "ytjfgjcoehahlcaa", sum := "063ff1860439c79bb8d9110e55670b439b7e60b1f314dce9f811aebfcd2ac2a2", func := "berthmaster/berthmasterlaw26.TaskNames", spec := "taskNames", unfollowed := true, recurses := true, apart := false }
def TaskNamesSaid : Prop := taskNamesRow.holds Try.pinned (OpenSpec.ofChange taskNamesSpec)

/-- ITS FALSE NEIGHBOUR: 'it returns false'. Refute it at one input. -/
def taskNamesWrong : ChangeSpec := { name := "taskNames", fn := fun _ => fun
  | [] => { results := [.lit (.bool false)], args := [] }
  | _ => none }
def TaskNamesWrongFalsely : Prop := taskNamesRow.holds Try.pinned (OpenSpec.ofChange taskNamesWrong)

/-- 'berthmasterlaw26.TaskStops': WHATEVER THE INPUT: true; the input reads as it did. -/
def taskStopsSpec : ChangeSpec := { name := "taskStops", fn := fun _ => fun
  | [d1, d2] => { results := [.lit (.bool true)], args := [d1, d2] }
  | _ => none }
def taskStopsRow : OpenClaim := { program := "ytjfgjcoehahlcaa", sum := "063ff1860439c79bb8d9110e55670b439b7e60b1f314dce9f811aebfcd2ac2a2", func := "berthmaster/berthmasterlaw26.TaskStops", spec := "taskStops", unfollowed := true, recurses := true, apart := false }
def TaskStopsSaid : Prop := taskStopsRow.holds Try.pinned (OpenSpec.ofChange taskStopsSpec)

/-- ITS FALSE NEIGHBOUR: 'it returns false'. Refute it at one input. -/
def taskStopsWrong : ChangeSpec := { name := "taskStops", fn := fun _ => fun
  | [d1, d2] => { results := [.lit (.bool false)], args := [d1, d2] }
  | _ => none }
def TaskStopsWrongFalsely : Prop := taskStopsRow.holds Try.pinned (OpenSpec.ofChange taskStopsWrong)

/-- 'berthmasterlaw26.TaskCalls': WHATEVER THE INPUT: true; the input reads as it did. -/
def taskCallsSpec : ChangeSpec := { name := "taskCalls", fn := fun _ => fun
  | [d1, d2, d3] => { results := [.lit (.bool true)], args := [d1, d2, d3] }
  | _ => none }
def taskCallsRow : OpenClaim := { program := "ytjfgjcoehahlcaa", sum := "063ff1860439c79bb8d9110e55670b439b7e60b1f314dce9f811aebfcd2ac2a2", func := "berthmaster/berthmasterlaw26.TaskCalls", spec := "taskCalls", unfollowed := true, recurses := true, apart := false }
def TaskCallsSaid : Prop := taskCallsRow.holds Try.pinned (OpenSpec.ofChange taskCallsSpec)

/-- ITS FALSE NEIGHBOUR: 'it returns false'. Refute it at one input. -/
def taskCallsWrong : ChangeSpec := { name := "taskCalls", fn := fun _ => fun
  | [d1, d2, d3] => { results := [.lit (.bool false)], args := [d1, d2, d3] }
  | _ => none }
def TaskCallsWrongFalsely : Prop := taskCallsRow.holds Try.pinned (OpenSpec.ofChange taskCallsWrong)

/- THE SECOND FORM. 'bulk': how many values and letters a reading holds, each counted each time it is reached (what is shared counts as often as it is met; a slice's spare places count too). A statement '..UptoSaid' is the law's where the arguments, and the package variables that the reading takes, are together of bulk at most 1048576: NARROWER than '..Said'. Prove '..Said' where nothing that the law and all that it calls make is longer than what came in: it says more and counts as full. Else prove '..UptoSaid'. A law counts once. -/
mutual
def uptoBulk {H : Type} : DataW H → Nat
  | .lit (.string bytes) => bytes.length + 1
  | .lit _ => 1
  | .nil => 1
  | .ptr d => uptoBulk d + 1
  | .slice elems spare => uptoBulkAll elems + uptoBulkAll spare + 1
  | .agg parts => uptoBulkAll parts + 1
  | .iface _ d => uptoBulk d + 1
  | .map entries => uptoBulkEntries entries + 1
  | .held _ => 1
def uptoBulkAll {H : Type} : List (DataW H) → Nat
  | [] => 0
  | d :: r => uptoBulk d + uptoBulkAll r
def uptoBulkEntries {H : Type} : List (Lit × DataW H) → Nat
  | [] => 0
  | x :: r => uptoBulkEntry x + uptoBulkEntries r
def uptoBulkEntry {H : Type} : Lit × DataW H → Nat
  | (.string bytes, d) => bytes.length + uptoBulk d + 1
  | (_, d) => uptoBulk d + 1
 end
def uptoSmall : (H : Type) → List (DataW H) → Bool := fun _ ds => decide (uptoBulkAll ds ≤ 1048576)
def OpenSpec.upto (s : _root_.Go.ChangeSpec) : _root_.Go.OpenSpec := { _root_.Go.OpenSpec.ofChange s with cond := some uptoSmall }

/-- 'berthmasterlaw26.TaskDies', WHERE WHAT IT READS IS OF BULK AT MOST 1048576: true; the input reads as it did. -/
def taskDiesUptoRow : OpenClaim := { program := "ytjfgjcoehahlcaa", sum := "063ff1860439c79bb8d9110e55670b439b7e60b1f314dce9f811aebfcd2ac2a2", func := "berthmaster/berthmasterlaw26.TaskDies", spec := "taskDies", unfollowed := true, recurses := true, apart := false, narrowed := true }
def TaskDiesUptoSaid : Prop := taskDiesUptoRow.holds Try.pinned (OpenSpec.upto taskDiesSpec)

/-- 'berthmasterlaw26.TaskNames', WHERE WHAT IT READS IS OF BULK AT MOST 1048576: true; the input reads as it did. -/
def taskNamesUptoRow : OpenClaim := { program := "ytjfgjcoehahlcaa", sum := "063ff1860439c79bb8d9110e55670b439b7e60b1f314dce9f811aebfcd2ac2a2", func := "berthmaster/berthmasterlaw26.TaskNames", spec := "taskNames", unfollowed := true, recurses := true, apart := false, narrowed := true }
def TaskNamesUptoSaid : Prop := taskNamesUptoRow.holds Try.pinned (OpenSpec.upto taskNamesSpec)

/-- 'berthmasterlaw26.TaskStops', WHERE WHAT IT READS IS OF BULK AT MOST 1048576: true; the input reads as it did. -/
def taskStopsUptoRow : OpenClaim := { program := "ytjfgjcoehahlcaa", sum := "063ff1860439c79bb8d9110e55670b439b7e60b1f314dce9f811aebfcd2ac2a2", func := "berthmaster/berthmasterlaw26.TaskStops", spec := "taskStops", unfollowed := true, recurses := true, apart := false, narrowed := true }
def TaskStopsUptoSaid : Prop := taskStopsUptoRow.holds Try.pinned (OpenSpec.upto taskStopsSpec)

/-- 'berthmasterlaw26.TaskCalls', WHERE WHAT IT READS IS OF BULK AT MOST 1048576: true; the input reads as it did. -/
def taskCallsUptoRow : OpenClaim := { program := "ytjfgjcoehahlcaa", sum := "063ff1860439c79bb8d9110e55670b439b7e60b1f314dce9f811aebfcd2ac2a2", func := "berthmaster/berthmasterlaw26.TaskCalls", spec := "taskCalls", unfollowed := true, recurses := true, apart := false, narrowed := true }
def TaskCallsUptoSaid : Prop := taskCallsUptoRow.holds Try.pinned (OpenSpec.upto taskCallsSpec)

end Rows
end Go.Proofs.Ytjfgjcoehahlcaa
