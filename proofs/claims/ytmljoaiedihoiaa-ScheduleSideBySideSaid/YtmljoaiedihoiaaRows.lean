/-
  No cell of these rows narrows 'for every input' (looked for: loops, veiled, ifaces, maps, wideKeys, modest, calm, conditions, laid).
  DERIVED. THE GIVEN ROWS OF THIS SEAT. 6 by the template 'for every input the law returns true; each argument reads behind the call as it read before'; 0 by the template 'total and deterministic' (their statements: YtmljoaiedihoiaaTotals.lean).
  GIVEN WITH THE SEED: the statements are not yours to turn. If you find one false, say at which input.
  Laid BY PROGRAM, IN A SANDBOX (cutbox-rows.mjs): the forced cells as the released guide's own fill.sh prints them over the translation d687d8182b57465c… (all of the seat's roots in one cut). By AI agents, Wed Nov 11 2026. No macro, syntax, notation, axiom, sorry.
-/
import Derived.Test.YtmljoaiedihoiaaChecked
import GoSem.Claim
import GoSem.ClaimJoined
import GoSem.ClaimMapViews
import Derived.JoinedTies
import Derived.KernelRfl
namespace Go.Proofs.Ytmljoaiedihoiaa
/- THE CELL 'sum', in the pinned program and in every row, IS THE sha256 OF THE DUMP (.gsa) THAT YtmljoaiedihoiaaProg.lean LOADS. Nothing in Lean hashes anything: it is a label: what it is worth is what the hold of that sum in a sandbox is worth. -/
noncomputable def Try.pinned : Pinned := { name := "ytmljoaiedihoiaa", sum := "d687d8182b57465c2e25bf58ae2f6b70a6b07ff2c70a6d7236575a2eff372430", checked := Try.checked }
namespace Rows
def none {H : Type} : Left H := { results := [], args := [] }

/-- 'privitylaw37.ScheduleValidMatchesReference': WHATEVER THE INPUT: true; the input reads as it did. -/
def scheduleValidMatchesReferenceSpec : ChangeSpec := { name := "scheduleValidMatchesReference", fn := fun _ => fun
  | [d1, d2] => { results := [.lit (.bool true)], args := [d1, d2] }
  | _ => none }
def scheduleValidMatchesReferenceRow : OpenClaim := { program := "ytmljoaiedihoiaa", sum := "d687d8182b57465c2e25bf58ae2f6b70a6b07ff2c70a6d7236575a2eff372430", func := "privity/privitylaw37.ScheduleValidMatchesReference", spec := "scheduleValidMatchesReference", unfollowed := true, recurses := true, apart := false }
def ScheduleValidMatchesReferenceSaid : Prop := scheduleValidMatchesReferenceRow.holds Try.pinned (OpenSpec.ofChange scheduleValidMatchesReferenceSpec)

/-- ITS FALSE NEIGHBOUR: 'it returns false'. Refute it at one input. -/
def scheduleValidMatchesReferenceWrong : ChangeSpec := { name := "scheduleValidMatchesReference", fn := fun _ => fun
  | [d1, d2] => { results := [.lit (.bool false)], args := [d1, d2] }
  | _ => none }
def ScheduleValidMatchesReferenceWrongFalsely : Prop := scheduleValidMatchesReferenceRow.holds Try.pinned (OpenSpec.ofChange scheduleValidMatchesReferenceWrong)

/-- 'privitylaw37.ScheduleIsOptimal': WHATEVER THE INPUT: true; the input reads as it did. -/
def scheduleIsOptimalSpec : ChangeSpec := { name := "scheduleIsOptimal", fn := fun _ => fun
  | [d1, d2] => { results := [.lit (.bool true)], args := [d1, d2] }
  | _ => none }
def scheduleIsOptimalRow : OpenClaim := { program := "ytmljoaiedihoiaa", sum := "d687d8182b57465c2e25bf58ae2f6b70a6b07ff2c70a6d7236575a2eff372430", func := "privity/privitylaw37.ScheduleIsOptimal", spec := "scheduleIsOptimal", unfollowed := true, recurses := true, apart := false }
def ScheduleIsOptimalSaid : Prop := scheduleIsOptimalRow.holds Try.pinned (OpenSpec.ofChange scheduleIsOptimalSpec)

/-- ITS FALSE NEIGHBOUR: 'it returns false'. Refute it at one input. -/
def scheduleIsOptimalWrong : ChangeSpec := { name := "scheduleIsOptimal", fn := fun _ => fun
  | [d1, d2] => { results := [.lit (.bool false)], args := [d1, d2] }
  | _ => none }
def ScheduleIsOptimalWrongFalsely : Prop := scheduleIsOptimalRow.holds Try.pinned (OpenSpec.ofChange scheduleIsOptimalWrong)

/-- 'privitylaw37.ScheduleOrderIsIrrelevant': WHATEVER THE INPUT: true; the input reads as it did. -/
def scheduleOrderIsIrrelevantSpec : ChangeSpec := { name := "scheduleOrderIsIrrelevant", fn := fun _ => fun
  | [d1, d2, d3] => { results := [.lit (.bool true)], args := [d1, d2, d3] }
  | _ => none }
def scheduleOrderIsIrrelevantRow : OpenClaim := { program := "ytmljoaiedihoiaa", sum := "d687d8182b57465c2e25bf58ae2f6b70a6b07ff2c70a6d7236575a2eff372430", func := "privity/privitylaw37.ScheduleOrderIsIrrelevant", spec := "scheduleOrderIsIrrelevant", unfollowed := true, recurses := true, apart := false }
def ScheduleOrderIsIrrelevantSaid : Prop := scheduleOrderIsIrrelevantRow.holds Try.pinned (OpenSpec.ofChange scheduleOrderIsIrrelevantSpec)

/-- ITS FALSE NEIGHBOUR: 'it returns false'. Refute it at one input. -/
def scheduleOrderIsIrrelevantWrong : ChangeSpec := { name := "scheduleOrderIsIrrelevant", fn := fun _ => fun
  | [d1, d2, d3] => { results := [.lit (.bool false)], args := [d1, d2, d3] }
  | _ => none }
def ScheduleOrderIsIrrelevantWrongFalsely : Prop := scheduleOrderIsIrrelevantRow.holds Try.pinned (OpenSpec.ofChange scheduleOrderIsIrrelevantWrong)

/-- 'privitylaw37.ScheduleCostsMatchReference': WHATEVER THE INPUT: true; the input reads as it did. -/
def scheduleCostsMatchReferenceSpec : ChangeSpec := { name := "scheduleCostsMatchReference", fn := fun _ => fun
  | [d1, d2] => { results := [.lit (.bool true)], args := [d1, d2] }
  | _ => none }
def scheduleCostsMatchReferenceRow : OpenClaim := { program := "ytmljoaiedihoiaa", sum := "d687d8182b57465c2e25bf58ae2f6b70a6b07ff2c70a6d7236575a2eff372430", func := "privity/privitylaw37.ScheduleCostsMatchReference", spec := "scheduleCostsMatchReference", unfollowed := true, recurses := true, apart := false }
def ScheduleCostsMatchReferenceSaid : Prop := scheduleCostsMatchReferenceRow.holds Try.pinned (OpenSpec.ofChange scheduleCostsMatchReferenceSpec)

/-- ITS FALSE NEIGHBOUR: 'it returns false'. Refute it at one input. -/
def scheduleCostsMatchReferenceWrong : ChangeSpec := { name := "scheduleCostsMatchReference", fn := fun _ => fun
  | [d1, d2] => { results := [.lit (.bool false)], args := [d1, d2] }
  | _ => none }
def ScheduleCostsMatchReferenceWrongFalsely : Prop := scheduleCostsMatchReferenceRow.holds Try.pinned (OpenSpec.ofChange scheduleCostsMatchReferenceWrong)

/-- 'privitylaw37.ScheduleSequential': WHATEVER THE INPUT: true; the input reads as it did. -/
def scheduleSequentialSpec : ChangeSpec := { name := "scheduleSequential", fn := fun _ => fun
  | [d] => { results := [.lit (.bool true)], args := [d] }
  | _ => none }
def scheduleSequentialRow : OpenClaim := { program := "ytmljoaiedihoiaa", sum := "d687d8182b57465c2e25bf58ae2f6b70a6b07ff2c70a6d7236575a2eff372430", func := "privity/privitylaw37.ScheduleSequential", spec := "scheduleSequential", unfollowed := true, recurses := true, apart := false }
def ScheduleSequentialSaid : Prop := scheduleSequentialRow.holds Try.pinned (OpenSpec.ofChange scheduleSequentialSpec)

/-- ITS FALSE NEIGHBOUR: 'it returns false'. Refute it at one input. -/
def scheduleSequentialWrong : ChangeSpec := { name := "scheduleSequential", fn := fun _ => fun
  | [d] => { results := [.lit (.bool false)], args := [d] }
  | _ => none }
def ScheduleSequentialWrongFalsely : Prop := scheduleSequentialRow.holds Try.pinned (OpenSpec.ofChange scheduleSequentialWrong)

/-- 'privitylaw37.ScheduleSideBySide': WHATEVER THE INPUT: true; the input reads as it did. -/
def scheduleSideBySideSpec : ChangeSpec := { name := "scheduleSideBySide", fn := fun _ => fun
  | [d1, d2] => { results := [.lit (.bool true)], args := [d1, d2] }
  | _ => none }
def scheduleSideBySideRow : OpenClaim := { program := "ytmljoaiedihoiaa", sum := "d687d8182b57465c2e25bf58ae2f6b70a6b07ff2c70a6d7236575a2eff372430", func := "privity/privitylaw37.ScheduleSideBySide", spec := "scheduleSideBySide", unfollowed := true, recurses := true, apart := false }
def ScheduleSideBySideSaid : Prop := scheduleSideBySideRow.holds Try.pinned (OpenSpec.ofChange scheduleSideBySideSpec)

/-- ITS FALSE NEIGHBOUR: 'it returns false'. Refute it at one input. -/
def scheduleSideBySideWrong : ChangeSpec := { name := "scheduleSideBySide", fn := fun _ => fun
  | [d1, d2] => { results := [.lit (.bool false)], args := [d1, d2] }
  | _ => none }
def ScheduleSideBySideWrongFalsely : Prop := scheduleSideBySideRow.holds Try.pinned (OpenSpec.ofChange scheduleSideBySideWrong)

/- THE SECOND FORM. 'bulk': how many values and letters a reading holds, each counted each time it is reached (what is shared counts as often as it is met; a slice's spare places count too). A statement '..UptoSaid' is the law's where the arguments, and the package variables that the reading takes, are together of bulk at most 1048576: NARROWER than '..Said'. Prove '..Said' where nothing that the law and all that it calls make is longer than what came in: it says more and counts as full. Else prove '..UptoSaid'. A law counts once. -/
mutual
def uptoBulk {H : Type} : DataW H → Nat
  | .lit (.string bytes) => bytes.length + 1
  | .lit _ => 1
  | .nil => 1
  | .ptr d => uptoBulk d + 1
  | .slice elems spare => uptoBulkAll elems + uptoBulkAll spare + 1
  | .agg parts => uptoBulkAll parts + 1
  | .iface _ d => uptoBulk d + 1
  | .map entries => uptoBulkEntries entries + 1
  | .held _ => 1
def uptoBulkAll {H : Type} : List (DataW H) → Nat
  | [] => 0
  | d :: r => uptoBulk d + uptoBulkAll r
def uptoBulkEntries {H : Type} : List (Lit × DataW H) → Nat
  | [] => 0
  | x :: r => uptoBulkEntry x + uptoBulkEntries r
def uptoBulkEntry {H : Type} : Lit × DataW H → Nat
  | (.string bytes, d) => bytes.length + uptoBulk d + 1
  | (_, d) => uptoBulk d + 1
 end
def uptoSmall : (H : Type) → List (DataW H) → Bool := fun _ ds => decide (uptoBulkAll ds ≤ 1048576)
def OpenSpec.upto (s : _root_.Go.ChangeSpec) : _root_.Go.OpenSpec := { _root_.Go.OpenSpec.ofChange s with cond := some uptoSmall }

/-- 'privitylaw37.ScheduleValidMatchesReference', WHERE WHAT IT READS IS OF BULK AT MOST 1048576: true; the input reads as it did. -/
def scheduleValidMatchesReferenceUptoRow : OpenClaim := { program := "ytmljoaiedihoiaa", sum := "d687d8182b57465c2e25bf58ae2f6b70a6b07ff2c70a6d7236575a2eff372430", func := "privity/privitylaw37.ScheduleValidMatchesReference", spec := "scheduleValidMatchesReference", unfollowed := true, recurses := true, apart := false, narrowed := true }
def ScheduleValidMatchesReferenceUptoSaid : Prop := scheduleValidMatchesReferenceUptoRow.holds Try.pinned (OpenSpec.upto scheduleValidMatchesReferenceSpec)

/-- 'privitylaw37.ScheduleIsOptimal', WHERE WHAT IT READS IS OF BULK AT MOST 1048576: true; the input reads as it did. -/
def scheduleIsOptimalUptoRow : OpenClaim := { program := "ytmljoaiedihoiaa", sum := "d687d8182b57465c2e25bf58ae2f6b70a6b07ff2c70a6d7236575a2eff372430", func := "privity/privitylaw37.ScheduleIsOptimal", spec := "scheduleIsOptimal", unfollowed := true, recurses := true, apart := false, narrowed := true }
def ScheduleIsOptimalUptoSaid : Prop := scheduleIsOptimalUptoRow.holds Try.pinned (OpenSpec.upto scheduleIsOptimalSpec)

/-- 'privitylaw37.ScheduleOrderIsIrrelevant', WHERE WHAT IT READS IS OF BULK AT MOST 1048576: true; the input reads as it did. -/
def scheduleOrderIsIrrelevantUptoRow : OpenClaim := { program := "ytmljoaiedihoiaa", sum := "d687d8182b57465c2e25bf58ae2f6b70a6b07ff2c70a6d7236575a2eff372430", func := "privity/privitylaw37.ScheduleOrderIsIrrelevant", spec := "scheduleOrderIsIrrelevant", unfollowed := true, recurses := true, apart := false, narrowed := true }
def ScheduleOrderIsIrrelevantUptoSaid : Prop := scheduleOrderIsIrrelevantUptoRow.holds Try.pinned (OpenSpec.upto scheduleOrderIsIrrelevantSpec)

/-- 'privitylaw37.ScheduleCostsMatchReference', WHERE WHAT IT READS IS OF BULK AT MOST 1048576: true; the input reads as it did. -/
def scheduleCostsMatchReferenceUptoRow : OpenClaim := { program := "ytmljoaiedihoiaa", sum := "d687d8182b57465c2e25bf58ae2f6b70a6b07ff2c70a6d7236575a2eff372430", func := "privity/privitylaw37.ScheduleCostsMatchReference", spec := "scheduleCostsMatchReference", unfollowed := true, recurses := true, apart := false, narrowed := true }
def ScheduleCostsMatchReferenceUptoSaid : Prop := scheduleCostsMatchReferenceUptoRow.holds Try.pinned (OpenSpec.upto scheduleCostsMatchReferenceSpec)

/-- 'privitylaw37.ScheduleSequential', WHERE WHAT IT READS IS OF BULK AT MOST 1048576: true; the input reads as it did. -/
def scheduleSequentialUptoRow : OpenClaim := { program := "ytmljoaiedihoiaa", sum := "d687d8182b57465c2e25bf58ae2f6b70a6b07ff2c70a6d7236575a2eff372430", func := "privity/privitylaw37.ScheduleSequential", spec := "scheduleSequential", unfollowed := true, recurses := true, apart := false, narrowed := true }
def ScheduleSequentialUptoSaid : Prop := scheduleSequentialUptoRow.holds Try.pinned (OpenSpec.upto scheduleSequentialSpec)

/-- 'privitylaw37.ScheduleSideBySide', WHERE WHAT IT READS IS OF BULK AT MOST 1048576: true; the input reads as it did. -/
def scheduleSideBySideUptoRow : OpenClaim := { program := "ytmljoaiedihoiaa", sum := "d687d8182b57465c2e25bf58ae2f6b70a6b07ff2c70a6d7236575a2eff372430", func := "privity/privitylaw37.ScheduleSideBySide", spec := "scheduleSideBySide", unfollowed := true, recurses := true, apart := false, narrowed := true }
def ScheduleSideBySideUptoSaid : Prop := scheduleSideBySideUptoRow.holds Try.pinned (OpenSpec.upto scheduleSideBySideSpec)

end Rows
end Go.Proofs.Ytmljoaiedihoiaa
