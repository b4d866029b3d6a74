/- Types and data of the schedule's statements. -/
import Derived.Test.YtmljoaiedihoiaaAm24
import Derived.Test.YtmljoaiedihoiaaProg
import Derived.KernelRfl
namespace Go.AM
set_option linter.unusedVariables false
set_option linter.unusedSimpArgs false
open Go Go.RowKit Go.Proofs

@[simp] theorem taGate : tAgg Try.prog 44 = some (true, 5) := by kernel_rfl
@[simp] theorem taInt : tAgg Try.prog 3 = some (false, 1) := by kernel_rfl
@[simp] theorem taU64 : tAgg Try.prog 22 = some (false, 1) := by kernel_rfl
@[simp] theorem taBool : tAgg Try.prog 4 = some (false, 1) := by kernel_rfl
@[simp] theorem taGates : tAgg Try.prog 23 = some (false, 1) := by kernel_rfl
@[simp] theorem taInts : tAgg Try.prog 24 = some (false, 1) := by kernel_rfl
@[simp] theorem taIntss : tAgg Try.prog 27 = some (false, 1) := by kernel_rfl
@[simp] theorem taCirc : tAgg Try.prog 26 = some (true, 3) := by kernel_rfl
@[simp] theorem taSched : tAgg Try.prog 29 = some (true, 1) := by kernel_rfl
@[simp] theorem tfGate0 : tField Try.prog 44 0 = some (0, false, 1) := by kernel_rfl
@[simp] theorem tfGate1 : tField Try.prog 44 1 = some (1, false, 1) := by kernel_rfl
@[simp] theorem tfGate2 : tField Try.prog 44 2 = some (2, false, 1) := by kernel_rfl
@[simp] theorem tfGate3 : tField Try.prog 44 3 = some (3, false, 1) := by kernel_rfl
@[simp] theorem tfGate4 : tField Try.prog 44 4 = some (4, false, 1) := by kernel_rfl
@[simp] theorem tfCirc0 : tField Try.prog 26 0 = some (0, false, 1) := by kernel_rfl
@[simp] theorem tfCirc1 : tField Try.prog 26 1 = some (1, false, 1) := by kernel_rfl
@[simp] theorem tfCirc2 : tField Try.prog 26 2 = some (2, false, 1) := by kernel_rfl
@[simp] theorem tfSched0 : tField Try.prog 29 0 = some (0, false, 1) := by kernel_rfl
@[simp] theorem teInts : tElem Try.prog 24 = some (3, 1, 8, [.int .i64 0]) := by kernel_rfl
@[simp] theorem teIntss : tElem Try.prog 27 = some (24, 1, 24, [.slice none 0 0]) := by kernel_rfl
@[simp] theorem teGates : tElem Try.prog 23 = some (44, 5, 40, [.int .i64 0, .int .i64 0, .int .i64 0, .int .i64 0, .int .u64 0]) := by kernel_rfl
@[simp] theorem tlGates : tLen Try.prog 23 = none := by kernel_rfl
@[simp] theorem tlInts : tLen Try.prog 24 = none := by kernel_rfl
@[simp] theorem tlIntss : tLen Try.prog 27 = none := by kernel_rfl
@[simp] theorem tzGate : tZero Try.prog 44 = some [.int .i64 0, .int .i64 0, .int .i64 0, .int .i64 0, .int .u64 0] := by kernel_rfl
@[simp] theorem tzSched : tZero Try.prog 29 = some [.slice none 0 0] := by kernel_rfl
@[simp] theorem tzInts : tZero Try.prog 24 = some [.slice none 0 0] := by kernel_rfl
theorem mixed : Try.prog.follows .mixedOrders = true := by kernel_rfl

structure Gate where
  kind : Int
  frm : Int
  a : Int
  b : Int
  k : Int
def gateC (g : Gate) : List PV := [pi g.kind, pi g.frm, pi g.a, pi g.b, pu g.k]
abbrev gateA (g : Gate) : AV := .agg [.p (pi g.kind), .p (pi g.frm), .p (pi g.a), .p (pi g.b), .p (pu g.k)]
abbrev gateR (g : Gate) : List AV := [.p (pi g.kind), .p (pi g.frm), .p (pi g.a), .p (pi g.b), .p (pu g.k)]
abbrev gatesV (gs : List Gate) : AV := .p (.sl 5 (gs.map gateC))
abbrev circA (p : Int) (gs : List Gate) (os : List Int) : AV := .agg [au p, .p (.sl 5 (gs.map gateC)), .p (.sl 1 (ints os))]
abbrev circB (p : Int) (gs : List Gate) (os : List Int) : Blk := .row 0 26 3 [[au p, .p (.sl 5 (gs.map gateC)), .p (.sl 1 (ints os))]]
abbrev gateB (g : Gate) : Blk := .row 0 44 5 [[.p (pi g.kind), .p (pi g.frm), .p (pi g.a), .p (pi g.b), .p (pu g.k)]]
/-- The layers of a schedule. -/
def lays (l : List (List Int)) : List (List PV) := l.map fun x => [.sl 1 (ints x)]
@[simp] theorem lays_length (l : List (List Int)) : (lays l).length = l.length := by simp [lays]
@[simp] theorem lays_get (l : List (List Int)) (i : Nat) : (lays l)[i]? = (l[i]?).map fun x => [.sl 1 (ints x)] := by simp [lays]
abbrev schedA (l : List (List Int)) : AV := .agg [.p (.sl 1 (lays l))]
abbrev schedB (l : List (List Int)) : Blk := .row 0 29 1 [[.p (.sl 1 (lays l))]]

end Go.AM
