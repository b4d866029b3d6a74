/- Types and data of the schedule's statements. -/
import Derived.Test.YtngghimofbefjaaGreatDoorM2
import Derived.Test.YtngghimofbefjaaGreatDoorProg
import Derived.KernelRfl
namespace Go.AM
set_option linter.unusedVariables false
set_option linter.unusedSimpArgs false
open Go Go.RowKit Go.Proofs

@[simp] theorem taGate : tAgg Tryz.prog 87 = some (true, 5) := by kernel_rfl
@[simp] theorem taInt : tAgg Tryz.prog 3 = some (false, 1) := by kernel_rfl
@[simp] theorem taU64 : tAgg Tryz.prog 22 = some (false, 1) := by kernel_rfl
@[simp] theorem taBool : tAgg Tryz.prog 4 = some (false, 1) := by kernel_rfl
@[simp] theorem taGates : tAgg Tryz.prog 30 = some (false, 1) := by kernel_rfl
@[simp] theorem taInts : tAgg Tryz.prog 25 = some (false, 1) := by kernel_rfl
@[simp] theorem taIntss : tAgg Tryz.prog 41 = some (false, 1) := by kernel_rfl
@[simp] theorem taCirc : tAgg Tryz.prog 32 = some (true, 3) := by kernel_rfl
@[simp] theorem taSched : tAgg Tryz.prog 114 = some (true, 1) := by kernel_rfl
@[simp] theorem tfGate0 : tField Tryz.prog 87 0 = some (0, false, 1) := by kernel_rfl
@[simp] theorem tfGate1 : tField Tryz.prog 87 1 = some (1, false, 1) := by kernel_rfl
@[simp] theorem tfGate2 : tField Tryz.prog 87 2 = some (2, false, 1) := by kernel_rfl
@[simp] theorem tfGate3 : tField Tryz.prog 87 3 = some (3, false, 1) := by kernel_rfl
@[simp] theorem tfGate4 : tField Tryz.prog 87 4 = some (4, false, 1) := by kernel_rfl
@[simp] theorem tfCirc0 : tField Tryz.prog 32 0 = some (0, false, 1) := by kernel_rfl
@[simp] theorem tfCirc1 : tField Tryz.prog 32 1 = some (1, false, 1) := by kernel_rfl
@[simp] theorem tfCirc2 : tField Tryz.prog 32 2 = some (2, false, 1) := by kernel_rfl
@[simp] theorem tfSched0 : tField Tryz.prog 114 0 = some (0, false, 1) := by kernel_rfl
@[simp] theorem teInts : tElem Tryz.prog 25 = some (3, 1, 8, [.int .i64 0]) := by kernel_rfl
@[simp] theorem teIntss : tElem Tryz.prog 41 = some (25, 1, 24, [.slice none 0 0]) := by kernel_rfl
@[simp] theorem teGates : tElem Tryz.prog 30 = some (87, 5, 40, [.int .i64 0, .int .i64 0, .int .i64 0, .int .i64 0, .int .u64 0]) := by kernel_rfl
@[simp] theorem tlGates : tLen Tryz.prog 30 = none := by kernel_rfl
@[simp] theorem tlInts : tLen Tryz.prog 25 = none := by kernel_rfl
@[simp] theorem tlIntss : tLen Tryz.prog 41 = none := by kernel_rfl
@[simp] theorem tzGate : tZero Tryz.prog 87 = some [.int .i64 0, .int .i64 0, .int .i64 0, .int .i64 0, .int .u64 0] := by kernel_rfl
@[simp] theorem tzSched : tZero Tryz.prog 114 = some [.slice none 0 0] := by kernel_rfl
@[simp] theorem tzInts : tZero Tryz.prog 25 = some [.slice none 0 0] := by kernel_rfl
instance tabI : Glob := ⟨[(0, [.v (.int .i64 5), .v (.int .i64 7), .v (.int .i64 13), .v (.int .i64 17), .v (.int .i64 19), .v (.int .i64 31), .v (.int .i64 61)]), (1, [.v (.string ⟨#[105, 110]⟩), .v (.int .i64 1), .v (.bool true), .v (.bool false), .v (.bool false), .v (.bool false), .v (.bool false), .v (.string ⟨#[98, 105, 116]⟩), .v (.int .i64 1), .v (.bool true), .v (.bool false), .v (.bool false), .v (.bool false), .v (.bool true), .v (.string ⟨#[99, 111, 110, 115, 116]⟩), .v (.int .i64 2), .v (.bool false), .v (.bool true), .v (.bool false), .v (.bool false), .v (.bool false), .v (.string ⟨#[97, 100, 100]⟩), .v (.int .i64 3), .v (.bool false), .v (.bool false), .v (.bool true), .v (.bool true), .v (.bool false), .v (.string ⟨#[115, 117, 98]⟩), .v (.int .i64 4), .v (.bool false), .v (.bool false), .v (.bool true), .v (.bool true), .v (.bool false), .v (.string ⟨#[115, 99, 97, 108, 101]⟩), .v (.int .i64 5), .v (.bool false), .v (.bool true), .v (.bool true), .v (.bool false), .v (.bool false), .v (.string ⟨#[109, 117, 108]⟩), .v (.int .i64 6), .v (.bool false), .v (.bool false), .v (.bool true), .v (.bool true), .v (.bool false)])]⟩
@[simp] theorem tab_eq : (Glob.tab : List (Nat × List PV)) = [(0, [.v (.int .i64 5), .v (.int .i64 7), .v (.int .i64 13), .v (.int .i64 17), .v (.int .i64 19), .v (.int .i64 31), .v (.int .i64 61)]), (1, [.v (.string ⟨#[105, 110]⟩), .v (.int .i64 1), .v (.bool true), .v (.bool false), .v (.bool false), .v (.bool false), .v (.bool false), .v (.string ⟨#[98, 105, 116]⟩), .v (.int .i64 1), .v (.bool true), .v (.bool false), .v (.bool false), .v (.bool false), .v (.bool true), .v (.string ⟨#[99, 111, 110, 115, 116]⟩), .v (.int .i64 2), .v (.bool false), .v (.bool true), .v (.bool false), .v (.bool false), .v (.bool false), .v (.string ⟨#[97, 100, 100]⟩), .v (.int .i64 3), .v (.bool false), .v (.bool false), .v (.bool true), .v (.bool true), .v (.bool false), .v (.string ⟨#[115, 117, 98]⟩), .v (.int .i64 4), .v (.bool false), .v (.bool false), .v (.bool true), .v (.bool true), .v (.bool false), .v (.string ⟨#[115, 99, 97, 108, 101]⟩), .v (.int .i64 5), .v (.bool false), .v (.bool true), .v (.bool true), .v (.bool false), .v (.bool false), .v (.string ⟨#[109, 117, 108]⟩), .v (.int .i64 6), .v (.bool false), .v (.bool false), .v (.bool true), .v (.bool true), .v (.bool false)])] := rfl
theorem mixed : Tryz.prog.follows .mixedOrders = true := by kernel_rfl

structure Gate where
  kind : Int
  frm : Int
  a : Int
  b : Int
  k : Int
def gateC (g : Gate) : List PV := [pi g.kind, pi g.frm, pi g.a, pi g.b, pu g.k]
abbrev gateA (g : Gate) : AV := .agg [.p (pi g.kind), .p (pi g.frm), .p (pi g.a), .p (pi g.b), .p (pu g.k)]
abbrev gateR (g : Gate) : List AV := [.p (pi g.kind), .p (pi g.frm), .p (pi g.a), .p (pi g.b), .p (pu g.k)]
abbrev gatesV (gs : List Gate) : AV := .p (.sl 5 (gs.map gateC))
abbrev circA (p : Int) (gs : List Gate) (os : List Int) : AV := .agg [au p, .p (.sl 5 (gs.map gateC)), .p (.sl 1 (ints os))]
abbrev circB (p : Int) (gs : List Gate) (os : List Int) : Blk := .row 0 32 3 [[au p, .p (.sl 5 (gs.map gateC)), .p (.sl 1 (ints os))]]
abbrev gateB (g : Gate) : Blk := .row 0 87 5 [[.p (pi g.kind), .p (pi g.frm), .p (pi g.a), .p (pi g.b), .p (pu g.k)]]
/-- The layers of a schedule. -/
def lays (l : List (List Int)) : List (List PV) := l.map fun x => [.sl 1 (ints x)]
@[simp] theorem lays_length (l : List (List Int)) : (lays l).length = l.length := by simp [lays]
@[simp] theorem lays_get (l : List (List Int)) (i : Nat) : (lays l)[i]? = (l[i]?).map fun x => [.sl 1 (ints x)] := by simp [lays]
abbrev schedA (l : List (List Int)) : AV := .agg [.p (.sl 1 (lays l))]
abbrev schedB (l : List (List Int)) : Blk := .row 0 114 1 [[.p (.sl 1 (lays l))]]

end Go.AM
