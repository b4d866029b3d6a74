/- Types and data of the schedule's statements. -/
import Derived.Test.YtmljoaiedihoiaaDoorAm24
import Derived.Test.YtmljoaiedihoiaaDoorProg
import Derived.KernelRfl
namespace Go.AM
set_option linter.unusedVariables false
set_option linter.unusedSimpArgs false
open Go Go.RowKit Go.Proofs

@[simp] theorem taGate : tAgg Tryd.prog 59 = some (true, 5) := by kernel_rfl
@[simp] theorem taInt : tAgg Tryd.prog 3 = some (false, 1) := by kernel_rfl
@[simp] theorem taU64 : tAgg Tryd.prog 22 = some (false, 1) := by kernel_rfl
@[simp] theorem taBool : tAgg Tryd.prog 4 = some (false, 1) := by kernel_rfl
@[simp] theorem taGates : tAgg Tryd.prog 23 = some (false, 1) := by kernel_rfl
@[simp] theorem taInts : tAgg Tryd.prog 24 = some (false, 1) := by kernel_rfl
@[simp] theorem taIntss : tAgg Tryd.prog 29 = some (false, 1) := by kernel_rfl
@[simp] theorem taCirc : tAgg Tryd.prog 26 = some (true, 3) := by kernel_rfl
@[simp] theorem taSched : tAgg Tryd.prog 31 = some (true, 1) := by kernel_rfl
@[simp] theorem tfGate0 : tField Tryd.prog 59 0 = some (0, false, 1) := by kernel_rfl
@[simp] theorem tfGate1 : tField Tryd.prog 59 1 = some (1, false, 1) := by kernel_rfl
@[simp] theorem tfGate2 : tField Tryd.prog 59 2 = some (2, false, 1) := by kernel_rfl
@[simp] theorem tfGate3 : tField Tryd.prog 59 3 = some (3, false, 1) := by kernel_rfl
@[simp] theorem tfGate4 : tField Tryd.prog 59 4 = some (4, false, 1) := by kernel_rfl
@[simp] theorem tfCirc0 : tField Tryd.prog 26 0 = some (0, false, 1) := by kernel_rfl
@[simp] theorem tfCirc1 : tField Tryd.prog 26 1 = some (1, false, 1) := by kernel_rfl
@[simp] theorem tfCirc2 : tField Tryd.prog 26 2 = some (2, false, 1) := by kernel_rfl
@[simp] theorem tfSched0 : tField Tryd.prog 31 0 = some (0, false, 1) := by kernel_rfl
@[simp] theorem teInts : tElem Tryd.prog 24 = some (3, 1, 8, [.int .i64 0]) := by kernel_rfl
@[simp] theorem teIntss : tElem Tryd.prog 29 = some (24, 1, 24, [.slice none 0 0]) := by kernel_rfl
@[simp] theorem teGates : tElem Tryd.prog 23 = some (59, 5, 40, [.int .i64 0, .int .i64 0, .int .i64 0, .int .i64 0, .int .u64 0]) := by kernel_rfl
@[simp] theorem tlGates : tLen Tryd.prog 23 = none := by kernel_rfl
@[simp] theorem tlInts : tLen Tryd.prog 24 = none := by kernel_rfl
@[simp] theorem tlIntss : tLen Tryd.prog 29 = none := by kernel_rfl
@[simp] theorem tzGate : tZero Tryd.prog 59 = some [.int .i64 0, .int .i64 0, .int .i64 0, .int .i64 0, .int .u64 0] := by kernel_rfl
@[simp] theorem tzSched : tZero Tryd.prog 31 = some [.slice none 0 0] := by kernel_rfl
@[simp] theorem tzInts : tZero Tryd.prog 24 = some [.slice none 0 0] := by kernel_rfl
instance tabI : Glob := ⟨[(0, [.v (.string ⟨#[105, 110]⟩), .v (.int .i64 1), .v (.bool true), .v (.bool false), .v (.bool false), .v (.bool false), .v (.bool false), .v (.string ⟨#[98, 105, 116]⟩), .v (.int .i64 1), .v (.bool true), .v (.bool false), .v (.bool false), .v (.bool false), .v (.bool true), .v (.string ⟨#[99, 111, 110, 115, 116]⟩), .v (.int .i64 2), .v (.bool false), .v (.bool true), .v (.bool false), .v (.bool false), .v (.bool false), .v (.string ⟨#[97, 100, 100]⟩), .v (.int .i64 3), .v (.bool false), .v (.bool false), .v (.bool true), .v (.bool true), .v (.bool false), .v (.string ⟨#[115, 117, 98]⟩), .v (.int .i64 4), .v (.bool false), .v (.bool false), .v (.bool true), .v (.bool true), .v (.bool false), .v (.string ⟨#[115, 99, 97, 108, 101]⟩), .v (.int .i64 5), .v (.bool false), .v (.bool true), .v (.bool true), .v (.bool false), .v (.bool false), .v (.string ⟨#[109, 117, 108]⟩), .v (.int .i64 6), .v (.bool false), .v (.bool false), .v (.bool true), .v (.bool true), .v (.bool false)])]⟩
@[simp] theorem tab_eq : (Glob.tab : List (Nat × List PV)) = [(0, [.v (.string ⟨#[105, 110]⟩), .v (.int .i64 1), .v (.bool true), .v (.bool false), .v (.bool false), .v (.bool false), .v (.bool false), .v (.string ⟨#[98, 105, 116]⟩), .v (.int .i64 1), .v (.bool true), .v (.bool false), .v (.bool false), .v (.bool false), .v (.bool true), .v (.string ⟨#[99, 111, 110, 115, 116]⟩), .v (.int .i64 2), .v (.bool false), .v (.bool true), .v (.bool false), .v (.bool false), .v (.bool false), .v (.string ⟨#[97, 100, 100]⟩), .v (.int .i64 3), .v (.bool false), .v (.bool false), .v (.bool true), .v (.bool true), .v (.bool false), .v (.string ⟨#[115, 117, 98]⟩), .v (.int .i64 4), .v (.bool false), .v (.bool false), .v (.bool true), .v (.bool true), .v (.bool false), .v (.string ⟨#[115, 99, 97, 108, 101]⟩), .v (.int .i64 5), .v (.bool false), .v (.bool true), .v (.bool true), .v (.bool false), .v (.bool false), .v (.string ⟨#[109, 117, 108]⟩), .v (.int .i64 6), .v (.bool false), .v (.bool false), .v (.bool true), .v (.bool true), .v (.bool false)])] := rfl
theorem mixed : Tryd.prog.follows .mixedOrders = true := by kernel_rfl

structure Gate where
  kind : Int
  frm : Int
  a : Int
  b : Int
  k : Int
def gateC (g : Gate) : List PV := [pi g.kind, pi g.frm, pi g.a, pi g.b, pu g.k]
abbrev gateA (g : Gate) : AV := .agg [.p (pi g.kind), .p (pi g.frm), .p (pi g.a), .p (pi g.b), .p (pu g.k)]
abbrev gateR (g : Gate) : List AV := [.p (pi g.kind), .p (pi g.frm), .p (pi g.a), .p (pi g.b), .p (pu g.k)]
abbrev gatesV (gs : List Gate) : AV := .p (.sl 5 (gs.map gateC))
abbrev circA (p : Int) (gs : List Gate) (os : List Int) : AV := .agg [au p, .p (.sl 5 (gs.map gateC)), .p (.sl 1 (ints os))]
abbrev circB (p : Int) (gs : List Gate) (os : List Int) : Blk := .row 0 26 3 [[au p, .p (.sl 5 (gs.map gateC)), .p (.sl 1 (ints os))]]
abbrev gateB (g : Gate) : Blk := .row 0 59 5 [[.p (pi g.kind), .p (pi g.frm), .p (pi g.a), .p (pi g.b), .p (pu g.k)]]
/-- The layers of a schedule. -/
def lays (l : List (List Int)) : List (List PV) := l.map fun x => [.sl 1 (ints x)]
@[simp] theorem lays_length (l : List (List Int)) : (lays l).length = l.length := by simp [lays]
@[simp] theorem lays_get (l : List (List Int)) (i : Nat) : (lays l)[i]? = (l[i]?).map fun x => [.sl 1 (ints x)] := by simp [lays]
abbrev schedA (l : List (List Int)) : AV := .agg [.p (.sl 1 (lays l))]
abbrev schedB (l : List (List Int)) : Blk := .row 0 31 1 [[.p (.sl 1 (lays l))]]

end Go.AM
