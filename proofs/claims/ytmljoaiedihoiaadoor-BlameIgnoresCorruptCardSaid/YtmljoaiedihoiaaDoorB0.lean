/- Types and data of the statements about blame. -/
import Derived.Test.YtmljoaiedihoiaaDoorAm31
import Derived.Test.YtmljoaiedihoiaaDoorProg
import Derived.KernelRfl
namespace Go.AM
set_option linter.unusedVariables false
set_option linter.unusedSimpArgs false
open Go Go.RowKit Go.Proofs

instance tabI : Glob := ⟨[]⟩
@[simp] theorem tab_eq : (Glob.tab : List (Nat × List PV)) = [] := rfl
theorem mixed : Tryd.prog.follows .mixedOrders = true := by kernel_rfl

@[simp] theorem taInt : tAgg Tryd.prog 3 = some (false, 1) := by kernel_rfl
@[simp] theorem taU64 : tAgg Tryd.prog 22 = some (false, 1) := by kernel_rfl
@[simp] theorem taBool : tAgg Tryd.prog 4 = some (false, 1) := by kernel_rfl
@[simp] theorem taStr : tAgg Tryd.prog 9 = some (false, 1) := by kernel_rfl
@[simp] theorem taInts : tAgg Tryd.prog 24 = some (false, 1) := by kernel_rfl
@[simp] theorem taIntss : tAgg Tryd.prog 29 = some (false, 1) := by kernel_rfl
@[simp] theorem taBools : tAgg Tryd.prog 44 = some (false, 1) := by kernel_rfl
@[simp] theorem taWords : tAgg Tryd.prog 67 = some (false, 1) := by kernel_rfl
@[simp] theorem taWordss : tAgg Tryd.prog 40 = some (false, 1) := by kernel_rfl
@[simp] theorem taDevs : tAgg Tryd.prog 39 = some (false, 1) := by kernel_rfl
@[simp] theorem taDev : tAgg Tryd.prog 97 = some (true, 8) := by kernel_rfl
@[simp] theorem taParams : tAgg Tryd.prog 38 = some (true, 3) := by kernel_rfl
@[simp] theorem taScen : tAgg Tryd.prog 42 = some (true, 6) := by kernel_rfl
@[simp] theorem taRes : tAgg Tryd.prog 46 = some (true, 5) := by kernel_rfl
@[simp] theorem taRow : tAgg Tryd.prog 69 = some (true, 14) := by kernel_rfl
@[simp] theorem taSeen : tAgg Tryd.prog 71 = some (true, 196) := by kernel_rfl
@[simp] theorem tfDev0 : tField Tryd.prog 97 0 = some (0, false, 1) := by kernel_rfl
@[simp] theorem tfDev1 : tField Tryd.prog 97 1 = some (1, false, 1) := by kernel_rfl
@[simp] theorem tfDev2 : tField Tryd.prog 97 2 = some (2, false, 1) := by kernel_rfl
@[simp] theorem tfDev3 : tField Tryd.prog 97 3 = some (3, false, 1) := by kernel_rfl
@[simp] theorem tfDev4 : tField Tryd.prog 97 4 = some (4, false, 1) := by kernel_rfl
@[simp] theorem tfDev6 : tField Tryd.prog 97 6 = some (6, false, 1) := by kernel_rfl
@[simp] theorem tfDev7 : tField Tryd.prog 97 7 = some (7, false, 1) := by kernel_rfl
@[simp] theorem tfParams0 : tField Tryd.prog 38 0 = some (0, false, 1) := by kernel_rfl
@[simp] theorem tfParams1 : tField Tryd.prog 38 1 = some (1, false, 1) := by kernel_rfl
@[simp] theorem tfParams2 : tField Tryd.prog 38 2 = some (2, false, 1) := by kernel_rfl
@[simp] theorem tfScen0 : tField Tryd.prog 42 0 = some (0, true, 3) := by kernel_rfl
@[simp] theorem tfScen1 : tField Tryd.prog 42 1 = some (3, false, 1) := by kernel_rfl
@[simp] theorem tfScen2 : tField Tryd.prog 42 2 = some (4, false, 1) := by kernel_rfl
@[simp] theorem tfScen3 : tField Tryd.prog 42 3 = some (5, false, 1) := by kernel_rfl
@[simp] theorem tfRes2 : tField Tryd.prog 46 2 = some (2, false, 1) := by kernel_rfl
@[simp] theorem tfRes3 : tField Tryd.prog 46 3 = some (3, false, 1) := by kernel_rfl
@[simp] theorem teInts : tElem Tryd.prog 24 = some (3, 1, 8, [.int .i64 0]) := by kernel_rfl
@[simp] theorem teIntss : tElem Tryd.prog 29 = some (24, 1, 24, [.slice none 0 0]) := by kernel_rfl
@[simp] theorem teBools : tElem Tryd.prog 44 = some (4, 1, 1, [.bool false]) := by kernel_rfl
@[simp] theorem teWords : tElem Tryd.prog 67 = some (22, 1, 8, [.int .u64 0]) := by kernel_rfl
@[simp] theorem teWordss : tElem Tryd.prog 40 = some (67, 1, 24, [.slice none 0 0]) := by kernel_rfl
@[simp] theorem teDevs : tElem Tryd.prog 39 = some (97, 8, 64, [.int .i64 0, .int .i64 0, .int .i64 0, .int .i64 0, .int .i64 0, .int .u64 0, .int .i64 0, .int .i64 0]) := by kernel_rfl
@[simp] theorem teRow : tElem Tryd.prog 69 = none := by kernel_rfl
@[simp] theorem teSeen : tElem Tryd.prog 71 = none := by kernel_rfl
@[simp] theorem trRow : tArr Tryd.prog 69 = some (14, 1, false) := by kernel_rfl
@[simp] theorem trSeen : tArr Tryd.prog 71 = some (14, 14, true) := by kernel_rfl
@[simp] theorem tlInts : tLen Tryd.prog 24 = none := by kernel_rfl
@[simp] theorem tlIntss : tLen Tryd.prog 29 = none := by kernel_rfl
@[simp] theorem tlBools : tLen Tryd.prog 44 = none := by kernel_rfl
@[simp] theorem tlWords : tLen Tryd.prog 67 = none := by kernel_rfl
@[simp] theorem tlWordss : tLen Tryd.prog 40 = none := by kernel_rfl
@[simp] theorem tlDevs : tLen Tryd.prog 39 = none := by kernel_rfl
@[simp] theorem tkInt : tKind Tryd.prog 3 = some .i64 := by kernel_rfl
@[simp] theorem tkU64 : tKind Tryd.prog 22 = some .u64 := by kernel_rfl
@[simp] theorem tzRow : tZero Tryd.prog 69 = some (List.replicate 14 (.bool false)) := by kernel_rfl
@[simp] theorem tzSeen : tZero Tryd.prog 71 = some (List.replicate 196 (.bool false)) := by kernel_rfl
@[simp] theorem teqBool : tEq Tryd.prog 4 = some (false, [(0, .b)]) := by kernel_rfl
@[simp] theorem teqStr : tEq Tryd.prog 9 = some (false, [(0, .s)]) := by kernel_rfl

structure Dev where
  round : Int
  frm : Int
  to : Int
  at_ : Int
  kind : Int
  k : Int
  of_ : Int
  src : Int
def devC (d : Dev) : List PV := [pi d.round, pi d.frm, pi d.to, pi d.at_, pi d.kind, pu d.k, pi d.of_, pi d.src]
abbrev devA (d : Dev) : AV := .agg [.p (pi d.round), .p (pi d.frm), .p (pi d.to), .p (pi d.at_), .p (pi d.kind), .p (pu d.k), .p (pi d.of_), .p (pi d.src)]
structure Scen where
  p : Int
  n : Int
  t : Int
  bad : List Int
  devs : List Dev
  tapes : List (List Int)
/-- Rows of words. -/
def wrows (l : List (List Int)) : List (List PV) := l.map fun x => [.sl 1 (words x)]
@[simp] theorem wrows_length (l : List (List Int)) : (wrows l).length = l.length := by simp [wrows]
@[simp] theorem wrows_get (l : List (List Int)) (i : Nat) : (wrows l)[i]? = (l[i]?).map fun x => [.sl 1 (words x)] := by simp [wrows]
def lays (l : List (List Int)) : List (List PV) := l.map fun x => [.sl 1 (ints x)]
@[simp] theorem lays_length (l : List (List Int)) : (lays l).length = l.length := by simp [lays]
@[simp] theorem lays_get (l : List (List Int)) (i : Nat) : (lays l)[i]? = (l[i]?).map fun x => [.sl 1 (ints x)] := by simp [lays]
abbrev parA (p n t : Int) : AV := .agg [au p, ai n, ai t]
abbrev scenR (w : Scen) : List AV := [au w.p, ai w.n, ai w.t, .p (.sl 1 (ints w.bad)), .p (.sl 8 (w.devs.map devC)), .p (.sl 1 (wrows w.tapes))]
abbrev scenA (w : Scen) : AV := .agg (scenR w)
structure Res where
  outs : List (List PV)
  views : List (List PV)
  det : List (List Int)
  dis : List Bool
  rounds : Int
abbrev resR (r : Res) : List AV := [.p (.sl 1 r.outs), .p (.sl 1 r.views), .p (.sl 1 (lays r.det)), .p (.sl 1 (bools r.dis)), ai r.rounds]
abbrev resA (r : Res) : AV := .agg (resR r)

end Go.AM
