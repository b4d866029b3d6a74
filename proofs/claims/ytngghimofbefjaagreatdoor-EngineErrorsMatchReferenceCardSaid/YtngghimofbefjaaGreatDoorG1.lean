/- Types and data of scenarios, for the engine's statements. -/
import Derived.Test.YtngghimofbefjaaGreatDoorS4
namespace Go.AM
set_option linter.unusedVariables false
set_option linter.unusedSimpArgs false
open Go Go.RowKit Go.Proofs


@[simp] theorem taStr : tAgg Tryz.prog 9 = some (false, 1) := by kernel_rfl
@[simp] theorem taBools : tAgg Tryz.prog 42 = some (false, 1) := by kernel_rfl
@[simp] theorem taWords : tAgg Tryz.prog 36 = some (false, 1) := by kernel_rfl
@[simp] theorem taWordss : tAgg Tryz.prog 27 = some (false, 1) := by kernel_rfl
@[simp] theorem taDevs : tAgg Tryz.prog 26 = some (false, 1) := by kernel_rfl
@[simp] theorem taDev : tAgg Tryz.prog 92 = some (true, 8) := by kernel_rfl
@[simp] theorem taParams : tAgg Tryz.prog 24 = some (true, 3) := by kernel_rfl
@[simp] theorem taScen : tAgg Tryz.prog 29 = some (true, 6) := by kernel_rfl
@[simp] theorem taRes : tAgg Tryz.prog 44 = some (true, 5) := by kernel_rfl
@[simp] theorem taRow : tAgg Tryz.prog 276 = some (true, 14) := by kernel_rfl
@[simp] theorem tfDev0 : tField Tryz.prog 92 0 = some (0, false, 1) := by kernel_rfl
@[simp] theorem tfDev1 : tField Tryz.prog 92 1 = some (1, false, 1) := by kernel_rfl
@[simp] theorem tfDev2 : tField Tryz.prog 92 2 = some (2, false, 1) := by kernel_rfl
@[simp] theorem tfDev3 : tField Tryz.prog 92 3 = some (3, false, 1) := by kernel_rfl
@[simp] theorem tfDev4 : tField Tryz.prog 92 4 = some (4, false, 1) := by kernel_rfl
@[simp] theorem tfDev6 : tField Tryz.prog 92 6 = some (6, false, 1) := by kernel_rfl
@[simp] theorem tfDev7 : tField Tryz.prog 92 7 = some (7, false, 1) := by kernel_rfl
@[simp] theorem tfParams0 : tField Tryz.prog 24 0 = some (0, false, 1) := by kernel_rfl
@[simp] theorem tfParams1 : tField Tryz.prog 24 1 = some (1, false, 1) := by kernel_rfl
@[simp] theorem tfParams2 : tField Tryz.prog 24 2 = some (2, false, 1) := by kernel_rfl
@[simp] theorem tfScen0 : tField Tryz.prog 29 0 = some (0, true, 3) := by kernel_rfl
@[simp] theorem tfScen1 : tField Tryz.prog 29 1 = some (3, false, 1) := by kernel_rfl
@[simp] theorem tfScen2 : tField Tryz.prog 29 2 = some (4, false, 1) := by kernel_rfl
@[simp] theorem tfScen3 : tField Tryz.prog 29 3 = some (5, false, 1) := by kernel_rfl
@[simp] theorem tfRes2 : tField Tryz.prog 44 2 = some (2, false, 1) := by kernel_rfl
@[simp] theorem tfRes3 : tField Tryz.prog 44 3 = some (3, false, 1) := by kernel_rfl
@[simp] theorem teBools : tElem Tryz.prog 42 = some (4, 1, 1, [.bool false]) := by kernel_rfl
@[simp] theorem teWords : tElem Tryz.prog 36 = some (22, 1, 8, [.int .u64 0]) := by kernel_rfl
@[simp] theorem teWordss : tElem Tryz.prog 27 = some (36, 1, 24, [.slice none 0 0]) := by kernel_rfl
@[simp] theorem teDevs : tElem Tryz.prog 26 = some (92, 8, 64, [.int .i64 0, .int .i64 0, .int .i64 0, .int .i64 0, .int .i64 0, .int .u64 0, .int .i64 0, .int .i64 0]) := by kernel_rfl
@[simp] theorem teRow : tElem Tryz.prog 276 = none := by kernel_rfl
@[simp] theorem trRow : tArr Tryz.prog 276 = some (14, 1, false) := by kernel_rfl
@[simp] theorem tlBools : tLen Tryz.prog 42 = none := by kernel_rfl
@[simp] theorem tlWords : tLen Tryz.prog 36 = none := by kernel_rfl
@[simp] theorem tlWordss : tLen Tryz.prog 27 = none := by kernel_rfl
@[simp] theorem tlDevs : tLen Tryz.prog 26 = none := by kernel_rfl
@[simp] theorem tzRow : tZero Tryz.prog 276 = some (List.replicate 14 (.bool false)) := by kernel_rfl
@[simp] theorem teqBool : tEq Tryz.prog 4 = some (false, [(0, .b)]) := by kernel_rfl
@[simp] theorem teqStr : tEq Tryz.prog 9 = some (false, [(0, .s)]) := by kernel_rfl

structure Dev where
  round : Int
  frm : Int
  to : Int
  at_ : Int
  kind : Int
  k : Int
  of_ : Int
  src : Int
def devC (d : Dev) : List PV := [pi d.round, pi d.frm, pi d.to, pi d.at_, pi d.kind, pu d.k, pi d.of_, pi d.src]
abbrev devA (d : Dev) : AV := .agg [.p (pi d.round), .p (pi d.frm), .p (pi d.to), .p (pi d.at_), .p (pi d.kind), .p (pu d.k), .p (pi d.of_), .p (pi d.src)]
structure Scen where
  p : Int
  n : Int
  t : Int
  bad : List Int
  devs : List Dev
  tapes : List (List Int)
/-- Rows of words. -/
def wrows (l : List (List Int)) : List (List PV) := l.map fun x => [.sl 1 (words x)]
@[simp] theorem wrows_length (l : List (List Int)) : (wrows l).length = l.length := by simp [wrows]
@[simp] theorem wrows_get (l : List (List Int)) (i : Nat) : (wrows l)[i]? = (l[i]?).map fun x => [.sl 1 (words x)] := by simp [wrows]
abbrev parA (p n t : Int) : AV := .agg [au p, ai n, ai t]
abbrev scenR (w : Scen) : List AV := [au w.p, ai w.n, ai w.t, .p (.sl 1 (ints w.bad)), .p (.sl 8 (w.devs.map devC)), .p (.sl 1 (wrows w.tapes))]
abbrev scenA (w : Scen) : AV := .agg (scenR w)
structure Res where
  outs : List (List PV)
  views : List (List PV)
  det : List (List Int)
  dis : List Bool
  rounds : Int
abbrev resR (r : Res) : List AV := [.p (.sl 1 r.outs), .p (.sl 1 r.views), .p (.sl 1 (lays r.det)), .p (.sl 1 (bools r.dis)), ai r.rounds]
abbrev resA (r : Res) : AV := .agg (resR r)

end Go.AM
