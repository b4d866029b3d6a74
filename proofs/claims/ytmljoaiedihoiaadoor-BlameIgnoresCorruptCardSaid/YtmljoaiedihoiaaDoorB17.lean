/- The laws' example. -/
import Derived.Test.YtmljoaiedihoiaaDoorB16
namespace Go.AM
set_option linter.unusedVariables false
set_option linter.unusedSimpArgs false
open Go Go.RowKit Go.Proofs

section
variable [Glob]
/-- What holds with weaker knowledge of the arguments. -/
theorem pure_args {P : Program} {f : FuncId} {xs ys : List AV} {v : AV} (h : Pure P f xs v) (hw : ∀ G vs, RelL G ys vs → RelL G xs vs) : Pure P f ys v :=
  fun F n hF G w vs H hr => h F n hF G w vs H (hw G vs hr)
end

@[simp] theorem tzParams : tZero Tryd.prog 38 = some [.int .u64 0, .int .i64 0, .int .i64 0] := by kernel_rfl
@[simp] theorem tsParams : tStruct Tryd.prog 38 = some [(0, 1), (1, 1), (2, 1)] := by kernel_rfl
@[simp] theorem tzScen : tZero Tryd.prog 42 = some [.int .u64 0, .int .i64 0, .int .i64 0, .slice none 0 0, .slice none 0 0, .slice none 0 0] := by kernel_rfl
@[simp] theorem tsScen : tStruct Tryd.prog 42 = some [(0, 3), (3, 1), (4, 1), (5, 1)] := by kernel_rfl
@[simp] theorem tzRes : tZero Tryd.prog 46 = some [.slice none 0 0, .slice none 0 0, .slice none 0 0, .slice none 0 0, .int .i64 0] := by kernel_rfl
@[simp] theorem tsRes : tStruct Tryd.prog 46 = some [(0, 1), (1, 1), (2, 1), (3, 1), (4, 1)] := by kernel_rfl

def w0 : Scen := ⟨31, 4, 1, [2], [], [[], [], [], []]⟩
def r0 : Res := ⟨[], [], [[2], [1], [2], []], [false, true, false, false], 0⟩
def r1 : Res := ⟨[], [], [[3], [1], [2], []], [false, true, false, false], 0⟩
def rN : Res := ⟨[], [], [], [], 0⟩
theorem det0 : detL w0 r0 = [2] := by decide
theorem det1 : onlyL w0.bad (detL w0 r1) = false := by decide
theorem fmtN : fmtS w0 rN = sNobody := by decide
theorem fmt0 : fmtS w0 r0 = ⟨#[50, 32, 111, 117, 116, 32, 115, 101, 101, 110, 32, 98, 121, 32, 49, 32, 51, 10]⟩ := by decide

abbrev nilv : AV := .p (.v (.slice none 0 0))
theorem format_nil : Pure Tryd.prog 21 [scenA w0, .agg [nilv, nilv, nilv, nilv, ai 0]] (astr sNobody) := by
  rw [← fmtN]
  refine pure_args (format_spec w0 rN (Small.mk (by decide)) (by decide) (by decide) (by decide) (by intro x hx; refine Small.mk ?_; revert x; decide) (Small.mk (by decide)) (Small.mk (by decide))) fun G vs h => ?_
  cases vs with
  | nil => simp [RelL] at h
  | cons v vs =>
    cases vs with
    | nil => simp [RelL] at h
    | cons u vs =>
      simp only [RelL] at h ⊢
      refine ⟨h.1, ?_, h.2.2⟩
      have h := h.2.1
      simp only [Rel] at h ⊢
      obtain ⟨us, e, h⟩ := h
      refine ⟨us, e, ?_⟩
      revert h
      match us.toList with
      | [a, b, c, d, f] => simp only [RelL]; exact fun ⟨h1, h2, h3, h4, h5⟩ => ⟨nil_rel h1, nil_rel h2, nil_rel h3, nil_rel h4, h5⟩
      | [] => simp [RelL]
      | [_] => simp [RelL]
      | [_, _] => simp [RelL]
      | [_, _, _] => simp [RelL]
      | [_, _, _, _] => simp [RelL]
      | _ :: _ :: _ :: _ :: _ :: _ :: _ => simp [RelL]

theorem prel_nil {M : Nat → Nat → Option Value} {sz : Nat} {v : Value} (h : PRel M (.v (.slice none 0 0)) v) : PRel M (.sl sz []) v := by
  simp only [PRel] at h ⊢
  subst h
  exact ⟨none, 0, 0, by simp [PEls]⟩
theorem sl_nil {G : Gh} {v : Value} {a b c : PV} (h : Rel G (.p (.sl 1 [[a], [b], [c], [.v (.slice none 0 0)]])) v) : Rel G (.p (.sl 1 [[a], [b], [c], [.sl 1 []]])) v := by
  simp only [Rel] at h ⊢
  rw [PRel] at h ⊢
  obtain ⟨x, n, k, h1, h2, h3, h4, h5⟩ := h
  refine ⟨x, n, k, h1, h2, h3, h4, .inr ?_⟩
  rcases h5 with h5 | ⟨p, o, h5, h6⟩
  · cases h5
  · refine ⟨p, o, h5, ?_⟩
    simp only [PEls, PCells] at h6 ⊢
    obtain ⟨a1, a2, b1, b2, c1, c2, d1, ⟨⟨y, d2, d3⟩, d4⟩, d5⟩ := h6
    exact ⟨a1, a2, b1, b2, c1, c2, d1, ⟨⟨y, d2, prel_nil d3⟩, d4⟩, d5⟩

theorem format_some : Pure Tryd.prog 21 [scenA w0, .agg [nilv, nilv, .p (.sl 1 [[.sl 1 [[pi 2]]], [.sl 1 [[pi 1]]], [.sl 1 [[pi 2]]], [.v (.slice none 0 0)]]), .p (.sl 1 [[pb false], [pb true], [pb false], [pb false]]), ai 0]] (astr (fmtS w0 r0)) := by
  refine pure_args (format_spec w0 r0 (Small.mk (by decide)) (by decide) (by decide) (by decide) (by intro x hx; refine Small.mk ?_; revert x; decide) (Small.mk (by decide)) (Small.mk (by decide))) fun G vs h => ?_
  cases vs with
  | nil => simp [RelL] at h
  | cons v vs =>
    cases vs with
    | nil => simp [RelL] at h
    | cons u vs =>
      simp only [RelL] at h ⊢
      refine ⟨h.1, ?_, h.2.2⟩
      have h := h.2.1
      simp only [Rel] at h ⊢
      obtain ⟨us, e, h⟩ := h
      refine ⟨us, e, ?_⟩
      revert h
      match us.toList with
      | [a, b, c, d, f] => simp only [RelL]; exact fun ⟨h1, h2, h3, h4, h5⟩ => ⟨nil_rel h1, nil_rel h2, sl_nil h3, h4, h5⟩
      | [] => simp [RelL]
      | [_] => simp [RelL]
      | [_, _] => simp [RelL]
      | [_, _, _] => simp [RelL]
      | [_, _, _, _] => simp [RelL]
      | _ :: _ :: _ :: _ :: _ :: _ :: _ => simp [RelL]

theorem format_own (a b c d e : Nat) : Does Tryd.prog 21 [scenA w0, .agg [nilv, nilv, .own e 0 0 4, .own a 0 0 4, ai 0]]
    [(a, .row 0 4 1 [[ab false], [ab true], [ab false], [ab false]]), (b, .row 0 3 1 [[ai 2]]), (c, .row 0 3 1 [[ai 1]]), (d, .row 0 3 1 [[ai 2]]), (e, .row 0 24 1 [[.own b 0 0 1], [.own c 0 0 1], [.own d 0 0 1], [nilv]])] [] (astr (fmtS w0 r0)) :=
  does_view 3 format_some fun F h => by
    have h1 := h _ (List.mem_cons_self ..)
    have h2 := h _ (List.mem_cons_of_mem _ (List.mem_cons_self ..))
    have h3 := h _ (List.mem_cons_of_mem _ (List.mem_cons_of_mem _ (List.mem_cons_self ..)))
    have h4 := h _ (List.mem_cons_of_mem _ (List.mem_cons_of_mem _ (List.mem_cons_of_mem _ (List.mem_cons_self ..))))
    have h5 := h _ (List.mem_cons_of_mem _ (List.mem_cons_of_mem _ (List.mem_cons_of_mem _ (List.mem_cons_of_mem _ (List.mem_cons_self ..)))))
    simp [viewA, viewP, h1, h2, h3, h4, h5]

set_option maxHeartbeats 4000000 in
theorem awake_spec : Pure Tryd.prog 15 [] (ab true) := by
  refine pure_of Tryd.func15 rfl Tryd.ntmps15 (by simp) fun F n hF hn hn0 => ?_
  have s4 : Small 4 := Small.mk (by omega)
  repeat' (first
    | (refine sw_seq ?_) | (refine sw_block ?_) | (refine sw_skip ?_)
    | (refine n_then ?_) | (refine r_then ?_) | (refine e_then ?_) | (refine n_block ?_) | (refine r_block ?_) | (refine e_block ?_) | (refine o_block rfl ?_)
    | (refine sw_run (by simp [-getElem?_pos, -List.reduceReplicate, List.getElem?_cons_zero, List.getElem?_cons_succ, s4]; exact Is.mk _) ?_) | fail)
  refine sw_weak (t' := [(0, ab false), (1, .ptr (n + 2) 0 0 0), (2, .ptr (n + 8) 0 0 0)]) (L' := [(n + 8, .row 0 46 5 [[.p (.sl 1 []), .p (.sl 1 []), .own (n + 7) 0 0 4, .own (n + 3) 0 0 4, ai 0]]), (n + 7, .row 0 24 1 [[.own (n + 4) 0 0 1], [.own (n + 5) 0 0 1], [.own (n + 6) 0 0 1], [.p (.sl 1 [])]]), (n + 6, .row 0 3 1 (pcells (ints [2]))), (n + 5, .row 0 3 1 (pcells (ints [1]))), (n + 4, .row 0 3 1 (pcells (ints [2]))), (n + 3, .row 0 4 1 (pcells (bools [false, true, false, false]))), (n + 2, .row 0 42 6 [[au 31, ai 4, ai 1, .own n 0 0 1, .p (.sl 8 []), .own (n + 1) 0 0 4]]), (n + 1, .row 0 67 1 (pcells (wrows [[], [], [], []]))), (n, .row 0 3 1 (pcells (ints [2])))]) (n' := n + 9) (weak_nils_hp (by simp [Nat.add_assoc]) (by simp [Nat.add_assoc, pcells, ints, bools, wrows, words, convB, convE, convL, conv]) (by simp [Nat.add_assoc])) (fresh_of hF (by omega) (by simp)) ?_
  refine sw_weak (t' := [(0, ab false), (1, .ptr (n + 2) 0 0 0), (2, .ptr (n + 8) 0 0 0)]) (L' := [(n + 8, .row 0 46 5 [[.p (.sl 1 []), .p (.sl 1 []), .own (n + 7) 0 0 4, .own (n + 3) 0 0 4, ai 0]]), (n + 7, .row 0 24 1 [[.own (n + 4) 0 0 1], [.own (n + 5) 0 0 1], [.own (n + 6) 0 0 1], [.p (.sl 1 [])]]), (n + 6, .row 0 3 1 (pcells (ints [2]))), (n + 5, .row 0 3 1 (pcells (ints [1]))), (n + 4, .row 0 3 1 (pcells (ints [2]))), (n + 3, .row 0 4 1 (pcells (bools [false, true, false, false]))), (n + 2, .row 0 42 6 [[au 31, ai 4, ai 1, .p (.sl 1 (ints [2])), .p (.sl 8 []), .own (n + 1) 0 0 4]]), (n + 1, .row 0 67 1 (pcells (wrows [[], [], [], []])))]) (n' := n + 9) (weak_freeze_hp (id := n) (ver := 0) (sz := 1) (e := 3) (es := ints [2]) (by simp [hn, hn0]) (by simp [hn, hn0]) (by simp [hn, hn0]) (by simp [hn, hn0, pcells, ints, bools, wrows, words, convB, convE, convL, conv, frzA_own]) (by simp [hn, hn0])) (fresh_of hF (by omega) (by simp)) ?_
  refine sw_weak (t' := [(0, ab false), (1, .ptr (n + 2) 0 0 0), (2, .ptr (n + 8) 0 0 0)]) (L' := [(n + 8, .row 0 46 5 [[.p (.sl 1 []), .p (.sl 1 []), .own (n + 7) 0 0 4, .own (n + 3) 0 0 4, ai 0]]), (n + 7, .row 0 24 1 [[.own (n + 4) 0 0 1], [.own (n + 5) 0 0 1], [.own (n + 6) 0 0 1], [.p (.sl 1 [])]]), (n + 6, .row 0 3 1 (pcells (ints [2]))), (n + 5, .row 0 3 1 (pcells (ints [1]))), (n + 4, .row 0 3 1 (pcells (ints [2]))), (n + 3, .row 0 4 1 (pcells (bools [false, true, false, false]))), (n + 2, .row 0 42 6 [[au 31, ai 4, ai 1, .p (.sl 1 (ints [2])), .p (.sl 8 []), .p (.sl 1 (wrows [[], [], [], []]))]])]) (n' := n + 9) (weak_freeze_hp (id := n + 1) (ver := 0) (sz := 1) (e := 67) (es := wrows [[], [], [], []]) (by simp [hn, hn0]) (by simp [hn, hn0]) (by simp [hn, hn0]) (by simp [hn, hn0, pcells, ints, bools, wrows, words, convB, convE, convL, conv, frzA_own]) (by simp [hn, hn0])) (fresh_of hF (by omega) (by simp)) ?_
  refine sw_weak (t' := [(0, ab false), (1, .ptr (n + 2) 0 0 0), (2, .ptr (n + 8) 0 0 0)]) (L' := [(n + 8, .row 0 46 5 [[.p (.sl 1 []), .p (.sl 1 []), .own (n + 7) 0 0 4, .p (.sl 1 (bools [false, true, false, false])), ai 0]]), (n + 7, .row 0 24 1 [[.own (n + 4) 0 0 1], [.own (n + 5) 0 0 1], [.own (n + 6) 0 0 1], [.p (.sl 1 [])]]), (n + 6, .row 0 3 1 (pcells (ints [2]))), (n + 5, .row 0 3 1 (pcells (ints [1]))), (n + 4, .row 0 3 1 (pcells (ints [2]))), (n + 2, .row 0 42 6 [[au 31, ai 4, ai 1, .p (.sl 1 (ints [2])), .p (.sl 8 []), .p (.sl 1 (wrows [[], [], [], []]))]])]) (n' := n + 9) (weak_freeze_hp (id := n + 3) (ver := 0) (sz := 1) (e := 4) (es := bools [false, true, false, false]) (by simp [hn, hn0]) (by simp [hn, hn0]) (by simp [hn, hn0]) (by simp [hn, hn0, pcells, ints, bools, wrows, words, convB, convE, convL, conv, frzA_own]) (by simp [hn, hn0])) (fresh_of hF (by omega) (by simp)) ?_
  refine sw_weak (t' := [(0, ab false), (1, .ptr (n + 2) 0 0 0), (2, .ptr (n + 8) 0 0 0)]) (L' := [(n + 8, .row 0 46 5 [[.p (.sl 1 []), .p (.sl 1 []), .own (n + 7) 0 0 4, .p (.sl 1 (bools [false, true, false, false])), ai 0]]), (n + 7, .row 0 24 1 [[.p (.sl 1 (ints [2]))], [.own (n + 5) 0 0 1], [.own (n + 6) 0 0 1], [.p (.sl 1 [])]]), (n + 6, .row 0 3 1 (pcells (ints [2]))), (n + 5, .row 0 3 1 (pcells (ints [1]))), (n + 2, .row 0 42 6 [[au 31, ai 4, ai 1, .p (.sl 1 (ints [2])), .p (.sl 8 []), .p (.sl 1 (wrows [[], [], [], []]))]])]) (n' := n + 9) (weak_freeze_hp (id := n + 4) (ver := 0) (sz := 1) (e := 3) (es := ints [2]) (by simp [hn, hn0]) (by simp [hn, hn0]) (by simp [hn, hn0]) (by simp [hn, hn0, pcells, ints, bools, wrows, words, convB, convE, convL, conv, frzA_own]) (by simp [hn, hn0])) (fresh_of hF (by omega) (by simp)) ?_
  refine sw_weak (t' := [(0, ab false), (1, .ptr (n + 2) 0 0 0), (2, .ptr (n + 8) 0 0 0)]) (L' := [(n + 8, .row 0 46 5 [[.p (.sl 1 []), .p (.sl 1 []), .own (n + 7) 0 0 4, .p (.sl 1 (bools [false, true, false, false])), ai 0]]), (n + 7, .row 0 24 1 [[.p (.sl 1 (ints [2]))], [.p (.sl 1 (ints [1]))], [.own (n + 6) 0 0 1], [.p (.sl 1 [])]]), (n + 6, .row 0 3 1 (pcells (ints [2]))), (n + 2, .row 0 42 6 [[au 31, ai 4, ai 1, .p (.sl 1 (ints [2])), .p (.sl 8 []), .p (.sl 1 (wrows [[], [], [], []]))]])]) (n' := n + 9) (weak_freeze_hp (id := n + 5) (ver := 0) (sz := 1) (e := 3) (es := ints [1]) (by simp [hn, hn0]) (by simp [hn, hn0]) (by simp [hn, hn0]) (by simp [hn, hn0, pcells, ints, bools, wrows, words, convB, convE, convL, conv, frzA_own]) (by simp [hn, hn0])) (fresh_of hF (by omega) (by simp)) ?_
  refine sw_weak (t' := [(0, ab false), (1, .ptr (n + 2) 0 0 0), (2, .ptr (n + 8) 0 0 0)]) (L' := [(n + 8, .row 0 46 5 [[.p (.sl 1 []), .p (.sl 1 []), .own (n + 7) 0 0 4, .p (.sl 1 (bools [false, true, false, false])), ai 0]]), (n + 7, .row 0 24 1 [[.p (.sl 1 (ints [2]))], [.p (.sl 1 (ints [1]))], [.p (.sl 1 (ints [2]))], [.p (.sl 1 [])]]), (n + 2, .row 0 42 6 [[au 31, ai 4, ai 1, .p (.sl 1 (ints [2])), .p (.sl 8 []), .p (.sl 1 (wrows [[], [], [], []]))]])]) (n' := n + 9) (weak_freeze_hp (id := n + 6) (ver := 0) (sz := 1) (e := 3) (es := ints [2]) (by simp [hn, hn0]) (by simp [hn, hn0]) (by simp [hn, hn0]) (by simp [hn, hn0, pcells, ints, bools, wrows, words, convB, convE, convL, conv, frzA_own]) (by simp [hn, hn0])) (fresh_of hF (by omega) (by simp)) ?_
  repeat' (first
    | (refine sw_seq ?_) | (refine sw_block ?_) | (refine sw_skip ?_)
    | (refine n_then ?_) | (refine r_then ?_) | (refine e_then ?_) | (refine n_block ?_) | (refine r_block ?_) | (refine e_block ?_) | (refine o_block rfl ?_)
    | (refine sw_run (by simp [-getElem?_pos, -List.reduceReplicate, List.getElem?_cons_zero, List.getElem?_cons_succ, ]; exact Is.mk _) ?_) | fail)
  refine sw_ss ?_
  repeat (refine ss_op rfl (by simp [-getElem?_pos, -List.reduceReplicate, List.getElem?_cons_zero, List.getElem?_cons_succ, detB, r0, lays, pcells, ints]; exact Is.mk _) ?_)
  refine ss_does rfl (by simp [-getElem?_pos, -List.reduceReplicate, List.getElem?_cons_zero, List.getElem?_cons_succ, detB, r0, lays, pcells, ints]; exact Is.mk _) rfl (by simp [-getElem?_pos, -List.reduceReplicate, List.getElem?_cons_zero, List.getElem?_cons_succ, detB, r0, lays, pcells, ints]; exact Is.mk _) (by kernel_rfl) (det_own w0 r0 (n + 7) (Small.mk (by decide)) (by decide) (by decide) (by decide) (by intro x hx; refine Small.mk ?_; revert x; decide) (Small.mk (by decide)) (Small.mk (by decide))) (by simp [-getElem?_pos, -List.reduceReplicate, List.getElem?_cons_zero, List.getElem?_cons_succ, detB, r0, lays, pcells, ints]) (by simp [-getElem?_pos, -List.reduceReplicate, List.getElem?_cons_zero, List.getElem?_cons_succ]) ?_
  rw [det0]
  refine ss_all (by simp [-getElem?_pos, -List.reduceReplicate, List.getElem?_cons_zero, List.getElem?_cons_succ, ]; exact Is.mk _) ?_
  repeat' (first
    | (refine sw_seq ?_) | (refine sw_block ?_) | (refine sw_skip ?_)
    | (refine n_then ?_) | (refine r_then ?_) | (refine e_then ?_) | (refine n_block ?_) | (refine r_block ?_) | (refine e_block ?_) | (refine o_block rfl ?_)
    | (refine sw_run (by simp [-getElem?_pos, -List.reduceReplicate, List.getElem?_cons_zero, List.getElem?_cons_succ, ]; exact Is.mk _) ?_) | fail)
  refine sw_weak (t' := [(0, ab false), (1, .ptr (n + 2) 0 0 0), (2, .ptr (n + 8) 0 0 0), (3, .p (.sl 1 (ints [2])))]) (L' := [(n + 8, .row 0 46 5 [[.p (.sl 1 []), .p (.sl 1 []), .own (n + 7) 0 0 4, .p (.sl 1 (bools [false, true, false, false])), ai 0]]), (n + 7, .row 0 24 1 (pcells (lays r1.det))), (n + 2, .row 0 42 6 [scenR w0])]) (n' := n + 10)
    (weak_freeze_hp (id := n + 9) (ver := 0) (sz := 1) (e := 3) (es := ints [3]) (by simp [pcells, ints]) (by simp [hn, hn0]) (by simp [hn, hn0]) (by simp [hn, hn0, pcells, lays, r1, w0, ints, bools, wrows, words, convB, convE, convL, conv, frzA_own]) (by simp [hn, hn0])) (fresh_of hF (by omega) (by simp)) ?_
  refine sw_weak (t' := [(0, ab false), (1, .ptr (n + 2) 0 0 0), (2, .ptr (n + 8) 0 0 0), (3, .p (.sl 1 (ints [2])))]) (L' := [(n + 8, .row 0 46 5 [resR r1]), (n + 2, .row 0 42 6 [scenR w0])]) (n' := n + 10)
    (weak_freeze_hp (id := n + 7) (ver := 0) (sz := 1) (e := 24) (es := lays r1.det) (by simp [hn, hn0]) (by simp [hn, hn0]) (by simp [hn, hn0]) (by simp [hn, hn0, pcells, lays, r1, w0, ints, bools, wrows, words, convB, convE, convL, conv, frzA_own]) (by simp [hn, hn0])) (fresh_of hF (by omega) (by simp)) ?_
  repeat' (first
    | (refine sw_seq ?_) | (refine sw_block ?_) | (refine sw_skip ?_)
    | (refine n_then ?_) | (refine r_then ?_) | (refine e_then ?_) | (refine n_block ?_) | (refine r_block ?_) | (refine e_block ?_) | (refine o_block rfl ?_)
    | (refine sw_run (by simp [-getElem?_pos, -List.reduceReplicate, List.getElem?_cons_zero, List.getElem?_cons_succ, ]; exact Is.mk _) ?_) | fail)
  refine sw_ss ?_
  repeat (refine ss_op rfl (by simp [-getElem?_pos, -List.reduceReplicate, List.getElem?_cons_zero, List.getElem?_cons_succ, ints]; exact Is.mk _) ?_)
  refine ss_pure_g rfl (by simp [-getElem?_pos, -List.reduceReplicate, List.getElem?_cons_zero, List.getElem?_cons_succ, ints]; exact Is.mk _) rfl (by simp; exact Is.mk _) (by kernel_rfl) (only_spec w0 r1 (Small.mk (by decide)) (by decide) (by decide) (by decide) (by intro x hx; refine Small.mk ?_; revert x; decide) (Small.mk (by decide)) (Small.mk (by decide))) ?_
  rw [det1]
  repeat (refine ss_op rfl (by simp [-getElem?_pos, -List.reduceReplicate, List.getElem?_cons_zero, List.getElem?_cons_succ, ]; exact Is.mk _) ?_)
  refine ss_pure_g rfl (by simp [-getElem?_pos, -List.reduceReplicate, List.getElem?_cons_zero, List.getElem?_cons_succ, ]; exact Is.mk _) rfl (by simp; exact Is.mk _) (by kernel_rfl) (format_nil) ?_
  repeat (refine ss_op rfl (by simp [-getElem?_pos, -List.reduceReplicate, List.getElem?_cons_zero, List.getElem?_cons_succ, ]; exact Is.mk _) ?_)
  refine ss_does rfl (by simp [-getElem?_pos, -List.reduceReplicate, List.getElem?_cons_zero, List.getElem?_cons_succ, ]; exact Is.mk _) rfl (by simp [-getElem?_pos, -List.reduceReplicate, List.getElem?_cons_zero, List.getElem?_cons_succ, ]; exact Is.mk _) (by kernel_rfl) (format_own (n + 10) (n + 11) (n + 12) (n + 13) (n + 14)) (by simp [-getElem?_pos, -List.reduceReplicate, List.getElem?_cons_zero, List.getElem?_cons_succ, ]) (by simp [-getElem?_pos, -List.reduceReplicate, List.getElem?_cons_zero, List.getElem?_cons_succ]) ?_
  rw [fmt0]
  refine ss_all (by simp [-getElem?_pos, -List.reduceReplicate, List.getElem?_cons_zero, List.getElem?_cons_succ, ]; exact Is.mk _) ?_
  repeat' (first
    | (refine sw_seq ?_) | (refine sw_block ?_) | (refine sw_skip ?_) | (refine sw_ret ?_) | (refine sw_exit ?_)
    | (refine n_then ?_) | (refine r_then ?_) | (refine e_then ?_) | (refine n_block ?_) | (refine r_block ?_) | (refine e_block ?_) | (refine o_block rfl ?_)
    | (refine sw_run (by simp [-getElem?_pos, -List.reduceReplicate, List.getElem?_cons_zero, List.getElem?_cons_succ, ]; exact Is.mk _) ?_)
    | (refine sw_true (by simp [-getElem?_pos, -List.reduceReplicate, List.getElem?_cons_zero, List.getElem?_cons_succ, ]; exact Is.mk _) ?_) | (refine sw_false (by simp [-getElem?_pos, -List.reduceReplicate, List.getElem?_cons_zero, List.getElem?_cons_succ, ]; exact Is.mk _) ?_)
    | (refine sw_yes (by simp; exact Is.mk _) (by assumption) ?_)
    | (refine sw_no (by simp; exact Is.mk _) (by assumption) ?_)
    | (refine sw_if (by simp; exact Is.mk _) (fun _ => ?_) (fun _ => ?_)))
  exact end_val (by simp; exact Is.mk _) (by simp [hn0, hn, Nat.add_assoc]) ⟨rfl, rfl⟩

end Go.AM
