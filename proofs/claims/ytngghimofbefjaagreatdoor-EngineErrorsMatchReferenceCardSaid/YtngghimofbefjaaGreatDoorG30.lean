/- The shapes of the law's argument. -/
import Derived.Test.YtngghimofbefjaaGreatDoorG29
namespace Go.AM
set_option linter.unusedVariables false
set_option linter.unusedSimpArgs false
open Go Go.RowKit Go.Proofs

def shDev : Sh := .agg [.int .i64, .int .i64, .int .i64, .int .i64, .int .i64, .int .u64, .int .i64, .int .i64]
def shScen : Sh := .agg [.agg [.int .u64, .int .i64, .int .i64], .sl 1 (.int .i64), .sl 8 shDev, .sl 1 (.sl 1 (.int .u64))]
def shGate : Sh := .agg [.int .i64, .int .i64, .int .i64, .int .i64, .int .u64]
def shCirc : Sh := .agg [.int .u64, .sl 5 shGate, .sl 1 (.int .i64)]
def shPlay : Sh := .agg [shScen, shCirc, .sl 1 (.sl 1 (.int .u64))]
def shForm : Sh := .agg [.str, .int .i64, .bool, .bool, .bool, .bool, .bool]
def shForms : Sh := .agg [shForm, shForm, shForm, shForm, shForm, shForm, shForm]
theorem ok_forms : shOk Tryz.prog shForms 291 = true := by kernel_rfl
def shExps : Sh := .agg [.int .i64, .int .i64, .int .i64, .int .i64, .int .i64, .int .i64, .int .i64]
theorem ok_exps : shOk Tryz.prog shExps 290 = true := by kernel_rfl
theorem ok_play : shOk Tryz.prog shPlay 34 = true := by kernel_rfl

theorem wf_u64 {n : Int} (h : (Lit.int .u64 n).wf = true) : 0 ≤ n := by
  simp only [Lit.wf, Bool.and_eq_true, decide_eq_true_eq] at h
  exact h.1
theorem wt_ints {c : List PV} (h : Wt (.sl 1 (.int .i64)) c) : ∃ l, c = [.sl 1 (ints l)] := by
  simp only [Wt] at h
  obtain ⟨es, rfl, h⟩ := h
  obtain ⟨l, rfl, _⟩ := map_of (f := fun n => [pi n]) (R := fun _ => True) (es := es) fun x hx => by obtain ⟨n, h1, _⟩ := h x hx; exact ⟨n, trivial, h1⟩
  exact ⟨l, rfl⟩
theorem wt_words {c : List PV} (h : Wt (.sl 1 (.int .u64)) c) : ∃ l, c = [.sl 1 (words l)] := by
  simp only [Wt] at h
  obtain ⟨es, rfl, h⟩ := h
  obtain ⟨l, rfl, _⟩ := map_of (f := fun n => [pu n]) (R := fun _ => True) (es := es) fun x hx => by obtain ⟨n, h1, _⟩ := h x hx; exact ⟨n, trivial, h1⟩
  exact ⟨l, rfl⟩
theorem wt_wrows {c : List PV} (h : Wt (.sl 1 (.sl 1 (.int .u64))) c) : ∃ l, c = [.sl 1 (wrows l)] := by
  simp only [Wt] at h
  obtain ⟨es, rfl, h⟩ := h
  obtain ⟨l, rfl, _⟩ := map_of (f := fun x => [PV.sl 1 (words x)]) (R := fun _ => True) (es := es) fun x hx => by obtain ⟨n, h1⟩ := wt_words (c := x) (by simp only [Wt]; exact h x hx); exact ⟨n, trivial, h1⟩
  exact ⟨l, rfl⟩
theorem wt_gate {c : List PV} (h : Wt shGate c) : ∃ g : Gate, 0 ≤ g.k ∧ c = gateC g := by
  simp only [shGate, Wt, WtL] at h
  obtain ⟨_, _, rfl, ⟨k, rfl, _⟩, _, _, rfl, ⟨f, rfl, _⟩, _, _, rfl, ⟨a, rfl, _⟩, _, _, rfl, ⟨b, rfl, _⟩, _, _, rfl, ⟨w, rfl, hw⟩, rfl⟩ := h
  exact ⟨⟨k, f, a, b, w⟩, wf_u64 hw, rfl⟩
theorem wt_dev {c : List PV} (h : Wt shDev c) : ∃ d : Dev, c = devC d := by
  simp only [shDev, Wt, WtL] at h
  obtain ⟨_, _, rfl, ⟨a, rfl, _⟩, _, _, rfl, ⟨b, rfl, _⟩, _, _, rfl, ⟨c, rfl, _⟩, _, _, rfl, ⟨d, rfl, _⟩, _, _, rfl, ⟨e, rfl, _⟩, _, _, rfl, ⟨f, rfl, _⟩, _, _, rfl, ⟨g, rfl, _⟩, _, _, rfl, ⟨k, rfl, _⟩, rfl⟩ := h
  exact ⟨⟨a, b, c, d, e, f, g, k⟩, rfl⟩
theorem wt_play {c : List PV} (h : Wt shPlay c) : ∃ w p gs os xs, (∀ g ∈ gs, 0 ≤ g.k) ∧ argOf shPlay c = playA w p gs os xs := by
  simp only [shPlay, shScen, shCirc, Wt, WtL] at h
  obtain ⟨_, _, rfl, ⟨_, _, rfl, ⟨_, _, rfl, ⟨p, rfl, _⟩, _, _, rfl, ⟨n, rfl, _⟩, _, _, rfl, ⟨t, rfl, _⟩, rfl⟩, x, _, rfl, h2, _, _, rfl, ⟨es, rfl, h3⟩, y, _, rfl, h4, rfl⟩, _, _, rfl, ⟨_, _, rfl, ⟨q, rfl, _⟩, _, _, rfl, ⟨fs, rfl, h5⟩, u, _, rfl, h6, rfl⟩, v, _, rfl, h7, rfl⟩ := h
  obtain ⟨bad, rfl⟩ := wt_ints (c := x) (by simp only [Wt]; exact h2)
  obtain ⟨tapes, rfl⟩ := wt_wrows (c := y) (by simp only [Wt]; exact h4)
  obtain ⟨ds, rfl, _⟩ := map_of (f := devC) (R := fun _ => True) (es := es) fun x hx => by obtain ⟨d, h1⟩ := wt_dev (h3 x hx); exact ⟨d, trivial, h1⟩
  obtain ⟨gs, rfl, hg⟩ := map_of (f := gateC) (R := fun g => 0 ≤ g.k) (es := fs) fun x hx => by obtain ⟨g, h1, h2⟩ := wt_gate (h5 x hx); exact ⟨g, h1, h2⟩
  obtain ⟨os, rfl⟩ := wt_ints (c := u) (by simp only [Wt]; exact h6)
  obtain ⟨xs, rfl⟩ := wt_wrows (c := v) (by simp only [Wt]; exact h7)
  exact ⟨⟨p, n, t, bad, ds, tapes⟩, q, gs, os, xs, hg, rfl⟩

end Go.AM
