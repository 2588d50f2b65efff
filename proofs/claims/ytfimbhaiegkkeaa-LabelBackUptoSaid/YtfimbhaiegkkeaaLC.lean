/- The law LabelChecks in the pure semantics. -/
import Derived.Test.YtfimbhaiegkkeaaLB
import Derived.Test.YtfimbhaiegkkeaaLives
import Derived.Test.YtfimbhaiegkkeaaRow
namespace Ps
set_option linter.unusedSimpArgs false
open Go

theorem fn_475 : T.fn 475 = some (.code law06_LabelChecks) := rfl
theorem fn_27 : T.fn 27 = some (.code law06_lives) := rfl
theorem lives_pval : pval T 27 [] = some (.bool true) := pval_st (cval_of 3000 lives_run) rfl rfl

/-- Labels as they come in. -/
abbrev tyLab : Ty := .st (.pair .str (.pair .str .unit))
def inL (x : (Ty.sl tyLab).den) : List Lab := match x with | none => [] | some q => q.1

theorem inL_reads (x : (Ty.sl tyLab).den) : Reads1 2 ((Ty.sl tyLab).pv x) ((inL x).map labV) := by
  cases x with
  | none => exact reads_nils 2
  | some q =>
    obtain ⟨es, sp⟩ := q
    refine reads_sl (es := es.map labV) (fun e he => ?_)
    obtain ⟨x, _, rfl⟩ := List.mem_map.1 he
    rfl

theorem inL_wf {x : (Ty.sl tyLab).den} (h : (Ty.sl tyLab).wf x) : (inL x).length ≤ maxLen ∧ ∀ y ∈ inL x, y.1.length ≤ maxLen ∧ y.2.1.length ≤ maxLen := by
  cases x with
  | none => exact ⟨Nat.zero_le _, fun y hy => by simp [inL] at hy⟩
  | some q =>
    obtain ⟨es, sp⟩ := q
    exact ⟨Nat.le_trans (Nat.le_add_right _ _) h.1, fun y hy => ⟨(h.2.1 y hy).1, (h.2.1 y hy).2.1⟩⟩

theorem law_LabelChecks (xs : denL [.sl tyLab, .str]) (h : wfL [.sl tyLab, .str] xs) : ∃ S', cval T 475 (pvL [.sl tyLab, .str] xs) St0 = some (.bool true, S') := by
  obtain ⟨l, s, u⟩ := xs
  obtain ⟨h1, h2, _⟩ := h
  have hs : s.length ≤ maxLen := h2
  obtain ⟨w1, w2⟩ := inL_wf h1
  have hv := inL_reads l
  refine ⟨St0, ?_⟩
  show cval T 475 [(Ty.sl tyLab).pv l, .str s] St0 = _
  generalize (Ty.sl tyLab).pv l = v at hv
  refine cval_ok' fn_475 rfl ?_
  simp -implicitDefEqProofs [law06_LabelChecks, name_pval hs, rname_pval hs, check_val hv (fun x hx => (w2 x hx).1) w1, rcheck_val hv (fun x hx => (w2 x hx).1) w1, lives_pval]
end Ps
