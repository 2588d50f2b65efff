/- The row of RegexFits: the law's statement, out of what the law comes to in the pure semantics. -/
import Derived.Test.YtmhigcjhjmcpcaaRxZ
import Derived.Test.YtmhigcjhjmcpcaaRow
import Derived.Test.YtmhigcjhjmcpcaaRows
import Derived.WalkKit
import Derived.ChangeMaps5
namespace Go.Proofs.Ytmhigcjhjmcpcaa.regexFits
open Go.ChangeShapes Go.WideShapes Go.ChangeAt Go.RowKit Go.ChangeMaps
set_option linter.unusedVariables false

theorem own : ownKnob Try.prog.godebug = none := by kernel_rfl

abbrev tys : List Ps.Ty := [.str, .str]

set_option maxRecDepth 100000 in
theorem contract (H : Type) (enc : TypeId × Value → H) (W : World) (base : Nat) (args : Array Value) (ds gs : List (DataW H)) (before : List MemPlace)
    (hval : ∀ (j : Nat) t v, Try.f4.params[j]? = some t → args[j]? = some v → Value.okWide Try.prog W .any base t v)
    (hW : DataW.Whole enc Try.prog Try.f4.params.toList Rows.regexFitsSpec.vars false W args.toList ds gs before) :
    Calls Try.prog 4 args W fun e W' => ∃ v, e = .returned v ∧ Rows.regexFitsSpec.post enc Try.prog Try.f4 false true false false W args v W' :=
  Ps.contract (X := Ps.tie) Ps.tieOk (gid := 10) (fn := Try.f4) Try.func4 (by decide +kernel) (by kernel_rfl) (s := Rows.regexFitsSpec) rfl tys (by kernel_rfl)
    (fun H ds h => by
      have h : ds.length = 2 := h.trans (by kernel_rfl)
      match ds, h with
      | [a0, a1], _ => rfl)
    (tb := 4) (by kernel_rfl) Try.underlying4 (by kernel_rfl) (N := Ps.bulkDs ds) (fun xs h _ => Ps.law_RegexFits xs h) (Nat.le_refl _) hval hW

set_option maxRecDepth 100000 in
theorem lifted (os : Os) (started : os.Started) (H : Type) (enc : TypeId × Value → H) :
    ReturnsInHanded {} Try.checked os 4 .any (Rows.regexFitsSpec.pre6 enc Try.prog Try.f4 Rows.regexFitsRow.domain false) (Rows.regexFitsSpec.post enc Try.prog Try.f4 false true false false) := by
  refine returnsInHanded_of_change (C := Try.checked) own started (by kernel_rfl) Try.func4
    (ChangeSpec.witness6 (enc := enc) (C := Try.checked) false ⟨#[], #[.string ⟨#[]⟩, .string ⟨#[]⟩], []⟩ 8 (by kernel_rfl) (by kernel_rfl) (by kernel_rfl) (by kernel_rfl)) ?_
  intro W base args ds gs before hval hW _ _
  exact contract H enc W base args ds gs before hval hW

theorem over : Rows.regexFitsRow.holds Try.pinned (OpenSpec.ofChange Rows.regexFitsSpec) :=
  OpenClaim.holds_of_wide 4 Try.f4 rfl rfl rfl rfl rfl rfl rfl ⟨rfl, rfl, rfl, rfl, rfl⟩ rfl rfl rfl rfl rfl (by kernel_rfl) Try.func4 (by kernel_rfl)
    (of_decide_eq_true (by kernel_rfl)) (by unfold Func.isWrapper; first | (rw [if_pos (by decide +kernel)]; kernel_rfl) | (rw [if_neg (by decide +kernel)]; exact ⟨rfl, rfl⟩))
    (fun os started H enc _ => lifted os started H enc)

theorem proved : Rows.RegexFitsSaid := over
end Go.Proofs.Ytmhigcjhjmcpcaa.regexFits
