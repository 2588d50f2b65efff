/- The row of DiskPlays: the law's statement, out of what the law comes to in the pure semantics. -/
import Derived.Test.YtedmhhncckddmaaPR
import Derived.Test.YtedmhhncckddmaaRow
import Derived.Test.YtedmhhncckddmaaRows
import Derived.WalkKit
import Derived.ChangeMaps5
namespace Go.Proofs.Ytedmhhncckddmaa.diskPlays
open Go.ChangeShapes Go.WideShapes Go.ChangeAt Go.RowKit Go.ChangeMaps
set_option linter.unusedVariables false

theorem own : ownKnob Try.prog.godebug = none := by kernel_rfl

abbrev tys : List Ps.Ty := [(.int .i64), (.sl (.st (.pair (.int .i64) (.pair .str (.pair .str (.pair (.sl (.int .u8)) (.pair (.int .i64) (.pair (.sl (.int .i64)) .unit))))))))]

set_option maxRecDepth 100000 in
theorem contract (H : Type) (enc : TypeId × Value → H) (W : World) (base : Nat) (args : Array Value) (ds gs : List (DataW H)) (before : List MemPlace)
    (hval : ∀ (j : Nat) t v, Try.f6.params[j]? = some t → args[j]? = some v → Value.okWide Try.prog W .any base t v)
    (hW : DataW.Whole enc Try.prog Try.f6.params.toList Rows.diskPlaysSpec.vars false W args.toList ds gs before) :
    Calls Try.prog 6 args W fun e W' => ∃ v, e = .returned v ∧ Rows.diskPlaysSpec.post enc Try.prog Try.f6 false true false false W args v W' :=
  Ps.contract (X := Ps.tie) Ps.tieOk (gid := 3) (fn := Try.f6) Try.func6 (by decide +kernel) (by kernel_rfl) (s := Rows.diskPlaysSpec) rfl tys (by kernel_rfl)
    (fun H ds h => by
      have h : ds.length = 2 := h.trans (by kernel_rfl)
      match ds, h with
      | [a0, a1], _ => rfl)
    (tb := 4) (by kernel_rfl) Try.underlying4 (by kernel_rfl) (N := Ps.bulkDs ds) (fun xs h _ => Ps.law_DiskPlays xs h) (Nat.le_refl _) hval hW

set_option maxRecDepth 100000 in
theorem lifted (os : Os) (started : os.Started) (H : Type) (enc : TypeId × Value → H) :
    ReturnsInHanded {} Try.checked os 6 .any (Rows.diskPlaysSpec.pre6 enc Try.prog Try.f6 Rows.diskPlaysRow.domain false) (Rows.diskPlaysSpec.post enc Try.prog Try.f6 false true false false) := by
  refine returnsInHanded_of_change (C := Try.checked) own started (by kernel_rfl) Try.func6
    (ChangeSpec.witness6 (enc := enc) (C := Try.checked) false ⟨#[], #[.int .i64 0, .slice none 0 0], []⟩ 8 (by kernel_rfl) (by kernel_rfl) (by kernel_rfl) (by kernel_rfl)) ?_
  intro W base args ds gs before hval hW _ _
  exact contract H enc W base args ds gs before hval hW

theorem over : Rows.diskPlaysRow.holds Try.pinned (OpenSpec.ofChange Rows.diskPlaysSpec) :=
  OpenClaim.holds_of_wide 6 Try.f6 rfl rfl rfl rfl rfl rfl rfl ⟨rfl, rfl, rfl, rfl, rfl⟩ rfl rfl rfl rfl rfl (by kernel_rfl) Try.func6 (by kernel_rfl)
    (of_decide_eq_true (by kernel_rfl)) (by unfold Func.isWrapper; first | (rw [if_pos (by decide +kernel)]; kernel_rfl) | (rw [if_neg (by decide +kernel)]; exact ⟨rfl, rfl⟩))
    (fun os started H enc _ => lifted os started H enc)

theorem proved : Rows.DiskPlaysSaid := over
end Go.Proofs.Ytedmhhncckddmaa.diskPlays
