/- The row of HeadPlays: the law's statement, out of what the law comes to in the pure semantics. -/
import Derived.Test.YtndfknoclbkkhaaTL
import Derived.Test.YtndfknoclbkkhaaRow
import Derived.Test.YtndfknoclbkkhaaRows
import Derived.WalkKit
import Derived.ChangeMaps5
namespace Go.Proofs.Ytndfknoclbkkhaa.headPlays
open Go.ChangeShapes Go.WideShapes Go.ChangeAt Go.RowKit Go.ChangeMaps
set_option linter.unusedVariables false

theorem own : ownKnob Try.prog.godebug = none := by kernel_rfl

abbrev tys : List Ps.Ty := [(.sl (.st (.pair (.int .i64) (.pair (.sl (.st (.pair .str (.pair .str .unit)))) (.pair (.sl (.st (.pair (.int .i64) (.pair (.st (.pair (.int .i64) (.pair (.int .i64) .unit))) .unit)))) (.pair (.sl (.int .i64)) (.pair (.int .i64) (.pair (.int .i64) .unit)))))))), (.int .i64), (.int .i64)]

mutual
theorem bulk_le {H : Type} : ∀ d : DataW H, Ps.bulkD d ≤ Rows.uptoBulk d
  | .lit l => by cases l <;> exact Nat.le_refl _
  | .nil => Nat.le_refl _
  | .ptr d => Nat.succ_le_succ (bulk_le d)
  | .slice e s => Nat.succ_le_succ (Nat.add_le_add (bulks_le e) (bulks_le s))
  | .agg p => Nat.succ_le_succ (bulks_le p)
  | .iface _ d => Nat.succ_le_succ (bulk_le d)
  | .map _ => Nat.succ_le_succ (Nat.zero_le _)
  | .held _ => Nat.le_refl _
theorem bulks_le {H : Type} : ∀ l : List (DataW H), Ps.bulkDs l ≤ Rows.uptoBulkAll l
  | [] => Nat.le_refl _
  | d :: l => Nat.add_le_add (bulk_le d) (bulks_le l)
end

set_option maxRecDepth 100000 in
theorem contract (H : Type) (enc : TypeId × Value → H) (W : World) (base : Nat) (args : Array Value) (ds gs : List (DataW H)) (before : List MemPlace)
    (hval : ∀ (j : Nat) t v, Try.f5.params[j]? = some t → args[j]? = some v → Value.okWide Try.prog W .any base t v)
    (hW : DataW.Whole enc Try.prog Try.f5.params.toList Rows.headPlaysSpec.vars false W args.toList ds gs before) (hk : Rows.uptoSmall H (ds ++ gs) = true) :
    Calls Try.prog 5 args W fun e W' => ∃ v, e = .returned v ∧ Rows.headPlaysSpec.post enc Try.prog Try.f5 false true false false W args v W' := by
  have hb : Ps.bulkDs ds ≤ 1048576 := by
    have h1 : Rows.uptoBulkAll (ds ++ gs) ≤ 1048576 := of_decide_eq_true hk
    have h2 : ∀ l m : List (DataW H), Rows.uptoBulkAll l ≤ Rows.uptoBulkAll (l ++ m) := by
      intro l m
      induction l with
      | nil => exact Nat.zero_le _
      | cons d l ih => exact Nat.add_le_add_left ih _
    exact Nat.le_trans (bulks_le ds) (Nat.le_trans (h2 ds gs) h1)
  exact Ps.contract (X := Ps.tie) Ps.tieOk (gid := 15) (fn := Try.f5) Try.func5 (by decide +kernel) (by kernel_rfl) (s := Rows.headPlaysSpec) rfl tys (by kernel_rfl)
    (fun H ds h => by
      have h : ds.length = 3 := h.trans (by kernel_rfl)
      match ds, h with
      | [a0, a1, a2], _ => rfl)
    (tb := 4) (by kernel_rfl) Try.underlying4 (by kernel_rfl) (N := 1048576) (fun xs h hb => Ps.law_HeadPlays xs h hb) hb hval hW

set_option maxRecDepth 100000 in
theorem lifted (os : Os) (started : os.Started) (H : Type) (enc : TypeId × Value → H) (F : Stop.Interp) :
    ReturnsInHanded {} Try.checked os 5 .any ((Rows.OpenSpec.upto Rows.headPlaysSpec).pre6 enc Try.prog Try.f5 Rows.headPlaysUptoRow.domain false) (((Rows.OpenSpec.upto Rows.headPlaysSpec).at F).post enc Try.prog Try.f5 false true false false) := by
  refine returnsInHanded_of_cond (C := Try.checked) (s := Rows.OpenSpec.upto Rows.headPlaysSpec) (k := Rows.uptoSmall) rfl own started (by kernel_rfl) Try.func5
    (OpenSpec.witness (enc := enc) (C := Try.checked) (s := Rows.OpenSpec.upto Rows.headPlaysSpec) (k := Rows.uptoSmall) rfl false ⟨#[], #[.slice none 0 0, .int .i64 0, .int .i64 0], []⟩ 8 (by kernel_rfl) (by kernel_rfl) (by kernel_rfl)
      (x := ([.nil, .lit (.int .i64 0), .lit (.int .i64 0)], [], [])) (by kernel_rfl) rfl (by kernel_rfl)) ?_
  intro W base args ds gs before hval hW _ hk _
  exact contract H enc W base args ds gs before hval hW hk

theorem over : Rows.headPlaysUptoRow.holds Try.pinned (Rows.OpenSpec.upto Rows.headPlaysSpec) :=
  OpenClaim.holds_of_cond 5 Try.f5 rfl rfl rfl rfl rfl rfl rfl ⟨rfl, rfl, rfl, rfl, rfl⟩ rfl rfl rfl rfl rfl (by kernel_rfl) Try.func5 (by kernel_rfl)
    (of_decide_eq_true (by kernel_rfl)) (by unfold Func.isWrapper; first | (rw [if_pos (by decide +kernel)]; kernel_rfl) | (rw [if_neg (by decide +kernel)]; exact ⟨rfl, rfl⟩))
    (fun os started H enc _ F => lifted os started H enc F)

theorem proved : Rows.HeadPlaysUptoSaid := over
end Go.Proofs.Ytndfknoclbkkhaa.headPlays
