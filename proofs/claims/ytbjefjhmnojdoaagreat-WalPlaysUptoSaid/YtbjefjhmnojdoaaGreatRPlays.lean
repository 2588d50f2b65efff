/- The row of WalPlays: the law's statement, out of what the law comes to in the pure semantics. -/
import Derived.Test.YtbjefjhmnojdoaaGreatQS
import Derived.Test.YtbjefjhmnojdoaaGreatRow
import Derived.Test.YtbjefjhmnojdoaaGreatRows
import Derived.WalkKit
import Derived.ChangeMaps5
namespace Go.Proofs.YtbjefjhmnojdoaaGreat.walPlays
open Go.ChangeShapes Go.WideShapes Go.ChangeAt Go.RowKit Go.ChangeMaps
set_option linter.unusedVariables false

theorem own : ownKnob Tryz.prog.godebug = none := by kernel_rfl

abbrev tys : List Ps.Ty := [(.int .i64), .str, (.sl (.st (.pair (.int .i64) (.pair (.st (.pair (.int .i64) (.pair (.sl (.st (.pair .str (.pair .str .unit)))) (.pair (.sl (.st (.pair (.int .i64) (.pair (.st (.pair (.int .i64) (.pair (.int .i64) .unit))) .unit)))) (.pair (.sl (.int .i64)) (.pair (.int .i64) (.pair (.int .i64) .unit))))))) (.pair (.sl (.int .u8)) (.pair (.int .i64) (.pair (.sl (.int .i64)) .unit)))))))]

mutual
theorem bulk_le {H : Type} : ∀ d : DataW H, Ps.bulkD d ≤ Rows.uptoBulk d
  | .lit l => by cases l <;> exact Nat.le_refl _
  | .nil => Nat.le_refl _
  | .ptr d => Nat.succ_le_succ (bulk_le d)
  | .slice e s => Nat.succ_le_succ (Nat.add_le_add (bulks_le e) (bulks_le s))
  | .agg p => Nat.succ_le_succ (bulks_le p)
  | .iface _ d => Nat.succ_le_succ (bulk_le d)
  | .map _ => Nat.succ_le_succ (Nat.zero_le _)
  | .held _ => Nat.le_refl _
theorem bulks_le {H : Type} : ∀ l : List (DataW H), Ps.bulkDs l ≤ Rows.uptoBulkAll l
  | [] => Nat.le_refl _
  | d :: l => Nat.add_le_add (bulk_le d) (bulks_le l)
end

set_option maxRecDepth 100000 in
theorem contract (H : Type) (enc : TypeId × Value → H) (W : World) (base : Nat) (args : Array Value) (ds gs : List (DataW H)) (before : List MemPlace)
    (hval : ∀ (j : Nat) t v, Tryz.f3.params[j]? = some t → args[j]? = some v → Value.okWide Tryz.prog W .any base t v)
    (hW : DataW.Whole enc Tryz.prog Tryz.f3.params.toList Rows.walPlaysSpec.vars false W args.toList ds gs before) (hk : Rows.uptoSmall H (ds ++ gs) = true) :
    Calls Tryz.prog 3 args W fun e W' => ∃ v, e = .returned v ∧ Rows.walPlaysSpec.post enc Tryz.prog Tryz.f3 false true false false W args v W' := by
  have hb : Ps.bulkDs ds ≤ 1048576 := by
    have h1 : Rows.uptoBulkAll (ds ++ gs) ≤ 1048576 := of_decide_eq_true hk
    have h2 : ∀ l m : List (DataW H), Rows.uptoBulkAll l ≤ Rows.uptoBulkAll (l ++ m) := by
      intro l m
      induction l with
      | nil => exact Nat.zero_le _
      | cons d l ih => exact Nat.add_le_add_left ih _
    exact Nat.le_trans (bulks_le ds) (Nat.le_trans (h2 ds gs) h1)
  exact Ps.contract (X := Ps.tie) Ps.tieOk (gid := 13) (fn := Tryz.f3) Tryz.func3 (by decide +kernel) (by kernel_rfl) (s := Rows.walPlaysSpec) rfl tys (by kernel_rfl)
    (fun H ds h => by
      have h : ds.length = 3 := h.trans (by kernel_rfl)
      match ds, h with
      | [a0, a1, a2], _ => rfl)
    (tb := 4) (by kernel_rfl) Tryz.underlying4 (by kernel_rfl) (N := 1048576) (fun xs h hb => Ps.law_WalPlays xs h hb) hb hval hW

set_option maxRecDepth 100000 in
theorem lifted (os : Os) (started : os.Started) (H : Type) (enc : TypeId × Value → H) (F : Stop.Interp) :
    ReturnsInHanded {} Tryz.checked os 3 .any ((Rows.OpenSpec.upto Rows.walPlaysSpec).pre6 enc Tryz.prog Tryz.f3 Rows.walPlaysUptoRow.domain false) (((Rows.OpenSpec.upto Rows.walPlaysSpec).at F).post enc Tryz.prog Tryz.f3 false true false false) := by
  refine returnsInHanded_of_cond (C := Tryz.checked) (s := Rows.OpenSpec.upto Rows.walPlaysSpec) (k := Rows.uptoSmall) rfl own started (by kernel_rfl) Tryz.func3
    (OpenSpec.witness (enc := enc) (C := Tryz.checked) (s := Rows.OpenSpec.upto Rows.walPlaysSpec) (k := Rows.uptoSmall) rfl false ⟨#[], #[.int .i64 0, .string ⟨#[]⟩, .slice none 0 0], []⟩ 8 (by kernel_rfl) (by kernel_rfl) (by kernel_rfl)
      (x := ([.lit (.int .i64 0), .lit (.string []), .nil], [], [])) (by kernel_rfl) rfl (by kernel_rfl)) ?_
  intro W base args ds gs before hval hW _ hk _
  exact contract H enc W base args ds gs before hval hW hk

theorem over : Rows.walPlaysUptoRow.holds Tryz.pinned (Rows.OpenSpec.upto Rows.walPlaysSpec) :=
  OpenClaim.holds_of_cond 3 Tryz.f3 rfl rfl rfl rfl rfl rfl rfl ⟨rfl, rfl, rfl, rfl, rfl⟩ rfl rfl rfl rfl rfl (by kernel_rfl) Tryz.func3 (by kernel_rfl)
    (of_decide_eq_true (by kernel_rfl)) (by unfold Func.isWrapper; first | (rw [if_pos (by decide +kernel)]; kernel_rfl) | (rw [if_neg (by decide +kernel)]; exact ⟨rfl, rfl⟩))
    (fun os started H enc _ F => lifted os started H enc F)

theorem proved : Rows.WalPlaysUptoSaid := over
end Go.Proofs.YtbjefjhmnojdoaaGreat.walPlays
