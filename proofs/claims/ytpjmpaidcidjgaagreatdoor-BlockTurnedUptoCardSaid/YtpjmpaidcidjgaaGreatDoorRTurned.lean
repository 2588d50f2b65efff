/- The law BlockTurned, where what comes in holds together at most 1048576 values and letters: the tied card of its second form. -/
import Derived.Test.YtpjmpaidcidjgaaGreatDoorRowWKt
import Derived.Test.YtpjmpaidcidjgaaGreatDoorCards
import Derived.Test.YtpjmpaidcidjgaaGreatDoorTie
import Derived.WalkKit
import Derived.ProofKit
import Derived.LaidHandle
import Derived.Deep.DeepHandedRow
namespace Go.Proofs.YtpjmpaidcidjgaaGreatDoor.blockTurned
open Go.ChangeShapes Go.WideShapes Go.ChangeAt Go.RowKit
set_option linter.unusedVariables false

theorem own : ownKnob Tryz.prog.godebug = none := by kernel_rfl
theorem et : Tryz.prog.globalNamed "errors.errorType" = some 0 := by kernel_rfl
theorem rt : (Tryz.prog.cutTypes.find? (·.1 == "internal/reflectlite.rtype")).map (·.2) = some 169 := by kernel_rfl
theorem oneRow : ((List.range 250).filter fun t => Tryz.prog.rowNamed t [101, 114, 114, 111, 114]) = [74] := by kernel_rfl
theorem size : Tryz.prog.types.size = 250 := by kernel_rfl

theorem handle_of_laid {W : World} (h : laidMetH Tryz.prog Rows.blockTurnedUptoRow.laid W) : W.cell? ⟨0, 0, none⟩ = some (.iface 169 (.agg #[.pointer (some ⟨1, 74, none⟩)])) := by
  have h' : laidMet Tryz.prog [] W ∧ handlesMet Tryz.prog [("errors.errorType", Rows.laid_errors_errorType)] W := h
  obtain ⟨name, u, ty, e1, e2, e3, e4, e5⟩ := h'.2 _ (List.mem_singleton.2 rfl)
  have en : name = [101, 114, 114, 111, 114] := (Option.some.inj e1).symm
  subst en
  obtain rfl := Option.some.inj (rt.symm.trans e2)
  have hm : ty ∈ (List.range 250).filter fun t => Tryz.prog.rowNamed t [101, 114, 114, 111, 114] := List.mem_filter.2 ⟨List.mem_range.2 (by rw [← size]; exact e3), e4⟩
  rw [oneRow] at hm
  obtain rfl := List.mem_singleton.1 hm
  have hh : typeHandle Tryz.prog 74 = .pointer (some ⟨1, 74, none⟩) := by kernel_rfl
  rw [hh] at e5
  simpa using World.var?_cell et e5 0

noncomputable def laidWorld (os : Os) : World :=
  { World.holding Tryz.prog os ⟨#[], #[], []⟩ with heap := (World.holding Tryz.prog os ⟨#[], #[], []⟩).heap.modify 0 fun
      | .cells _ t frozen => .cells #[.iface 169 (.agg #[.pointer (some ⟨1, 74, none⟩)])] t frozen
      | o => o }
abbrev args0 : Array Value := #[Value.slice none 0 0, Value.int .i64 0, Value.int .u32 0]
theorem laid_met (os : Os) : laidMetH Tryz.prog Rows.blockTurnedUptoRow.laid ((laidWorld os).forCall (fun _ _ => 0) ⟨#[], args0, []⟩).memory :=
  laidMetH_of_parts (laidMet_nil _ _) (by kernel_rfl)
theorem reads (os : Os) {H : Type} (enc : TypeId × Value → H) : DataW.whole enc Tryz.prog ((laidWorld os).forCall (fun _ _ => 0) ⟨#[], args0, []⟩).memory Tryz.f5.params.toList Rows.blockTurnedSpec.vars false args0.toList 8 = some ([.nil, .lit (.int .i64 0), .lit (.int .u32 0)], [], []) := by kernel_rfl

abbrev tys : List Ps.Ty := [(.sl (.st (.pair (.sl (.st (.pair .str (.pair .str .unit)))) (.pair (.sl (.st (.pair (.int .i64) (.pair (.int .i64) .unit)))) .unit)))), (.int .i64), (.int .u32)]

mutual
theorem bulk_le {H : Type} : ∀ d : DataW H, Ps.bulkD d ≤ Rows.uptoBulk d
  | .lit l => by cases l <;> exact Nat.le_refl _
  | .nil => Nat.le_refl _
  | .ptr d => Nat.succ_le_succ (bulk_le d)
  | .slice e s => Nat.succ_le_succ (Nat.add_le_add (bulks_le e) (bulks_le s))
  | .agg p => Nat.succ_le_succ (bulks_le p)
  | .iface _ d => Nat.succ_le_succ (bulk_le d)
  | .map _ => Nat.succ_le_succ (Nat.zero_le _)
  | .held _ => Nat.le_refl _
theorem bulks_le {H : Type} : ∀ l : List (DataW H), Ps.bulkDs l ≤ Rows.uptoBulkAll l
  | [] => Nat.le_refl _
  | d :: l => Nat.add_le_add (bulk_le d) (bulks_le l)
end

set_option maxRecDepth 100000 in
theorem contract (H : Type) (enc : TypeId × Value → H) (W : World) (base : Nat) (args : Array Value) (ds gs : List (DataW H)) (before : List MemPlace)
    (hval : ∀ (j : Nat) t v, Tryz.f5.params[j]? = some t → args[j]? = some v → Value.okWide Tryz.prog W .any base t v)
    (hW : DataW.Whole enc Tryz.prog Tryz.f5.params.toList Rows.blockTurnedSpec.vars false W args.toList ds gs before) (hk : Rows.uptoSmall H (ds ++ gs) = true) (hL : laidMetH Tryz.prog Rows.blockTurnedUptoRow.laid W) :
    Calls Tryz.prog 5 args W fun e W' => ∃ v, e = .returned v ∧ Rows.blockTurnedSpec.post enc Tryz.prog Tryz.f5 false true false false W args v W' := by
  have hb : Ps.bulkDs ds ≤ 1048576 := by
    have h1 : Rows.uptoBulkAll (ds ++ gs) ≤ 1048576 := of_decide_eq_true hk
    have h2 : ∀ l m : List (DataW H), Rows.uptoBulkAll l ≤ Rows.uptoBulkAll (l ++ m) := by
      intro l m
      induction l with
      | nil => exact Nat.zero_le _
      | cons d l ih => exact Nat.add_le_add_left ih _
    exact Nat.le_trans (bulks_le ds) (Nat.le_trans (h2 ds gs) h1)
  have hc := handle_of_laid hL
  have hsz : 0 < W.heap.size := by
    rcases Nat.eq_zero_or_pos W.heap.size with h0 | h
    · simp [World.cell?, h0] at hc
    · exact h
  exact Ps.contractW (X := Ps.tie1) Ps.jtieOk1 (gid := 458) (fn := Tryz.f5) Ps.func458w (s := Rows.blockTurnedSpec) rfl tys (by kernel_rfl)
    (fun H ds h => by
      have h : ds.length = 3 := h.trans (by kernel_rfl)
      match ds, h with
      | [a0, a1, a2], _ => rfl)
    (tb := 4) (by kernel_rfl) Tryz.underlying4 (by kernel_rfl) (N := 1048576) (fun xs h hb => Ps.law_BlockTurned xs h hb) hb (fun q hq => by
      obtain rfl := List.mem_singleton.1 hq
      exact ⟨hsz, hc⟩) hval hW

set_option maxRecDepth 100000 in
theorem lifted (os : Os) (started : os.Started) (H : Type) (enc : TypeId × Value → H) (F : Stop.Interp) :
    ReturnsInHanded {} Tryz.checked os 5 .any ((Rows.OpenSpec.upto Rows.blockTurnedSpec).preRow enc Tryz.prog Tryz.f5 Rows.blockTurnedUptoRow.domain false Rows.blockTurnedUptoRow.laid) (((Rows.OpenSpec.upto Rows.blockTurnedSpec).at F).post enc Tryz.prog Tryz.f5 false true false false) := by
  refine returnsInHanded_of_row (C := Tryz.checked) (s := Rows.OpenSpec.upto Rows.blockTurnedSpec) own started (by kernel_rfl) Tryz.func5
    (witness_row_at (enc := enc) (C := Tryz.checked) false (laidWorld os) args0 rfl (by kernel_rfl) (by kernel_rfl) (by kernel_rfl)
      (OpenSpec.preRow_of_cond 8 (reads os enc) (by kernel_rfl) (fun k hk => by cases hk; kernel_rfl) (by kernel_rfl) (laid_met os))) ?_
  intro W base args ds gs before hval hW _ hcond _ hL _ _
  exact contract H enc W base args ds gs before hval hW (hcond _ rfl) hL

theorem saidUpto : Rows.blockTurnedUptoRow.holds Tryz.pinned (Rows.OpenSpec.upto Rows.blockTurnedSpec) :=
  OpenClaim.holds_of_cond 5 Tryz.f5 rfl rfl rfl rfl rfl rfl rfl ⟨rfl, rfl, rfl, rfl, rfl⟩ rfl rfl rfl rfl rfl (by kernel_rfl) Tryz.func5 (by kernel_rfl)
    (of_decide_eq_true (by kernel_rfl)) (by unfold Func.isWrapper; first | (rw [if_pos (by decide +kernel)]; kernel_rfl) | (rw [if_neg (by decide +kernel)]; exact ⟨rfl, rfl⟩))
    (fun os started H enc _ F => by rw [OpenClaim.pre_eq_preRow]; exact lifted os started H enc F)

theorem plain (f : FuncId) (fn : Func) (hf : Tryz.pinned.checked.prog.funcNamed "gauge/gaugelaw12.BlockTurned" = some f) (hfn : Tryz.pinned.checked.prog.funcs[f]? = some fn) :
    true = Tryz.pinned.checked.prog.looks [] ∧ ∀ (j : Nat) t, fn.params[j]? = some t → Tryz.pinned.checked.prog.wantsStandIn t = false := by
  obtain rfl : f = 5 := Option.some.inj ((show Tryz.prog.funcNamed "gauge/gaugelaw12.BlockTurned" = some 5 by kernel_rfl).symm.trans hf) |>.symm
  obtain rfl : fn = Tryz.f5 := (Option.some.inj (Tryz.func5.symm.trans hfn)).symm
  refine ⟨by kernel_rfl, fun j t ht => ?_⟩
  have hall : Tryz.f5.params.toList.all (fun t => !Tryz.pinned.checked.prog.wantsStandIn t) = true := by kernel_rfl
  have hm : t ∈ Tryz.f5.params.toList := by
    have := Array.mem_of_getElem? ht
    simpa using this
  have := List.all_eq_true.1 hall t hm
  simpa using this

theorem proved : Rows.BlockTurnedUptoCardSaid :=
  Claim7.holds_tied_plain_at .later [] _ _ _ _ saidUpto (fun _ h => by cases h) (by kernel_rfl) (fun _ h => by cases h) blockTurnedUpto_row_tie rfl ⟨rfl, rfl⟩ (by kernel_rfl) rfl plain (by kernel_rfl)
end Go.Proofs.YtpjmpaidcidjgaaGreatDoor.blockTurned
