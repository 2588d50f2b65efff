/- The document's plain bytes: run by the kernel. -/
import Derived.Test.YtmhigcjhjmcpcaaRxQ
namespace Ps
set_option linter.unusedSimpArgs false
set_option linter.unusedVariables false
open Go

theorem fn_356 : T.fn 356 = some (.code ref07_Plain) := rfl
theorem fn_355 : T.fn 355 = some (.code ref07_item) := rfl

def byteChk (f : Nat → Option (PV × St)) (g : UInt8 → PV) : Bool := (List.range 256).all fun n => match f n with | some (v, S) => PV.beq v (g (UInt8.ofNat n)) && S.objs.isEmpty && S.tips.isEmpty | none => false
theorem byteChk_ok {f : Nat → Option (PV × St)} {g : UInt8 → PV} (h : byteChk f g = true) (c : UInt8) : f c.toNat = some (g c, St0) := by
  unfold byteChk at h
  rw [List.all_eq_true] at h
  have := h c.toNat (List.mem_range.2 c.toNat_lt)
  cases hf : f c.toNat with
  | none => rw [hf] at this; cases this
  | some x =>
    obtain ⟨v, S⟩ := x
    rw [hf] at this
    simp only [Bool.and_eq_true, List.isEmpty_iff] at this
    have e := beq_eq _ _ this.1.1
    rw [e]
    obtain ⟨o, t⟩ := S
    have h1 := this.1.2
    have h2 := this.2
    simp only at h1 h2
    subst h1; subst h2
    simp [St0]
theorem rplain_run (c : UInt8) : pcall T 100 356 [.int .u8 c.toNat] St0 = some (.bool (plainB c), St0) :=
  byteChk_ok (f := fun n => pcall T 100 356 [.int .u8 n] St0) (g := fun c => .bool (plainB c)) (by kernel_rfl) c
theorem rplain_pval (c : UInt8) : pval T 356 [.int .u8 c.toNat] = some (.bool (plainB c)) := pval_st (cval_of 100 (rplain_run c)) rfl rfl
theorem ritem_run (c : UInt8) : pcall T 100 355 [.int .u8 c.toNat] St0 = some (.bool (!itemBad c), St0) :=
  byteChk_ok (f := fun n => pcall T 100 355 [.int .u8 n] St0) (g := fun c => .bool (!itemBad c)) (by kernel_rfl) c
theorem ritem_pval (c : UInt8) : pval T 355 [.int .u8 c.toNat] = some (.bool (!itemBad c)) := pval_st (cval_of 100 (ritem_run c)) rfl rfl
theorem rplain_purV (c : UInt8) : purV T 356 [.int .u8 c.toNat] = some (.bool (plainB c)) := (purV_free rfl).trans (rplain_pval c)
theorem ritem_purV (c : UInt8) : purV T 355 [.int .u8 c.toNat] = some (.bool (!itemBad c)) := (purV_free rfl).trans (ritem_pval c)

end Ps
