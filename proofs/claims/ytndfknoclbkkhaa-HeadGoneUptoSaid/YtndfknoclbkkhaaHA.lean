/- The head: its state, in plain words; the first functions. -/
import Derived.Test.YtndfknoclbkkhaaTie
import Derived.Test.YtndfknoclbkkhaaOkD
import Derived.Test.YtndfknoclbkkhaaRow
import Derived.Test.YtndfknoclbkkhaaLB
namespace Ps
set_option linter.unusedSimpArgs false
set_option linter.unusedVariables false
open Go

theorem fn_68 : T.fn 68 = some (.code head_New) := rfl
theorem fn_188 : T.fn 188 = some (.code head_Head_Len) := rfl
theorem fn_189 : T.fn 189 = some (.code head_Head_Count) := rfl
theorem fn_278 : T.fn 278 = some (.code head_last) := rfl
theorem fn_181 : T.fn 181 = some (.codeD head_Head_rows) := rfl

@[simp] theorem eqn_ptr {i o : Nat} {b : Bool} : eqnP b .p (.ptr i o) = some (.bool b) := by cases b <;> rfl
@[simp] theorem eqn_nilp {b : Bool} : eqnP b .p .nilp = some (.bool !b) := by cases b <;> rfl

structure Sr where
  lv : PV
  sv : PV
  sm : List (Int × Int)
  lb : List Lab
structure Hd where
  hv : PV
  mi : Nat
  ser : List Sr
  ids : List PV
  count : Int

def smE (p : Int × Int) : PV := .agg [.int .i64 p.1, .int .i64 p.2]
def smC (l : List (Int × Int)) : List PV := l.flatMap fun p => [.int .i64 p.1, .int .i64 p.2]
theorem smC_len (l : List (Int × Int)) : (smC l).length = 2 * l.length := by
  induction l with
  | nil => rfl
  | cons p l ih => simp only [smC, List.flatMap_cons, List.length_append, List.length_cons, List.length_nil] at ih ⊢; omega
theorem smC_drop : ∀ (l : List (Int × Int)) (i : Nat), (smC l).drop (i * 2) = smC (l.drop i)
  | l, 0 => by simp
  | [], i + 1 => by simp [smC]
  | p :: l, i + 1 => by
    rw [show (i + 1) * 2 = 2 + i * 2 by omega, ← List.drop_drop]
    show ((smC (p :: l)).drop 2).drop (i * 2) = _
    have : (smC (p :: l)).drop 2 = smC l := by simp [smC]
    rw [this, smC_drop l i]; rfl

def SmAt (S : St) (sv : PV) (l : List (Int × Int)) : Prop := (sv = .nils ∧ l = []) ∨ ∃ id t, sv = .osl id 0 l.length 2 ∧ S.objs[id]? = some (smC l ++ t)

structure HAt (S : St) (o : Nat) (H : Hd) : Prop where
  obj : S.objs[o]? = some [H.hv, .map H.mi, .int .i64 H.count]
  ids : S.objs[H.mi]? = some H.ids
  ser : (H.hv = .nils ∧ H.ser = []) ∨ ∃ si, H.hv = .osl si 0 H.ser.length 2 ∧ S.objs[si]? = some (H.ser.flatMap fun r => [r.lv, r.sv])
  sam : ∀ r ∈ H.ser, SmAt S r.sv r.sm
  lab : ∀ r ∈ H.ser, r.lv.free = true ∧ r.lv.frz = r.lv ∧ r.lv.one = true

def lastT (l : List (Int × Int)) : Int := match l.getLast? with | some p => p.1 | none => -1

theorem last_val {S : St} {sv : PV} {l : List (Int × Int)} (h : SmAt S sv l) (hl : l.length ≤ 1048576) : cval T 278 [sv] S = some (.int .i64 (lastT l), S) := by
  refine cval_ok' fn_278 rfl ?_
  rcases h with ⟨rfl, rfl⟩ | ⟨id, t, rfl, ho⟩
  · simp -implicitDefEqProofs [head_last, lastT]
  · cases l with
    | nil => simp -implicitDefEqProofs [head_last, lastT]
    | cons p l =>
      have hw : IntKind.i64.wrap (l.length : Int) = (l.length : Int) := wrap_i64 (by omega) (by simp only [List.length_cons] at hl; omega)
      have hg : (p :: l)[l.length]? = some ((p :: l).getLast (by simp)) := by
        rw [List.getLast_eq_getElem]; simp
      have hd : (smC (p :: l) ++ t).drop (l.length * 2) = .int .i64 ((p :: l).getLast (by simp)).1 :: (.int .i64 ((p :: l).getLast (by simp)).2 :: t) := by
        rw [List.drop_append_of_le_length (by rw [smC_len]; simp only [List.length_cons]; omega), smC_drop]
        have : (p :: l).drop l.length = [(p :: l).getLast (by simp)] := by
          rw [List.drop_eq_getElem_cons (by simp), List.getLast_eq_getElem]; simp
        rw [this]; simp [smC]
      have hload : loadP S false 1 (.ptr id (l.length * 2)) = some (.int .i64 ((p :: l).getLast (by simp)).1) := by
        rw [loadP_ptr ho, hd]; simp [partOf]
      have e : lastT (p :: l) = ((p :: l).getLast (by simp)).1 := by simp [lastT, List.getLast?_eq_some_getLast]
      rw [e]
      generalize ((p :: l).getLast (by simp)).1 = x at hload ⊢
      have hlt : ((l.length : Int) < (l.length : Int) + 1) := by omega
      have hne : ((l.length : Int) + 1 == 0) = false := by rw [beq_eq_false_iff_ne]; omega
      simp -implicitDefEqProofs [head_last, hw, hload, hne, hlt]

theorem len_val {S : St} {o : Nat} {H : Hd} (h : HAt S o H) : cval T 188 [.ptr o 0] S = some (.int .i64 H.ser.length, S) := by
  have hob := h.obj
  have hlen : lenP false H.hv = some (.int .i64 H.ser.length) := by
    rcases h.ser with ⟨e, e2⟩ | ⟨si, e, _⟩
    · rw [e, e2]; rfl
    · rw [e]; rfl
  refine cval_ok' fn_188 rfl ?_
  simp -implicitDefEqProofs [head_Head_Len, loadP_ptr hob, partOf, hlen]
theorem count_val {S : St} {o : Nat} {H : Hd} (h : HAt S o H) : cval T 189 [.ptr o 0] S = some (.int .i64 H.count, S) := by
  have hob := h.obj
  refine cval_ok' fn_189 rfl ?_
  simp -implicitDefEqProofs [head_Head_Count, loadP_ptr hob, partOf]

end Ps
