/- A list of operations, in an order that is given. -/
import Derived.Test.YtidloidlffjimaaSimK
namespace Ps
open Go
def chkGuard (ops : Array Oper) : Option (Nat × Bool) → Option (Nat × Bool) → Bool
 | none, none => true
 | some (j, b), some (t, c) => b == c && (ops[j]?).bind (·.dst) == some t
 | _, _ => false

def chkOper (X : Tie) (n : Nat) (ops : Array Oper) (o : Oper) (p : POper) : Bool :=
 p.dst == o.dst && (match o.dst with | some d => decide (d < n) | none => true) && chkOp X o.op p.op && chkGuard ops o.guard p.guard

def chkOpers (X : Tie) (n : Nat) (ops : Array Oper) : List Oper → List POper → Bool
 | [], [] => true
 | o :: l, p :: m => chkOper X n ops o p && chkOpers X n ops l m
 | _, _ => false

section
variable {X : Tie} {g : Gh} {w : World} {n : Dn} {fr : Fr} {a : Act} {S : St}
theorem guard_sim (hF : FR X n g w fr a) {ops : Array Oper} {o : Oper} {gd : Option (Nat × Bool)} (h : chkGuard ops o.guard gd = true) {b : Bool} (hb : wantedP fr gd = some b) :
  Region.wanted o (yielded ops a.tmps) = b := by
 obtain ⟨dst, op, type, pos, after, guard⟩ := o
 cases guard with
 | none =>
  cases gd with
  | none => simp [wantedP] at hb; subst hb; rfl
  | some q => simp [chkGuard] at h
 | some q =>
  obtain ⟨j, c⟩ := q
  cases gd with
  | none => simp [chkGuard] at h
  | some q' =>
   obtain ⟨t, d⟩ := q'
   simp only [chkGuard, Bool.and_eq_true, beq_iff_eq] at h
   obtain ⟨rfl, h⟩ := h
   have r := hF.at_ t
   simp only [wantedP] at hb
   simp only [Region.wanted, yielded, h, Option.bind_some]
   split at hb
   ·rename_i q e
    cases hb
    rw [e] at r
    cases ht : a.tmps[t]? with
    | none => simp [Array.getD_eq_getD_getElem?, ht, undef] at r; cases r
    | some u =>
     simp [Array.getD_eq_getD_getElem?, ht] at r
     cases r
     simp
   ·rename_i e
    cases hb
    rw [e] at r
    cases ht : a.tmps[t]? with
    | none => simp
    | some u =>
     simp [Array.getD_eq_getD_getElem?, ht] at r
     cases r
     simp
   ·cases hb

inductive Fits (X : Tie) (n : Nat) (ops : Array Oper) : List Nat → List POper → Prop where
 | nil : Fits X n ops [] []
 | cons (i : Nat) (o : Oper) (p : POper) (l : List Nat) (ps : List POper) (hi : ops[i]? = some o) (hc : chkOper X n ops o p = true) (h : Fits X n ops l ps) : Fits X n ops (i :: l) (p :: ps)

theorem undef_vr (X : Tie) (g : Gh) (w : World) : VR X g w (.tup []) undef := .tup [] #[] rfl (fun j c u h => by simp at h)

theorem ops_sim {call : CallP} (hty : TyInj X) (hM : MethOk X) (hC : CallOk X call) {ops : Array Oper} {Q : Exit → Act → World → Prop} {fr' : Fr} {S' : St} : ∀ {l : List Nat} {ps : List POper} {g : Gh} {w : World} {fr : Fr} {S : St} {a : Act},
  Fits X n ops l ps → SR X g S w → FR X n g w fr a → pops X.T call ps fr S = some (fr', S') →
  (∀ g' w' a', Le g w g' w' → SR X g' S' w' → FR X n g' w' fr' a' → Q .normal a' w') → wpOps X.P ops Q l a w := by
 intro l ps g w fr S a hf
 induction hf generalizing g w fr S a with
 | nil =>
  intro hS hF h hQ
  simp only [pops, Option.some.injEq, Prod.mk.injEq] at h
  obtain ⟨rfl, rfl⟩ := h
  exact hQ g w a (Le.refl g w) hS hF
 | cons i o p l ps hi hc _ ih =>
  intro hS hF h hQ
  simp only [chkOper, Bool.and_eq_true, beq_iff_eq] at hc
  obtain ⟨⟨⟨hd, hlt⟩, hop⟩, hgd⟩ := hc
  have hdl : ∀ t, p.dst = some t → t < n := by
   intro t ht
   rw [hd] at ht
   rw [ht] at hlt
   simpa using hlt
  simp only [wpOps, hi]
  simp only [pops] at h
  split at h
  ·cases h
  ·rename_i hw
   rw [guard_sim hF hgd hw, if_neg (by simp)]
   rw [← hd]
   exact ih hS (hF.put hdl (undef_vr X g w)) h hQ
  ·rename_i hw
   rw [guard_sim hF hgd hw, if_pos rfl]
   split at h
   ·rename_i v S1 hst
    left
    have := step_sim hty hM hC hS hF hop hst o.dst o.type o.pos o.after o.guard (wpOps X.P ops Q l) Q (fun u w' hstep => by
     obtain ⟨g', hle, hS', hv⟩ := hstep
     rw [← hd]
     exact ih hS' ((hF.mono hle).put hdl hv) h (fun g2 w2 a2 hle2 hS2 hF2 => hQ g2 w2 a2 (hle.trans hle2) hS2 hF2))
    exact this
   ·cases h

theorem fits_of_chk {ops : Array Oper} : ∀ {l : List Oper} {ps : List POper} (k : Nat), (∀ j, l[j]? = ops[k + j]?) → chkOpers X n ops l ps = true → Fits X n ops (List.range' k l.length) ps
 | [], [], _, _, _ => .nil
 | o :: l, p :: ps, k, hk, h => by
  simp only [chkOpers, Bool.and_eq_true] at h
  simp only [List.length_cons, List.range'_succ]
  exact .cons k o p _ ps (by simpa using (hk 0).symm) h.1 (fits_of_chk (k + 1) (fun j => by have := hk (j + 1); simpa [Nat.add_assoc, Nat.add_comm 1 j] using this) h.2)
 | [], _ :: _, _, _, h => by simp [chkOpers] at h
 | _ :: _, [], _, _, h => by simp [chkOpers] at h

end
end Ps
