/- Operations that only compute: the model's run of each hands back a value that stands for the pure one, and leaves the world alone. -/
import Derived.Test.YtppjibgophfdfaaChk
import Derived.Laws.StructEq
import Derived.Laws.Strings3
import Derived.Laws.BytesArg
import Derived.Laws.Slices
import Derived.Laws.Build
import Derived.Laws.Concat
import Derived.Laws.Cover1
namespace Ps
open Go

section
variable {X : Tie} {g : Gh} {w : World} {n : Nat} {fr : Fr} {a : Act}

theorem const_sim {v : Value} {c : PV} (h : constOk v c = true) : VR X g w c v := by
  unfold constOk at h
  split at h
  · simp only [Bool.and_eq_true, beq_iff_eq] at h; obtain ⟨rfl, rfl⟩ := h; exact .int _ _
  · simp only [beq_iff_eq] at h; subst h; exact .bool _
  · simp only [beq_iff_eq] at h; subst h; exact .str _
  · exact .nilp
  · simp only [Bool.and_eq_true, beq_iff_eq] at h; obtain ⟨rfl, rfl⟩ := h; exact .nils
  · exact .nili
  · exact .nilf
  · exact .nilm
  · cases h

theorem consts_sim : ∀ {vs : List Value} {cs : List PV}, constsOk vs cs = true → cs.length = vs.length ∧ ∀ (j : Nat) (c : PV) (u : Value), cs[j]? = some c → vs[j]? = some u → VR X g w c u
  | [], [], _ => ⟨rfl, fun j c u h => by simp at h⟩
  | v :: l, c :: m, h => by
    simp only [constsOk, Bool.and_eq_true] at h
    obtain ⟨h1, h2⟩ := consts_sim h.2
    refine ⟨by simp [h1], fun j d u e1 e2 => ?_⟩
    cases j with
    | zero => simp at e1 e2; subst e1; subst e2; exact const_sim h.1
    | succ j => exact h2 j d u (by simpa using e1) (by simpa using e2)
  | [], _ :: _, h => by simp [constsOk] at h
  | _ :: _, [], h => by simp [constsOk] at h

theorem zero_sim {v : Value} {c : PV} (h : zeroOk v c = true) : VR X g w c v := by
  unfold zeroOk at h
  split at h
  · rename_i vs cs
    obtain ⟨h1, h2⟩ := consts_sim (X := X) (g := g) (w := w) h
    exact .agg _ _ (by simpa using h1) (fun j c u e1 e2 => h2 j c u e1 (by simpa using e2))
  · exact const_sim h

theorem opd_sim (hF : FR X n g w fr a) {x : Operand} {y : Opd} (h : chkOpd X x y = true) : VR X g w (ev fr y) (a.eval x) := by
  unfold chkOpd at h
  split at h
  · simp only [beq_iff_eq] at h; subst h; exact hF.at_ _
  · exact const_sim h
  · simp only [beq_iff_eq] at h; subst h; exact .fn _ _ _ rfl (fun j c u e => by simp at e)
  · cases h

theorem opds_sim (hF : FR X n g w fr a) : ∀ {xs : List Operand} {ys : List Opd}, chkOpds X xs ys = true →
    (ys.map (ev fr)).length = (xs.map a.eval).length ∧ ∀ (j : Nat) (c : PV) (u : Value), (ys.map (ev fr))[j]? = some c → (xs.map a.eval)[j]? = some u → VR X g w c u
  | [], [], _ => ⟨rfl, fun j c u h => by simp at h⟩
  | x :: l, y :: m, h => by
    simp only [chkOpds, Bool.and_eq_true] at h
    obtain ⟨h1, h2⟩ := opds_sim hF h.2
    refine ⟨by simpa using h1, fun j d u e1 e2 => ?_⟩
    cases j with
    | zero => simp at e1 e2; subst e1; subst e2; exact opd_sim hF h.1
    | succ j => exact h2 j d u (by simpa using e1) (by simpa using e2)
  | [], _ :: _, h => by simp [chkOpds] at h
  | _ :: _, [], h => by simp [chkOpds] at h

theorem arith_sim {op : BinOp} {t : TypeId} {v1 v2 v : PV} {x y : Operand} {u1 u2 : Value} (h : arith op v1 v2 = some v) (r1 : VR X g w v1 u1) (r2 : VR X g w v2 u2) :
    ∃ u, ((eqGuard op t x y u1 u2).bind fun _ => binOp op t u1 u2).run X.P w = .ok u w ∧ VR X g w v u := by
  cases r1 <;> cases r2 <;> try (simp [arith] at h; done)
  case int.int k a l b =>
    have hg : (eqGuard op t x y (.int k a) (.int l b)) = pure () := by
      simp only [eqGuard]; cases op <;> rfl
    rw [hg]
    simp only [arith] at h
    cases op <;> simp only [isShift, Bool.false_eq_true, if_false, if_true] at h
    case shl | shr =>
      simp only [shiftOp] at h
      split at h
      · cases h
      · rename_i hb
        cases h
        exact ⟨_, by simp [Sem.run_bind', binOp, Op.shift, hb], .int _ _⟩
    all_goals
      split at h
      · rename_i hk; subst hk
        simp only [intOp] at h
        first
          | (cases h; exact ⟨_, by simp only [binOp, Op.intBits, ne_eq, not_true_eq_false, if_false]; rfl, .int _ _⟩)
          | (cases h; exact ⟨_, by simp [Sem.run_bind', binOp, Op.intCmp] <;> rfl, by first | exact .int _ _ | exact .bool _⟩)
          | (split at h
             · cases h
             · rename_i hb; cases h; exact ⟨_, by simp [Sem.run_bind', binOp, Op.intDiv, hb] <;> rfl, .int _ _⟩)
      · cases h
  case str.str s1 s2 =>
    have hg : (eqGuard op t x y (.string ⟨s1.toArray⟩) (.string ⟨s2.toArray⟩)) = pure () := by
      simp only [eqGuard]; cases op <;> rfl
    rw [hg]
    simp only [arith] at h
    cases op <;> simp only [strOp] at h <;> try (cases h; done)
    case add =>
      split at h
      · rename_i hl
        cases h
        refine ⟨_, ?_, .str _⟩
        have := run_string_add_sum (P := X.P) w (ByteArray.mk s1.toArray) (ByteArray.mk s2.toArray) (by simpa [ByteArray.size] using hl)
        rw [ByteArray.mk_append_mk] at this
        simpa [Sem.run_bind', binOp] using this
      · cases h
    all_goals (cases h; exact ⟨_, by simp [Sem.run_bind', binOp, Op.stringOp] <;> rfl, .bool _⟩)

theorem eqOp_cases (neg : Bool) : eqOp neg = .eql ∨ eqOp neg = .neq := by cases neg <;> simp [eqOp]

theorem eqb_sim {neg : Bool} {t : TypeId} {x y : Operand} {b c : Bool} (ht : isBoolT X.P t = true) :
    ((eqGuard (eqOp neg) t x y (.bool b) (.bool c)).bind fun _ => binOp (eqOp neg) t (.bool b) (.bool c)).run X.P w = .ok (.bool (if neg then !(b == c) else b == c)) w := by
  have hu : X.P.underlying t = some .bool := by
    unfold isBoolT at ht; split at ht
    · assumption
    · cases ht
  have hg : (eqGuard (eqOp neg) t x y (.bool b) (.bool c)) = pure () := by
    simp only [eqGuard]; cases neg <;> rfl
  rw [hg]
  cases neg
  · simpa [Sem.run_bind', eqOp] using run_eql_bool (P := X.P) w t b c hu
  · simpa [Sem.run_bind', eqOp] using run_neq_bool (P := X.P) w t b c hu

def IsNilV : NK → Value → Prop
  | .p, z => z = .pointer none
  | .s, z => ∃ l c, z = .slice none l c
  | .i, z => z = .nilIface
  | .f, z => z = .nilFunc
  | .m, z => z = .map none

def nilT (P : Program) (t : TypeId) : NK → Prop
  | .p => ∃ e, P.underlying t = some (.pointer e)
  | .s => ∃ e, P.underlying t = some (.slice e)
  | .i => ∃ e, P.underlying t = some (.interface e)
  | .f => ∃ e f h, P.underlying t = some (.func e f h)
  | .m => ∃ e f, P.underlying t = some (.map e f)

theorem nilEq_run {k : NK} {t : TypeId} {v : PV} {u z : Value} {b : Bool} (d : Nat) (ht : nilT X.P t k) (hn : isNil k v = some b) (r : VR X g w v u) (hz : IsNilV k z) :
    (Op.equalIn (d + 1) t u z).run X.P w = .ok b w := by
  cases k
  · obtain ⟨e, hu⟩ := ht; subst hz
    cases r <;> simp [isNil] at hn <;> subst hn <;> simp [Op.equalIn, run_underlying hu]
  · obtain ⟨e, hu⟩ := ht; obtain ⟨l, c, rfl⟩ := hz
    cases r <;> simp [isNil] at hn <;> subst hn <;> simp [Op.equalIn, run_underlying hu]
  · obtain ⟨e, hu⟩ := ht; subst hz
    cases r <;> simp [isNil] at hn <;> subst hn <;> simp [Op.equalIn, run_underlying hu]
  · obtain ⟨e, f, h, hu⟩ := ht; subst hz
    cases r <;> simp [isNil] at hn <;> subst hn <;> simp [Op.equalIn, run_underlying hu]
  · obtain ⟨e, f, hu⟩ := ht; subst hz
    cases r <;> simp [isNil] at hn <;> subst hn <;> simp [Op.equalIn, run_underlying hu]

theorem nilOk_spec {P : Program} {t : TypeId} {k : NK} {y : Operand} (h : nilOk P t k y = true) : nilT P t k ∧ ∃ c, y = .const c ∧ IsNilV k c := by
  cases k <;> cases y <;> try (simp [nilOk] at h; done)
  all_goals
    rename_i v
    cases v <;> try (simp [nilOk] at h; done)
  · rename_i p
    cases p <;> simp [nilOk] at h
    split at h
    · rename_i hu; exact ⟨⟨_, hu⟩, _, rfl, rfl⟩
    · cases h
  · rename_i p l c
    cases p <;> simp [nilOk] at h
    split at h
    · rename_i hu; exact ⟨⟨_, hu⟩, _, rfl, ⟨l, c, rfl⟩⟩
    · cases h
  · simp [nilOk] at h
    split at h
    · rename_i hu; exact ⟨⟨_, hu⟩, _, rfl, rfl⟩
    · cases h
  · simp [nilOk] at h
    split at h
    · rename_i hu; exact ⟨⟨_, _, _, hu⟩, _, rfl, rfl⟩
    · cases h
  · rename_i p
    cases p <;> simp [nilOk] at h
    split at h
    · rename_i hu; exact ⟨⟨_, _, hu⟩, _, rfl, rfl⟩
    · cases h

theorem eqn_sim {neg : Bool} {k : NK} {t : TypeId} {x y : Operand} {v : PV} {u : Value} {b : Bool} (ht : nilOk X.P t k y = true) (hn : isNil k v = some b) (r : VR X g w v u) :
    ((eqGuard (eqOp neg) t x y u (a.eval y)).bind fun _ => binOp (eqOp neg) t u (a.eval y)).run X.P w = .ok (.bool (if neg then !b else b)) w := by
  obtain ⟨h1, c, rfl, h2⟩ := nilOk_spec ht
  have he : (Op.equal t u c).run X.P w = .ok b w := nilEq_run 9999 h1 hn r h2
  show ((eqGuard (eqOp neg) t x (.const c) u c).bind fun _ => binOp (eqOp neg) t u c).run X.P w = _
  cases k
  · cases h2
    cases r <;> simp [isNil] at hn <;> cases neg <;> simp [Sem.run_bind', eqGuard, eqOp, binOp, he]
  · obtain ⟨l, d, rfl⟩ := h2
    cases r <;> simp [isNil] at hn <;> cases neg <;> simp [Sem.run_bind', eqGuard, eqOp, binOp, he]
  · cases h2
    cases r <;> simp [isNil] at hn <;> cases neg <;> simp [Sem.run_bind', eqGuard, eqOp, binOp, he]
  · cases h2
    cases r <;> simp [isNil] at hn <;> cases neg <;> simp [Sem.run_bind', eqGuard, eqOp, binOp, he]
  · cases h2
    cases r <;> simp [isNil] at hn <;> cases neg <;> simp [Sem.run_bind', eqGuard, eqOp, binOp, he]

end
end Ps
