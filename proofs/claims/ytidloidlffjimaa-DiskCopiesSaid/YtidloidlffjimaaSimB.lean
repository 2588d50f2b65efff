/- More operations that only compute: parts of values, addresses, slices, loads. -/
import Derived.Test.YtidloidlffjimaaChk
import Derived.Laws.StructEq
import Derived.Laws.Strings3
import Derived.Laws.BytesArg
import Derived.Laws.Slices
import Derived.Laws.Build
import Derived.Laws.Concat
import Derived.Laws.Cover1
import Derived.Laws.Tables
import Derived.Great.BuildSlice
namespace Ps
open Go
section
variable {X : Tie} {g : Gh} {w : World} {n : Dn} {fr : Fr} {a : Act}
theorem const_sim {v : Value} {c : PV} (h : constOk v c = true) : VR X g w c v := by
 unfold constOk at h
 split at h
 ·simp only [Bool.and_eq_true, beq_iff_eq] at h; obtain ⟨rfl, rfl⟩ := h; exact .int _ _
 ·simp only [beq_iff_eq] at h; subst h; exact .bool _
 ·simp only [beq_iff_eq] at h; subst h; exact .str _
 ·exact .nilp
 ·simp only [Bool.and_eq_true, beq_iff_eq] at h; obtain ⟨rfl, rfl⟩ := h; exact .nils
 ·exact .nili
 ·exact .nilf
 ·exact .nilm
 ·cases h

theorem consts_sim : ∀ {vs : List Value} {cs : List PV}, constsOk vs cs = true → cs.length = vs.length ∧ ∀ (j : Nat) (c : PV) (u : Value), cs[j]? = some c → vs[j]? = some u → VR X g w c u
 | [], [], _ => ⟨rfl, fun j c u h => by simp at h⟩
 | v :: l, c :: m, h => by
  simp only [constsOk, Bool.and_eq_true] at h
  obtain ⟨h1, h2⟩ := consts_sim h.2
  refine ⟨by simp [h1], fun j d u e1 e2 => ?_⟩
  cases j with
  | zero => simp at e1 e2; subst e1; subst e2; exact const_sim h.1
  | succ j => exact h2 j d u (by simpa using e1) (by simpa using e2)
 | [], _ :: _, h => by simp [constsOk] at h
 | _ :: _, [], h => by simp [constsOk] at h

theorem zero_sim {v : Value} {c : PV} (h : zeroOk v c = true) : VR X g w c v := by
 unfold zeroOk at h
 split at h
 ·rename_i vs cs
  obtain ⟨h1, h2⟩ := consts_sim (X := X) (g := g) (w := w) h
  exact .agg _ _ (by simpa using h1) (fun j c u e1 e2 => h2 j c u e1 (by simpa using e2))
 ·exact const_sim h

theorem opd_sim (hF : FR X n g w fr a) {x : Operand} {y : Opd} (h : chkOpd X x y = true) : VR X g w (ev fr y) (a.eval x) := by
 unfold chkOpd at h
 split at h
 ·simp only [beq_iff_eq] at h; subst h; exact hF.at_ _
 ·exact const_sim h
 ·simp only [beq_iff_eq] at h; subst h; exact .fn _ _ _ rfl (fun j c u e => by simp at e)
 ·cases h

theorem opds_sim (hF : FR X n g w fr a) : ∀ {xs : List Operand} {ys : List Opd}, chkOpds X xs ys = true →
  (ys.map (ev fr)).length = (xs.map a.eval).length ∧ ∀ (j : Nat) (c : PV) (u : Value), (ys.map (ev fr))[j]? = some c → (xs.map a.eval)[j]? = some u → VR X g w c u
 | [], [], _ => ⟨rfl, fun j c u h => by simp at h⟩
 | x :: l, y :: m, h => by
  simp only [chkOpds, Bool.and_eq_true] at h
  obtain ⟨h1, h2⟩ := opds_sim hF h.2
  refine ⟨by simpa using h1, fun j d u e1 e2 => ?_⟩
  cases j with
  | zero => simp at e1 e2; subst e1; subst e2; exact opd_sim hF h.1
  | succ j => exact h2 j d u (by simpa using e1) (by simpa using e2)
 | [], _ :: _, h => by simp [chkOpds] at h
 | _ :: _, [], h => by simp [chkOpds] at h

theorem arith_sim {op : BinOp} {t : TypeId} {v1 v2 v : PV} {x y : Operand} {u1 u2 : Value} (h : arith op v1 v2 = some v) (r1 : VR X g w v1 u1) (r2 : VR X g w v2 u2) :
    ∃ u, ((eqGuard op t x y u1 u2).bind fun _ => binOp op t u1 u2).run X.P w = .ok u w ∧ VR X g w v u := by
  cases r1 <;> cases r2 <;> try (simp [arith] at h; done)
  case int.int k a l b =>
    have hg : (eqGuard op t x y (.int k a) (.int l b)) = pure () := by
      simp only [eqGuard]; cases op <;> rfl
    rw [hg]
    simp only [arith] at h
    cases op <;> simp only [isShift, Bool.false_eq_true, if_false, if_true] at h
    case shl | shr =>
      simp only [shiftOp] at h
      split at h
      · cases h
      · rename_i hb
        cases h
        exact ⟨_, by simp [Sem.run_bind', binOp, Op.shift, hb], .int _ _⟩
    all_goals
      split at h
      · rename_i hk; subst hk
        simp only [intOp] at h
        first
          | (cases h; exact ⟨_, by simp only [binOp, Op.intBits, ne_eq, not_true_eq_false, if_false]; rfl, .int _ _⟩)
          | (cases h; exact ⟨_, by simp [Sem.run_bind', binOp, Op.intCmp] <;> rfl, by first | exact .int _ _ | exact .bool _⟩)
          | (split at h
             · cases h
             · rename_i hb; cases h; exact ⟨_, by simp [Sem.run_bind', binOp, Op.intDiv, hb] <;> rfl, .int _ _⟩)
      · cases h
  case str.str s1 s2 =>
    have hg : (eqGuard op t x y (.string ⟨s1.toArray⟩) (.string ⟨s2.toArray⟩)) = pure () := by
      simp only [eqGuard]; cases op <;> rfl
    rw [hg]
    simp only [arith] at h
    cases op <;> simp only [strOp] at h <;> try (cases h; done)
    case add =>
      split at h
      · rename_i hl
        cases h
        refine ⟨_, ?_, .str _⟩
        have := run_string_add_sum (P := X.P) w (ByteArray.mk s1.toArray) (ByteArray.mk s2.toArray) (by simpa [ByteArray.size] using hl)
        rw [ByteArray.mk_append_mk] at this
        simpa [Sem.run_bind', binOp] using this
      · cases h
    all_goals (cases h; exact ⟨_, by simp [Sem.run_bind', binOp, Op.stringOp] <;> rfl, .bool _⟩)

theorem eqb_sim {neg : Bool} {t : TypeId} {x y : Operand} {b c : Bool} (ht : isBoolT X.P t = true) :
  ((eqGuard (eqOp neg) t x y (.bool b) (.bool c)).bind fun _ => binOp (eqOp neg) t (.bool b) (.bool c)).run X.P w = .ok (.bool (if neg then !(b == c) else b == c)) w := by
 have hu : X.P.underlying t = some .bool := by
  unfold isBoolT at ht; split at ht
  ·assumption
  ·cases ht
 have hg : (eqGuard (eqOp neg) t x y (.bool b) (.bool c)) = pure () := by
  simp only [eqGuard]; cases neg <;> rfl
 rw [hg]
 cases neg
 ·simpa [Sem.run_bind', eqOp] using run_eql_bool (P := X.P) w t b c hu
 ·simpa [Sem.run_bind', eqOp] using run_neq_bool (P := X.P) w t b c hu

def IsNilV : NK → Value → Prop
 | .p, z => z = .pointer none
 | .s, z => ∃ l c, z = .slice none l c
 | .i, z => z = .nilIface
 | .f, z => z = .nilFunc
 | .m, z => z = .map none

def nilT (P : Program) (t : TypeId) : NK → Prop
 | .p => ∃ e, P.underlying t = some (.pointer e)
 | .s => ∃ e, P.underlying t = some (.slice e)
 | .i => ∃ e, P.underlying t = some (.interface e)
 | .f => ∃ e f h, P.underlying t = some (.func e f h)
 | .m => ∃ e f, P.underlying t = some (.map e f)

theorem nilEq_run {k : NK} {t : TypeId} {v : PV} {u z : Value} {b : Bool} (d : Nat) (ht : nilT X.P t k) (hn : isNil k v = some b) (r : VR X g w v u) (hz : IsNilV k z) :
  (Op.equalIn (d + 1) t u z).run X.P w = .ok b w := by
 cases k
 ·obtain ⟨e, hu⟩ := ht; subst hz
  cases r <;> simp [isNil] at hn <;> subst hn <;> simp [Op.equalIn, run_underlying hu]
 ·obtain ⟨e, hu⟩ := ht; obtain ⟨l, c, rfl⟩ := hz
  cases r <;> simp [isNil] at hn <;> subst hn <;> simp [Op.equalIn, run_underlying hu]
 ·obtain ⟨e, hu⟩ := ht; subst hz
  cases r <;> simp [isNil] at hn <;> subst hn <;> simp [Op.equalIn, run_underlying hu]
 ·obtain ⟨e, f, h, hu⟩ := ht; subst hz
  cases r <;> simp [isNil] at hn <;> subst hn <;> simp [Op.equalIn, run_underlying hu]
 ·obtain ⟨e, f, hu⟩ := ht; subst hz
  cases r <;> simp [isNil] at hn <;> subst hn <;> simp [Op.equalIn, run_underlying hu]

theorem nilOk_spec {P : Program} {t : TypeId} {k : NK} {y : Operand} (h : nilOk P t k y = true) : nilT P t k ∧ ∃ c, y = .const c ∧ IsNilV k c := by
 cases k <;> cases y <;> try (simp [nilOk] at h; done)
 all_goals
  rename_i v
  cases v <;> try (simp [nilOk] at h; done)
 ·rename_i p
  cases p <;> simp [nilOk] at h
  split at h
  ·rename_i hu; exact ⟨⟨_, hu⟩, _, rfl, rfl⟩
  ·cases h
 ·rename_i p l c
  cases p <;> simp [nilOk] at h
  split at h
  ·rename_i hu; exact ⟨⟨_, hu⟩, _, rfl, ⟨l, c, rfl⟩⟩
  ·cases h
 ·simp [nilOk] at h
  split at h
  ·rename_i hu; exact ⟨⟨_, hu⟩, _, rfl, rfl⟩
  ·cases h
 ·simp [nilOk] at h
  split at h
  ·rename_i hu; exact ⟨⟨_, _, _, hu⟩, _, rfl, rfl⟩
  ·cases h
 ·rename_i p
  cases p <;> simp [nilOk] at h
  split at h
  ·rename_i hu; exact ⟨⟨_, _, hu⟩, _, rfl, rfl⟩
  ·cases h

theorem eqn_sim {neg : Bool} {k : NK} {t : TypeId} {x y : Operand} {v : PV} {u : Value} {b : Bool} (ht : nilOk X.P t k y = true) (hn : isNil k v = some b) (r : VR X g w v u) :
  ((eqGuard (eqOp neg) t x y u (a.eval y)).bind fun _ => binOp (eqOp neg) t u (a.eval y)).run X.P w = .ok (.bool (if neg then !b else b)) w := by
 obtain ⟨h1, c, rfl, h2⟩ := nilOk_spec ht
 have he : (Op.equal t u c).run X.P w = .ok b w := nilEq_run 9999 h1 hn r h2
 show ((eqGuard (eqOp neg) t x (.const c) u c).bind fun _ => binOp (eqOp neg) t u c).run X.P w = _
 cases k
 ·cases h2
  cases r <;> simp [isNil] at hn <;> cases neg <;> simp [Sem.run_bind', eqGuard, eqOp, binOp, he]
 ·obtain ⟨l, d, rfl⟩ := h2
  cases r <;> simp [isNil] at hn <;> cases neg <;> simp [Sem.run_bind', eqGuard, eqOp, binOp, he]
 ·cases h2
  cases r <;> simp [isNil] at hn <;> cases neg <;> simp [Sem.run_bind', eqGuard, eqOp, binOp, he]
 ·cases h2
  cases r <;> simp [isNil] at hn <;> cases neg <;> simp [Sem.run_bind', eqGuard, eqOp, binOp, he]
 ·cases h2
  cases r <;> simp [isNil] at hn <;> cases neg <;> simp [Sem.run_bind', eqGuard, eqOp, binOp, he]

end
end Ps
namespace Ps
open Go
section
variable {X : Tie} {g : Gh} {w : World} {n : Dn} {fr : Fr} {a : Act}
theorem add_plain (b o k : Nat) : (⟨b, o, none⟩ : Addr).add k = ⟨b, o + k, none⟩ := Addr.add_lit b o k

def CellsAt (X : Tie) (g : Gh) (w : World) (b o : Nat) (cs : List PV) : Prop :=
 ∃ us : Nat → Value, ∀ (j : Nat) (c : PV), cs[j]? = some c → w.cell? ⟨b, o + j, none⟩ = some (us j) ∧ VR X g w c (us j)

theorem CellsAt.drop {b o : Nat} {cs : List PV} (h : CellsAt X g w b o cs) (k : Nat) : CellsAt X g w b (o + k) (cs.drop k) := by
 obtain ⟨us, h⟩ := h
 refine ⟨fun j => us (k + j), fun j c hc => ?_⟩
 have := h (k + j) c (by simpa [List.getElem?_drop] using hc)
 rw [show o + k + j = o + (k + j) by omega]
 exact this

theorem isAgg_run {t : TypeId} {ag : Bool} {m : Nat} (h : isAggT X.P t ag m = true) :
  (isAgg t).run X.P w = .ok ag w ∧ (Go.sizeOf t).run X.P w = .ok m w ∧ (ag = false → m = 1) := by
 simp only [isAggT, Bool.and_eq_true, Bool.or_eq_true, beq_iff_eq] at h
 obtain ⟨⟨h1, h2⟩, h3⟩ := h
 refine ⟨?_, ?_, fun e => by simpa [e] using h3⟩
 ·split at h1
  ·rename_i hu; subst h1; simp [isAgg, run_underlying hu]
  ·rename_i hu; subst h1; simp [isAgg, run_underlying hu]
  ·rename_i d h4 h5 hu
   have : ag = false := by simpa using h1
   subst this
   simp only [isAgg, Sem.run_bind, run_underlying hu, Result.andThen]
   rfl
  ·cases h1
 ·split at h2
  ·rename_i i hi
   simp only [beq_iff_eq] at h2
   simp [Go.sizeOf, typeInfo, hi, h2]
  ·cases h2

theorem partOf_spec {ag : Bool} {m : Nat} {cs : List PV} {v : PV} (h : partOf ag m cs = some v) :
  m ≤ cs.length ∧ ((ag = true ∧ v = .agg (cs.take m)) ∨ (ag = false ∧ m = 1 ∧ cs[0]? = some v)) := by
 unfold partOf at h
 split at h
 ·refine ⟨‹_›, ?_⟩
  split at h
  ·cases h; exact .inl ⟨by assumption, rfl⟩
  ·rename_i hag
   split at h
   ·split at h
    ·cases h; exact .inr ⟨by simpa using hag, by assumption, rfl⟩
    ·cases h
   ·cases h
 ·cases h

theorem load_run {t : TypeId} {ag : Bool} {m b o : Nat} {cs : List PV} {v : PV} (ht : isAggT X.P t ag m = true) (hp : partOf ag m cs = some v) (hc : CellsAt X g w b o cs) :
  ∃ u, (loadVar t ⟨b, o, none⟩).run X.P w = .ok u w ∧ VR X g w v u := by
 obtain ⟨us, hc⟩ := hc
 obtain ⟨h1, h2, h3⟩ := isAgg_run (w := w) ht
 obtain ⟨hm, hv⟩ := partOf_spec hp
 rcases hv with ⟨rfl, rfl⟩ | ⟨rfl, rfl, h0⟩
 ·refine ⟨.agg ((List.range m).map us).toArray, ?_, ?_⟩
  ·simp only [loadVar, Sem.run_bind, h1, h2, Result.andThen, if_true]
   rw [run_loadCells w ⟨b, o, none⟩ m us (fun j hj => by
    obtain ⟨c, hcj⟩ : ∃ c, cs[j]? = some c := ⟨cs[j], by simp [List.getElem?_eq_getElem (by omega : j < cs.length)]⟩
    rw [add_plain]; exact (hc j c hcj).1)]
   rfl
  ·refine .agg _ _ (by simp [Nat.min_eq_left hm]) (fun j c u e1 e2 => ?_)
   have hj : j < m := by
    rcases Nat.lt_or_ge j m with h | h
    ·exact h
    ·rw [List.getElem?_eq_none (by simp; omega)] at e1; cases e1
   have e2' : us j = u := by simpa [hj] using e2
   rw [← e2']
   exact (hc j c (by rw [List.getElem?_take_of_lt hj] at e1; exact e1)).2
 ·refine ⟨us 0, ?_, (hc 0 v h0).2⟩
  have := (hc 0 v h0).1
  simp only [Nat.add_zero] at this
  simp [loadVar, h1, this]

theorem ref_cells {cs : List PV} {u : Value} (r : VR X g w (.ref cs) u) : ∃ b o, u = .pointer (some ⟨b, o, none⟩) ∧ CellsAt X g w b o cs ∧ o + cs.length ≤ g.pub b := by
 cases r with
 | ref cs b o us hpub hc hv =>
  refine ⟨b, o, rfl, ⟨us, fun j c h => ⟨hc j ?_, hv j c h⟩⟩, hpub⟩
  rcases Nat.lt_or_ge j cs.length with h' | h'
  ·exact h'
  ·rw [List.getElem?_eq_none h'] at h; cases h

theorem ref_mk {cs : List PV} {b o : Nat} (h : CellsAt X g w b o cs) (hp : o + cs.length ≤ g.pub b) : VR X g w (.ref cs) (.pointer (some ⟨b, o, none⟩)) := by
 obtain ⟨us, h⟩ := h
 refine .ref cs b o us hp (fun j hj => ?_) (fun j c hc => (h j c hc).2)
 exact (h j cs[j] (by simp [List.getElem?_eq_getElem hj])).1

theorem obj_cells {S : St} (hS : SR X g S w) {id b : Nat} (hid : g.obj id = some b) {cs : List PV} (hcs : S.objs[id]? = some cs) : CellsAt X g w b 0 cs := by
 obtain ⟨cs', us, t, h1, h2, h3, h4⟩ := hS.obj id b hid
 rw [hcs] at h1; cases h1
 refine ⟨fun j => us.getD j undef, fun j c hc => ?_⟩
 have hj : j < us.size := by
  rcases Nat.lt_or_ge j cs.length with h' | h'
  ·omega
  ·rw [List.getElem?_eq_none h'] at hc; cases hc
 have e : us[j]? = some (us.getD j undef) := by simp [Array.getD, hj]
 exact ⟨by simp [World.cell?, h2, hj, Array.getD], h4 j c _ hc e⟩

theorem part_run {t : TypeId} {ag : Bool} {m off : Nat} {cs : List PV} {us : Array Value} {v : PV} (ht : isAggT X.P t ag m = true) (hp : partOf ag m (cs.drop off) = some v)
  (hl : cs.length = us.size) (hv : ∀ (j : Nat) (c : PV) (u : Value), cs[j]? = some c → us[j]? = some u → VR X g w c u) :
  ∃ u, (part t us off).run X.P w = .ok u w ∧ VR X g w v u := by
 obtain ⟨h1, h2, h3⟩ := isAgg_run (w := w) ht
 obtain ⟨hm, hv'⟩ := partOf_spec hp
 simp only [List.length_drop] at hm
 rcases hv' with ⟨rfl, rfl⟩ | ⟨rfl, rfl, h0⟩
 ·refine ⟨.agg (us.extract off (off + m)), by simp [part, h1, h2], .agg _ _ ?_ (fun j c u e1 e2 => ?_)⟩
  ·simp; omega
  ·have hj : j < m := by
    rcases Nat.lt_or_ge j m with h | h
    ·exact h
    ·rw [List.getElem?_eq_none (by simp; omega)] at e1; cases e1
   rw [List.getElem?_take_of_lt hj, List.getElem?_drop] at e1
   refine hv (off + j) c u e1 ?_
   rw [Array.getElem?_extract] at e2
   split at e2
   ·exact e2
   ·cases e2
 ·rw [List.getElem?_drop, Nat.add_zero] at h0
  have hlt : off < us.size := by
   rw [← hl]
   rcases Nat.lt_or_ge off cs.length with h | h
   ·exact h
   ·rw [List.getElem?_eq_none h] at h0; cases h0
  refine ⟨us[off], by simp [part, h1, hlt], hv off v _ h0 (by simp [hlt])⟩

theorem bound_sim {v : PV} {u : Value} {y l : Nat} {code : BoundsCode} (r : VR X g w v u) (h : bound y v = some l) : (Instr.sliceBound u y code).run X.P w = .ok l w ∧ l ≤ y := by
 cases r <;> try (simp [bound] at h; done)
 simp only [bound] at h
 split at h
 ·rename_i hb
  cases h
  exact ⟨run_sliceBound w _ _ _ _ hb.1 hb.2, by omega⟩
 ·cases h

theorem bounds_cap {len c cap l h : Nat} {lo hi : Option PV} (hb : bounds len c lo hi = some (l, h)) (h1 : len ≤ c) (h2 : c ≤ cap) : bounds len cap lo hi = some (l, h) ∧ h ≤ c := by
 simp only [bounds] at hb ⊢
 have key : ∀ H, hiOf len c hi = some H → hiOf len cap hi = some H ∧ H ≤ c := by
  intro H hH
  cases hi with
  | none => simp only [hiOf, Option.some.injEq] at hH ⊢; exact ⟨hH, by omega⟩
  | some v =>
   simp only [hiOf] at hH ⊢
   unfold bound at hH ⊢
   split at hH
   ·split at hH
    ·rename_i hq; simp only [Option.some.injEq] at hH
     rw [if_pos ⟨hq.1, by omega⟩]; exact ⟨by rw [hH], by omega⟩
    ·cases hH
   ·cases hH
 cases hH : hiOf len c hi with
 | none => rw [hH] at hb; cases hb
 | some H =>
  obtain ⟨q1, q2⟩ := key H hH
  rw [hH] at hb; rw [q1]
  refine ⟨hb, ?_⟩
  simp only at hb
  split at hb
  ·cases hb
  ·split at hb
   ·cases hb; exact q2
   ·cases hb

theorem bounds_sim (hF : FR X n g w fr a) {lo hi : Option Opd} {lo' hi' : Option Operand} (hlo : chkOpdO X lo' lo = true) (hhi : chkOpdO X hi' hi = true)
  {sl : Bool} {len cap l h : Nat} (hb : bounds len cap (evO fr lo) (evO fr hi) = some (l, h)) (hlen : len ≤ cap) :
  (Instr.sliceBounds sl len cap (lo'.map a.eval) (hi'.map a.eval) none).run X.P w = .ok (l, h, cap) w ∧ l ≤ h ∧ h ≤ cap := by
 have hH : ∃ H, (match hi'.map a.eval with | some v => Instr.sliceBound v cap (if sl then .sliceAcap else .sliceAlen) | none => pure len).run X.P w = .ok H w ∧ H ≤ cap ∧ hiOf len cap (evO fr hi) = some H := by
  cases hi <;> cases hi' <;> simp only [chkOpdO] at hhi <;> try (cases hhi; done)
  ·exact ⟨len, by simp, hlen, rfl⟩
  ·rename_i y x
   have r := opd_sim hF hhi
   cases hbd : bound cap (ev fr y) with
   | none => simp [bounds, hiOf, evO, hbd] at hb
   | some H =>
    obtain ⟨h1, h2⟩ := bound_sim (code := if sl then .sliceAcap else .sliceAlen) r hbd
    exact ⟨H, by simpa using h1, h2, hbd⟩
 obtain ⟨H, hrun, hHc, heq⟩ := hH
 simp only [bounds, heq] at hb
 have hL : ∃ L, (match lo'.map a.eval with | some v => Instr.sliceBound v H .sliceB | none => pure 0).run X.P w = .ok L w ∧ loOf H (evO fr lo) = some L := by
  cases lo <;> cases lo' <;> simp only [chkOpdO] at hlo <;> try (cases hlo; done)
  ·exact ⟨0, by simp, rfl⟩
  ·rename_i y x
   have r := opd_sim hF hlo
   cases hbd : bound H (ev fr y) with
   | none => simp [loOf, evO, hbd] at hb
   | some L =>
    obtain ⟨h1, h2⟩ := bound_sim (code := .sliceB) r hbd
    exact ⟨L, by simpa using h1, hbd⟩
 obtain ⟨L, hrunL, heqL⟩ := hL
 simp only [heqL] at hb
 split at hb
 ·rename_i hle
  cases hb
  refine ⟨?_, hle, hHc⟩
  cases hi' <;> cases lo' <;> simp_all [Instr.sliceBounds]
 ·cases hb

end
end Ps
