/- Whatever only computes: the model's run hands back what stands for the pure value. -/
import Derived.Test.YtidloidlffjimaaSimD
namespace Ps
open Go
def TyInj (X : Tie) : Prop := ∀ a b, X.ty a = X.ty b → a = b

section
variable {X : Tie} {g : Gh} {w : World} {n : Dn} {fr : Fr} {a : Act}
def Does (X : Tie) (g : Gh) (w : World) (a : Act) (op : Go.Op) (v : PV) : Prop :=
 ∀ (dst : Option Tmp) (ty : TypeId) (pos : String) (after : Array Edge) (guard : Option (Nat × Bool)),
  ∃ u, (execOp a.eval ⟨dst, op, ty, pos, after, guard⟩).run X.P w = .ok (.value u) w ∧ VR X g w v u

theorem notIf_spec {P : Program} {t : TypeId} (h : notIfT P t = true) : ∃ d, P.underlying t = some d ∧ ∀ ms, d ≠ .interface ms := by
 unfold notIfT at h
 split at h
 ·cases h
 ·rename_i d hd hu
  exact ⟨d, hu, fun ms e => hd ms e⟩
 ·cases h

theorem intT_spec {P : Program} {t : TypeId} {k : IntKind} (h : isIntT P t k = true) : P.underlying t = some (.int k) := by
 unfold isIntT at h
 split at h
 ·rename_i j hu; simp only [beq_iff_eq] at h; subst h; exact hu
 ·cases h

theorem strT_spec {P : Program} {t : TypeId} (h : isStrT P t = true) : P.underlying t = some .string := by
 unfold isStrT at h
 split at h
 ·assumption
 ·cases h

theorem slT_spec {P : Program} {t : TypeId} {sz : Nat} (h : isSlT P t sz = true) : ∃ e i, P.underlying t = some (.slice e) ∧ P.info? e = some i ∧ i.size = sz := by
 unfold isSlT at h
 split at h
 ·rename_i e hu
  split at h
  ·rename_i i hi; exact ⟨e, i, hu, hi, by simpa using h⟩
  ·cases h
 ·cases h

theorem arrT_spec {P : Program} {t : TypeId} {len sz : Nat} (h : isArrT P t len sz = true) : ∃ e i, P.underlying t = some (.array len e) ∧ P.info? e = some i ∧ i.size = sz := by
 unfold isArrT at h
 split at h
 ·rename_i m e hu
  simp only [Bool.and_eq_true, beq_iff_eq] at h
  obtain ⟨rfl, h⟩ := h
  split at h
  ·rename_i i hi; exact ⟨e, i, hu, hi, by simpa using h⟩
  ·cases h
 ·cases h

theorem builtin_run {c : Call} {b : Builtin} (hc : c.callee = .builtin b) (dst : Option Tmp) (ty : TypeId) (pos : String) (after : Array Edge) (guard : Option (Nat × Bool)) :
  ∃ consts, execOp a.eval ⟨dst, .call c, ty, pos, after, guard⟩ = builtin b c.argTypes ty consts (c.args.map a.eval) := by
 obtain ⟨callee, args, tys⟩ := c
 simp only at hc
 subst hc
 exact ⟨_, rfl⟩

theorem args_one {c : Call} {x : Operand} (h : c.args.toList = [x]) : c.args = #[x] := by
 have := congrArg List.toArray h; simpa using this
theorem args_two {c : Call} {x y : Operand} (h : c.args.toList = [x, y]) : c.args = #[x, y] := by
 have := congrArg List.toArray h; simpa using this
theorem tys_one {c : Call} {x : TypeId} (h : c.argTypes.toList = [x]) : c.argTypes = #[x] := by
 have := congrArg List.toArray h; simpa using this
theorem tys_two {c : Call} {x y : TypeId} (h : c.argTypes.toList = [x, y]) : c.argTypes = #[x, y] := by
 have := congrArg List.toArray h; simpa using this

theorem mov_does (hF : FR X n g w fr a) {op : Go.Op} {y : Opd} (hc : chkMov X y op = true) : Does X g w a op (ev fr y) := by
 intro dst ty pos after guard
 unfold chkMov at hc
 split at hc
 ·exact ⟨_, by simp only [execOp]; rfl, opd_sim hF hc⟩
 ·exact ⟨_, by simp only [execOp]; rfl, opd_sim hF hc⟩
 ·rename_i c
  split at hc
  ·rename_i h1 h2 h3
   split at hc
   ·rename_i m e hu
    simp only [beq_iff_eq] at hc
    subst hc
    obtain ⟨consts, hb⟩ := builtin_run (a := a) h1 dst ty pos after guard
    rw [hb, args_one h2, tys_one h3]
    exact ⟨_, by simp [builtin, Builtin.len_, run_underlying hu, goInt] <;> rfl, .int _ _⟩
   ·cases hc
  ·cases hc
 ·cases hc

theorem pick_does (hF : FR X n g w fr a) {c x y : Opd} {c' x' y' : Operand} (hc : chkOpd X c' c = true) (hx : chkOpd X x' x = true) (hy : chkOpd X y' y = true) {v : PV}
  (hv : peval fr (.pick c x y) = some v) : Does X g w a (.pick c' x' y') v := by
 intro dst ty pos after guard
 have rc := opd_sim hF hc
 simp only [peval] at hv
 split at hv
 ·rename_i e
  cases hv
  rw [e] at rc
  generalize hu : a.eval c' = u at rc
  cases rc
  exact ⟨_, by simp [execOp, hu, asBool] <;> rfl, opd_sim hF hx⟩
 ·rename_i e
  cases hv
  rw [e] at rc
  generalize hu : a.eval c' = u at rc
  cases rc
  exact ⟨_, by simp [execOp, hu, asBool] <;> rfl, opd_sim hF hy⟩
 ·cases hv

theorem nilck_does (hF : FR X n g w fr a) {x : Opd} {x' : Operand} (hx : chkOpd X x' x = true) {v : PV} (hv : peval fr (.nilck x) = some v) : Does X g w a (.nilCheck x') v := by
 intro dst ty pos after guard
 have r := opd_sim hF hx
 simp only [peval] at hv
 generalize hu : a.eval x' = u at r
 generalize hp : ev fr x = p at r hv
 have hr := r
 cases r <;> simp only at hv <;> try (cases hv; done)
 all_goals
  simp only [Option.some.injEq] at hv; subst hv
  exact ⟨_, by simp [execOp, hu] <;> rfl, hr⟩

theorem bin_run {o : BinOp} {t : TypeId} {x y : Operand} {yt : TypeId} {u : Value} (h : ((eqGuard o t x y (a.eval x) (a.eval y)).bind fun _ => binOp o t (a.eval x) (a.eval y)).run X.P w = .ok u w)
  (dst : Option Tmp) (ty : TypeId) (pos : String) (after : Array Edge) (guard : Option (Nat × Bool)) :
  (execOp a.eval ⟨dst, .binOp o t x y yt, ty, pos, after, guard⟩).run X.P w = .ok (.value u) w := by
 have h' : (do eqGuard o t x y (a.eval x) (a.eval y); binOp o t (a.eval x) (a.eval y) : Sem Value).run X.P w = .ok u w := h
 simp only [execOp, Sem.run_bind]
 simp only [Sem.run_bind] at h'
 rw [h']
 rfl

theorem arith_does (hF : FR X n g w fr a) {o : BinOp} {x y : Opd} {x' y' : Operand} {t yt : TypeId} (hx : chkOpd X x' x = true) (hy : chkOpd X y' y = true) {v : PV}
  (hv : peval fr (.arith o x y) = some v) : Does X g w a (.binOp o t x' y' yt) v := by
 intro dst ty pos after guard
 obtain ⟨u, h1, h2⟩ := arith_sim (t := t) (x := x') (y := y') hv (opd_sim hF hx) (opd_sim hF hy)
 exact ⟨u, bin_run h1 _ _ _ _ _, h2⟩

theorem eqb_does (hF : FR X n g w fr a) {neg : Bool} {x y : Opd} {x' y' : Operand} {t yt : TypeId} (ht : isBoolT X.P t = true) (hx : chkOpd X x' x = true) (hy : chkOpd X y' y = true) {v : PV}
  (hv : peval fr (.eqb neg x y) = some v) : Does X g w a (.binOp (eqOp neg) t x' y' yt) v := by
 intro dst ty pos after guard
 have r1 := opd_sim hF hx
 have r2 := opd_sim hF hy
 simp only [peval] at hv
 split at hv
 ·rename_i b c e1 e2
  cases hv
  rw [e1] at r1
  rw [e2] at r2
  refine ⟨_, bin_run (u := .bool (if neg then !(b == c) else b == c)) ?_ _ _ _ _ _, .bool _⟩
  generalize hu1 : a.eval x' = u1 at r1
  generalize hu2 : a.eval y' = u2 at r2
  cases r1
  cases r2
  exact eqb_sim ht
 ·cases hv

theorem eqn_does (hF : FR X n g w fr a) {neg : Bool} {k : NK} {x : Opd} {x' y' : Operand} {t yt : TypeId} (ht : nilOk X.P t k y' = true) (hx : chkOpd X x' x = true) {v : PV}
  (hv : peval fr (.eqn neg k x) = some v) : Does X g w a (.binOp (eqOp neg) t x' y' yt) v := by
 intro dst ty pos after guard
 simp only [peval] at hv
 split at hv
 ·rename_i b e
  cases hv
  exact ⟨_, bin_run (eqn_sim ht e (opd_sim hF hx)) _ _ _ _ _, .bool _⟩
 ·cases hv

theorem eqa_does (hF : FR X n g w fr a) {neg isb : Bool} {m : Nat} {x y : Opd} {x' y' : Operand} {t yt : TypeId} (ht : scalArr X.P t isb m = true) (hx : chkOpd X x' x = true) (hy : chkOpd X y' y = true) {v : PV}
  (hv : peval fr (.eqa neg isb m x y) = some v) : Does X g w a (.binOp (eqOp neg) t x' y' yt) v := by
 intro dst ty pos after guard
 have r1 := opd_sim hF hx
 have r2 := opd_sim hF hy
 simp only [peval] at hv
 split at hv
 ·rename_i cs ds e1 e2
  rw [e1] at r1
  rw [e2] at r2
  split at hv
  ·rename_i hl
   split at hv
   ·rename_i b he
    cases hv
    refine ⟨_, bin_run (u := .bool (if neg then !b else b)) ?_ _ _ _ _ _, .bool _⟩
    generalize hu1 : a.eval x' = u1 at r1
    generalize hu2 : a.eval y' = u2 at r2
    cases r1 with
    | agg _ us hl1 hv1 =>
     cases r2 with
     | agg _ vs hl2 hv2 => exact eqa_sim ht hl.1 hl.2 he ⟨hl1, hv1⟩ ⟨hl2, hv2⟩
   ·cases hv
  ·cases hv
 ·cases hv

theorem eqs_does (hF : FR X n g w fr a) {neg : Bool} {m : Nat} {x y : Opd} {x' y' : Operand} {t yt : TypeId} (ht : intStr X.P t m = true) (hx : chkOpd X x' x = true) (hy : chkOpd X y' y = true) {v : PV}
  (hv : peval fr (.eqs neg m x y) = some v) : Does X g w a (.binOp (eqOp neg) t x' y' yt) v := by
 intro dst ty pos after guard
 have r1 := opd_sim hF hx
 have r2 := opd_sim hF hy
 simp only [peval] at hv
 split at hv
 ·rename_i cs ds e1 e2
  rw [e1] at r1
  rw [e2] at r2
  split at hv
  ·rename_i hl
   split at hv
   ·rename_i b he
    cases hv
    refine ⟨_, bin_run (u := .bool (if neg then !b else b)) ?_ _ _ _ _ _, .bool _⟩
    generalize hu1 : a.eval x' = u1 at r1
    generalize hu2 : a.eval y' = u2 at r2
    cases r1 with
    | agg _ us hl1 hv1 =>
     cases r2 with
     | agg _ vs hl2 hv2 => exact eqs_sim ht hl.1 hl.2 he ⟨hl1, hv1⟩ ⟨hl2, hv2⟩
   ·cases hv
  ·cases hv
 ·cases hv

theorem un_does (hF : FR X n g w fr a) {o : UnOp} {x : Opd} {x' : Operand} {t : TypeId} (hx : chkOpd X x' x = true) {v : PV} (hv : peval fr (.un o x) = some v) : Does X g w a (.unOp o t x') v := by
 intro dst ty pos after guard
 have r := opd_sim hF hx
 simp only [peval] at hv
 generalize hu : a.eval x' = u at r
 generalize hp : ev fr x = p at r hv
 unfold unOp at hv
 split at hv
 ·cases hv; cases r
  exact ⟨_, by simp [execOp, hu, Op.unary] <;> rfl, .bool _⟩
 ·cases hv; cases r
  exact ⟨_, by simp [execOp, hu, Op.unary, Op.intArith] <;> rfl, .int _ _⟩
 ·cases hv; cases r
  exact ⟨_, by simp [execOp, hu, Op.unary, Op.intBits] <;> rfl, .int _ _⟩
 ·cases hv

theorem toInt_does (hF : FR X n g w fr a) {k : IntKind} {x : Opd} {x' : Operand} {s d : TypeId} (hs : (X.P.underlying s).isSome = true) (hd : isIntT X.P d k = true) (hx : chkOpd X x' x = true) {v : PV}
  (hv : peval fr (.toInt k x) = some v) : Does X g w a (.convert s d x') v := by
 intro dst ty pos after guard
 have r := opd_sim hF hx
 simp only [peval] at hv
 split at hv
 ·rename_i j m e
  cases hv
  rw [e] at r
  generalize hu : a.eval x' = u at r
  cases r
  obtain ⟨ds, hds⟩ := Option.isSome_iff_exists.1 hs
  exact ⟨_, by simp [execOp, hu, convert, run_underlying hds, run_underlying (intT_spec hd), Conv.intToInt] <;> rfl, .int _ _⟩
 ·cases hv

theorem strId_does (hF : FR X n g w fr a) {x : Opd} {x' : Operand} {s d : TypeId} (hs : (X.P.underlying s).isSome = true) (hd : isStrT X.P d = true) (hx : chkOpd X x' x = true) {v : PV}
  (hv : peval fr (.strId x) = some v) : Does X g w a (.convert s d x') v := by
 intro dst ty pos after guard
 have r := opd_sim hF hx
 simp only [peval] at hv
 split at hv
 ·rename_i j e
  cases hv
  rw [e] at r
  generalize hu : a.eval x' = u at r
  cases r
  obtain ⟨ds, hds⟩ := Option.isSome_iff_exists.1 hs
  exact ⟨_, by simp [execOp, hu, convert, run_underlying hds, run_underlying (strT_spec hd)] <;> rfl, .str _⟩
 ·cases hv

theorem field_does (hF : FR X n g w fr a) {ag : Bool} {off m f : Nat} {x : Opd} {x' : Operand} {t : TypeId}
  (ht : (match X.P.underlying t with | some (.struct fs) => (match fs[f]? with | some g => g.offset == off && isAggT X.P g.type ag m | none => false) | _ => false) = true)
  (hx : chkOpd X x' x = true) {v : PV} (hv : peval fr (.field ag off m x) = some v) : Does X g w a (.field t x' f) v := by
 intro dst ty pos after guard
 have r := opd_sim hF hx
 simp only [peval] at hv
 split at ht
 ·rename_i fs hu
  split at ht
  ·rename_i fd hfd
   simp only [Bool.and_eq_true, beq_iff_eq] at ht
   obtain ⟨rfl, ht⟩ := ht
   split at hv
   ·rename_i cs e
    rw [e] at r
    generalize hux : a.eval x' = u at r
    cases r with
    | agg _ us hl hv1 =>
     obtain ⟨u, h1, h2⟩ := part_run ht hv hl hv1
     exact ⟨u, by simp [execOp, hux, Instr.field, run_underlying hu, hfd, asAgg, h1], h2⟩
   ·cases hv
  ·cases ht
 ·cases ht

theorem mkif_does (hF : FR X n g w fr a) {t : Nat} {x : Opd} {x' : Operand} (ht : notIfT X.P (X.ty t) = true) (hx : chkOpd X x' x = true) :
  Does X g w a (.makeInterface (X.ty t) x') (.iface t (ev fr x)) := by
 intro dst ty pos after guard
 obtain ⟨d, hu, hd⟩ := notIf_spec ht
 refine ⟨.iface (X.ty t) (a.eval x'), ?_, .iface _ _ _ (opd_sim hF hx)⟩
 simp only [execOp, Instr.makeInterface, Sem.run_bind, run_underlying hu, Result.andThen_ok]
 cases d <;> first | rfl | exact (hd _ rfl).elim

theorem mkfn_does (hF : FR X n g w fr a) {f : Nat} {caps : List Opd} {first cs : Array Operand} (h0 : first.size = 0) (hx : chkOpds X cs.toList caps = true) :
  Does X g w a (.makeFunc (.func (X.fnOf f)) first cs) (.fn f (caps.map (ev fr))) := by
 intro dst ty pos after guard
 have e : first = #[] := Array.eq_empty_of_size_eq_zero h0
 subst e
 obtain ⟨h1, h2⟩ := opds_sim hF hx
 refine ⟨.func (.func (X.fnOf f)) #[] (cs.map a.eval), by simp [execOp, Instr.makeFunc], .fn _ _ _ (by simpa using h1) (fun j c u e1 e2 => h2 j c u e1 (by simpa using e2))⟩

theorem mkbfn_does (hF : FR X n g w fr a) {f : Nat} {first : List Opd} {fs cs : Array Operand} (h0 : cs.size = 0) (hx : chkOpds X fs.toList first = true) :
  Does X g w a (.makeFunc (.func (X.fnOf f)) fs cs) (.bfn f (first.map (ev fr))) := by
 intro dst ty pos after guard
 have e : cs = #[] := Array.eq_empty_of_size_eq_zero h0
 subst e
 obtain ⟨h1, h2⟩ := opds_sim hF hx
 refine ⟨.func (.func (X.fnOf f)) (fs.map a.eval) #[], by simp [execOp, Instr.makeFunc], .bfn _ _ _ (by simpa using h1) (fun j c u e1 e2 => h2 j c u e1 (by simpa using e2))⟩

theorem extract_does (hF : FR X n g w fr a) {i : Nat} {x : Opd} {x' : Operand} (hx : chkOpd X x' x = true) {v : PV} (hv : peval fr (.extract i x) = some v) : Does X g w a (.extract x' i) v := by
 intro dst ty pos after guard
 have r := opd_sim hF hx
 simp only [peval] at hv
 split at hv
 ·rename_i vs e
  rw [e] at r
  generalize hux : a.eval x' = u at r
  cases r with
  | tup _ us hl hv1 =>
   have hi : i < us.size := by rw [← hl]; exact (List.getElem?_eq_some_iff.1 hv).1
   exact ⟨us[i], by simp [execOp, hux, Instr.extract, hi], hv1 i v _ hv (by simp [hi])⟩
 ·cases hv

theorem zeroT_spec {P : Program} {t : TypeId} {z : PV} (h : zeroT P t z = true) : ∃ u, (zeroValue t).run P w = .ok u w ∧ zeroOk u z = true := by
 unfold zeroT at h
 split at h
 ·rename_i i hi
  split at h
  ·rename_i u hu
   exact ⟨u, by simp [zeroValue, typeInfo, hi, hu], h⟩
  ·cases h
 ·cases h

theorem assert_does (hty : TyInj X) (hF : FR X n g w fr a) {t : Nat} {ok : Bool} {z : PV} {x : Opd} {x' : Operand} {xt : TypeId} (ht : notIfT X.P (X.ty t) = true) (hz : zeroT X.P (X.ty t) z = true)
  (hx : chkOpd X x' x = true) {v : PV} (hv : peval fr (.assert t ok z x) = some v) : Does X g w a (.typeAssert x' xt (X.ty t) ok) v := by
 intro dst ty pos after guard
 have r := opd_sim hF hx
 obtain ⟨d, hu, hd⟩ := notIf_spec ht
 obtain ⟨zu, hz1, hz2⟩ := zeroT_spec (w := w) hz
 have fail : ∀ u : Value, (u = .nilIface ∨ ∃ t' v', u = .iface t' v' ∧ t' ≠ X.ty t) → ok = true →
   (Instr.typeAssert u xt (X.ty t) ok).run X.P w = .ok (.tuple #[zu, .bool false]) w := by
  intro u h1 h2
  subst h2
  rcases h1 with rfl | ⟨t', v', rfl, hne⟩
  ·simp only [Instr.typeAssert, Sem.run_bind, run_underlying hu, Result.andThen_ok]
   cases d <;> first | (exact (hd _ rfl).elim) | simp [hz1]
  ·simp only [Instr.typeAssert, Sem.run_bind, run_underlying hu, Result.andThen_ok]
   cases d <;> first | (exact (hd _ rfl).elim) | simp [hz1, hne]
 have two : ∀ {c d : PV} {u1 u2 : Value}, VR X g w c u1 → VR X g w d u2 → VR X g w (.tup [c, d]) (.tuple #[u1, u2]) := by
  intro c d u1 u2 r1 r2
  refine .tup _ _ rfl (fun j x u e1 e2 => ?_)
  match j with
  | 0 => simp at e1 e2; subst e1; subst e2; exact r1
  | 1 => simp at e1 e2; subst e1; subst e2; exact r2
  | j + 2 => simp at e1
 simp only [peval] at hv
 split at hv
 ·rename_i e
  rw [e] at r
  generalize hux : a.eval x' = u at r
  cases r
  split at hv
  ·rename_i hok
   cases hv
   exact ⟨_, by simp only [execOp, Sem.run_bind, hux, fail .nilIface (.inl rfl) hok]; rfl, two (zero_sim hz2) (.bool _)⟩
  ·cases hv
 ·rename_i t' v0 e
  rw [e] at r
  generalize hux : a.eval x' = u at r
  cases r with
  | iface _ _ u0 hv0 =>
   split at hv
   ·rename_i heq
    subst heq
    cases hv
    cases ok
    ·refine ⟨u0, ?_, hv0⟩
     simp only [execOp, Sem.run_bind, hux, Instr.typeAssert, run_underlying hu, Result.andThen_ok]
     cases d <;> first | (exact (hd _ rfl).elim) | simp
    ·refine ⟨.tuple #[u0, .bool true], ?_, two hv0 (.bool _)⟩
     simp only [execOp, Sem.run_bind, hux, Instr.typeAssert, run_underlying hu, Result.andThen_ok]
     cases d <;> first | (exact (hd _ rfl).elim) | simp
   ·rename_i hne
    split at hv
    ·rename_i hok
     cases hv
     exact ⟨_, by simp only [execOp, Sem.run_bind, hux, fail _ (.inr ⟨X.ty t', u0, rfl, fun h => hne (hty _ _ h)⟩) hok]; rfl, two (zero_sim hz2) (.bool _)⟩
    ·cases hv
 ·cases hv

end
end Ps
