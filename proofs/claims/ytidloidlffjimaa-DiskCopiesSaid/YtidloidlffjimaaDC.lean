/- The disk: an entry is done; enter. -/
import Derived.Test.YtidloidlffjimaaDA
namespace Ps
set_option linter.unusedSimpArgs false
set_option linter.unusedVariables false
open Go
theorem fn_202 : T.fn 202 = some (.code disk_named) := rfl
theorem fn_194 : T.fn 194 = some (.code disk_Disk_find) := rfl

def chB (c : UInt8) : Bool := (97 ≤ c.toNat && c.toNat ≤ 122) || (48 ≤ c.toNat && c.toNat ≤ 57) || c.toNat == 46 || c.toNat == 45
def namedB (s : Nm) : Bool := s.all chB && (!(s == []) && decide (s.length ≤ 24))

theorem named_loop {s : List UInt8} (hs : s.length ≤ maxLen) {K : List Kt} {S : St} {Q : Fr → St → Prop} : ∀ (rest pre : List UInt8), s = pre ++ rest → ∀ (fr : Fr),
  fr 0 = .str s → fr 6 = .int .i64 s.length → fr 7 = .int .i64 pre.length →
  (rest.all chB = true → ∀ fr', fr' 0 = .str s → Ok (gval T K fr' S) Q) → (rest.all chB = false → ∀ fr', fr' 2 = .bool false → Q fr' S) →
  Ok (gval T (.lp disk_named_l0 :: .blk 0 :: K) fr S) Q := by
 intro rest
 induction rest with
 | nil =>
  intro pre hp fr h0 h6 h7 k1 k2
  rw [List.append_nil] at hp; subst hp
  rw [gval_lp]
  simp [h0, h6, h7]
  exact k1 rfl _ (by simp [h0])
 | cons c rest ih =>
  intro pre hp fr h0 h6 h7 k1 k2
  have hi : pre.length < s.length := by rw [hp]; simp
  have hc : s[pre.length] = c := by simp [hp]
  unfold maxLen at hs
  have hw := wrap_len (a := pre.length) (by omega)
  have hL : ∀ fr', fr' 0 = .str s → fr' 6 = .int .i64 s.length → fr' 7 = .int .i64 ((pre.length + 1 : Nat) : Int) → chB c = true → Ok (gval T (.lp disk_named_l0 :: .blk 0 :: K) fr' S) Q := by
   intro fr' g0 g6 g7 gl
   refine ih (pre ++ [c]) (by simp [hp]) fr' g0 g6 (by simpa using g7) (fun h => k1 ?_) (fun h => k2 ?_)
   ·simp only [List.all_cons, gl, h, Bool.and_self]
   ·simp only [List.all_cons, h, Bool.and_false]
  have hR : ∀ fr', fr' 2 = .bool false → chB c = false → Q fr' S := fun fr' g2 gl => k2 (by simp only [List.all_cons, gl, Bool.false_and]) fr' g2
  clear k1 k2
  rw [gval_lp]
  simp -implicitDefEqProofs [h0, h6, h7, hi, hc]
  refine ok_br (fun a1 => ok_ret (hR _ (by simp) ?_)) (fun a1 => hL _ (by simp [h0]) (by simp [h6]) (by simp [hw]) ?_)
  ·simp [chB] at a1 ⊢; omega
  ·simp [chB] at a1 ⊢; omega

theorem named_val {s : Nm} (hs : s.length ≤ maxLen) : cval T 202 [.str s] St0 = some (.bool (namedB s), St0) := by
 refine cval_ok' fn_202 rfl ?_
 simp [disk_named]
 refine named_loop hs s [] rfl _ (by simp) (by simp) (by simp) (fun h fr' g0 => ?_) (fun h fr' g2 => ?_)
 ·simp [g0, namedB, h]
  congr 1; exact decide_eq_decide.2 (by omega)
 ·simp [g2, namedB, h]

theorem named_pval {s : Nm} (hs : s.length ≤ maxLen) : pval T 202 [.str s] = some (.bool (namedB s)) := by
 rw [pval, named_val hs]; rfl

def findE (D : Dk) (n : Nm) : Int := if namedB n then (match lk n D.live with | some _ => 0 | none => 9) else 8
def findF (D : Dk) (n : Nm) : PV := if namedB n then fptr (lk n D.live) else .nilp

theorem find_val {S : St} {o K : Nat} {D : Dk} (h : At S o K D) {n : Nm} (hn : n.length ≤ maxLen) : cval T 194 [.ptr o 0, .str n] S = some (.tup [findF D n, .int .i64 (findE D n)], S) := by
 have hob := h.obj
 have hlv := h.live
 obtain ⟨room, left, done, dark, bi, li, base, live, wait, wv, fl, fb, fs, fv⟩ := D
 simp only at hlv
 simp only [dcells] at hob
 have hpv := named_pval hn
 have hfind := mfind_mc n live
 refine cval_ok' fn_194 rfl ?_
 cases hb : namedB n with
 | false =>
  rw [hb] at hpv
  simp -implicitDefEqProofs [disk_Disk_find, loadP_ptr hob, pstep, hob, hpv, findE, findF, hb]
  rw [fin_same]; rfl
 | true =>
  rw [hb] at hpv
  cases hl : lk n live with
  | none =>
   rw [hl] at hfind
   simp -implicitDefEqProofs [disk_Disk_find, loadP_ptr hob, pstep, hob, hlv, hpv, hfind, findE, findF, hb, hl, lookP, isKeyP]
   rw [fin_same]; rfl
  | some f =>
   rw [hl] at hfind
   have hf : f < S.objs.length := (List.getElem?_eq_some_iff.1 (h.file f (h.inl _ (lk_mem hl))).1).1
   simp -implicitDefEqProofs [disk_Disk_find, loadP_ptr hob, pstep, hob, hlv, hpv, hfind, findE, findF, hb, hl, lookP, isKeyP]
   rw [fin_same]
   have hs : sol S.objs S.objs.length solFuel (.tup [.ptr f 0, .int .i64 0]) = none := by
    have : ¬ S.objs.length ≤ f := by omega
    simp [sol, solFuel, mapO, PV.free, PV.freeL, this]
   rw [hs]; rfl

theorem fn_198 : T.fn 198 = some (.code disk_entry_do) := rfl
theorem fn_195 : T.fn 195 = some (.code disk_Disk_enter) := rfl

theorem do_val {S : St} {m o : Nat} {l : List (Nm × Nat)} {c : List PV} (hm : S.objs[m]? = some (mcells l)) (ho : S.objs[o]? = some c) (hne : o ≠ m) (hc : PV.freeL c = false) (x : Ent) (hx : x.2.2 = none → (lk x.1 l).isSome = true) :
  cval T 198 [entV x, .map m] S = some (.tup [], ⟨S.objs.set m (mcells (doE x l)), S.tips⟩) := by
 obtain ⟨a, b, f⟩ := x
 have hmo : m ≠ o := Ne.symm hne
 have fin : ∀ d, finish false S ⟨S.objs.set m d, S.tips⟩ (.tup []) = (.tup [], ⟨S.objs.set m d, S.tips⟩) := by
  intro d
  by_cases hcd : mcells l = d
  ·subst hcd
   rw [set_id hm, fin_same]; rfl
  ·have hlt := (List.getElem?_eq_some_iff.1 hm).1
   have hlo := (List.getElem?_eq_some_iff.1 ho).1
   exact fin_diff hm (get_set hm) hcd (i := o) (by rw [List.getElem?_set_ne hmo]; exact ho) hlo hc
 cases f with
 | some f =>
  refine cval_ok' fn_198 rfl ?_
  by_cases hb : b = []
  ·subst hb
   simp -implicitDefEqProofs [disk_entry_do, pstep, entV, fptr, doE]
   rw [ends_nil, set_id hm, fin_same]; rfl
  ·have hp := mput_mc b f l
   have hbe : List.isEmpty b = false := by simpa using hb
   simp -implicitDefEqProofs [disk_entry_do, pstep, entV, fptr, doE, hb, hbe, hm, hp, isKeyP]
   rw [ends_nil]; exact fin _
 | none =>
  have hs := hx rfl
  obtain ⟨f, hf⟩ := Option.isSome_iff_exists.1 hs
  have h1 := mfind_mc a l
  rw [show lk a l = some f from hf] at h1
  have h2 := mdel_mc a l
  have h3 := mput_mc b f (del a l)
  simp only at hf
  refine cval_ok' fn_198 rfl ?_
  by_cases hb : b = []
  ·subst hb
   simp -implicitDefEqProofs [disk_entry_do, pstep, entV, fptr, doE, hm, h1, h2, hf, isKeyP, lookP]
   rw [ends_nil]; exact fin _
  ·have hbe : List.isEmpty b = false := by simpa using hb
   simp -implicitDefEqProofs [disk_entry_do, pstep, entV, fptr, doE, hm, h1, h2, hf, isKeyP, lookP, hb, hbe, get_set hm, h3]
   rw [ends_nil]; exact fin _

theorem entV_cells (x : Ent) : (entV x).cells = [.str x.1, .str x.2.1, fptr x.2.2] := rfl
@[simp] theorem fptr_one (f : Option Nat) : (fptr f).one = true := by cases f <;> rfl
theorem part3 {a b c : PV} : partOf true 3 [a, b, c] = some (.agg [a, b, c]) := rfl

theorem appendTo_nils {sz b : Nat} {S : St} {new : List PV} (h : new ≠ []) (hb : new.length * b ≤ 140737488355328) : appendTo sz b S .nils new = some (newArr S sz new) := by
 have : new.isEmpty = false := by simpa using h
 simp only [appendTo, this, Bool.false_eq_true, if_false, if_pos hb]
theorem appendTo_sl {sz b : Nat} {S : St} {new es : List PV} {k e : Nat} (h : new ≠ []) (ht : S.tips[k]? = some (e, sz)) (hb : (es.length + new.length) * b ≤ 140737488355328) :
  appendTo sz b S (.sl (some (k, e)) es []) new = some (.sl (some (k, e + new.length)) (es ++ new) [], { S with tips := S.tips.set k (e + new.length, sz) }) := by
 have : new.isEmpty = false := by simpa using h
 simp only [appendTo, this, Bool.false_eq_true, if_false, if_pos (And.intro ht hb)]

theorem SlT.tip {S : St} {sz : Nat} {v : PV} {es : List PV} (h : SlT S sz v es) {k : Nat} (hk : tid v = some k) : k < S.tips.length := by
 rcases h with ⟨rfl, _⟩ | ⟨k', e, rfl, h2⟩
 ·simp [tid] at hk
 ·simp only [tid, Option.some.injEq] at hk; subst hk; exact (List.getElem?_eq_some_iff.1 h2).1
theorem SlT.of {S S' : St} {sz : Nat} {v : PV} {es : List PV} (h : SlT S sz v es) (ht : ∀ k, tid v = some k → S'.tips[k]? = S.tips[k]?) : SlT S' sz v es := by
 rcases h with h | ⟨k', e, rfl, h2⟩
 ·exact .inl h
 ·exact .inr ⟨k', e, rfl, by rw [ht k' rfl]; exact h2⟩

theorem At.entered {S : St} {o K : Nat} {D : Dk} (h : At S o K D) {x : Ent} (hx : x.2.2 = none → (lk x.1 D.live).isSome = true) (hf : ∀ f, x.2.2 = some f → f ∈ D.fl) (hn : x.2.1.length ≤ 24) {wv' : PV} {tips' : List (Nat × Nat)}
  (hw : SlT ⟨[], tips'⟩ 3 wv' ((D.wait ++ [x]).map entV)) (htips : ∀ f ∈ D.fl, ∀ k, tid (D.fv f) = some k → tips'[k]? = S.tips[k]?) (htw : ∀ k, tid wv' = some k → ∀ f ∈ D.fl, tid (D.fv f) ≠ some k) :
  At ⟨(S.objs.set D.li (mcells (doE x D.live))).set o (dcells { D with wv := wv' }), tips'⟩ o (K + 1) { D with live := doE x D.live, wait := D.wait ++ [x], wv := wv' } where
 obj := get_set (c := dcells D) (by rw [List.getElem?_set_ne (Ne.symm h.nd.2.1)]; exact h.obj)
 base := by
  show ((S.objs.set D.li _).set o _)[D.bi]? = _
  rw [List.getElem?_set_ne h.nd.1, List.getElem?_set_ne (Ne.symm h.nd.2.2.1)]; exact h.base
 live := by
  show ((S.objs.set D.li _).set o _)[D.li]? = _
  rw [List.getElem?_set_ne h.nd.2.1]; exact get_set h.live
 wv := hw.of (fun _ _ => rfl)
 file := fun f hf' => by
  obtain ⟨h1, h2, h3⟩ := h.file f hf'
  obtain ⟨n1, _, n3⟩ := h.nd.2.2.2 f hf'
  refine ⟨?_, h2.of (fun k hk => htips f hf' k hk), h3⟩
  show ((S.objs.set D.li _).set o _)[f]? = _
  rw [List.getElem?_set_ne (Ne.symm n1), List.getElem?_set_ne (Ne.symm n3)]; exact h1
 inb := h.inb
 inw := fun y hy f hyf => by
  rcases List.mem_append.1 hy with hy | hy
  ·exact h.inw y hy f hyf
  ·simp only [List.mem_singleton] at hy; subst hy; exact hf f hyf
 nd := h.nd
 tw := fun f hf' k hk => htw k hk f hf'
 tf := h.tf
 hist := h.hist.snoc hx
 nb := h.nb
 nw := fun y hy => by
  rcases List.mem_append.1 hy with hy | hy
  ·exact h.nw y hy
  ·simp only [List.mem_singleton] at hy; subst hy; exact hn
 rm := h.rm
 cnt := by have := h.cnt; simp only [List.length_append, List.length_cons, List.length_nil]; omega
 dn := ⟨h.dn.1, by have := h.dn.2; simp only; omega⟩
 lf := h.lf

def Owns (D : Dk) (k : Nat) : Prop := tid D.wv = some k ∨ ∃ f ∈ D.fl, tid (D.fv f) = some k
structure FraT (S S' : St) (D D' : Dk) : Prop where
 len : S.tips.length ≤ S'.tips.length
 keep : ∀ k, k < S.tips.length → ¬ Owns D k → ¬ Owns D' k ∧ S'.tips[k]? = S.tips[k]?
def OwnsO (D : Dk) (i : Nat) : Prop := i = D.bi ∨ i = D.li ∨ i ∈ D.fl
theorem own_of {D D' : Dk} (h1 : D'.bi = D.bi) (h2 : D'.li = D.li) (h3 : D'.fl = D.fl) {i : Nat} (h : ¬ OwnsO D i) : ¬ OwnsO D' i := by
 unfold OwnsO at h ⊢; rw [h1, h2, h3]; exact h
structure FraO (o : Nat) (S S' : St) (D D' : Dk) : Prop where
 obj : ∀ (i : Nat) (c : List PV), S.objs[i]? = some c → i ≠ o → ¬ OwnsO D i → S'.objs[i]? = some c
 own : ∀ i, i < S.objs.length → i ≠ o → ¬ OwnsO D i → ¬ OwnsO D' i
structure Fra (o : Nat) (S S' : St) (D D' : Dk) : Prop where
 t : FraT S S' D D'
 o : FraO o S S' D D'
theorem Fra.len {o : Nat} {S S' : St} {D D' : Dk} (h : Fra o S S' D D') : S.tips.length ≤ S'.tips.length := h.t.len
theorem Fra.keep {o : Nat} {S S' : St} {D D' : Dk} (h : Fra o S S' D D') : ∀ k, k < S.tips.length → ¬ Owns D k → ¬ Owns D' k ∧ S'.tips[k]? = S.tips[k]? := h.t.keep

theorem Fra.refl (o : Nat) (S : St) (D : Dk) : Fra o S S D D := ⟨⟨Nat.le_refl _, fun _ _ h => ⟨h, rfl⟩⟩, ⟨fun _ _ h _ _ => h, fun _ _ _ h => h⟩⟩
theorem Fra.trans {o : Nat} {S S1 S2 : St} {D D1 D2 : Dk} (h : Fra o S S1 D D1) (k : Fra o S1 S2 D1 D2) : Fra o S S2 D D2 :=
 ⟨⟨Nat.le_trans h.len k.len, fun i hi ho => by
  obtain ⟨h1, h2⟩ := h.keep i hi ho
  obtain ⟨k1, k2⟩ := k.keep i (Nat.lt_of_lt_of_le hi h.len) h1
  exact ⟨k1, k2.trans h2⟩⟩, ⟨fun i c hc hi hn => k.o.obj i c (h.o.obj i c hc hi hn) hi (h.o.own i (List.getElem?_eq_some_iff.1 hc).1 hi hn), fun i hi hio hn => by
  obtain ⟨c, hc⟩ : ∃ c, S.objs[i]? = some c := ⟨_, List.getElem?_eq_getElem hi⟩
  exact k.o.own i (List.getElem?_eq_some_iff.1 (h.o.obj i c hc hio hn)).1 hio (h.o.own i hi hio hn)⟩⟩

theorem stepD_fields (D : Dk) : (stepD D).bi = D.bi ∧ (stepD D).li = D.li ∧ (stepD D).base = D.base ∧ (stepD D).live = D.live ∧ (stepD D).wait = D.wait ∧ (stepD D).wv = D.wv ∧ (stepD D).fl = D.fl ∧ (stepD D).fb = D.fb ∧ (stepD D).fs = D.fs ∧ (stepD D).fv = D.fv ∧ (stepD D).room = D.room := by
 unfold stepD; split <;> simp

theorem step_fra {S : St} {o : Nat} {D : Dk} : Fra o S ⟨S.objs.set o (dcells (stepD D)), S.tips⟩ D (stepD D) := by
 obtain ⟨b1, b2, _, _, _, h1, h2, _, _, h3, _⟩ := stepD_fields D
 refine ⟨⟨Nat.le_refl _, fun k hk ho => ⟨?_, rfl⟩⟩, ⟨fun i c hc hi _ => by simp only; rw [List.getElem?_set_ne (Ne.symm hi)]; exact hc, fun i _ _ hn => own_of b1 b2 h2 hn⟩⟩
 unfold Owns at ho ⊢
 rw [h1, h2, h3]; exact ho

theorem stepR_cases (D : Dk) : stepR D = 0 ∨ stepR D = 6 := by unfold stepR; split <;> simp

theorem enter_no {S : St} {o K : Nat} {D : Dk} (h : At S o K D) (hK : K ≤ 1048576) (x : Ent) (hr : stepR D = 6) :
  cval T 195 [.ptr o 0, entV x] S = some (.int .i64 6, ⟨S.objs.set o (dcells (stepD D)), S.tips⟩) := by
 obtain ⟨hs, hA⟩ := step_val h hK
 rw [hr] at hs
 refine cval_ok' fn_195 rfl ?_
 simp -implicitDefEqProofs [disk_Disk_enter, pstep, hs, aCall, entV_cells]
 exact fin_seti h.obj (dcells_free _)

theorem enter_ok {S : St} {o K : Nat} {D : Dk} (h : At S o K D) (hK : K ≤ 1048570) (x : Ent) (hx : x.2.2 = none → (lk x.1 D.live).isSome = true) (hf : ∀ f, x.2.2 = some f → f ∈ D.fl) (hn : x.2.1.length ≤ 24) (hr : stepR D = 0) :
  ∃ wv' S', cval T 195 [.ptr o 0, entV x] S = some (.int .i64 0, S') ∧ At S' o (K + 2) { stepD D with live := doE x D.live, wait := D.wait ++ [x], wv := wv' } ∧ Fra o S S' D { stepD D with live := doE x D.live, wait := D.wait ++ [x], wv := wv' } := by
 obtain ⟨hs, hA⟩ := step_val h (by omega)
 rw [hr] at hs
 have hD : stepD D = { D with left := if D.left > 0 then D.left - 1 else D.left, done := D.done + 1 } := by
  unfold stepD
  unfold stepR at hr
  split at hr
  ·cases hr
  ·rename_i hc; rw [if_neg hc]
 obtain ⟨S1, hS1⟩ : ∃ S1 : St, S1 = ⟨S.objs.set o (dcells (stepD D)), S.tips⟩ := ⟨_, rfl⟩
 rw [← hS1] at hs hA
 have hob := hA.obj
 have hlv : S1.objs[D.li]? = some (mcells D.live) := by have := hA.live; rw [hD] at this; exact this
 have hnd := h.nd
 have hdo := do_val hlv hob hnd.2.1 (dcells_free _) x hx
 simp only [entV] at hdo
 obtain ⟨S2, hS2⟩ : ∃ S2 : St, S2 = ⟨S1.objs.set D.li (mcells (doE x D.live)), S1.tips⟩ := ⟨_, rfl⟩
 rw [← hS2] at hdo
 have hob2 : S2.objs[o]? = some (dcells (stepD D)) := by rw [hS2]; simp only; rw [List.getElem?_set_ne (Ne.symm hnd.2.1)]; exact hob
 have hob1 := hob
 have hcell : dcells (stepD D) = [.int .i64 D.room, .map D.bi, .map D.li, D.wv, .int .i64 (stepD D).left, .int .i64 (stepD D).done, .bool (stepD D).dark] := by rw [hD]; rfl
 rw [hcell] at hob1 hob2
 have hwv : SlT S2 3 D.wv (D.wait.map entV) := by
  have := hA.wv
  rw [hD] at this
  rw [hS2]; exact this
 have hAt := fun wv' tips' => At.entered (wv' := wv') (tips' := tips') hA (x := x) (by rw [hD]; exact hx) (by rw [hD]; exact hf) hn
 have hobjs : ∀ wv', S2.objs.set o (dcells { stepD D with wv := wv' }) = ((S1.objs.set (stepD D).li (mcells (doE x (stepD D).live))).set o (dcells { stepD D with wv := wv' })) := by intro wv'; rw [hS2, hD]
 have htl : S2.tips = S.tips := by rw [hS2, hS1]
 have htl1 : S1.tips = S.tips := by rw [hS1]
 have hwl : D.wait.length ≤ K := Nat.le_trans (Nat.le_add_left _ _) h.cnt
 have hc2 : ∀ wv', dcells { stepD D with wv := wv' } = [.int .i64 D.room, .map D.bi, .map D.li, wv', .int .i64 (stepD D).left, .int .i64 (stepD D).done, .bool (stepD D).dark] := fun wv' => by rw [hD]; rfl
 have hfin : ∀ (wv' : PV) (tips' : List (Nat × Nat)), finish false S ⟨S2.objs.set o [.int .i64 D.room, .map D.bi, .map D.li, wv', .int .i64 (stepD D).left, .int .i64 (stepD D).done, .bool (stepD D).dark], tips'⟩ (.int .i64 0) = (.int .i64 0, ⟨S2.objs.set o [.int .i64 D.room, .map D.bi, .map D.li, wv', .int .i64 (stepD D).left, .int .i64 (stepD D).done, .bool (stepD D).dark], tips'⟩) := by
  intro wv' tips'
  refine fin_diff h.obj (get_set hob2) ?_ (i := o) (get_set hob2) (List.getElem?_eq_some_iff.1 h.obj).1 (by simp [PV.freeL, PV.free])
  intro e
  have hdd : (stepD D).done = D.done + 1 := by rw [hD]
  simp only [dcells, List.cons.injEq, PV.int.injEq, true_and] at e
  omega
 have hts : ∀ f ∈ D.fl, ∀ k, tid (D.fv f) = some k → k < S.tips.length := fun f hf k hk => (h.file f hf).2.1.tip hk
 have hflD : (stepD D).fl = D.fl := (stepD_fields D).2.2.2.2.2.2.1
 have hfvD : (stepD D).fv = D.fv := (stepD_fields D).2.2.2.2.2.2.2.2.2.1
 have hwtD : (stepD D).wait = D.wait := (stepD_fields D).2.2.2.2.1
 have hlvD : (stepD D).live = D.live := (stepD_fields D).2.2.2.1
 rcases hwv with ⟨hw, hwn⟩ | ⟨k, e, hw, htip⟩
 ·rw [hw] at hob1 hob2
  have hap := appendTo_nils (sz := 3) (b := 40) (S := ⟨S2.objs, S2.tips ++ [(1, 3)]⟩) (new := [PV.agg [PV.str x.fst, PV.str x.snd.fst, fptr x.snd.snd]]) (by simp) (by simp)
  have hwn' : D.wait = [] := by simpa using hwn
  refine ⟨.sl (some (S2.tips.length + 1, 1)) [entV x] [], ⟨S2.objs.set o (dcells { stepD D with wv := .sl (some (S2.tips.length + 1, 1)) [entV x] [] }), S2.tips ++ [(1, 3), (1, 3)]⟩, cval_ok' fn_195 rfl ?_, ?_, ?_⟩
  ·simp -implicitDefEqProofs [disk_Disk_enter, pstep, hs, aCall, entV_cells, part3, loadP_ptr hob1, hdo, loadP_ptr hob2, elems, setParts, hob2, hap, newArr, putCells]
   rw [hc2]
   exact hfin _ _
  ·rw [hobjs]
   have := hAt (.sl (some (S2.tips.length + 1, 1)) [entV x] []) (S2.tips ++ [(1, 3), (1, 3)]) (.inr ⟨_, _, by rw [hwtD, hwn']; rfl, by simp⟩)
    (fun f hf k hk => by
     rw [hflD] at hf; rw [hfvD] at hk
     have := hts f hf k hk
     rw [htl, htl1, List.getElem?_append_left this])
    (fun k hk f hf => by
     rw [hflD] at hf; rw [hfvD]
     simp only [tid, Option.some.injEq] at hk
     intro hq
     have := hts f hf k hq
     rw [htl] at hk; omega)
   rw [hlvD, hwtD] at this
   rw [hlvD]
   exact this
  ·refine ⟨⟨by simp only [htl, List.length_append]; omega, fun k hk ho => ⟨?_, ?_⟩⟩, ⟨fun i c hc hi hn => by
    simp only
    rw [List.getElem?_set_ne (Ne.symm hi), hS2]
    simp only
    rw [List.getElem?_set_ne (fun e => hn (.inr (.inl e.symm))), hS1]
    simp only
    rw [List.getElem?_set_ne (Ne.symm hi)]
    exact hc, fun i _ _ hn => own_of (stepD_fields D).1 (stepD_fields D).2.1 hflD hn⟩⟩
   ·rintro (hq | ⟨f, hf, hq⟩)
    ·simp only [tid, Option.some.injEq] at hq
     rw [htl] at hq; omega
    ·simp only at hf hq
     rw [hflD] at hf; rw [hfvD] at hq
     exact ho (.inr ⟨f, hf, hq⟩)
   ·simp only [htl]; rw [List.getElem?_append_left hk]
 ·rw [hw] at hob1 hob2
  have hk2 : k < S2.tips.length := (List.getElem?_eq_some_iff.1 htip).1
  have hap := appendTo_sl (sz := 3) (b := 40) (S := ⟨S2.objs, S2.tips ++ [(1, 3)]⟩) (es := D.wait.map entV) (new := [PV.agg [PV.str x.fst, PV.str x.snd.fst, fptr x.snd.snd]]) (k := k) (e := e) (by simp)
   (by simp only; rw [List.getElem?_append_left hk2]; exact htip) (by simp; omega)
  refine ⟨.sl (some (k, e + 1)) (D.wait.map entV ++ [entV x]) [], ⟨S2.objs.set o (dcells { stepD D with wv := .sl (some (k, e + 1)) (D.wait.map entV ++ [entV x]) [] }), (S2.tips ++ [(1, 3)]).set k (e + 1, 3)⟩, cval_ok' fn_195 rfl ?_, ?_, ?_⟩
  ·simp -implicitDefEqProofs [disk_Disk_enter, pstep, hs, aCall, entV_cells, part3, loadP_ptr hob1, hdo, loadP_ptr hob2, elems, setParts, hob2, hap, newArr, putCells]
   rw [hc2]
   exact hfin _ _
  ·rw [hobjs]
   have htw : ∀ f ∈ D.fl, tid (D.fv f) ≠ some k := fun f hf => h.tw f hf k (by rw [hw]; rfl)
   have := hAt (.sl (some (k, e + 1)) (D.wait.map entV ++ [entV x]) []) ((S2.tips ++ [(1, 3)]).set k (e + 1, 3)) (.inr ⟨_, _, by rw [hwtD, List.map_append]; rfl, List.getElem?_set_self (by rw [List.length_append]; omega)⟩)
    (fun f hf j hj => by
     rw [hflD] at hf; rw [hfvD] at hj
     have := hts f hf j hj
     have hne : k ≠ j := fun e => htw f hf (by rw [e]; exact hj)
     rw [List.getElem?_set_ne hne, htl, htl1, List.getElem?_append_left this])
    (fun j hj f hf => by
     rw [hflD] at hf; rw [hfvD]
     simp only [tid, Option.some.injEq] at hj
     subst hj
     exact htw f hf)
   rw [hlvD, hwtD] at this
   rw [hlvD]
   exact this
  ·refine ⟨⟨by simp only [htl, List.length_set, List.length_append]; omega, fun j hj ho => ⟨?_, ?_⟩⟩, ⟨fun i c hc hi hn => by
    simp only
    rw [List.getElem?_set_ne (Ne.symm hi), hS2]
    simp only
    rw [List.getElem?_set_ne (fun e => hn (.inr (.inl e.symm))), hS1]
    simp only
    rw [List.getElem?_set_ne (Ne.symm hi)]
    exact hc, fun i _ _ hn => own_of (stepD_fields D).1 (stepD_fields D).2.1 hflD hn⟩⟩
   ·rintro (hq | ⟨f, hf, hq⟩)
    ·simp only [tid, Option.some.injEq] at hq
     exact ho (.inl (by rw [hw, ← hq]; rfl))
    ·simp only at hf hq
     rw [hflD] at hf; rw [hfvD] at hq
     exact ho (.inr ⟨f, hf, hq⟩)
   ·have hne : k ≠ j := fun e => ho (.inl (by rw [hw, ← e]; rfl))
    simp only [htl]; rw [List.getElem?_set_ne hne, List.getElem?_append_left hj]
end Ps
