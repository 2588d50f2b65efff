/- Copy: a file's copy (own). -/
import Derived.Test.YtidloidlffjimaaCA
namespace Ps
set_option linter.unusedSimpArgs false
set_option linter.unusedVariables false
open Go
def mapP (φ : Nat → Nat) (l : List (Nm × Nat)) : List (Nm × Nat) := l.map fun p => (p.1, φ p.2)
def mapE (φ : Nat → Nat) (x : Ent) : Ent := (x.1, x.2.1, x.2.2.map φ)

section
variable (φ : Nat → Nat)
theorem lk_mapP (k : Nm) : ∀ l : List (Nm × Nat), lk k (mapP φ l) = (lk k l).map φ
 | [] => rfl
 | (q, f) :: l => by
  simp only [mapP, List.map_cons, lk]
  split
  ·rfl
  ·exact lk_mapP k l
theorem put_mapP (k : Nm) (f : Nat) : ∀ l : List (Nm × Nat), put k (φ f) (mapP φ l) = mapP φ (put k f l)
 | [] => rfl
 | (q, u) :: l => by
  have ih := put_mapP k f l
  simp only [mapP, List.map_cons, put] at ih ⊢
  split
  ·rfl
  ·rw [ih]; rfl
theorem del_mapP (k : Nm) : ∀ l : List (Nm × Nat), del k (mapP φ l) = mapP φ (del k l)
 | [] => rfl
 | (q, u) :: l => by
  have ih := del_mapP k l
  simp only [mapP, List.map_cons, del] at ih ⊢
  split
  ·rfl
  ·rw [ih]; rfl
theorem doE_mapP (x : Ent) (l : List (Nm × Nat)) : doE (mapE φ x) (mapP φ l) = mapP φ (doE x l) := by
 obtain ⟨a, b, f⟩ := x
 cases f with
 | some f =>
  show (if b = [] then mapP φ l else put b (φ f) (mapP φ l)) = mapP φ (if b = [] then l else put b f l)
  split
  ·rfl
  ·exact put_mapP φ b f l
 | none =>
  show (match lk a (mapP φ l) with
   | some f => if b = [] then del a (mapP φ l) else put b f (del a (mapP φ l))
   | none => del a (mapP φ l)) = mapP φ (match lk a l with
   | some f => if b = [] then del a l else put b f (del a l)
   | none => del a l)
  rw [lk_mapP, del_mapP]
  cases lk a l with
  | none => rfl
  | some f =>
   show (if b = [] then mapP φ (del a l) else put b (φ f) (mapP φ (del a l))) = mapP φ (if b = [] then del a l else put b f (del a l))
   split
   ·rfl
   ·exact put_mapP φ b f _
theorem okA_mapP : ∀ (w : List Ent) (l : List (Nm × Nat)), okA w l → okA (w.map (mapE φ)) (mapP φ l)
 | [], _, _ => trivial
 | x :: w, l, h => by
  simp only [List.map_cons, okA]
  refine ⟨fun e => ?_, ?_⟩
  ·have : x.2.2 = none := by
    obtain ⟨a, b, f⟩ := x
    cases f with
    | none => rfl
    | some f => simp [mapE] at e
   show (lk x.1 (mapP φ l)).isSome = true
   rw [lk_mapP]
   have := h.1 this
   simpa using this
  ·rw [doE_mapP]; exact okA_mapP w _ h.2
theorem doA_mapP : ∀ (w : List Ent) (l : List (Nm × Nat)), doA (w.map (mapE φ)) (mapP φ l) = mapP φ (doA w l)
 | [], _ => rfl
 | x :: w, l => by
  simp only [List.map_cons, doA]
  rw [doE_mapP]; exact doA_mapP w _
theorem nd_mapP {l : List (Nm × Nat)} (h : Nd l) : Nd (mapP φ l) := List.pairwise_map.2 h
end
theorem okA_permP : ∀ (w : List Ent) {l m : List (Nm × Nat)}, l.Perm m → Nd l → okA w l → okA w m ∧ (doA w l).Perm (doA w m)
 | [], _, _, hp, _, _ => ⟨trivial, hp⟩
 | x :: w, l, m, hp, hn, h => by
  obtain ⟨h1, h2⟩ := okA_permP w (doE_permP hp hn) (doE_nd hn) h.2
  exact ⟨⟨fun e => by rw [← lk_permP hp _ hn]; exact h.1 e, h1⟩, h2⟩

theorem HistP.copy {b m b' m' : List (Nm × Nat)} {w : List Ent} (h : HistP b w m) (φ : Nat → Nat) (hb : b'.Perm (mapP φ b)) (hm : m'.Perm (mapP φ m)) : HistP b' (w.map (mapE φ)) m' := by
 obtain ⟨o1, o2⟩ := h.okA
 have nb := nd_mapP φ h.1
 obtain ⟨q1, q2⟩ := okA_permP _ hb.symm nb (okA_mapP φ w b o1)
 rw [doA_mapP] at q2
 have hh := hist_of (w.map (mapE φ)) [] b' (.nil _) q1
 rw [List.nil_append] at hh
 exact ⟨nd_perm hb.symm nb, _, hh, q2.symm.trans ((o2.map _).trans hm.symm)⟩

theorem idx_map {φ : Nat → Nat} {f : Nat} : ∀ {l : List Nat}, (∀ x ∈ l, φ x = φ f → x = f) → (l.map φ).idxOf (φ f) = l.idxOf f
 | [], _ => rfl
 | x :: l, h => by
  rw [List.map_cons, List.idxOf_cons, List.idxOf_cons]
  by_cases e : x = f
  ·subst e; simp
  ·have e1 : (φ x == φ f) = false := by rw [beq_eq_false_iff_ne]; exact fun k => e (h x (by simp) k)
   have e2 : (x == f) = false := by rw [beq_eq_false_iff_ne]; exact e
   rw [e1, e2]
   simp only [cond_false]
   rw [idx_map fun y hy => h y (by simp [hy])]

structure CopyOf (φ : Nat → Nat) (D D' : Dk) : Prop where
 inj : ∀ f ∈ D.fl, ∀ g ∈ D.fl, φ f = φ g → f = g
 room : D'.room = D.room
 left : D'.left = D.left
 dark : D'.dark = D.dark
 done : D'.done = D.done
 fl : D'.fl = D.fl.map φ
 fb : ∀ f ∈ D.fl, D'.fb (φ f) = D.fb f
 fs : ∀ f ∈ D.fl, D'.fs (φ f) = D.fs f
 base : D'.base.Perm (mapP φ D.base)
 live : D'.live.Perm (mapP φ D.live)
 wait : D'.wait = D.wait.map (mapE φ)

theorem CopyOf.ix {φ : Nat → Nat} {D D' : Dk} (h : CopyOf φ D D') {f : Nat} (hf : f ∈ D.fl) : ix D'.fl (φ f) = Ps.ix D.fl f := by
 unfold Ps.ix
 rw [h.fl, ← List.map_reverse, idx_map fun x hx e => h.inj x (by simpa using hx) f hf e]

theorem RelD.copy {φ : Nat → Nat} {D D' : Dk} {R : RD} (hr : RelD D R) (h : CopyOf φ D D') (hb : ∀ p ∈ D.base, p.2 ∈ D.fl) (hw : ∀ x ∈ D.wait, ∀ f, x.2.2 = some f → f ∈ D.fl) : RelD D' R where
 room := by rw [h.room]; exact hr.room
 left := by rw [h.left]; exact hr.left
 dark := by rw [h.dark]; exact hr.dark
 count := by rw [h.done]; exact hr.count
 nd := by
  rw [h.fl]
  have := hr.nd
  refine List.pairwise_map.2 (this.imp_of_mem fun {a b} ha hb hne e => hne (h.inj a ha b hb e))
 fl := by
  refine ⟨by rw [h.fl, List.length_map]; exact hr.fl.1, fun g hg => ?_⟩
  rw [h.fl] at hg
  obtain ⟨f, hf, rfl⟩ := List.mem_map.1 hg
  obtain ⟨x, h1, h2, h3⟩ := hr.fl.2 f hf
  refine ⟨x, ?_, by rw [h.fb f hf]; exact h2, by rw [h.fs f hf]; exact h3⟩
  have e := h.ix hf
  unfold Ps.ix at e
  have e' : D'.fl.reverse.idxOf (φ f) = D.fl.reverse.idxOf f := by omega
  rw [e']; exact h1
 base := by
  refine ⟨?_, hr.base.2⟩
  have e : mp (Ps.ix D'.fl) (mapP φ D.base) = mp (Ps.ix D.fl) D.base := by
   unfold mp mapP
   rw [List.map_map]
   exact List.map_congr_left fun p hp => by simp only [Function.comp, h.ix (hb p hp)]
  have := h.base.map fun p : Nm × Nat => ((p.1, Ps.ix D'.fl p.2) : RE)
  exact (show (mp (Ps.ix D'.fl) D'.base).Perm _ from this).trans (by rw [show (mapP φ D.base).map (fun p : Nm × Nat => ((p.1, Ps.ix D'.fl p.2) : RE)) = mp (Ps.ix D'.fl) (mapP φ D.base) from rfl, e]; exact hr.base.1)
 wait := by
  rw [h.wait, List.map_map, hr.wait]
  refine List.map_congr_left fun x hx => ?_
  obtain ⟨a, b, f⟩ := x
  cases f with
  | none => rfl
  | some f => simp only [Function.comp, mapE, Option.map_some, stepOf, h.ix (hw _ hx f rfl)]
 nm := fun x hx hne => by
  rw [h.wait] at hx
  obtain ⟨y, hy, rfl⟩ := List.mem_map.1 hx
  refine hr.nm y hy fun e => hne ?_
  simp [mapE, e]
end Ps
namespace Ps
set_option linter.unusedSimpArgs false
set_option linter.unusedVariables false
open Go
theorem fn_463 : T.fn 463 = some (.code disk_Disk_Copy_1) := rfl

theorem cloneW_slt {S : St} {v : PV} {b : List UInt8} (h : SlT S 1 v (ofBytes b)) : SlT (cloneS v b S) 1 (cloneW v b S) (ofBytes b) ∧ (∀ k, tid (cloneW v b S) = some k → S.tips.length ≤ k) ∧ (cloneS v b S).objs = S.objs ∧ ∀ (k : Nat) (c : Nat × Nat), S.tips[k]? = some c → (cloneS v b S).tips[k]? = some c := by
 rcases h with ⟨rfl, hn⟩ | ⟨k, e, rfl, ht⟩
 ·exact ⟨.inl ⟨rfl, hn⟩, fun k hk => by simp [cloneW, tid] at hk, rfl, fun k c h => h⟩
 ·refine ⟨.inr ⟨S.tips.length, b.length, rfl, by simp [cloneS]⟩, fun k hk => ?_, rfl, fun k c h => ?_⟩
  ·simp only [cloneW, tid, Option.some.injEq] at hk; omega
  ·simp only [cloneS]; rw [List.getElem?_append_left (List.getElem?_eq_some_iff.1 h).1]; exact h

theorem own_nil {S : St} {m : Nat} (hm : ∃ c, S.objs[m]? = some c) : cval T 463 [.nilp, .ptr m 0] S = some (.nilp, S) := by
 refine cval_ok' fn_463 rfl ?_
 simp -implicitDefEqProofs [disk_Disk_Copy_1]
 rw [fin_same]; rfl

theorem own_val {S0 : St} {o K : Nat} {D : Dk} (hA : At S0 o K D) {ex : Option Nat} {M : List (Nat × Nat)} {gv : Nat → PV} {S : St} (h : Cp S0 ex D M gv S) (hx : ∀ i, ex = some i → i < S0.objs.length ∧ i ∉ D.fl) {f : Nat} (hf : f ∈ D.fl) :
  ∃ g M' gv' S', cval T 463 [.ptr f 0, .ptr (S0.objs.length + 1) 0] S = some (.ptr g 0, S') ∧ Cp S0 ex D M' gv' S' ∧ CpLe S0 none M gv S M' gv' S' ∧ lkM f M' = some g := by
 obtain ⟨hfo, hsl, hfs, hroom⟩ := hA.file f hf
 have hfl := (List.getElem?_eq_some_iff.1 hfo).1
 have hnx : ∀ f ∈ D.fl, ex ≠ some f := fun f hf e => (hx f e).2 hf
 have hfS : S.objs[f]? = some [D.fv f, .int .i64 (D.fs f)] := h.old f _ (hnx f hf) hfo
 have hslS : SlT S 1 (D.fv f) (ofBytes (D.fb f)) := by
  rcases hsl with w | ⟨k, e, w1, w2⟩
  ·exact .inl w
  ·exact .inr ⟨k, e, w1, h.told _ _ w2⟩
 have hmd := h.made
 have hbm := h.bm
 have hkl : keysLive S (pc M) = true := keysLive_pc fun q hq => by
  obtain ⟨q1, _⟩ := hA.file q.1 (h.fs.src q hq)
  exact live_of (h.old q.1 _ (hnx _ (h.fs.src q hq)) q1)
 have hlf : liveP S (.ptr f 0) = true := live_of hfS
 cases hl : lkM f M with
 | some g =>
  refine ⟨g, M, gv, S, ?_, h, .refl, hl⟩
  refine cval_ok' fn_463 rfl ?_
  have hg : ¬ S.objs.length ≤ g := by
   have := (List.getElem?_eq_some_iff.1 (h.fs.file _ (lkM_mem hl)).2.1).1
   simp only at this
   omega
  have hs : sol S.objs S.objs.length solFuel (.ptr g 0) = none := by
   show sol S.objs S.objs.length (39 + 1) (.ptr g 0) = none
   rw [sol]
   simp only [PV.free, Bool.false_eq_true, if_false, hg]
  simp -implicitDefEqProofs [disk_Disk_Copy_1, loadP_ptr hbm, part1, pstep, hmd, hlf, hkl, pfind_pc, hl, lookP]
  rw [fin_same, hs]
 | none =>
  have hcl := clone_val (S := S) hslS (by have := hA.rm; omega)
  obtain ⟨c1, c2, c3, c4⟩ := cloneW_slt hslS
  have hw1 : (cloneW (D.fv f) (D.fb f) S).one = true ∧ (cloneW (D.fv f) (D.fb f) S).cells = [cloneW (D.fv f) (D.fb f) S] := by
   unfold cloneW; split <;> exact ⟨rfl, rfl⟩
  have hak : aCall (cval T) .keep 201 [D.fv f] S = some (cloneW (D.fv f) (D.fb f) S, cloneS (D.fv f) (D.fb f) S) := by
   simp only [aCall, hcl, keepIf, c3, List.take_length, beqLL_rfl, if_true]
  obtain ⟨cw, hcw⟩ : ∃ cw, cw = cloneW (D.fv f) (D.fb f) S := ⟨_, rfl⟩
  obtain ⟨Sc, hSc⟩ : ∃ Sc, Sc = cloneS (D.fv f) (D.fb f) S := ⟨_, rfl⟩
  rw [← hcw, ← hSc] at hak c1
  rw [← hcw] at hw1 c2
  rw [← hSc] at c3 c4
  obtain ⟨Sb, hSb⟩ : ∃ Sb : St, Sb = ⟨Sc.objs ++ [[cw, .int .i64 (D.fs f)]], Sc.tips⟩ := ⟨_, rfl⟩
  have hap : ∀ {i : Nat} {c : List PV}, S.objs[i]? = some c → Sb.objs[i]? = some c := fun hc => by rw [hSb]; simp only; rw [c3, List.getElem?_append_left (List.getElem?_eq_some_iff.1 hc).1]; exact hc
  have hmd2 := hap hmd
  have hbm2 := hap hbm
  have hlf2 : liveP Sb (.ptr f 0) = true := live_of (hap hfS)
  have hkl2 : keysLive Sb (pc M) = true := keysLive_pc fun q hq => by
   obtain ⟨q1, _⟩ := hA.file q.1 (h.fs.src q hq)
   exact live_of (hap (h.old q.1 _ (hnx _ (h.fs.src q hq)) q1))
  have hput := pput_pc f Sc.objs.length M hl
  have hev := pc_even M
  obtain ⟨Sp, hSp⟩ : ∃ Sp : St, Sp = ⟨Sb.objs.set S0.objs.length (pc (M ++ [(f, Sc.objs.length)])), Sb.tips⟩ := ⟨_, rfl⟩
  have hne : ∀ {i : Nat} {c : List PV}, i ≠ S0.objs.length → S.objs[i]? = some c → Sp.objs[i]? = some c := fun hi hc => by rw [hSp]; simp only; rw [List.getElem?_set_ne (Ne.symm hi)]; exact hap hc
  have hmd3 : Sp.objs[S0.objs.length]? = some (pc (M ++ [(f, Sc.objs.length)])) := by rw [hSp]; exact get_set hmd2
  have hbm3 : Sp.objs[S0.objs.length + 1]? = some [.map S0.objs.length] := hne (by omega) hbm
  have hf0 : f < S0.objs.length := hfl
  have hfp : Sp.objs[f]? = some [D.fv f, .int .i64 (D.fs f)] := hne (by omega) hfS
  have hlf3 : liveP Sp (.ptr f 0) = true := live_of hfp
  have hkl3 : keysLive Sp (pc (M ++ [(f, Sc.objs.length)])) = true := keysLive_pc fun q hq => by
   rcases List.mem_append.1 hq with hq | hq
   ·obtain ⟨q1, _⟩ := hA.file q.1 (h.fs.src q hq)
    have := (List.getElem?_eq_some_iff.1 q1).1
    exact live_of (hne (by omega) (h.old q.1 _ (hnx _ (h.fs.src q hq)) q1))
   ·simp at hq; subst hq; exact hlf3
  have hlk : lkM f (M ++ [(f, Sc.objs.length)]) = some Sc.objs.length := by
   have : ∀ A : List (Nat × Nat), lkM f A = none → lkM f (A ++ [(f, Sc.objs.length)]) = some Sc.objs.length := by
    intro A
    induction A with
    | nil => intro _; simp [lkM]
    | cons q A ih =>
     intro hA
     simp only [lkM, List.cons_append] at hA ⊢
     split at hA
     ·cases hA
     ·rename_i e; rw [if_neg e]; exact ih hA
   exact this M hl
  have hlS : S0.objs.length + 2 < S.objs.length := (List.getElem?_eq_some_iff.1 h.bo).1
  have hln : Sc.objs.length = S.objs.length := by rw [c3]
  have hnewp : Sp.objs[Sc.objs.length]? = some [cw, .int .i64 (D.fs f)] := by
   rw [hSp]; simp only
   rw [List.getElem?_set_ne (by omega), hSb]
   simp
  have htp : Sp.tips = Sc.tips := by rw [hSp, hSb]
  have hfs2 : Fs (S0.objs.length + 2) S0.tips.length D (M ++ [(f, Sc.objs.length)]) (fun g => if g = Sc.objs.length then cw else gv g) Sp :=
   h.fs.add (fun i c hi hc => hne (by
    obtain ⟨q, hq, rfl⟩ := List.mem_map.1 hi
    have := (h.fs.file q hq).1
    omega) hc) (fun k c hc => by rw [htp]; exact c4 k c hc) hf hl (by omega) (by omega) hnewp (by
     rcases c1 with w | ⟨k, e, w1, w2⟩
     ·exact .inl w
     ·exact .inr ⟨k, e, w1, by rw [htp]; exact w2⟩) c2 h.tlen
  have hC2 : Cp S0 ex D (M ++ [(f, Sc.objs.length)]) (fun g => if g = Sc.objs.length then cw else gv g) Sp := {
   old := fun i c hi hc => by
    have := (List.getElem?_eq_some_iff.1 hc).1
    exact hne (by omega) (h.old i c hi hc)
   told := fun k c hc => by rw [htp]; exact c4 k c (h.told k c hc)
   made := hmd3
   bm := hbm3
   bo := hne (by omega) h.bo
   fs := hfs2 }
  have htl : S.tips.length ≤ Sc.tips.length := by
   rcases Nat.lt_or_ge Sc.tips.length S.tips.length with hlt | hge
   ·have := (List.getElem?_eq_some_iff.1 (c4 (S.tips.length - 1) _ (List.getElem?_eq_getElem (by omega)))).1
    omega
   ·exact hge
  have hle : CpLe S0 none M gv S (M ++ [(f, Sc.objs.length)]) (fun g => if g = Sc.objs.length then cw else gv g) Sp := {
   pre := ⟨_, rfl⟩
   gv := fun q hq => by
    have := (List.getElem?_eq_some_iff.1 (h.fs.file q hq).2.1).1
    show (if q.2 = Sc.objs.length then cw else gv q.2) = gv q.2
    rw [if_neg (by omega)]
   obj := fun i c hi _ hc => hne hi hc
   tip := fun k c hc => by rw [htp]; exact c4 k c hc
   new := fun q hq hn => by
    rcases List.mem_append.1 hq with hq | hq
    ·exact absurd hq hn
    ·simp at hq; subst hq
     simp only [if_true]
     exact ⟨by omega, c2⟩
   ol := by
    have : Sp.objs.length = S.objs.length + 1 := by rw [hSp, hSb]; simp [c3]
    omega
   tl := by rw [htp]; exact htl }
  refine ⟨Sc.objs.length, _, _, Sp, ?_, hC2, hle, hlk⟩
  have hfin : finish false S Sp (.ptr Sc.objs.length 0) = (.ptr Sc.objs.length 0, Sp) := by
   refine fin_diff hmd hmd3 (fun e => ?_) (i := S0.objs.length + 1) hbm3 (by omega) rfl
   have h1 : ∀ A : List (Nat × Nat), (pc A).length = 2 * A.length := by
    intro A
    induction A with
    | nil => rfl
    | cons q A ih => simp only [pc, List.length_cons, ih]; omega
   have := congrArg List.length e
   rw [h1, h1, List.length_append] at this
   simp only [List.length_cons, List.length_nil] at this
   omega
  refine cval_ok' fn_463 rfl ?_
  simp -implicitDefEqProofs [disk_Disk_Copy_1, loadP_ptr hbm, part1, pstep, hmd, hlf, hkl, pfind_pc, hl, lookP, loadP_ptr hfS, hak, peval, fillParts, putCells, hw1.1, hw1.2, newObj, ← hSb, hmd2, hlf2, hkl2, hev, hput, ← hSp, loadP_ptr hbm3, hmd3, hlf3, hkl3, hlk]
  exact hfin
end Ps
