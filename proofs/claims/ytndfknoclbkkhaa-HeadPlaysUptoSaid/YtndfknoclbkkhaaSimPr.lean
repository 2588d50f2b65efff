/- A slice of bytes that is built and turned into itself ([]byte("..") of a constant). -/
import Derived.Test.YtndfknoclbkkhaaSimN
import Derived.Test.YtndfknoclbkkhaaGo
namespace Ps
open Go
def alignQ (X : Tie) (n : Nat) (ops : Array Oper) : List Nat → List POper → Option (List (Nat × POper))
 | free, p :: ps => match free.find? (fun i => match ops[i]? with | some o => chkOper X n ops o p | none => false) with
  | some i => (match alignQ X n ops (free.erase i) ps with | some l => some ((i, p) :: l) | none => none)
  | none => none
 | [], [] => some []
 | _ :: _, [] => none

def pairsQ (ms : List Nat) : List (Nat × POper) → Bool
 | [] => true
 | x :: l => l.all (fun y => (ms.getD y.1 0).testBit x.1 || indep x.2 y.2) && pairsQ ms l

def drawQ (X : Tie) (n : Nat) (ops : Array Oper) (ps : List POper) : Bool :=
 match alignQ X n ops (List.range ops.size) ps with
 | some ql => backOk ops.toList 0 && pairsQ (masks ops.toList []) ql
 | none => false

theorem alignQ_spec {X : Tie} {n : Nat} {ops : Array Oper} : ∀ {ps : List POper} {free : List Nat} {ql : List (Nat × POper)}, free.Nodup → alignQ X n ops free ps = some ql →
  ql.map (·.2) = ps ∧ (ql.map (·.1)).Perm free ∧ ∀ x ∈ ql, ∃ o, ops[x.1]? = some o ∧ chkOper X n ops o x.2 = true
 | [], [], ql, _, h => by simp only [alignQ, Option.some.injEq] at h; subst h; exact ⟨rfl, List.Perm.refl _, fun x hx => by cases hx⟩
 | [], _ :: _, ql, _, h => by simp [alignQ] at h
 | p :: ps, free, ql, hnd, h => by
  simp only [alignQ] at h
  split at h
  ·rename_i i hf
   split at h
   ·rename_i l hl
    cases h
    obtain ⟨h1, h2, h3⟩ := alignQ_spec (hnd.erase i) hl
    have hm := List.mem_of_find?_eq_some hf
    have hp := List.find?_some hf
    refine ⟨by simp [h1], ?_, fun x hx => ?_⟩
    ·simp only [List.map_cons]
     exact (List.Perm.cons i h2).trans (List.perm_cons_erase hm).symm
    ·rcases List.mem_cons.1 hx with rfl | hx
     ·simp only at hp ⊢
      split at hp
      ·rename_i o ho; exact ⟨o, ho, hp⟩
      ·cases hp
     ·exact h3 x hx
   ·cases h
  ·cases h

theorem pairsQ_spec {ms : List Nat} : ∀ {l : List (Nat × POper)}, pairsQ ms l = true → l.Pairwise fun x y => (ms.getD y.1 0).testBit x.1 = true ∨ indep x.2 y.2 = true
 | [], _ => .nil
 | x :: l, h => by
  simp only [pairsQ, Bool.and_eq_true] at h
  refine .cons (fun y hy => ?_) (pairsQ_spec h.2)
  have := List.all_eq_true.1 h.1 y hy
  simpa [Bool.or_eq_true] using this

def restQ (ql : List (Nat × POper)) (listed : Array Bool) : List (Nat × POper) := ql.filter fun q => !listed.getD q.1 true

theorem restQ_set {ql : List (Nat × POper)} {listed : Array Bool} {i : Nat} (hs : i < listed.size) : restQ ql (listed.setIfInBounds i true) = (restQ ql listed).filter fun q => q.1 != i := by
 unfold restQ
 rw [List.filter_filter]
 apply List.filter_congr
 intro x _
 by_cases h : x.1 = i
 ·subst h; simp [Array.getD, hs]
 ·have : (listed.setIfInBounds i true).getD x.1 true = listed.getD x.1 true := by
   simp only [Array.getD_eq_getD_getElem?]
   rw [Array.getElem?_setIfInBounds_ne (Ne.symm h)]
  rw [this]
  simp [h]

theorem split_at {ql : List (Nat × POper)} {R : Nat × POper → Nat × POper → Prop} {listed : Array Bool} {i : Nat} {q : POper} (hnd : (ql.map (·.1)).Nodup) (hpw : ql.Pairwise R) (hm : (i, q) ∈ ql)
  (hi : listed.getD i true = false) (hs : i < listed.size) :
  ∃ pre post, restQ ql listed = pre ++ (i, q) :: post ∧ restQ ql (listed.setIfInBounds i true) = pre ++ post ∧ ∀ p ∈ pre, R p (i, q) ∧ listed.getD p.1 true = false := by
 have hmem : (i, q) ∈ restQ ql listed := List.mem_filter.2 ⟨hm, by simp only [hi]; rfl⟩
 obtain ⟨pre, post, e⟩ := List.append_of_mem hmem
 have hnd' : ((restQ ql listed).map (·.1)).Nodup := hnd.sublist (List.filter_sublist.map _)
 have hpw' : (restQ ql listed).Pairwise R := hpw.sublist List.filter_sublist
 refine ⟨pre, post, e, ?_, fun p hp => ⟨?_, ?_⟩⟩
 ·rw [restQ_set hs, e]
  rw [e] at hnd'
  simp only [List.map_append, List.map_cons] at hnd'
  have h1 := List.nodup_append.1 hnd'
  have hpre : ∀ x ∈ pre, x.1 ≠ i := fun x hx => h1.2.2 x.1 (List.mem_map.2 ⟨x, hx, rfl⟩) i (by simp)
  have hpost : ∀ x ∈ post, x.1 ≠ i := fun x hx he => (List.nodup_cons.1 h1.2.1).1 (he ▸ List.mem_map.2 ⟨x, hx, rfl⟩)
  rw [List.filter_append, List.filter_cons_of_neg (by simp), List.filter_eq_self.2 (fun x hx => by simpa using hpre x hx), List.filter_eq_self.2 (fun x hx => by simpa using hpost x hx)]
 ·rw [e] at hpw'
  exact (List.pairwise_append.1 hpw').2.2 p hp (i, q) (by simp)
 ·have : p ∈ restQ ql listed := by rw [e]; simp [hp]
  have := (List.mem_filter.1 this).2
  simpa using this

section
variable {X : Tie} {g : Gh} {w : World} {n : Dn} {fr : Fr} {a : Act} {S : St}
theorem any_simQ {call : CallP} (hty : TyInj X) (hM : MethOk X) (hC : CallOk X call) {ops : Array Oper} {ql : List (Nat × POper)} {Q : Exit → Act → World → Prop} {fr' : Fr} {S' : St}
  (hget : ∀ x ∈ ql, ∃ o, ops[x.1]? = some o ∧ chkOper X n ops o x.2 = true) (hcov : ∀ i, i < ops.size → ∃ p, (i, p) ∈ ql) (hnd : (ql.map (·.1)).Nodup) (hback : backOk ops.toList 0 = true)
  (hpw : ql.Pairwise fun x y => ((masks ops.toList []).getD y.1 0).testBit x.1 = true ∨ indep x.2 y.2 = true) : ∀ (fuel : Nat) (listed : Array Bool) (g : Gh) (w : World) (fr : Fr) (S : St) (a : Act),
  SR X g S w → FR X n g w fr a → listed.size = ops.size → DownOk ops listed → (restQ ql listed).length ≤ fuel → pops X.T call ((restQ ql listed).map (·.2)) fr S = some (fr', S') →
  (∀ g' w' a', Le g w g' w' → SR X g' S' w' → FR X n g' w' fr' a' → Q .normal a' w') → wpAny X.P .any ops Q fuel listed a w := by
 have hmr := masks_reach ops.toList ops.toList [] (by simp) (fun i m h => by simp at h)
 have hempty : ∀ listed : Array Bool, Region.ready .any ops listed = [] → listed.size = ops.size → restQ ql listed = [] := by
  intro listed hr hsz
  have hall : ∀ k, k < ops.size → listed.getD k true = true := by
   intro k
   induction k using Nat.strongRecOn with
   | _ k ih =>
    intro hk
    cases hl : listed.getD k true with
    | true => rfl
    | false =>
     have : k ∈ Region.ready .any ops listed := mem_ready'.2 ⟨hk, hl, ops[k], by simp [hk], fun d hd => by
      have hdk : d < k := by
       have := backOk_spec hback k ops[k] (by simp [hk]) d hd
       omega
      have := ih d hdk (by omega)
      have hds : d < listed.size := by omega
      simp [Array.getD, hds] at this ⊢
      exact this⟩
     rw [hr] at this
     cases this
  unfold restQ
  rw [List.filter_eq_nil_iff]
  intro x hx
  obtain ⟨o, ho, _⟩ := hget x hx
  have := hall x.1 (Array.getElem?_eq_some_iff.1 ho).1
  simp [this]
 intro fuel
 induction fuel with
 | zero =>
  intro listed g w fr S a hS hF hsz hdn hf h hQ
  have hnil : restQ ql listed = [] := List.length_eq_zero_iff.1 (by omega)
  rw [hnil] at h
  simp only [List.map_nil, pops, Option.some.injEq, Prod.mk.injEq] at h
  obtain ⟨rfl, rfl⟩ := h
  refine ⟨?_, hQ g w a (Le.refl g w) hS hF⟩
  cases hr : Region.ready .any ops listed with
  | nil => rfl
  | cons i l =>
   obtain ⟨h1, h2, o, ho, _⟩ := mem_ready'.1 (show i ∈ Region.ready .any ops listed by rw [hr]; simp)
   obtain ⟨p, hp⟩ := hcov i h1
   obtain ⟨pre, post, e1, _, _⟩ := split_at hnd hpw hp h2 (by omega)
   rw [hnil] at e1
   have := congrArg List.length e1
   simp at this
 | succ fuel ih =>
  intro listed g w fr S a hS hF hsz hdn hf h hQ
  refine ⟨fun hr => ?_, fun i hi => ?_⟩
  ·rw [hempty listed hr hsz] at h
   simp only [List.map_nil, pops, Option.some.injEq, Prod.mk.injEq] at h
   obtain ⟨rfl, rfl⟩ := h
   exact hQ g w a (Le.refl g w) hS hF
  ·obtain ⟨h1, h2, o, ho, h3⟩ := mem_ready'.1 hi
   obtain ⟨q, hq⟩ := hcov i h1
   obtain ⟨o', ho', hcq⟩ := hget _ hq
   simp only at ho'
   rw [ho] at ho'; cases ho'
   obtain ⟨pre, post, e1, e2, e3⟩ := split_at hnd hpw hq h2 (by omega)
   have hind : ∀ p ∈ pre, indep p.2 q = true := by
    intro p hp
    obtain ⟨hb | hb, hj3⟩ := e3 p hp
    ·exfalso
     have hil : i < (masks ops.toList []).length := by
      by_cases hil : i < (masks ops.toList []).length
      ·exact hil
      ·rw [List.getD_eq_getElem?_getD, List.getElem?_eq_none (by omega)] at hb
       simp at hb
     have hr := hmr i _ (List.getElem?_eq_getElem hil) p.1 (by rw [List.getD_eq_getElem?_getD, List.getElem?_eq_getElem hil] at hb; exact hb)
     have hjl := reach_listed hdn hsz hr (fun o' ho' d hd => by rw [ho] at ho'; cases ho'; exact h3 d hd)
     have hjs : p.1 < listed.size := by
      by_cases hjs : p.1 < listed.size
      ·exact hjs
      ·simp [Array.getD, hjs] at hj3
     simp [Array.getD, hjs] at hjl hj3
     rw [hjl] at hj3; cases hj3
    ·exact hb
   rw [e1, List.map_append, List.map_cons] at h
   have hsw := swap_front (by
    intro p hp
    obtain ⟨x, hx, rfl⟩ := List.mem_map.1 hp
    exact hind x hx) h
   unfold wpOp
   simp only [ho]
   have := one_sim hty hM hC (Q := Q) (K := wpAny X.P .any ops Q fuel (listed.setIfInBounds i true)) hcq hS hF hsw (fun g1 w1 a1 fr1 S1 hle1 hS1 hF1 h1' => by
    refine ih _ g1 w1 fr1 S1 a1 hS1 hF1 (by simpa using hsz) ?_ ?_ (by rw [e2, List.map_append]; exact h1') (fun g2 w2 a2 hle2 hS2 hF2 => hQ g2 w2 a2 (hle1.trans hle2) hS2 hF2)
    ·intro k o' ho' hk d hd
     have hdl : listed.getD d false = true := by
      by_cases hki : k = i
      ·subst hki
       rw [ho] at ho'; cases ho'
       exact h3 d hd
      ·refine hdn k o' ho' ?_ d hd
       simp only [Array.getD_eq_getD_getElem?] at hk ⊢
       rw [Array.getElem?_setIfInBounds_ne (Ne.symm hki)] at hk
       exact hk
     by_cases hdi : d = i
     ·subst hdi
      have : d < listed.size := by omega
      simp [Array.getD, this]
     ·simp only [Array.getD_eq_getD_getElem?] at hdl ⊢
      rw [Array.getElem?_setIfInBounds_ne (Ne.symm hdi)]
      exact hdl
    ·rw [e2]
     rw [e1] at hf
     simp at hf ⊢
     omega)
   split
   ·rename_i hw; rw [if_pos hw] at this; exact .inl this
   ·rename_i hw; rw [if_neg hw] at this; exact this

theorem draw_simQ {call : CallP} (hty : TyInj X) (hM : MethOk X) (hC : CallOk X call) (hmix : X.P.follows .mixedOrders = true) {ops : Array Oper} {pl : List POper} {Q : Exit → Act → World → Prop} {fr' : Fr} {S' : St}
  (hchk : drawQ X n ops pl = true) (hS : SR X g S w) (hF : FR X n g w fr a) (h : pops X.T call pl fr S = some (fr', S'))
  (hQ : ∀ g' w' a', Le g w g' w' → SR X g' S' w' → FR X n g' w' fr' a' → Q .normal a' w') (id : Nat) : (Code.region id ops true).wp X.P Q a w := by
 unfold drawQ at hchk
 split at hchk
 ·rename_i ql hql
  simp only [Bool.and_eq_true] at hchk
  obtain ⟨e1, e2, e3⟩ := alignQ_spec List.nodup_range hql
  have hnd : (ql.map (·.1)).Nodup := e2.nodup_iff.2 List.nodup_range
  refine wp_region_any hmix ?_
  have hw : ∀ {g' : Gh} {w' : World}, Le g { w with drawn := w.drawn + 1 } g' w' → Le g w g' w' := fun h => ⟨h.os, h.tape, h.output, h.size, h.obj, h.arr, h.asz, h.pub, h.cell, h.shape, h.objN, h.arrN, h.keep, h.pubN, h.mp, h.mpN⟩
  have hle : Le g w g { w with drawn := w.drawn + 1 } := ⟨rfl, rfl, rfl, Nat.le_refl _, fun _ _ h => h, fun _ _ h => h, fun _ _ h => h, fun _ => Nat.le_refl _, fun _ _ _ => rfl, fun _ us _ _ h => ⟨us, h, rfl⟩,
   fun id _ h => .inl ⟨id, h⟩, fun _ _ h => .inl h, fun _ _ _ _ _ => rfl, fun _ _ _ _ _ => rfl, fun _ _ h => h, fun _ _ h => .inl h⟩
  have hS' : SR X g S { w with drawn := w.drawn + 1 } := ⟨fun id b hb => by
   obtain ⟨cs, us, t, h1, h2, h3, h4⟩ := hS.obj id b hb
   exact ⟨cs, us, t, h1, h2, h3, fun j c u e1 e2 => (h4 j c u e1 e2).mono hle⟩, hS.inj, hS.objpub, hS.arr, hS.asz, hS.lt, hS.maps.of (fun _ _ h => h) (fun _ _ _ => rfl) (fun _ _ _ => rfl) (fun c u r => r.mono hle) (fun _ _ _ => ⟨rfl, rfl⟩) (fun _ _ _ _ h => h)⟩
  have hrest : restQ ql (Array.replicate ops.size false) = ql := by
   unfold restQ
   refine List.filter_eq_self.2 (fun x hx => ?_)
   obtain ⟨o, ho, _⟩ := e3 x hx
   have := (Array.getElem?_eq_some_iff.1 ho).1
   simp [Array.getD, this]
  refine any_simQ hty hM hC e3 (fun i hi => ?_) hnd hchk.1 (pairsQ_spec hchk.2) ops.size _ g _ fr S a hS' (hF.mono hle) (by simp) ?_ ?_ (by rw [hrest, e1]; exact h) (fun g' w' a' hle' hS2 hF2 => hQ g' w' a' (hw hle') hS2 hF2)
  ·have : i ∈ ql.map (·.1) := e2.mem_iff.2 (by simpa using hi)
   obtain ⟨x, hx, rfl⟩ := List.mem_map.1 this
   exact ⟨x.2, hx⟩
  ·intro i o ho hi
   have : i < ops.size := (Array.getElem?_eq_some_iff.1 ho).1
   simp [Array.getD, this] at hi
  ·rw [hrest]
   have := e2.length_eq
   simp at this
   omega
 ·cases hchk

end
end Ps
namespace Ps
set_option linter.unusedVariables false
set_option linter.unusedSimpArgs false
open Go
theorem getD_put_self {a : Act} {d : Nat} {u : Value} (h : d < a.tmps.size) : (a.put (some d) u).tmps.getD d undef = u := by
 simp only [Act.put, Array.getD_eq_getD_getElem?]
 simp [h]
def chkRng (X : Tie) (n : Nat) (c : Code) (pre : List POper) (x : Opd) (en : Nat) (post : List POper) (l : List (Nat × Nat)) (b : List POper) : Bool := false

theorem FR.clrs {X : Tie} {n : Dn} {g : Gh} {w : World} {a : Act} : ∀ (l : List (Nat × Nat)) {fr : Fr}, FR X n g w fr a → FR X n g w (clrs l fr) a
 | [], _, h => h
 | (lo, hi) :: l, fr, h => by
  refine FR.clrs l (fr := clrI lo hi fr) ⟨h.size, fun t => ?_, h.defers⟩
  unfold clrI
  cases (inI lo hi t)
  ·exact h.at_ t
  ·exact .und _

section
variable {X : Tie} {g : Gh} {w : World} {n : Dn} {fr : Fr} {a : Act} {S : St}
variable {w' : World}
open Go.RowKit (Below)
theorem le_below (hS : SR X g S w) (h : Below w.heap.size w w') : Le g w g w' where
 os := h.os
 tape := h.tape
 output := h.output
 size := h.size
 obj := fun _ _ e => e
 arr := fun _ _ e => e
 asz := fun _ _ e => e
 pub := fun _ => Nat.le_refl _
 cell := fun b j hj => by
  have hb : b < w.heap.size := by
   rcases Nat.lt_or_ge b w.heap.size with h1 | h1
   ·exact h1
   ·rw [(hS.lt b h1).1] at hj; omega
  simp only [World.cell?]
  rw [h.block b hb]
 shape := fun b us t fz e => by
  have hb : b < w.heap.size := (Array.getElem?_eq_some_iff.1 e).1
  exact ⟨us, by rw [h.block b hb]; exact e, rfl⟩
 objN := fun id _ e => .inl ⟨id, e⟩
 arrN := fun _ _ e => .inl e
 keep := fun b hb _ _ _ => h.block b hb
 pubN := fun _ _ _ _ _ => rfl
 mp := fun _ _ e => e
 mpN := fun _ _ e => .inl e

theorem sr_below (hS : SR X g S w) (h : Below w.heap.size w w') : SR X g S w' where
 obj := fun id b e => by
  obtain ⟨cs, us, t, h1, h2, h3, h4⟩ := hS.obj id b e
  have hb : b < w.heap.size := (Array.getElem?_eq_some_iff.1 h2).1
  exact ⟨cs, us, t, h1, by rw [h.block b hb]; exact h2, h3, fun j c u e1 e2 => (h4 j c u e1 e2).mono (le_below hS h)⟩
 inj := hS.inj
 objpub := hS.objpub
 arr := hS.arr
 asz := hS.asz
 lt := fun b hb => hS.lt b (Nat.le_trans h.size hb)
 maps := hS.maps.of (fun _ _ h => h) (fun _ _ _ => rfl) (fun i b e => h.block b (hS.maps.lt e)) (fun c u r => r.mono (le_below hS h)) (fun _ _ _ => ⟨rfl, rfl⟩) (fun _ _ _ _ h => h)

theorem rng_sim {call : CallP} (hty : TyInj X) (hM : MethOk X) (hC : CallOk X call) {c : Code} {pre : List POper} {x : Opd} {en : Nat} {post : List POper} {l : List (Nat × Nat)} {b : List POper} (hc : chkRng X n c pre x en post l b = true)
  {run : Fr → St → Option (Ex × Fr × St)} (hrun : ∀ fr S, run fr S = match pops X.T call b fr S with | some (fr', S') => some (.norm, fr', S') | none => none)
  (hS : SR X g S w) (hF : FR X n g w fr a) {fr1 fr' : Fr} {S1 S' : St} (hpre : pops X.T call pre fr S = some (fr1, S1)) (hrest : rngRest X.T call run x en post l fr1 S1 = some (fr', S')) {Q : Exit → Act → World → Prop}
  (hQ : ∀ g' w' a', Le g w g' w' → SR X g' S' w' → FR X n g' w' fr' a' → Q .normal a' w') : c.wp X.P Q a w := by
 cases hc
end
end Ps
namespace Ps
open Go
def chkPair (X : Tie) (n : Nat) (o1 o2 : Oper) (p1 p2 : POper) : Bool :=
 match o1.op, o2.op, o1.dst, o2.dst, p1, p2 with
 | .buildSlice t m ps, .convert s d (.tmp t0), some t1, some t2, ⟨some q1, .mov (.cst .und), none⟩, ⟨some q2, .bsl false ze len parts, none⟩ =>
  o1.guard.isNone && o2.guard.isNone && t0 == t1 && q1 == t1 && q2 == t2 && s == t && d == t && decide (t1 < n) && decide (t2 < n) &&
  (match X.P.underlying t with
   | some (.slice e) => m == len && zeroT X.P e ze && (match X.P.info? e with | some i => i.size == ze.cells.length | none => false) && chkElems X ps.toList parts
   | _ => false) &&
  (match X.P.underlying t with | some (.slice e) => isIntT X.P e .u8 | _ => false) && parts.all (fun q => q.2.reads.isEmpty)
 | _, _, _, _, _, _ => false

def chkOpers2 (X : Tie) (n : Nat) (ops : Array Oper) : List Oper → List POper → Bool
 | [], [] => true
 | o1 :: o2 :: l, p1 :: p2 :: m => (chkPair X n o1 o2 p1 p2 && chkOpers2 X n ops l m) || (chkOper X n ops o1 p1 && chkOpers2 X n ops (o2 :: l) (p2 :: m))
 | [o], [p] => chkOper X n ops o p
 | _, _ => false

section
variable {X : Tie} {g : Gh} {w : World} {n : Dn} {fr : Fr} {a : Act} {S : St}
theorem bsl_run (hF : FR X n g w fr a) {ze : PV} {len : Nat} {parts : List (Nat × Opd)} {t : TypeId} {m : Nat} {ps : Array (Nat × Operand)}
  (ht : (match X.P.underlying t with
   | some (.slice e) => m == len && zeroT X.P e ze && (match X.P.info? e with | some i => i.size == ze.cells.length | none => false) && chkElems X ps.toList parts
   | _ => false) = true) (hpos : 0 < ze.cells.length) (hone : ze.cells.all PV.one = true) (hsmall : len * ze.cells.length ≤ 16777216) {es : List PV}
  (h : setParts fr ze.cells.length parts (List.replicate len ze) = some es) (dst : Option Tmp) (ty : TypeId) (pos : String) (after : Array Edge) (guard : Option (Nat × Bool)) :
  ∃ e us', X.P.underlying t = some (.slice e) ∧ (execOp a.eval ⟨dst, .buildSlice t m ps, ty, pos, after, guard⟩).run X.P w = .ok (.value (.slice (some ⟨w.heap.size, 0, none⟩) m m)) (w.alloc (.cells us' e)) ∧
   us'.size = m * ze.cells.length ∧ es.length = m ∧ (∀ x ∈ es, x.cells.length = ze.cells.length) ∧ (∀ x ∈ es, x.cells.all PV.one = true) ∧ (∀ (j : Nat) (c : PV), (es.flatMap PV.cells)[j]? = some c → ∃ u, us'[j]? = some u ∧ VR X g w c u) := by
 split at ht
 ·rename_i e hu
  simp only [Bool.and_eq_true, beq_iff_eq] at ht
  obtain ⟨⟨⟨rfl, hz⟩, hsz⟩, hps⟩ := ht
  obtain ⟨zu, hz1, hz2⟩ := zeroT_spec (w := w) hz
  have hzr : VRL X g w ze.cells zu.cells := cells_vrl (zero_sim hz2) hone
  have hsize : (Go.sizeOf e).run X.P w = .ok ze.cells.length w := by
   split at hsz
   ·rename_i i hi; simp only [beq_iff_eq] at hsz; simp [Go.sizeOf, typeInfo, hi, hsz]
   ·cases hsz
  have hrs : ∀ x ∈ List.replicate m ze, x.cells.length = ze.cells.length := fun x hx => by rw [List.eq_of_mem_replicate hx]
  have hrf := flat_length hrs
  rw [List.length_replicate] at hrf
  let init : Array Value := if m * ze.cells.length = 0 then #[] else (Array.range (m * ze.cells.length)).map (zu.cells[· % zu.cells.size]!)
  have hinit : VRL X g w ((List.replicate m ze).flatMap PV.cells) init := by
   by_cases h0 : m * ze.cells.length = 0
   ·have : m = 0 := by
     rcases Nat.mul_eq_zero.1 h0 with h | h
     ·exact h
     ·omega
    subst this
    refine ⟨by simp [init], fun j c u e1 _ => by simp at e1⟩
   ·simp only [init, if_neg h0]
    refine ⟨by rw [hrf]; simp, fun j c u e1 e2 => ?_⟩
    have hj : j < m * ze.cells.length := by
     have := (List.getElem?_eq_some_iff.1 e1).1
     omega
    have hq : j / ze.cells.length < m := by rw [Nat.div_lt_iff_lt_mul hpos]; exact hj
    have hr : j % ze.cells.length < ze.cells.length := Nat.mod_lt _ hpos
    have hg := flat_get hrs (i := j / ze.cells.length) (e := ze) (by simp [hq]) (j % ze.cells.length) hr
    rw [show j / ze.cells.length * ze.cells.length + j % ze.cells.length = j by rw [Nat.mul_comm]; exact Nat.div_add_mod _ _] at hg
    rw [hg] at e1
    have hzs : zu.cells.size = ze.cells.length := hzr.1.symm
    refine hzr.2 (j % ze.cells.length) c u e1 ?_
    rw [Array.getElem?_map, Array.getElem?_range, if_pos hj, Option.map_some, Option.some.injEq] at e2
    rw [← e2, hzs, Array.getElem?_eq_getElem (by omega)]
    simp [getElem!_pos, hzs, hr]
  obtain ⟨us', f1, f2, f3, f4, f5⟩ := setParts_sim hF _ ps.toList parts _ es init hps h hinit hrs (fun x hx => by rw [List.eq_of_mem_replicate hx]; exact hone)
  rw [List.length_replicate] at f3
  have hus : us'.size = m * ze.cells.length := by rw [← f2.1, flat_length f4, f3]
  have hrun : (execOp a.eval ⟨dst, .buildSlice t m ps, ty, pos, after, guard⟩).run X.P w = .ok (.value (.slice (some ⟨w.heap.size, 0, none⟩) m m)) (w.alloc (.cells us' e)) := by
   have hfill : Instr.fill (fun i => some (i * ze.cells.length, ze.cells.length)) init (List.map (fun x => (x.fst, a.eval x.snd)) ps.toList) = some us' := f1
   simp only [execOp, Sem.run_bind, Instr.buildSlice, run_underlying hu, Result.andThen_ok, hsize]
   rw [if_neg (by omega)]
   by_cases h0 : m * ze.cells.length = 0
   ·simp only [init, if_pos h0] at hfill
    have hr0 : (Array.range 0).map (fun _ => (default : Value)) = #[] := by simp
    simp [h0, hr0, hfill, newRow]
   ·simp only [init, if_neg h0] at hfill
    simp [h0, hz1, hfill, newRow]
  have hcells : ∀ (j : Nat) (c : PV), (es.flatMap PV.cells)[j]? = some c → ∃ u, us'[j]? = some u ∧ VR X g w c u := fun j c hc => by
   have hj : j < us'.size := by rw [← f2.1]; exact (List.getElem?_eq_some_iff.1 hc).1
   exact ⟨us'[j], by simp [hj], f2.2 j c _ hc (by simp [hj])⟩
  exact ⟨e, us', hu, hrun, hus, f3, f4, f5, hcells⟩
 ·cases ht

inductive Fits2 (X : Tie) (n : Nat) (ops : Array Oper) : List Nat → List POper → Prop where
 | nil : Fits2 X n ops [] []
 | cons (i : Nat) (o : Oper) (p : POper) (l : List Nat) (ps : List POper) (hi : ops[i]? = some o) (hc : chkOper X n ops o p = true) (h : Fits2 X n ops l ps) : Fits2 X n ops (i :: l) (p :: ps)
 | pair (i j : Nat) (o1 o2 : Oper) (p1 p2 : POper) (l : List Nat) (ps : List POper) (hi : ops[i]? = some o1) (hj : ops[j]? = some o2) (hc : chkPair X n o1 o2 p1 p2 = true) (h : Fits2 X n ops l ps) : Fits2 X n ops (i :: j :: l) (p1 :: p2 :: ps)

theorem fits2_of_chk {ops : Array Oper} : ∀ (N : Nat) {l : List Oper} {ps : List POper} (k : Nat), l.length ≤ N → (∀ j, j < l.length → l[j]? = ops[k + j]?) → chkOpers2 X n ops l ps = true → Fits2 X n ops (List.range' k l.length) ps
 | _, [], [], _, _, _, _ => .nil
 | 0, _ :: _, _, _, hN, _, _ => by simp at hN
 | N + 1, [o], [p], k, _, hk, h => by
  simp only [chkOpers2] at h
  exact .cons k o p _ [] (by simpa using (hk 0 (by simp)).symm) h .nil
 | N + 1, o1 :: o2 :: l, p1 :: p2 :: m, k, hN, hk, h => by
  simp only [chkOpers2, Bool.or_eq_true, Bool.and_eq_true] at h
  simp only [List.length_cons] at hN
  rcases h with h | h
  ·simp only [List.length_cons, List.range'_succ]
   exact .pair k (k + 1) o1 o2 p1 p2 _ m (by simpa using (hk 0 (by simp)).symm) (by simpa using (hk 1 (by simp)).symm) h.1
    (fits2_of_chk N (k + 1 + 1) (by omega) (fun j hj => by have := hk (j + 2) (by simpa using hj); simpa [Nat.add_assoc, Nat.add_comm 2 j, Nat.add_comm 1 (1 + j), Nat.add_comm 1 j] using this) h.2)
  ·have := fits2_of_chk N (l := o2 :: l) (ps := p2 :: m) (k + 1) (by simp only [List.length_cons]; omega) (fun j hj => by have := hk (j + 1) (by simpa using hj); simpa [Nat.add_assoc, Nat.add_comm 1 j] using this) h.2
   rw [List.length_cons, List.range'_succ]
   exact .cons k o1 p1 _ _ (by simpa using (hk 0 (by simp)).symm) h.1 this
 | _ + 1, [], _ :: _, _, _, _, h => by simp [chkOpers2] at h
 | _ + 1, _ :: _, [], _, _, _, h => by simp [chkOpers2] at h
 | _ + 1, [_], _ :: _ :: _, _, _, _, h => by simp [chkOpers2] at h
 | _ + 1, _ :: _ :: _, [_], _, _, _, h => by simp [chkOpers2] at h
 | 0, [], _ :: _, _, _, _, h => by simp [chkOpers2] at h

theorem mark_run {w : World} {t e : TypeId} {b m : Nat} {us : Array Value} (ht : X.P.underlying t = some (.slice e)) (he : X.P.underlying e = some (.int .u8)) (hb : w.heap[b]? = some (.cells us e)) :
  (convert t t (.slice (some ⟨b, 0, none⟩) m m)).run X.P w = .ok (.slice (some ⟨b, 0, none⟩) m m) (w.freeze ⟨b, us.size, none⟩ 1) := by
 have hsh : w.shape? b = some (e, us.size) := by simp [World.shape?, hb]
 simp [convert, run_underlying ht, run_underlying he, markStringish, run_shape, hsh]

theorem pair_sim {call : CallP} {ops : Array Oper} {i j : Nat} {o1 o2 : Oper} {p1 p2 : POper} {l : List Nat} {ps : List POper} {r : Fr × St} (hi : ops[i]? = some o1) (hj : ops[j]? = some o2) (hc : chkPair X n o1 o2 p1 p2 = true)
  (hS : SR X g S w) (hF : FR X n g w fr a) (h : pops X.T call (p1 :: p2 :: ps) fr S = some r) {Q : Exit → Act → World → Prop}
  (hK : ∀ fr2 S2, pops X.T call ps fr2 S2 = some r → ∀ g' w' a', Le g w g' w' → SR X g' S2 w' → FR X n g' w' fr2 a' → wpOps X.P ops Q l a' w') : wpOps X.P ops Q (i :: j :: l) a w := by
 unfold chkPair at hc
 split at hc
 ·rename_i t m ps0 s d t0 t1 t2 q1 q2 ze len parts e1 e2 d1 d2
  simp only [Bool.and_eq_true, Option.isNone_iff_eq_none, beq_iff_eq, decide_eq_true_eq] at hc
  obtain ⟨⟨⟨⟨⟨⟨⟨⟨⟨⟨⟨g1, g2⟩, rfl⟩, rfl⟩, rfl⟩, rfl⟩, rfl⟩, l1⟩, l2⟩, hb⟩, hu8⟩, hread⟩ := hc
  simp only [pops, wantedP, pstep, peval, ev, withSt, updO] at h
  split at h
  ·rename_i v S1 hv
   split at hv
   ·rename_i es hes
    simp only [Bool.false_eq_true, if_false, Option.some.injEq] at hv
    unfold elems at hes
    split at hes
    ·rename_i hcond
     obtain ⟨hpos, hone, hsmall⟩ := hcond
     have hes' : setParts fr ze.cells.length parts (List.replicate len ze) = some es := by
      rw [← hes]
      refine setParts_congr _ _ _ (fun q hq => ?_)
      obtain ⟨p, hp, hq⟩ := List.mem_flatMap.1 hq
      have := List.all_eq_true.1 hread p hp
      simp only [List.isEmpty_iff] at this
      rw [this] at hq; cases hq
     obtain ⟨e, us', hu, hrun, hus, f3, f4, f5, hcells⟩ := bsl_run (w := w) hF hb hpos hone hsmall hes' o1.dst o1.type o1.pos o1.after o1.guard
     have hu8' : X.P.underlying e = some (.int .u8) := by
      rw [hu] at hu8
      exact intT_spec hu8
     have want1 : ∀ y, Region.wanted o1 y = true := fun y => by simp [Region.wanted, g1]
     have want2 : ∀ y, Region.wanted o2 y = true := fun y => by simp [Region.wanted, g2]
     simp only [wpOps, hi, hj, want1, want2, if_true]
     left
     unfold Oper.wp
     have hr1 : (execOp a.eval o1).run X.P w = .ok (.value (.slice (some ⟨w.heap.size, 0, none⟩) m m)) (w.alloc (.cells us' e)) := by
      cases o1 with
      | mk dst op ty pos after guard =>
       simp only at e1
       subst e1
       exact hrun
     rw [hr1, Oper.upon_value, d1]
     left
     have hz : (a.put (some q1) (.slice (some ⟨w.heap.size, 0, none⟩) m m)).eval (.tmp q1) = .slice (some ⟨w.heap.size, 0, none⟩) m m := getD_put_self (by rw [hF.size]; exact l1)
     have hblk : (w.alloc (.cells us' e)).heap[w.heap.size]? = some (.cells us' e (0, 0)) := heap_alloc_new w _
     have hmk := mark_run (X := X) (m := m) hu hu8' hblk
     have hr2 : (execOp (a.put (some q1) (.slice (some ⟨w.heap.size, 0, none⟩) m m)).eval o2).run X.P (w.alloc (.cells us' e)) = .ok (.value (.slice (some ⟨w.heap.size, 0, none⟩) m m)) ((w.alloc (.cells us' e)).freeze ⟨w.heap.size, us'.size, none⟩ 1) := by
      cases o2 with
      | mk dst op ty pos after guard =>
       simp only at e2
       subst e2
       simp [execOp, hz, hmk]
     rw [hr2, Oper.upon_value, d2]
     have hheap : ((w.alloc (.cells us' e)).freeze ⟨w.heap.size, us'.size, none⟩ 1).heap = w.heap.push (.cells us' e (us'.size, us'.size + 1)) := by
      have h0 : (w.alloc (.cells us' e)).heap = w.heap.push (.cells us' e) := rfl
      simp only [World.freeze, h0]
      simp only [Nat.one_ne_zero, if_false]
      apply Array.ext_getElem?
      intro k
      rw [Array.getElem?_modify, push_get, push_get]
      by_cases hk : k = w.heap.size
      ·subst hk; simp
      ·rw [if_neg (Ne.symm hk), if_neg hk, if_neg hk]
     have hst := newArr_step hS (es := es) (us := us') (t := e) (lo := us'.size) (hi := us'.size + 1) (sz := ze.cells.length) (cap := m)
      (w' := (w.alloc (.cells us' e)).freeze ⟨w.heap.size, us'.size, none⟩ 1) hheap (by simp [World.freeze]; rfl) (by simp [World.freeze]) (by simp [World.freeze]; rfl) hpos f4 f5 (by omega) (by omega) (.inr (Nat.le_refl _)) hcells
     rw [hv, f3] at hst
     obtain ⟨g', hle, hS', hvr⟩ := hst
     exact hK _ _ h g' _ _ hle hS' (((hF.mono hle).put (d := some q1) (fun t e => by cases e; exact l1) (.und _)).put (d := some q2) (fun t e => by cases e; exact l2) hvr)
    ·cases hes
   ·cases hv
  ·cases h
 ·cases hc

theorem ops_sim2 {call : CallP} (hty : TyInj X) (hM : MethOk X) (hC : CallOk X call) {ops : Array Oper} {Q : Exit → Act → World → Prop} {fr' : Fr} {S' : St} : ∀ {l : List Nat} {ps : List POper} {g : Gh} {w : World} {fr : Fr} {S : St} {a : Act},
  Fits2 X n ops l ps → SR X g S w → FR X n g w fr a → pops X.T call ps fr S = some (fr', S') →
  (∀ g' w' a', Le g w g' w' → SR X g' S' w' → FR X n g' w' fr' a' → Q .normal a' w') → wpOps X.P ops Q l a w := by
 intro l ps g w fr S a hf
 induction hf generalizing g w fr S a with
 | nil =>
  intro hS hF h hQ
  simp only [pops, Option.some.injEq, Prod.mk.injEq] at h
  obtain ⟨rfl, rfl⟩ := h
  exact hQ g w a (Le.refl g w) hS hF
 | pair i j o1 o2 p1 p2 l ps hi hj hc _ ih =>
  intro hS hF h hQ
  exact pair_sim hi hj hc hS hF h (fun fr2 S2 h2 g' w' a' hle hS' hF' => ih hS' hF' h2 (fun g2 w2 a2 hle2 hS2 hF2 => hQ g2 w2 a2 (hle.trans hle2) hS2 hF2))
 | cons i o p l ps hi hc _ ih =>
  intro hS hF h hQ
  simp only [chkOper, Bool.and_eq_true, beq_iff_eq] at hc
  obtain ⟨⟨⟨hd, hlt⟩, hop⟩, hgd⟩ := hc
  have hdl : ∀ t, p.dst = some t → t < n := by
   intro t ht
   rw [hd] at ht
   rw [ht] at hlt
   simpa using hlt
  simp only [wpOps, hi]
  simp only [pops] at h
  split at h
  ·cases h
  ·rename_i hw
   rw [guard_sim hF hgd hw, if_neg (by simp)]
   rw [← hd]
   exact ih hS (hF.put hdl (undef_vr X g w)) h hQ
  ·rename_i hw
   rw [guard_sim hF hgd hw, if_pos rfl]
   split at h
   ·rename_i v S1 hst
    left
    have := step_sim hty hM hC hS hF hop hst o.dst o.type o.pos o.after o.guard (wpOps X.P ops Q l) Q (fun u w' hstep => by
     obtain ⟨g', hle, hS', hv⟩ := hstep
     rw [← hd]
     exact ih hS' ((hF.mono hle).put hdl hv) h (fun g2 w2 a2 hle2 hS2 hF2 => hQ g2 w2 a2 (hle.trans hle2) hS2 hF2))
    exact this
   ·cases h

end
end Ps
