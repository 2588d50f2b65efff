/- Labels are told by their text. -/
import Derived.Test.YtndfknoclbkkhaaSL
namespace Ps
set_option linter.unusedSimpArgs false
set_option linter.unusedVariables false
open Go
theorem fn_190 : T.fn 190 = some (.code z36) := rfl

def keptA (A : Ab) : Ab := A.filter fun p => !(p.2.length == 0)
theorem abs_kept (l : List Sr) : abs (keptS l) = keptA (abs l) := by
 unfold abs keptS keptA
 rw [List.filter_map]
 rfl

theorem take_objs {S S1 : St} (h : ∀ (i : Nat) (x : List PV), S.objs[i]? = some x → S1.objs[i]? = some x) : S1.objs.take S.objs.length = S.objs := by
 apply List.ext_getElem?
 intro i
 by_cases hi : i < S.objs.length
 ·rw [List.getElem?_take_of_lt hi]
  have e := List.getElem?_eq_getElem hi
  rw [e]; exact h i _ e
 ·rw [List.getElem?_eq_none (by rw [List.length_take]; omega), List.getElem?_eq_none (by omega)]
theorem fin_keep {S S1 : St} {r r' : PV} (h : S1.objs.take S.objs.length = S.objs) (hs : sol S1.objs S.objs.length solFuel r = some r') : finish false S S1 r = (r'.frz, ⟨S.objs, S1.tips.take S.tips.length⟩) := by
 unfold finish
 simp only [Bool.false_eq_true, if_false, hs]
 rw [h, beqLL_rfl']
 simp

theorem chunk_ser (t : List PV) : ∀ l : List Sr, chunk 2 l.length (serC l ++ t) = l.map serE
 | [] => rfl
 | q :: l => by
  have ih := chunk_ser t l
  simp only [List.length_cons, chunk, serC, List.flatMap_cons, List.map_cons, List.cons_append, List.nil_append, List.append_assoc, List.take_succ_cons, List.take_zero, List.drop_succ_cons, List.drop_zero, mkE] at ih ⊢
  rw [ih]; rfl
theorem serC_one {l : List Sr} (h : ∀ x ∈ l, SeOk x) : (serC l).all PV.one = true := by
 rw [List.all_eq_true]
 intro v hv
 obtain ⟨x, hx, hv⟩ := List.mem_flatMap.1 hv
 simp only [List.mem_cons, List.not_mem_nil, or_false] at hv
 rcases hv with rfl | rfl
 ·exact (h x hx).one.1
 ·exact (h x hx).one.2

structure SeF (x : Sr) : Prop where
 ok : SeOk x
 sam : Sl0 2 x.sv (x.sm.map smE)
def svF (x : Sr) : PV := match x.sv with | .nils => .nils | _ => .sl none (x.sm.map smE) []
def fzS (x : Sr) : Sr := ⟨x.lv, svF x, x.sm, x.lb⟩
theorem abs_fz (l : List Sr) : abs (l.map fzS) = abs l := by
 simp [abs, fzS]
theorem fzS_f {S : St} {x : Sr} (h : SeOk x) (hs : SmAt S x.sv x.sm) : SeF (fzS x) := by
 have h0 : Sl0 2 (svF x) (x.sm.map smE) := by
  unfold svF
  rcases hs with ⟨e | e, e2⟩ | ⟨id, t, e, _⟩
  ·rw [e, e2]; exact sl0_nils 2
  ·rw [e]; exact sl0_sl (smE_cells _) (smE_free _) (smE_frz _)
  ·rw [e]; exact sl0_sl (smE_cells _) (smE_free _) (smE_frz _)
 refine ⟨⟨h.lab, ?_, h0.one.1, h.len⟩, h0⟩
 have := h0.len
 rw [List.length_map] at this
 exact this
theorem serF_frz {l : List Sr} (h : ∀ x ∈ l, SeF x) : PV.frzL (l.map serE) = l.map serE := by
 induction l with
 | nil => rfl
 | cons x l ih =>
  have hx := h x (by simp)
  simp only [List.map_cons, PV.frzL, ih (fun y hy => h y (by simp [hy]))]
  simp [serE, PV.frz, PV.frzL, hx.ok.lab.1.frz, hx.sam.frz]
theorem serF_free {l : List Sr} (h : ∀ x ∈ l, SeF x) : PV.freeL (l.map serE) = true := by
 refine freeL_of_mem fun v hv => ?_
 obtain ⟨x, hx, rfl⟩ := List.mem_map.1 hv
 simp [serE, PV.free, PV.freeL, (h x hx).ok.lab.1.free, (h x hx).sam.free]

theorem sol_sm {S : St} {n0 k : Nat} {x : Sr} (hs : SmAt S x.sv x.sm) (hn : ∀ i, gidV x.sv = some i → n0 ≤ i) : sol S.objs n0 (k + 2) x.sv = some (svF x) := by
 unfold svF
 rcases hs with ⟨e | e, e2⟩ | ⟨id, t, e, ho⟩
 ·rw [e]; exact sol_id rfl
 ·rw [e, e2]; exact sol_emp
 ·have hid := hn id (by rw [e]; rfl)
  rw [e]
  have hlen := smC_len x.sm
  have htk : (smC x.sm ++ t).take (x.sm.length * 2) = smC x.sm := by rw [List.take_append_of_le_length (by omega), List.take_of_length_le (by omega)]
  have hch := chunk_sm [] x.sm
  rw [List.append_nil] at hch
  have hfr : PV.freeL (smC x.sm) = true := by
   refine freeL_of_mem fun v hv => ?_
   obtain ⟨q, _, hv⟩ := List.mem_flatMap.1 hv
   simp only [List.mem_cons, List.not_mem_nil, or_false] at hv
   rcases hv with rfl | rfl <;> rfl
  have hm : mapO (sol S.objs n0 (k + 1)) (smC x.sm) = some (smC x.sm) := mapO_free' hfr
  have h1 := smC_one x.sm
  show sol S.objs n0 ((k + 1) + 1) _ = _
  unfold sol
  simp only [PV.free, Bool.false_eq_true, if_false, hid, ho, List.drop_zero, htk, h1, hm, hch]
  simp [hlen]
  omega
theorem sol_serC {S : St} {n0 k : Nat} : ∀ {l : List Sr}, (∀ x ∈ l, SeOk x ∧ SmAt S x.sv x.sm ∧ ∀ i, gidV x.sv = some i → n0 ≤ i) → mapO (sol S.objs n0 (k + 2)) (serC l) = some (serC (l.map fzS))
 | [], _ => rfl
 | x :: l, h => by
  obtain ⟨h1, h2, h3⟩ := h x (by simp)
  have ih := sol_serC (k := k) (l := l) fun y hy => h y (by simp [hy])
  have e1 : sol S.objs n0 (k + 2) x.lv = some x.lv := sol_id h1.lab.1.free
  have e2 := sol_sm (k := k) h2 h3
  have : mapO (sol S.objs n0 (k + 2)) [x.lv, x.sv] = some [x.lv, svF x] := by simp only [mapO, e1, e2]
  exact mapO_append this ih
theorem sol_ser {S : St} {n0 id : Nat} {l : List Sr} {t : List PV} (hn : n0 ≤ id) (ho : S.objs[id]? = some (serC l ++ t)) (h : ∀ x ∈ l, SeOk x ∧ SmAt S x.sv x.sm ∧ ∀ i, gidV x.sv = some i → n0 ≤ i) : sol S.objs n0 solFuel (.osl id 0 l.length 2) = some (.sl none ((l.map fzS).map serE) []) := by
 have h1 := serC_one fun x hx => (h x hx).1
 have hlen := serC_len l
 have htk : (serC l ++ t).take (l.length * 2) = serC l := by rw [List.take_append_of_le_length (by omega), List.take_of_length_le (by omega)]
 show sol S.objs n0 (39 + 1) _ = _
 unfold sol
 have hm : mapO (sol S.objs n0 39) (serC l) = some (serC (l.map fzS)) := sol_serC (k := 37) h
 have hch := chunk_ser [] (l.map fzS)
 rw [List.append_nil, List.length_map] at hch
 have c1 : 0 + l.length * 2 ≤ (serC l ++ t).length := by rw [List.length_append]; omega
 simp only [PV.free, Bool.false_eq_true, if_false, hn, ho, List.drop_zero, htk, h1, hm, hch]
 simp [hlen]
 omega

theorem dead_sort {v : PV} (hv : v = .emp ∨ v = .nils) (S : St) : cval T 284 [v, .fn 285 []] S = some (v, S) ∧ cval T 286 [v, .fn 287 []] S = some (.tup [], S) := by
 have hlen : lenP false v = some (.int .i64 0) := by rcases hv with rfl | rfl <;> rfl
 have h1 : cval T 345 [v, .fn 285 []] S = some (.int .i64 (-1), S) := by
  refine cval_ok' fn_345 rfl ?_
  simp -implicitDefEqProofs [z18, hlen]
  rw [gval_lp]
  simp -implicitDefEqProofs
 have h2 : cval T 381 [v, .int .i64 0, .int .i64 0, .fn 287 []] S = some (.tup [], S) := by
  refine cval_ok' fn_381 rfl ?_
  have hw : IntKind.i64.wrap 1 = 1 := by decide
  simp -implicitDefEqProofs [z4, hw]
  rw [gval_lp]
  simp -implicitDefEqProofs [ends_nil]
  rfl
 have h3 : ∀ L : Int, cval T 346 [v, .int .i64 0, .int .i64 0, .int .i64 L, .fn 287 []] S = some (.tup [], S) := fun L => by
  refine cval_ok' fn_346 rfl ?_
  have hw : IntKind.i64.wrap 0 = 0 := by decide
  simp -implicitDefEqProofs [z10]
  rw [gval_lp]
  simp -implicitDefEqProofs [-z10_r5_go, hw, h2, ends_nil]
  rfl
 have hlp := len_pval (n := 0) (by decide)
 have hwu : IntKind.u64.wrap 0 = 0 := by decide
 simp only [Int.natCast_zero] at hlp
 refine ⟨cval_ok' fn_284 rfl ?_, cval_ok' fn_286 rfl ?_⟩
 ·simp -implicitDefEqProofs [z17, h1]
  rfl
 ·simp -implicitDefEqProofs [z20, hlen, hwu, hlp, h3, ends_nil]
  rfl

structure SeriesOk (A : Ab) (v : PV) (l : List Sr) : Prop where
 rd : Reads1 2 v (l.map serE)
 ok : ∀ x ∈ l, SeF x
 perm : (abs l).Perm (keptA A)
 srt : l.Pairwise fun x y => ¬ cmpL y.lb x.lb < 0

theorem series_val {S : St} {o : Nat} {H : Hd} (h : HOk S o H) : ∃ v l S2, cval T 190 [.ptr o 0] S = some (v, S2) ∧ S2.objs = S.objs ∧ SeriesOk (abs H.ser) v l := by
 have hob := h.obj
 have lo0 : loadP S false 1 (.ptr o 0) = some H.hv := by rw [loadP_ptr hob]; exact part1
 obtain ⟨v, S1, cs, c1, g1, g2, g3, g4, g5⟩ := copied_val h
 have hcl : cs.length ≤ 256 := by
  have := congrArg List.length g3
  rw [abs_len, abs_len] at this
  have := h.szs; omega
 have hS1 : ∀ (i : Nat) (x : List PV), S.objs[i]? = some x → S1.objs[i]? = some x := fun i x hx => by
  obtain ⟨a, b, rfl⟩ := g2
  simp only
  rw [List.getElem?_append_left (List.getElem?_eq_some_iff.1 hx).1]; exact hx
 rcases g1.acc with ⟨hv, he⟩ | ⟨id, w1, w2, w3, w4⟩
 ·have hcs : cs = [] := by simpa using he
  subst hcs
  obtain ⟨d1, d2⟩ := dead_sort hv S1
  have hfin : ∃ v' : PV, sol S1.objs S.objs.length solFuel v = some v' ∧ Reads1 2 v'.frz [] := by
   rcases hv with rfl | rfl
   ·exact ⟨.sl none [] [], sol_emp, reads_sl (by simp)⟩
   ·exact ⟨.nils, sol_id rfl, reads_nils 2⟩
  obtain ⟨v', f1, f2⟩ := hfin
  have hf := fin_keep (take_objs hS1) f1
  refine ⟨v'.frz, [], ⟨S.objs, S1.tips.take S.tips.length⟩, cval_ok' fn_190 rfl ?_, rfl, ⟨f2, by simp, ?_, List.Pairwise.nil⟩⟩
  ·simp -implicitDefEqProofs [z36, lo0, c1, d1, d2, hf]
  ·rw [← g3]; exact List.Perm.refl _
 ·rw [serC_flat] at w3
  rw [List.length_map] at w2
  subst w2
  have w3' : S1.objs[id]? = some (serC cs ++ []) := by rw [List.append_nil]; exact w3
  obtain ⟨S2, rest, d1, d2, d3, d4⟩ := delS_val w3' hcl g4
  have hkl : (keptS cs).length ≤ 256 := Nat.le_trans (List.length_filter_le _ _) hcl
  have hko : ∀ x ∈ keptS cs, SeOk x := fun x hx => g4 x (List.mem_filter.1 hx).1
  have hsrt : Srt S2 id (keptS cs).length rest S2 (keptS cs).toArray := ⟨by simpa using d2, fun i x _ hx => hx, Nat.le_refl _, by simpa using hko, by simp, hkl⟩
  obtain ⟨S3, d', s1, s2, s3, s4⟩ := sort_val hsrt
  have hS3 : ∀ (i : Nat) (x : List PV), S.objs[i]? = some x → S3.objs[i]? = some x := fun i x hx => by
   have hi := (List.getElem?_eq_some_iff.1 hx).1
   exact s2.oth i x (by omega) (d3 i x (by omega) (hS1 i x hx))
  have hd'l : d'.toList.length = (keptS cs).length := by rw [Array.length_toList]; exact s2.sz
  have hpd : d'.toList.Perm (keptS cs) := by
   have hp := s3.2.2
   have e1 : (d'.extract 0 (keptS cs).length) = d' := by
    rw [← s2.sz]; simp
   have e2 : ((keptS cs).toArray.extract 0 (keptS cs).length) = (keptS cs).toArray := by simp
   rw [e1, e2] at hp
   simpa using hp
  have hsol : ∀ x ∈ d'.toList, SeOk x ∧ SmAt S3 x.sv x.sm ∧ ∀ i, gidV x.sv = some i → S.objs.length ≤ i := fun x hx => by
   have hxc : x ∈ cs := (List.mem_filter.1 (hpd.mem_iff.1 hx)).1
   refine ⟨s2.ok x hx, (g5.sam x hxc).mono fun i hi c hc => ?_, fun i hi => (g5.pos x hxc i hi).1⟩
   have hne : i ≠ id := fun e => (g5.pos x hxc i hi).2.1 (by rw [e]; rfl)
   exact s2.oth i c hne (d3 i c hne hc)
  have hfz : ∀ x ∈ d'.toList.map fzS, SeF x := fun y hy => by
   obtain ⟨x, hx, rfl⟩ := List.mem_map.1 hy
   obtain ⟨a1, a2, _⟩ := hsol x hx
   exact fzS_f a1 a2
  have hmem := s2.mem
  have hf := fin_keep (take_objs hS3) (sol_ser w1 hmem hsol)
  rw [hd'l] at hf
  refine ⟨(PV.sl none ((d'.toList.map fzS).map serE) []).frz, d'.toList.map fzS, ⟨S.objs, S3.tips.take S.tips.length⟩, cval_ok' fn_190 rfl ?_, rfl, ⟨?_, hfz, ?_, ?_⟩⟩
  ·simp -implicitDefEqProofs [z36, lo0, c1, d1, s1]
   simp only [List.map_map] at hf
   exact hf
  ·simp only [PV.frz, serF_frz hfz, PV.frzL]
   exact reads_sl (fun e he => by obtain ⟨x, _, rfl⟩ := List.mem_map.1 he; rfl)
  ·rw [abs_fz, ← g3, ← abs_kept]
   exact List.Perm.map _ hpd
  ·rw [List.pairwise_map, List.pairwise_iff_getElem]
   intro i j hi hj hij
   have := s4 i j (Nat.zero_le _) hij (by omega)
   rw [getE (by rw [s2.sz]; omega), getE (by rw [s2.sz]; omega)] at this
   simpa [ltS, fzS] using this
end Ps
namespace Ps
set_option linter.unusedSimpArgs false
set_option linter.unusedVariables false
open Go
theorem fn_170 : T.fn 170 = some (.code z74) := rfl
def DistA (A : Ab) : Prop := (A.map fun p => printT p.1).Nodup
theorem modify_labs (A : Ab) (i : Nat) (f : List (Int × Int) → List (Int × Int)) : (A.modify i fun p => (p.1, f p.2)).map (fun p => p.1) = A.map (fun p => p.1) := by
 induction A generalizing i with
 | nil => simp
 | cons a A ih =>
  cases i with
  | zero => simp
  | succ i => simp [ih]
def labsA (A : Ab) : List (List Lab) := A.map fun p => p.1
theorem distA_iff (A : Ab) : DistA A ↔ ((labsA A).map printT).Nodup := by simp [DistA, labsA, List.map_map, Function.comp_def]
theorem labs_rem (low high : Int) : ∀ (l : List Int) (A : Ab), labsA (remA low high l A) = labsA A
 | [], A => rfl
 | i :: l, A => by rw [remA, labs_rem]; exact modify_labs A _ _
theorem labs_push (x : RowM) (A : Ab) : labsA (pushA x A) = labsA A := modify_labs A _ (fun q => q ++ [(x.2.1, x.2.2)])
theorem labs_rowsGo : ∀ (l : List RowM) (A : Ab), labsA (rowsGo l A).1 = labsA A
 | [], A => rfl
 | x :: l, A => by
  rw [rowsGo]
  cases rowStep x A with
  | some e => rfl
  | none => rw [labs_rowsGo l, labs_push]
theorem doA_dist {r : RecM} {A : Ab} (h : DistA A) : DistA (doA r A).1 := by
 unfold doA
 split
 ·exact h
 ·split
  ·unfold doAdd
   split
   ·exact h
   ·rename_i hix
    split
    ·exact h
    ·simp only [DistA, List.map_append, List.map_cons, List.map_nil] at h ⊢
     rw [List.nodup_append]
     refine ⟨h, by simp, fun a ha b hb e => ?_⟩
     simp only [List.mem_singleton] at hb
     obtain ⟨p, hp, rfl⟩ := List.mem_map.1 ha
     apply hix
     rw [idxT, List.findIdx?_isSome, List.any_eq_true]
     exact ⟨p, hp, by simp [e, hb]⟩
  ·split
   ·unfold doRows
    split
    ·rw [distA_iff] at h ⊢; rw [labs_rowsGo]; exact h
    ·exact h
   ·unfold doRem
    split
    ·rw [distA_iff] at h ⊢; simp only; rw [labs_rem]; exact h
    ·exact h
theorem nodup_inj {α β : Type} {f : α → β} : ∀ {l : List α}, (l.map f).Nodup → ∀ a ∈ l, ∀ b ∈ l, f a = f b → a = b
 | x :: l, h, a, ha, b, hb, e => by
  simp only [List.map_cons, List.nodup_cons, List.mem_map, not_exists, not_and] at h
  rcases List.mem_cons.1 ha with p | p
  ·rcases List.mem_cons.1 hb with q | q
   ·rw [p, q]
   ·exact absurd (by rw [← e, p]) (h.1 b q)
  ·rcases List.mem_cons.1 hb with q | q
   ·exact absurd (by rw [e, q]) (h.1 a p)
   ·exact nodup_inj h.2 a p b q e

theorem series_one {A : Ab} (hd : DistA A) {v1 v2 : PV} {l1 l2 : List Sr} (h1 : SeriesOk A v1 l1) (h2 : SeriesOk A v2 l2) : abs l1 = abs l2 := by
 have hsrt : ∀ {v : PV} {l : List Sr}, SeriesOk A v l → (abs l).Pairwise fun x y => ¬ cmpL y.1 x.1 < 0 := fun {v l} h => by
  unfold abs
  rw [List.pairwise_map]
  exact h.srt
 have hdk : ((keptA A).map fun p => printT p.1).Nodup := by
  have : (keptA A).Sublist A := List.filter_sublist
  exact (this.map _).nodup hd
 have hinj : ∀ a b : List Lab × List (Int × Int), a ∈ keptA A → b ∈ keptA A → a.1 = b.1 → a = b := fun a b ha hb e => nodup_inj hdk a ha b hb (by rw [e])
 refine List.Perm.eq_of_pairwise (le := fun x y => ¬ cmpL y.1 x.1 < 0) (fun a b ha hb p q => ?_) (hsrt h1) (hsrt h2) (h1.perm.trans h2.perm.symm)
 have r1 := cmpL_rng a.1 b.1
 have n1 := cmpL_neg a.1 b.1
 have hz : cmpL a.1 b.1 = 0 := by omega
 exact hinj a b (h1.perm.mem_iff.1 ha) (h2.perm.mem_iff.1 hb) (cmpL_zero.1 hz)

theorem serE_get {l : List Sr} {v : PV} (hv : Reads1 2 v (l.map serE)) {i : Nat} (hi : i < l.length) {k : IntKind} : iaddrP 2 v (.int k (i : Int)) = some (.ref [l[i].lv, l[i].sv]) := by
 have := hv.get i (by simpa using hi) k
 rw [this]; simp [serE, PV.cells]

theorem bsame_val {l1 l2 : List Sr} {v1 v2 : PV} (h1 : Reads1 2 v1 (l1.map serE)) (h2 : Reads1 2 v2 (l2.map serE)) (o1 : ∀ x ∈ l1, SeF x) (o2 : ∀ x ∈ l2, SeF x) (hl : l1.length ≤ 100000) (he : abs l1 = abs l2) (S : St) :
  cval T 170 [v1, v2] S = some (.bool true, S) := by
 have hl1 := h1.len
 have hl2 := h2.len
 have hll : l2.length = l1.length := by have := congrArg List.length he; rw [abs_len, abs_len] at this; exact this.symm
 rw [List.length_map] at hl1 hl2
 rw [hll] at hl2
 refine cval_ok' fn_170 rfl ?_
 simp -implicitDefEqProofs [z74, hl1, hl2]
 refine lp_up l1.length (fun j fr S' => fr 0 = v1 ∧ fr 1 = v2 ∧ fr 5 = .int .i64 (j : Int) ∧ S' = S) ?_ ?_ 0 (Nat.zero_le _) _ _ ⟨by simp, by simp, by simp, rfl⟩
 ·rintro j fr S' hj ⟨f0, f1, f5, rfl⟩ k
  have hw : IntKind.i64.wrap ((j : Int) + 1) = ((j + 1 : Nat) : Int) := by rw [wrap_i64 (by omega) (by omega)]; omega
  have hlt : (j : Int) < (l1.length : Int) := by omega
  have hj2 : j < l2.length := by omega
  have g1 := serE_get h1 hj (k := .i64)
  have g2 := serE_get h2 hj2 (k := .i64)
  obtain ⟨x, hx⟩ : ∃ x, x = l1[j] := ⟨_, rfl⟩
  obtain ⟨y, hy⟩ : ∃ y, y = l2[j] := ⟨_, rfl⟩
  have hxo := o1 x (by rw [hx]; exact List.getElem_mem hj)
  have hyo := o2 y (by rw [hy]; exact List.getElem_mem hj2)
  have hxy : x.lb = y.lb ∧ x.sm = y.sm := by
   have e := congrArg (fun l => l[j]?) he
   simp only [abs, List.getElem?_map, List.getElem?_eq_getElem hj, List.getElem?_eq_getElem hj2, ← hx, ← hy, Option.map_some, Option.some.injEq, Prod.mk.injEq] at e
   exact e
  rw [← hx] at g1
  rw [← hy] at g2
  have hs := same_val hxo.ok.lab.1.reads hyo.ok.lab.1.reads (by have := hxo.ok.lab.2.1; unfold maxLen; omega) S'
  have hz : cmpL x.lb y.lb = 0 := cmpL_zero.2 hxy.1
  have hc := csame_val hxo.sam.reads (by rw [hxy.2]; exact hyo.sam.reads) (by have := hxo.ok.len; omega) S'
  have hL := fun fr' => k fr' S'
  clear k
  rw [gval_lp]
  simp -implicitDefEqProofs [f0, f1, f5, hl1, hlt, hj, g1, g2, part1, hs, hz, hc]
  exact hL _ ⟨by simp [f0], by simp [f1], by simp [hw], rfl⟩
 ·rintro fr S' ⟨f0, f1, f5, rfl⟩
  rw [gval_lp]
  simp -implicitDefEqProofs [f0, f1, f5, hl1]
end Ps
namespace Ps
set_option linter.unusedSimpArgs false
set_option linter.unusedVariables false
open Go
theorem hexB_inj : ∀ a b : Fin 16, hexB a.val = hexB b.val → a = b := by decide +kernel
theorem escB_form (c : UInt8) : (escB c = [92, c] ∧ (c.toNat = 34 ∨ c.toNat = 92)) ∨ (escB c = [92, 120, hexB (c.toNat / 16), hexB (c.toNat % 16)]) ∨ (escB c = [c] ∧ c.toNat ≠ 34 ∧ c.toNat ≠ 92) := by
 unfold escB
 split
 ·rename_i h; exact .inl ⟨rfl, h⟩
 ·rename_i h
  split
  ·exact .inr (.inl rfl)
  ·exact .inr (.inr ⟨rfl, by omega, by omega⟩)
theorem escB_inj {c d : UInt8} {x y : List UInt8} (h : escB c ++ x = escB d ++ y) : c = d ∧ x = y := by
 have k92 : (92 : UInt8).toNat = 92 := rfl
 rcases escB_form c with ⟨e1, h1⟩ | e1 | ⟨e1, h1, h1'⟩ <;> rcases escB_form d with ⟨e2, h2⟩ | e2 | ⟨e2, h2, h2'⟩ <;> rw [e1, e2] at h <;> simp only [List.cons_append, List.nil_append, List.cons.injEq] at h
 ·exact ⟨h.2.1, h.2.2⟩
 ·have := congrArg UInt8.toNat h.2.1
  have : (120 : UInt8).toNat = 120 := rfl
  omega
 ·exact absurd (congrArg UInt8.toNat h.1).symm h2'
 ·have := congrArg UInt8.toNat h.2.1
  have : (120 : UInt8).toNat = 120 := rfl
  omega
 ·obtain ⟨_, _, a, b, e⟩ := h
  have p := hexB_inj ⟨c.toNat / 16, by have := c.toNat_lt; omega⟩ ⟨d.toNat / 16, by have := d.toNat_lt; omega⟩ a
  have q := hexB_inj ⟨c.toNat % 16, by omega⟩ ⟨d.toNat % 16, by omega⟩ b
  simp only [Fin.mk.injEq] at p q
  exact ⟨UInt8.toNat_inj.1 (by omega), e⟩
 ·exact absurd (congrArg UInt8.toNat h.1).symm h2'
 ·exact absurd (congrArg UInt8.toNat h.1) h1'
 ·exact absurd (congrArg UInt8.toNat h.1) h1'
 ·exact ⟨h.1, h.2⟩
theorem escB_34 {c : UInt8} {x y : List UInt8} (h : escB c ++ x = 34 :: y) : False := by
 rcases escB_form c with ⟨e1, h1⟩ | e1 | ⟨e1, h1, h1'⟩ <;> rw [e1] at h <;> simp only [List.cons_append, List.nil_append, List.cons.injEq] at h
 ·exact absurd h.1 (by decide)
 ·exact absurd h.1 (by decide)
 ·exact h1 (by rw [h.1]; rfl)
theorem quot_inj : ∀ {s t : List UInt8} {x y : List UInt8}, s.flatMap escB ++ (34 :: x) = t.flatMap escB ++ (34 :: y) → s = t ∧ x = y
 | [], [], x, y, h => by simp only [List.flatMap_nil, List.nil_append, List.cons.injEq] at h; exact ⟨rfl, h.2⟩
 | [], d :: t, x, y, h => by
  rw [List.flatMap_nil, List.nil_append, List.flatMap_cons, List.append_assoc] at h
  exact (escB_34 h.symm).elim
 | c :: s, [], x, y, h => by
  rw [List.flatMap_nil, List.nil_append, List.flatMap_cons, List.append_assoc] at h
  exact (escB_34 h).elim
 | c :: s, d :: t, x, y, h => by
  rw [List.flatMap_cons, List.flatMap_cons, List.append_assoc, List.append_assoc] at h
  obtain ⟨e1, h1⟩ := escB_inj h
  obtain ⟨e2, h2⟩ := quot_inj h1
  exact ⟨by rw [e1, e2], h2⟩

theorem name_no {s : List UInt8} (h : nameB s = true) : s ≠ [] ∧ ∀ c ∈ s, c.toNat ≠ 61 ∧ c.toNat ≠ 125 := by
 cases s with
 | nil => simp [nameB] at h
 | cons c l =>
  refine ⟨by simp, fun d hd => ?_⟩
  simp only [nameB, Bool.and_eq_true] at h
  have hall : ∀ e ∈ c :: l, (97 ≤ e.toNat ∧ e.toNat ≤ 122) ∨ (65 ≤ e.toNat ∧ e.toNat ≤ 90) ∨ e.toNat = 95 ∨ (48 ≤ e.toNat ∧ e.toNat ≤ 57) := by
   have hlet : ∀ e : UInt8, letter e = true → (97 ≤ e.toNat ∧ e.toNat ≤ 122) ∨ (65 ≤ e.toNat ∧ e.toNat ≤ 90) ∨ e.toNat = 95 ∨ (48 ≤ e.toNat ∧ e.toNat ≤ 57) := fun e he => by
    simp only [letter, Bool.or_eq_true, Bool.and_eq_true, decide_eq_true_eq, beq_iff_eq] at he
    omega
   intro e he
   rcases List.mem_cons.1 he with rfl | he
   ·exact hlet _ h.1.1
   ·have := List.all_eq_true.1 h.1.2 e he
    simp only [Bool.or_eq_true] at this
    rcases this with q | q
    ·exact hlet _ q
    ·simp only [digitB, Bool.and_eq_true, decide_eq_true_eq] at q
     omega
  have := hall d hd
  omega
theorem eq_split : ∀ {a b x y : List UInt8}, (∀ c ∈ a, c.toNat ≠ 61) → (∀ c ∈ b, c.toNat ≠ 61) → a ++ 61 :: x = b ++ 61 :: y → a = b ∧ x = y
 | [], [], x, y, _, _, h => by simp only [List.nil_append, List.cons.injEq] at h; exact ⟨rfl, h.2⟩
 | [], d :: b, x, y, _, hb, h => by
  simp only [List.nil_append, List.cons_append, List.cons.injEq] at h
  exact absurd (congrArg UInt8.toNat h.1).symm (hb d (by simp))
 | c :: a, [], x, y, ha, _, h => by
  simp only [List.nil_append, List.cons_append, List.cons.injEq] at h
  exact absurd (congrArg UInt8.toNat h.1) (ha c (by simp))
 | c :: a, d :: b, x, y, ha, hb, h => by
  simp only [List.cons_append, List.cons.injEq] at h
  obtain ⟨rfl, rfl⟩ := eq_split (fun c hc => ha c (by simp [hc])) (fun c hc => hb c (by simp [hc])) h.2
  exact ⟨by rw [h.1], rfl⟩

theorem part_inj {a b : Lab} {x y : List UInt8} (ha : okLab a) (hb : okLab b) (h : partT a ++ x = partT b ++ y) : a.1 = b.1 ∧ a.2.1 = b.2.1 ∧ x = y := by
 simp only [partT, quotT, List.append_assoc, List.cons_append, List.nil_append] at h
 obtain ⟨e1, h⟩ := eq_split (fun c hc => ((name_no ha.1).2 c hc).1) (fun c hc => ((name_no hb.1).2 c hc).1) h
 simp only [List.cons.injEq, true_and] at h
 obtain ⟨e2, e3⟩ := quot_inj h
 exact ⟨e1, e2, e3⟩

theorem joined_inj : ∀ {l m : List Lab}, (∀ x ∈ l, okLab x) → (∀ x ∈ m, okLab x) → joinB [44, 32] (l.map partT) ++ [125] = joinB [44, 32] (m.map partT) ++ [125] → l = m := by
 have hne : ∀ (a : Lab), okLab a → ∀ (x : List UInt8), partT a ++ x ≠ [125] := fun a ha x h => by
  obtain ⟨n1, n2⟩ := name_no ha.1
  cases hn : a.1 with
  | nil => exact n1 hn
  | cons c r =>
   simp only [partT, hn, List.cons_append, List.cons.injEq] at h
   exact (n2 c (by rw [hn]; simp)).2 (by rw [h.1]; rfl)
 intro l
 induction l with
 | nil =>
  intro m hl hm h
  cases m with
  | nil => rfl
  | cons b m =>
   exfalso
   cases m with
   | nil => exact hne b (hm b (by simp)) [125] (by simpa only [List.map_cons, List.map_nil, joinB, List.nil_append] using h.symm)
   | cons d m => exact hne b (hm b (by simp)) _ (by simpa [joinB, List.append_assoc] using h.symm)
 | cons a l ih =>
  intro m hl hm h
  cases m with
  | nil =>
   exfalso
   cases l with
   | nil => exact hne a (hl a (by simp)) [125] (by simpa only [List.map_cons, List.map_nil, joinB, List.nil_append] using h)
   | cons d m => exact hne a (hl a (by simp)) _ (by simpa [joinB, List.append_assoc] using h)
  | cons b m =>
   have lab : ∀ {a b : Lab}, a.1 = b.1 → a.2.1 = b.2.1 → a = b := fun {a b} h1 h2 => by
    obtain ⟨a1, a2, a3⟩ := a
    obtain ⟨b1, b2, b3⟩ := b
    cases h1; cases h2; rfl
   cases l with
   | nil =>
    cases m with
    | nil =>
     simp only [List.map_cons, List.map_nil, joinB] at h
     obtain ⟨e1, e2, _⟩ := part_inj (hl a (by simp)) (hm b (by simp)) h
     rw [lab e1 e2]
    | cons d m =>
     simp only [List.map_cons, List.map_nil, joinB, List.append_assoc] at h
     obtain ⟨_, _, e3⟩ := part_inj (hl a (by simp)) (hm b (by simp)) h
     simp at e3
   | cons c l =>
    cases m with
    | nil =>
     simp only [List.map_cons, List.map_nil, joinB, List.append_assoc] at h
     obtain ⟨_, _, e3⟩ := part_inj (hl a (by simp)) (hm b (by simp)) h
     simp at e3
    | cons d m =>
     simp only [List.map_cons, joinB, List.append_assoc] at h
     obtain ⟨e1, e2, e3⟩ := part_inj (hl a (by simp)) (hm b (by simp)) h
     have := ih (m := d :: m) (fun x hx => hl x (by simp [hx])) (fun x hx => hm x (by simp [hx])) (by simpa [joinB, List.append_assoc] using e3)
     rw [lab e1 e2, this]
theorem printT_inj {l m : List Lab} (hl : Right l) (hm : Right m) (h : printT l = printT m) : l = m := by
 simp only [printT, List.cons_append, List.cons.injEq, true_and] at h
 exact joined_inj hl.2.1 hm.2.1 h
end Ps
