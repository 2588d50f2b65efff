/- Heads that are alike tell the same series; the law HeadAgain. -/
import Derived.Test.YtndfknoclbkkhaaSL
namespace Ps
set_option linter.unusedSimpArgs false
set_option linter.unusedVariables false
open Go
theorem fn_190 : T.fn 190 = some (.code head_Head_Series) := rfl

def keptA (A : Ab) : Ab := A.filter fun p => !(p.2.length == 0)
theorem abs_kept (l : List Sr) : abs (keptS l) = keptA (abs l) := by
  unfold abs keptS keptA
  rw [List.filter_map]
  rfl

theorem take_objs {S S1 : St} (h : ∀ (i : Nat) (x : List PV), S.objs[i]? = some x → S1.objs[i]? = some x) : S1.objs.take S.objs.length = S.objs := by
  apply List.ext_getElem?
  intro i
  by_cases hi : i < S.objs.length
  · rw [List.getElem?_take_of_lt hi]
    have e := List.getElem?_eq_getElem hi
    rw [e]; exact h i _ e
  · rw [List.getElem?_eq_none (by rw [List.length_take]; omega), List.getElem?_eq_none (by omega)]
theorem fin_keep {S S1 : St} {r r' : PV} (h : S1.objs.take S.objs.length = S.objs) (hs : sol S1.objs S.objs.length solFuel r = some r') : finish false S S1 r = (r'.frz, ⟨S.objs, S1.tips.take S.tips.length⟩) := by
  unfold finish
  simp only [Bool.false_eq_true, if_false, hs]
  rw [h, beqLL_rfl']
  simp

theorem chunk_ser (t : List PV) : ∀ l : List Sr, chunk 2 l.length (serC l ++ t) = l.map serE
  | [] => rfl
  | q :: l => by
    have ih := chunk_ser t l
    simp only [List.length_cons, chunk, serC, List.flatMap_cons, List.map_cons, List.cons_append, List.nil_append, List.append_assoc, List.take_succ_cons, List.take_zero, List.drop_succ_cons, List.drop_zero, mkE] at ih ⊢
    rw [ih]; rfl
theorem serC_ok {l : List Sr} (h : ∀ x ∈ l, SeOk x) : PV.freeL (serC l) = true ∧ (serC l).all PV.one = true := by
  constructor
  · refine freeL_of_mem fun v hv => ?_
    obtain ⟨x, hx, hv⟩ := List.mem_flatMap.1 hv
    simp only [List.mem_cons, List.not_mem_nil, or_false] at hv
    rcases hv with rfl | rfl
    · exact (h x hx).lab.1.free
    · exact (h x hx).sam.free
  · rw [List.all_eq_true]
    intro v hv
    obtain ⟨x, hx, hv⟩ := List.mem_flatMap.1 hv
    simp only [List.mem_cons, List.not_mem_nil, or_false] at hv
    rcases hv with rfl | rfl
    · exact (h x hx).one.1
    · exact (h x hx).one.2
theorem serE_frz {l : List Sr} (h : ∀ x ∈ l, SeOk x) : PV.frzL (l.map serE) = l.map serE := by
  induction l with
  | nil => rfl
  | cons x l ih =>
    have hx := h x (by simp)
    simp only [List.map_cons, PV.frzL, ih (fun y hy => h y (by simp [hy]))]
    simp [serE, PV.frz, PV.frzL, hx.lab.1.frz, hx.sam.frz]

theorem sol_ser {objs : List (List PV)} {n0 id : Nat} {l : List Sr} {t : List PV} (hn : n0 ≤ id) (ho : objs[id]? = some (serC l ++ t)) (h : ∀ x ∈ l, SeOk x) : sol objs n0 solFuel (.osl id 0 l.length 2) = some (.sl none (l.map serE) []) := by
  obtain ⟨hf, h1⟩ := serC_ok h
  have hlen := serC_len l
  have htk : (serC l ++ t).take (l.length * 2) = serC l := by rw [List.take_append_of_le_length (by omega), List.take_of_length_le (by omega)]
  show sol objs n0 (39 + 1) _ = _
  unfold sol
  have hm : mapO (sol objs n0 39) (serC l) = some (serC l) := mapO_free' (k := 38) hf
  have hch := chunk_ser [] l
  rw [List.append_nil] at hch
  have c1 : 0 + l.length * 2 ≤ (serC l ++ t).length := by rw [List.length_append]; omega
  simp only [PV.free, Bool.false_eq_true, if_false, hn, ho, List.drop_zero, htk, h1, hm, hch]
  simp [hlen]
  omega

theorem dead_sort {v : PV} (hv : v = .emp ∨ v = .nils) (S : St) : cval T 284 [v, .fn 285 []] S = some (v, S) ∧ cval T 286 [v, .fn 287 []] S = some (.tup [], S) := by
  have hlen : lenP false v = some (.int .i64 0) := by rcases hv with rfl | rfl <;> rfl
  have h1 : cval T 345 [v, .fn 285 []] S = some (.int .i64 (-1), S) := by
    refine cval_ok' fn_345 rfl ?_
    simp -implicitDefEqProofs [slices_IndexFunc_Series, hlen]
    rw [gval_lp]
    simp -implicitDefEqProofs
  have h2 : cval T 381 [v, .int .i64 0, .int .i64 0, .fn 287 []] S = some (.tup [], S) := by
    refine cval_ok' fn_381 rfl ?_
    have hw : IntKind.i64.wrap 1 = 1 := by decide
    simp -implicitDefEqProofs [slices_insertionSortCmpFunc_Series, hw]
    rw [gval_lp]
    simp -implicitDefEqProofs [ends_nil]
    rfl
  have h3 : ∀ L : Int, cval T 346 [v, .int .i64 0, .int .i64 0, .int .i64 L, .fn 287 []] S = some (.tup [], S) := fun L => by
    refine cval_ok' fn_346 rfl ?_
    have hw : IntKind.i64.wrap 0 = 0 := by decide
    simp -implicitDefEqProofs [slices_pdqsortCmpFunc_Series]
    rw [gval_lp]
    simp -implicitDefEqProofs [-slices_pdqsortCmpFunc_Series_r5_go, hw, h2, ends_nil]
    rfl
  have hlp := len_pval (n := 0) (by decide)
  have hwu : IntKind.u64.wrap 0 = 0 := by decide
  simp only [Int.natCast_zero] at hlp
  refine ⟨cval_ok' fn_284 rfl ?_, cval_ok' fn_286 rfl ?_⟩
  · simp -implicitDefEqProofs [slices_DeleteFunc_Series, h1]
    rfl
  · simp -implicitDefEqProofs [slices_SortFunc_Series, hlen, hwu, hlp, h3, ends_nil]
    rfl

structure SeriesOk (A : Ab) (v : PV) (l : List Sr) : Prop where
  rd : Reads1 2 v (l.map serE)
  ok : ∀ x ∈ l, SeOk x
  perm : (abs l).Perm (keptA A)
  srt : l.Pairwise fun x y => ¬ cmpL y.lb x.lb < 0

theorem series_val {S : St} {o : Nat} {H : Hd} (h : HOk S o H) : ∃ v l S2, cval T 190 [.ptr o 0] S = some (v, S2) ∧ S2.objs = S.objs ∧ SeriesOk (abs H.ser) v l := by
  have hob := h.obj
  have lo0 : loadP S false 1 (.ptr o 0) = some H.hv := by rw [loadP_ptr hob]; exact part1
  obtain ⟨v, S1, cs, c1, g1, g2, g3, g4⟩ := copied_val h
  have hcl : cs.length ≤ 256 := by
    have := congrArg List.length g3
    rw [abs_len, abs_len] at this
    have := h.szs; omega
  have hS1 : ∀ (i : Nat) (x : List PV), S.objs[i]? = some x → S1.objs[i]? = some x := fun i x hx => by
    obtain ⟨a, b, rfl⟩ := g2
    simp only
    rw [List.getElem?_append_left (List.getElem?_eq_some_iff.1 hx).1]; exact hx
  rcases g1.acc with ⟨hv, he⟩ | ⟨id, w1, w2, w3, w4⟩
  · have hcs : cs = [] := by simpa using he
    subst hcs
    obtain ⟨d1, d2⟩ := dead_sort hv S1
    have hfin : ∃ v' : PV, sol S1.objs S.objs.length solFuel v = some v' ∧ Reads1 2 v'.frz [] := by
      rcases hv with rfl | rfl
      · exact ⟨.sl none [] [], sol_emp, reads_sl (by simp)⟩
      · exact ⟨.nils, sol_id rfl, reads_nils 2⟩
    obtain ⟨v', f1, f2⟩ := hfin
    have hf := fin_keep (take_objs hS1) f1
    refine ⟨v'.frz, [], ⟨S.objs, S1.tips.take S.tips.length⟩, cval_ok' fn_190 rfl ?_, rfl, ⟨f2, by simp, ?_, List.Pairwise.nil⟩⟩
    · simp -implicitDefEqProofs [head_Head_Series, lo0, c1, d1, d2, hf]
    · rw [← g3]; exact List.Perm.refl _
  · rw [serC_flat] at w3
    rw [List.length_map] at w2
    subst w2
    have w3' : S1.objs[id]? = some (serC cs ++ []) := by rw [List.append_nil]; exact w3
    obtain ⟨S2, rest, d1, d2, d3, d4⟩ := delS_val w3' hcl g4
    have hkl : (keptS cs).length ≤ 256 := Nat.le_trans (List.length_filter_le _ _) hcl
    have hko : ∀ x ∈ keptS cs, SeOk x := fun x hx => g4 x (List.mem_filter.1 hx).1
    have hsrt : Srt S2 id (keptS cs).length rest S2 (keptS cs).toArray := ⟨by simpa using d2, fun i x _ hx => hx, Nat.le_refl _, by simpa using hko, by simp, hkl⟩
    obtain ⟨S3, d', s1, s2, s3, s4⟩ := sort_val hsrt
    have hS3 : ∀ (i : Nat) (x : List PV), S.objs[i]? = some x → S3.objs[i]? = some x := fun i x hx => by
      have hi := (List.getElem?_eq_some_iff.1 hx).1
      exact s2.oth i x (by omega) (d3 i x (by omega) (hS1 i x hx))
    have hd'l : d'.toList.length = (keptS cs).length := by rw [Array.length_toList]; exact s2.sz
    have hf := fin_keep (take_objs hS3) (sol_ser w1 s2.mem s2.ok)
    rw [hd'l] at hf
    refine ⟨(PV.sl none (d'.toList.map serE) []).frz, d'.toList, ⟨S.objs, S3.tips.take S.tips.length⟩, cval_ok' fn_190 rfl ?_, rfl, ⟨?_, s2.ok, ?_, ?_⟩⟩
    · simp -implicitDefEqProofs [head_Head_Series, lo0, c1, d1, s1]
      exact hf
    · simp only [PV.frz, serE_frz s2.ok, PV.frzL]
      exact reads_sl (fun e he => by obtain ⟨x, _, rfl⟩ := List.mem_map.1 he; rfl)
    · rw [← g3, ← abs_kept]
      have hp := s3.2.2
      have e1 : (d'.extract 0 (keptS cs).length) = d' := by
        rw [← s2.sz]; simp
      have e2 : ((keptS cs).toArray.extract 0 (keptS cs).length) = (keptS cs).toArray := by simp
      rw [e1, e2] at hp
      exact List.Perm.map _ (by simpa using hp)
    · rw [List.pairwise_iff_getElem]
      intro i j hi hj hij
      have := s4 i j (Nat.zero_le _) hij (by omega)
      rw [getE (by rw [s2.sz]; omega), getE (by rw [s2.sz]; omega)] at this
      simpa [ltS] using this
end Ps
namespace Ps
set_option linter.unusedSimpArgs false
set_option linter.unusedVariables false
open Go
theorem fn_170 : T.fn 170 = some (.code ref12_Same) := rfl
def DistA (A : Ab) : Prop := (A.map fun p => printT p.1).Nodup
theorem modify_labs (A : Ab) (i : Nat) (f : List (Int × Int) → List (Int × Int)) : (A.modify i fun p => (p.1, f p.2)).map (fun p => p.1) = A.map (fun p => p.1) := by
  induction A generalizing i with
  | nil => simp
  | cons a A ih =>
    cases i with
    | zero => simp
    | succ i => simp [ih]
def labsA (A : Ab) : List (List Lab) := A.map fun p => p.1
theorem distA_iff (A : Ab) : DistA A ↔ ((labsA A).map printT).Nodup := by simp [DistA, labsA, List.map_map, Function.comp_def]
theorem labs_rem (low high : Int) : ∀ (l : List Int) (A : Ab), labsA (remA low high l A) = labsA A
  | [], A => rfl
  | i :: l, A => by rw [remA, labs_rem]; exact modify_labs A _ _
theorem labs_push (x : RowM) (A : Ab) : labsA (pushA x A) = labsA A := modify_labs A _ (fun q => q ++ [(x.2.1, x.2.2)])
theorem labs_rowsGo : ∀ (l : List RowM) (A : Ab), labsA (rowsGo l A).1 = labsA A
  | [], A => rfl
  | x :: l, A => by
    rw [rowsGo]
    cases rowStep x A with
    | some e => rfl
    | none => rw [labs_rowsGo l, labs_push]
theorem doA_dist {r : RecM} {A : Ab} (h : DistA A) : DistA (doA r A).1 := by
  unfold doA
  split
  · exact h
  · split
    · unfold doAdd
      split
      · exact h
      · rename_i hix
        split
        · exact h
        · simp only [DistA, List.map_append, List.map_cons, List.map_nil] at h ⊢
          rw [List.nodup_append]
          refine ⟨h, by simp, fun a ha b hb e => ?_⟩
          simp only [List.mem_singleton] at hb
          obtain ⟨p, hp, rfl⟩ := List.mem_map.1 ha
          apply hix
          rw [idxT, List.findIdx?_isSome, List.any_eq_true]
          exact ⟨p, hp, by simp [e, hb]⟩
    · split
      · unfold doRows
        split
        · rw [distA_iff] at h ⊢; rw [labs_rowsGo]; exact h
        · exact h
      · unfold doRem
        split
        · rw [distA_iff] at h ⊢; simp only; rw [labs_rem]; exact h
        · exact h
theorem doA_err {r : RecM} {A : Ab} (h : (doA r A).2 ≠ 0) : (doA r A).1 = A := by
  unfold doA at h ⊢
  split
  · rfl
  · rename_i h0
    rw [if_neg h0] at h
    split
    · rename_i h1
      rw [if_pos h1] at h
      unfold doAdd at h ⊢
      split
      · rfl
      · rename_i h2
        rw [if_neg h2] at h
        split
        · rfl
        · rename_i h3; rw [if_neg h3] at h; exact absurd rfl h
    · rename_i h1
      rw [if_neg h1] at h
      split
      · rename_i h2
        rw [if_pos h2] at h
        unfold doRows at h ⊢
        split
        · rename_i h3; rw [if_pos h3] at h; exact absurd h3 h
        · rfl
      · rename_i h2
        rw [if_neg h2] at h
        unfold doRem at h ⊢
        split
        · rename_i h3; rw [if_pos h3] at h; exact absurd rfl h
        · rfl

theorem nodup_inj {α β : Type} {f : α → β} : ∀ {l : List α}, (l.map f).Nodup → ∀ a ∈ l, ∀ b ∈ l, f a = f b → a = b
  | x :: l, h, a, ha, b, hb, e => by
    simp only [List.map_cons, List.nodup_cons, List.mem_map, not_exists, not_and] at h
    rcases List.mem_cons.1 ha with p | p
    · rcases List.mem_cons.1 hb with q | q
      · rw [p, q]
      · exact absurd (by rw [← e, p]) (h.1 b q)
    · rcases List.mem_cons.1 hb with q | q
      · exact absurd (by rw [e, q]) (h.1 a p)
      · exact nodup_inj h.2 a p b q e

theorem series_one {A : Ab} (hd : DistA A) {v1 v2 : PV} {l1 l2 : List Sr} (h1 : SeriesOk A v1 l1) (h2 : SeriesOk A v2 l2) : abs l1 = abs l2 := by
  have hsrt : ∀ {v : PV} {l : List Sr}, SeriesOk A v l → (abs l).Pairwise fun x y => ¬ cmpL y.1 x.1 < 0 := fun {v l} h => by
    unfold abs
    rw [List.pairwise_map]
    exact h.srt
  have hdk : ((keptA A).map fun p => printT p.1).Nodup := by
    have : (keptA A).Sublist A := List.filter_sublist
    exact (this.map _).nodup hd
  have hinj : ∀ a b : List Lab × List (Int × Int), a ∈ keptA A → b ∈ keptA A → a.1 = b.1 → a = b := fun a b ha hb e => nodup_inj hdk a ha b hb (by rw [e])
  refine List.Perm.eq_of_pairwise (le := fun x y => ¬ cmpL y.1 x.1 < 0) (fun a b ha hb p q => ?_) (hsrt h1) (hsrt h2) (h1.perm.trans h2.perm.symm)
  have r1 := cmpL_rng a.1 b.1
  have n1 := cmpL_neg a.1 b.1
  have hz : cmpL a.1 b.1 = 0 := by omega
  exact hinj a b (h1.perm.mem_iff.1 ha) (h2.perm.mem_iff.1 hb) (cmpL_zero.1 hz)

theorem serE_get {l : List Sr} {v : PV} (hv : Reads1 2 v (l.map serE)) {i : Nat} (hi : i < l.length) {k : IntKind} : iaddrP 2 v (.int k (i : Int)) = some (.ref [l[i].lv, l[i].sv]) := by
  have := hv.get i (by simpa using hi) k
  rw [this]; simp [serE, PV.cells]

theorem bsame_val {l1 l2 : List Sr} {v1 v2 : PV} (h1 : Reads1 2 v1 (l1.map serE)) (h2 : Reads1 2 v2 (l2.map serE)) (o1 : ∀ x ∈ l1, SeOk x) (o2 : ∀ x ∈ l2, SeOk x) (hl : l1.length ≤ 100000) (he : abs l1 = abs l2) (S : St) :
    cval T 170 [v1, v2] S = some (.bool true, S) := by
  have hl1 := h1.len
  have hl2 := h2.len
  have hll : l2.length = l1.length := by have := congrArg List.length he; rw [abs_len, abs_len] at this; exact this.symm
  rw [List.length_map] at hl1 hl2
  rw [hll] at hl2
  refine cval_ok' fn_170 rfl ?_
  simp -implicitDefEqProofs [ref12_Same, hl1, hl2]
  refine lp_up l1.length (fun j fr S' => fr 0 = v1 ∧ fr 1 = v2 ∧ fr 5 = .int .i64 (j : Int) ∧ S' = S) ?_ ?_ 0 (Nat.zero_le _) _ _ ⟨by simp, by simp, by simp, rfl⟩
  · rintro j fr S' hj ⟨f0, f1, f5, rfl⟩ k
    have hw : IntKind.i64.wrap ((j : Int) + 1) = ((j + 1 : Nat) : Int) := by rw [wrap_i64 (by omega) (by omega)]; omega
    have hlt : (j : Int) < (l1.length : Int) := by omega
    have hj2 : j < l2.length := by omega
    have g1 := serE_get h1 hj (k := .i64)
    have g2 := serE_get h2 hj2 (k := .i64)
    obtain ⟨x, hx⟩ : ∃ x, x = l1[j] := ⟨_, rfl⟩
    obtain ⟨y, hy⟩ : ∃ y, y = l2[j] := ⟨_, rfl⟩
    have hxo := o1 x (by rw [hx]; exact List.getElem_mem hj)
    have hyo := o2 y (by rw [hy]; exact List.getElem_mem hj2)
    have hxy : x.lb = y.lb ∧ x.sm = y.sm := by
      have e := congrArg (fun l => l[j]?) he
      simp only [abs, List.getElem?_map, List.getElem?_eq_getElem hj, List.getElem?_eq_getElem hj2, ← hx, ← hy, Option.map_some, Option.some.injEq, Prod.mk.injEq] at e
      exact e
    rw [← hx] at g1
    rw [← hy] at g2
    have hs := same_val hxo.lab.1.reads hyo.lab.1.reads (by have := hxo.lab.2.1; unfold maxLen; omega) S'
    have hz : cmpL x.lb y.lb = 0 := cmpL_zero.2 hxy.1
    have hc := csame_val hxo.sam.reads (by rw [hxy.2]; exact hyo.sam.reads) (by have := hxo.len; omega) S'
    have hL := fun fr' => k fr' S'
    clear k
    rw [gval_lp]
    simp -implicitDefEqProofs [f0, f1, f5, hl1, hlt, hj, g1, g2, part1, hs, hz, hc]
    exact hL _ ⟨by simp [f0], by simp [f1], by simp [hw], rfl⟩
  · rintro fr S' ⟨f0, f1, f5, rfl⟩
    rw [gval_lp]
    simp -implicitDefEqProofs [f0, f1, f5, hl1]

theorem fn_473 : T.fn 473 = some (.code law13_HeadAgain) := rfl

structure Two (S : St) (o1 o2 : Nat) (H1 H2 : Hd) : Prop where
  h1 : HOk S o1 H1
  h2 : HOk S o2 H2
  dis : ∀ i ∈ ownH o1 H1, i ∉ ownH o2 H2
  same : abs H1.ser = abs H2.ser
  dist : DistA (abs H1.ser)

theorem Two.one {S S' : St} {o1 o2 : Nat} {H1 H2 H' : Hd} (t : Two S o1 o2 H1 H2) (h : HOk S' o1 H') (s : Stp o1 S H1 S' H') : HOk S' o2 H2 ∧ ∀ i ∈ ownH o1 H', i ∉ ownH o2 H2 := by
  refine ⟨t.h2.frame fun i hi x hx => s.keep i x (fun q => t.dis i q hi) hx, fun i hi hi2 => ?_⟩
  rcases s.own i hi with q | q
  · exact t.dis i q hi2
  · have := t.h2.lt i hi2; omega

theorem again_loop {xs : List PV} {v : PV} (hv : Reads1 6 v xs) (hx : RecsI xs) {o1 o2 : Nat} {K : List Kt} {Q : Fr → St → Prop}
    (k : ∀ fr' S' H1 H2, Two S' o1 o2 H1 H2 → fr' 3 = .ptr o1 0 → fr' 4 = .ptr o2 0 → Ok (gval T K fr' S') Q)
    {fr : Fr} {S : St} {H1 H2 : Hd} (h : Two S o1 o2 H1 H2) (f0 : fr 0 = v) (f3 : fr 3 = .ptr o1 0) (f4 : fr 4 = .ptr o2 0) (f5 : fr 5 = .int .i64 0) :
    Ok (gval T (.lp law13_HeadAgain_l0 :: .blk 0 :: K) fr S) Q := by
  have hlen := hv.len
  refine lp_up (min xs.length 60) (fun j fr S' => fr 0 = v ∧ fr 3 = .ptr o1 0 ∧ fr 4 = .ptr o2 0 ∧ fr 5 = .int .i64 (j : Int) ∧ ∃ H1 H2, Two S' o1 o2 H1 H2) ?_ ?_ 0 (Nat.zero_le _) _ _ ⟨f0, f3, f4, by simpa using f5, H1, H2, h⟩
  · clear k
    rintro j fr S' hj ⟨f0, f3, f4, f5, H1, H2, h⟩ k
    have hj1 : j < xs.length := by omega
    have hlt : (j : Int) < (xs.length : Int) := by omega
    have hlt2 : (j : Int) < 60 := by omega
    have hg := hv.get j hj1 .i64
    obtain ⟨r, cs, he, hr⟩ := hx xs[j] (List.getElem_mem hj1)
    rw [he, cells_agg] at hg
    have hpt := pt_all (recC_all hr).1
    obtain ⟨S2, H', b1, b2, b3, b4⟩ := do_val h.h1 hr
    obtain ⟨c1, c2⟩ := h.one b2 b3
    have hw : IntKind.i64.wrap ((j : Int) + 1) = (j : Int) + 1 := wrap_i64 (by omega) (by omega)
    obtain ⟨e, hee⟩ : ∃ e, e = (doA r (abs H1.ser)).2 := ⟨_, rfl⟩
    rw [← hee] at b1
    have hdist := doA_dist (r := r) h.dist
    by_cases hz : e = 0
    · obtain ⟨S3, G', d1, d2, d3, d4⟩ := do_val c1 hr
      rw [← h.same, ← hee, hz] at d1
      rw [← h.same, ← b4] at d4
      rw [hz] at b1
      rw [← b4] at hdist
      have t3 : Two S3 o1 o2 H' G' := by
        refine ⟨b2.frame fun i hi x hx => d3.keep i x (c2 i hi) hx, d2, fun i hi hi2 => ?_, d4.symm, hdist⟩
        rcases d3.own i hi2 with q | q
        · exact c2 i hi q
        · have := b2.lt i hi; omega
      have hL := fun fr' => k fr' S3
      clear k
      rw [gval_lp]
      simp -implicitDefEqProofs [f0, f3, f4, f5, hlen, hlt, hlt2, hj1, hg, hpt, b1, d1]
      exact hL _ ⟨by simp [f0], by simp [f3], by simp [f4], by simp [hw], H', G', t3⟩
    · have hez : ((e : Int) == 0) = false := by rw [beq_eq_false_iff_ne]; omega
      have hA : (doA r (abs H1.ser)).1 = abs H1.ser := doA_err (by rw [← hee]; exact hz)
      have t3 : Two S2 o1 o2 H' H2 := ⟨b2, c1, c2, by rw [b4, hA]; exact h.same, by rw [b4]; exact hdist⟩
      have hL := fun fr' => k fr' S2
      clear k
      rw [gval_lp]
      simp -implicitDefEqProofs [f0, f3, f4, f5, hlen, hlt, hlt2, hj1, hg, hpt, b1, hez, hz]
      exact hL _ ⟨by simp [f0], by simp [f3], by simp [f4], by simp [hw], H', H2, t3⟩
  · rintro fr S' ⟨f0, f3, f4, f5, H1, H2, h⟩
    have hL := fun fr' => k fr' S' H1 H2 h
    clear k
    by_cases c1 : ((min xs.length 60 : Nat) : Int) < (xs.length : Int)
    · have c2 : ¬ ((min xs.length 60 : Nat) : Int) < 60 := by omega
      generalize ((min xs.length 60 : Nat) : Int) = m at *
      rw [gval_lp]
      simp -implicitDefEqProofs [f0, f3, f4, f5, hlen, c1, c2]
      exact hL _ (by simp [f3]) (by simp [f4])
    · generalize ((min xs.length 60 : Nat) : Int) = m at *
      rw [gval_lp]
      simp -implicitDefEqProofs [f0, f3, f4, f5, hlen, c1]
      exact hL _ (by simp [f3]) (by simp [f4])

theorem again_walk {xs : List PV} {v : PV} (hv : Reads1 6 v xs) (hx : RecsI xs) : ∃ S', cval T 473 [v] St0 = some (.bool true, S') := by
  have fin : ∀ S : St, finish false St0 S (.bool true) = (.bool true, St0) := fun S => finish_pur_free rfl
  have hnew1 := new_val' St0
  have hok1 := new_hok St0
  obtain ⟨S1, hS1⟩ : ∃ S1 : St, S1 = ⟨St0.objs ++ [[], [.nils, .map St0.objs.length, .int .i64 0]], St0.tips⟩ := ⟨_, rfl⟩
  obtain ⟨o1, ho1⟩ : ∃ o, o = St0.objs.length + 1 := ⟨_, rfl⟩
  rw [← hS1, ← ho1] at hnew1 hok1
  have hnew2 := new_val' S1
  have hok2 := new_hok S1
  have hl1 : S1.objs.length = 2 := by rw [hS1]; rfl
  have hm1 : St0.objs.length = 0 := rfl
  have hf : ∀ (i : Nat) (x : List PV), S1.objs[i]? = some x → (S1.objs ++ [[], [.nils, .map S1.objs.length, .int .i64 0]])[i]? = some x := fun i x hx => by
    rw [List.getElem?_append_left (List.getElem?_eq_some_iff.1 hx).1]; exact hx
  have hok1' := hok1.grow (S1 := ⟨S1.objs ++ [[], [.nils, .map S1.objs.length, .int .i64 0]], S1.tips⟩) hf
  obtain ⟨S2, hS2⟩ : ∃ S2 : St, S2 = ⟨S1.objs ++ [[], [.nils, .map S1.objs.length, .int .i64 0]], S1.tips⟩ := ⟨_, rfl⟩
  obtain ⟨o2, ho2⟩ : ∃ o, o = S1.objs.length + 1 := ⟨_, rfl⟩
  rw [← hS2, ← ho2] at hnew2 hok2
  rw [← hS2] at hok1'
  have t0 : Two S2 o1 o2 ⟨.nils, St0.objs.length, [], [], 0⟩ ⟨.nils, S1.objs.length, [], [], 0⟩ := by
    refine ⟨hok1', hok2, fun i hi hi2 => ?_, rfl, by simp [DistA, abs]⟩
    simp [ownH, gl, gidV, gls] at hi hi2
    omega
  refine ⟨St0, cval_ok' fn_473 rfl ?_⟩
  simp -implicitDefEqProofs [law13_HeadAgain, hnew1, hnew2]
  refine again_loop hv hx (o1 := o1) (o2 := o2) (fun fr S H1 H2 h g3 g4 => ?_) t0 (by simp) (by simp) (by simp) (by simp)
  have hlen1 := len_val h.h1.at
  have hlen2 := len_val h.h2.at
  have hc1 := count_val h.h1.at
  have hc2 := count_val h.h2.at
  have hll : H1.ser.length = H2.ser.length := by have := congrArg List.length h.same; rw [abs_len, abs_len] at this; exact this
  have hcc : H1.count = H2.count := by rw [h.h1.cnt, h.h2.cnt, ← totA_abs, ← totA_abs, h.same]
  rw [hll] at hlen1
  rw [hcc] at hc1
  obtain ⟨v1, l1, S3, s1, s2, s3⟩ := series_val h.h1
  have h2' : HOk S3 o2 H2 := h.h2.frame fun i _ x hx => by rw [s2]; exact hx
  obtain ⟨v2, l2, S4, u1, u2, u3⟩ := series_val h2'
  rw [← h.same] at u3
  have habs := series_one h.dist s3 u3
  have hl : l1.length ≤ 100000 := by
    have e := s3.perm.length_eq
    rw [abs_len] at e
    have : (keptA (abs H1.ser)).length ≤ (abs H1.ser).length := List.length_filter_le _ _
    rw [abs_len] at this
    have := h.h1.szs
    omega
  have hb := bsame_val s3.rd u3.rd s3.ok u3.ok hl habs S4
  simp -implicitDefEqProofs [g3, g4, hlen1, hlen2, hc1, hc2, s1, u1, hb, lives_pval, fin]

theorem law_HeadAgain (xs : denL [.sl tyRec]) (h : wfL [.sl tyRec] xs) (hb : bulkL [.sl tyRec] xs ≤ 1048576) : ∃ S', cval T 473 (pvL [.sl tyRec] xs) St0 = some (.bool true, S') := by
  obtain ⟨l, u⟩ := xs
  obtain ⟨h1, _⟩ := h
  have hb : (Ty.sl tyRec).bulk l + _ ≤ 1048576 := hb
  obtain ⟨xs, r1, r2, r3⟩ := inRs_ok h1 (by omega)
  exact again_walk r1 r2
end Ps
