/- The document's head: what is deleted; Do, whole. -/
import Derived.Test.YtndfknoclbkkhaaTD
namespace Ps
set_option linter.unusedSimpArgs false
set_option linter.unusedVariables false
open Go
theorem rem1_at {a b : List Sr} {r : Sr} {lv sv : PV} {low high : Int} {i : Nat} (h : a.length = i) : abs (a ++ ⟨lv, sv, kept low high r.sm, r.lb⟩ :: b) = rem1 low high i (abs (a ++ r :: b)) := by
 have e : i = (abs a).length := by rw [abs_len, h]
 rw [abs_app, abs_cons, abs_app, abs_cons, rem1, e, modify_mid]

theorem rdel_round {S S' : St} {vl v : PV} {rs cs : List Sr} {k l vr vi : PV} {low high : Int} {ids : List Int} (hvl : lenP false vl = some (.int .i64 rs.length)) (hro : RO S S' v cs) (hcl : cs.length = rs.length) (hrl : rs.length ≤ 256) (htot : total cs ≤ 65536)
  (hv : Reads1 1 vi (nV ids)) (hids : ids.length ≤ 1024) {j : Nat} (hj : j < ids.length) (hx0 : 0 ≤ ids[j])
  {K : List Kt} {Q : Fr → St → Prop} {fr : Fr} (f0 : fr 0 = vl) (f3 : fr 3 = .ref [k, l, vr, vi, .int .i64 low, .int .i64 high]) (f7 : fr 7 = v) (f11 : fr 11 = .int .i64 (j : Int))
  (kE : ∀ fr' S2, (rs.length : Int) ≤ ids[j] → Grows S S2 → fr' 4 = vl → fr' 5 = .int .i64 9 → Q fr' S2)
  (kN : ∀ fr' S2 cs2, ids[j] < (rs.length : Int) → RO S S2 v cs2 → cs2.length = rs.length → abs cs2 = rem1 low high ids[j].toNat (abs cs) → total cs2 ≤ 65536 →
   fr' 0 = vl → fr' 3 = .ref [k, l, vr, vi, .int .i64 low, .int .i64 high] → fr' 7 = v → fr' 11 = .int .i64 ((j : Int) + 1) → Ok (gval T (.lp z88_l1 :: .blk 3 :: K) fr' S2) Q) :
  Ok (gval T (.lp z88_l1 :: .blk 3 :: K) fr S') Q := by
 have hvlen := hv.len
 rw [nV_len] at hvlen
 have hlt : (j : Int) < (ids.length : Int) := by omega
 have hg := hv.getI hj (k := .i64)
 obtain ⟨x, hx⟩ : ∃ x, x = ids[j] := ⟨_, rfl⟩
 rw [← hx] at hg hx0 kE kN
 have hw : IntKind.i64.wrap ((j : Int) + 1) = (j : Int) + 1 := wrap_i64 (by omega) (by omega)
 by_cases c9 : (rs.length : Int) ≤ x
 ·have hq := fun fr' => kE fr' S' c9
  clear kE kN
  rw [gval_lp]
  simp -implicitDefEqProofs [f0, f3, f7, f11, hvlen, hlt, hj, hg, pstep, part1, hvl, c9]
  exact hq _ hro.g (by simp [f0]) (by simp)
 have hkN := fun fr' S2 cs2 => kN fr' S2 cs2 (by omega)
 clear kE kN
 obtain ⟨q, hq⟩ : ∃ q : Nat, x = (q : Int) := ⟨x.toNat, by omega⟩
 have hql0 : q < cs.length := by omega
 have hql : q < rs.length := by omega
 have hqi : (q : Int) < (rs.length : Int) := by omega
 obtain ⟨id, hid, hve, hs⟩ := hro.at hql0
 obtain ⟨a, r, b, hsp, hal⟩ := ser_parts hql0
 have hve2 := hve
 rw [hcl] at hve2
 rw [hve2] at f7
 subst hsp
 have hr0 := hro.ok r (by simp)
 have lB := serC_ldB hs
 rw [hal] at lB
 obtain ⟨w2, c2, s2⟩ := rwithout_val hr0.s1.reads (by have := hr0.len; omega) low high S'
 have hkl := kept_len low high r.sm
 have hw2 : SeW ⟨r.lv, w2, kept low high r.sm, r.lb⟩ := ⟨hr0.l1, hr0.l2, hr0.l3, hr0.rt, s2.isl, s2.free, by rw [s2.frz]; exact s2, by have := hr0.len; simp only; omega⟩
 have hro' := hro
 rw [hve] at hro'
 have h4 := hro'.put hid hs hw2
 rw [← hve] at h4
 obtain ⟨S4, hS4⟩ : ∃ S4 : St, S4 = ⟨S'.objs.set id (serC (a ++ ⟨r.lv, w2, kept low high r.sm, r.lb⟩ :: b)), S'.tips⟩ := ⟨_, rfl⟩
 rw [← hS4] at h4
 have hput := serC_put a r b w2 (kept low high r.sm)
 rw [hal] at hput
 have hle1 : q * 2 + 1 + 1 ≤ (serC (a ++ r :: b)).length := by rw [serC_len]; omega
 have hwone := hw2.one.2
 have hwc := one_cells hwone
 have htt : total (a ++ ⟨r.lv, w2, kept low high r.sm, r.lb⟩ :: b) ≤ 65536 := by
  have := htot
  rw [total_app, total_cons] at this ⊢
  simp only; omega
 rw [hq] at c9 hg hkN
 rw [gval_lp]
 simp -implicitDefEqProofs [-z88_r29_go, f0, f3, f7, f11, hvlen, hlt, hj, hg, pstep, part1, hvl, c9, hql, hqi, lB, c2, hs, hle1, hwone, hwc]
 rw [hput, ← hS4]
 simp -implicitDefEqProofs [f0, f3, f7, f11, hw]
 exact hkN _ S4 _ h4 (by rw [← hcl]; simp) (by rw [rem1_at hal]; simp) htt (by simp [f0]) (by simp [f3]) (by simp [f7, hve2]) (by simp [hw])

theorem rid_idx {rs : List Sr} (ho : ∀ x ∈ rs, SeF x) {l : List Lab} (hr : Right l) : (rs.findIdx? (fun x => cmpL x.lb l == 0)).isSome = (idxT (printT l) (abs rs)).isSome := by
 unfold idxT abs
 rw [List.findIdx?_map, List.findIdx?_isSome, List.findIdx?_isSome]
 apply Bool.eq_iff_iff.2
 simp only [List.any_eq_true, Function.comp, beq_iff_eq]
 constructor
 ·rintro ⟨x, hx, e⟩
  exact ⟨x, hx, by rw [cmpL_zero.1 e]⟩
 ·rintro ⟨x, hx, e⟩
  exact ⟨x, hx, cmpL_zero.2 (printT_inj (ho x hx).ok.lab.2 hr e)⟩

theorem rdo_val {S : St} {vl : PV} {rs : List Sr} (h : RL vl rs) (hl : rs.length ≤ 256) (ht : total rs ≤ 65536) {r : RecM} {cs : List PV} (hc : RecC r cs) :
  ∃ vl' rs', cval T 71 [vl, .agg cs] S = some (.tup [vl', .int .i64 ((doA r (abs rs)).2 : Nat)], S) ∧ RL vl' rs' ∧ abs rs' = (doA r (abs rs)).1 := by
 have hck := fun S => rreccheck_val hc S
 obtain ⟨c6, c1⟩ := recC_all hc
 have hpt := pt_all c6
 have hfv : ∀ (S' : St) (e : Int), Grows S S' → finish false S S' (.tup [vl, .int .i64 e]) = (.tup [vl, .int .i64 e], S) := fun S' e hg => by
  rw [fin_free hg (by simp [PV.free, PV.freeL, h.sl.free])]
  simp [PV.frz, PV.frzL, h.sl.frz]
 have hvl := h.sl.len
 rw [List.length_map] at hvl
 by_cases hz : recN r = 0
 rotate_left
 ·have e1 : doA r (abs rs) = (abs rs, recN r) := by simp [doA, hz]
  rw [e1]
  refine ⟨vl, rs, cval_ok' fn_71 rfl ?_, h, rfl⟩
  have hz' : ((recN r : Int) != 0) = true := by rw [bne_iff_ne]; omega
  have c1' : (∀ x, x ∈ cs → x.one = true) = True := eq_true (by simpa using c1)
  simp -implicitDefEqProofs [z88, pstep, c1, c1', hpt, hck, hz', hz, hfv _ _ (Grows.refl S)]
 have hap : ∀ S, appendedS S 2 vl = some (rs.map serE) := fun S => h.sl.appd S
 obtain ⟨v, S1, hst, hro⟩ := RO.start (S := S) h (by omega)
 rcases recN_kinds hz with ⟨hk, hr⟩ | ⟨hk, hr⟩ | ⟨hk, hr⟩
 ·-- a series
  have e1 : doA r (abs rs) = doAdd r.labs (abs rs) := by simp [doA, hz, hk]
  obtain ⟨⟨vl1, vr, vi, rfl, i1, i2, i3⟩, hlens⟩ := hc
  have hrl8 := (right_wid hr).2
  have hid := rid_val h.sl.reads (fun x hx => (h.ok x hx).ok) (by omega) i1.reads S1
  have hix := rid_idx h.ok hr
  rw [hz, hk] at hck
  rw [hk] at hpt
  rw [e1]
  cases hf : rs.findIdx? (fun x => cmpL x.lb r.labs == 0) with
  | some i =>
   rw [hf] at hid hix
   have e2 : doAdd r.labs (abs rs) = (abs rs, 10) := by unfold doAdd; rw [← hix]; rfl
   rw [e2]
   refine ⟨vl, rs, cval_ok' fn_71 rfl ?_, h, rfl⟩
   simp -implicitDefEqProofs [z88, pstep, isl_one i1, isl_one i2, isl_one i3, hpt, hck, part1, hk, hap, hst, hid]
   exact hfv _ _ hro.g
  | none =>
   rw [hf] at hid hix
   by_cases hbig : 256 ≤ rs.length
   ·have e2 : doAdd r.labs (abs rs) = (abs rs, 3) := by unfold doAdd; rw [← hix, abs_len, if_neg (by simp), if_pos hbig]
    have hbig' : (256 : Int) ≤ (rs.length : Int) := by omega
    rw [e2]
    refine ⟨vl, rs, cval_ok' fn_71 rfl ?_, h, rfl⟩
    simp -implicitDefEqProofs [z88, pstep, isl_one i1, isl_one i2, isl_one i3, hpt, hck, part1, hk, hap, hst, hid, hvl, hbig']
    exact hfv _ _ hro.g
   ·have e2 : doAdd r.labs (abs rs) = (abs rs ++ [(r.labs, [])], 0) := by unfold doAdd; rw [← hix, abs_len, if_neg (by simp), if_neg hbig]
    have hbig' : ¬ (256 : Int) ≤ (rs.length : Int) := by omega
    obtain ⟨w, S2, p1, a1, o1⟩ := (accg_new 2 [] (Grows.refl S1)).app (bytes := 32) (r.labs.map labV) (by simp; omega)
    simp only [List.length_nil, List.nil_append] at p1 a1
    have hwf : w.frz = slF w (r.labs.map labV) := by
     rcases a1.acc with ⟨p, p2⟩ | ⟨id, _, p, _⟩
     ·rw [p]; rfl
     ·rw [p]; simp only [PV.frz, slF, labs_frz, PV.frzL]
    have hwfree : w.free = true := by
     rcases a1.acc with ⟨p, p2⟩ | ⟨id, _, p, _⟩
     ·rw [p]; rfl
     ·rw [p]; simp only [PV.free, labs_free, PV.freeL, Bool.and_self]
    have hw : SeW ⟨w, .nils, [], r.labs⟩ := ⟨a1.isSl (labs_cells _), hwfree, by rw [hwf]; exact slF_lab a1, hr, .inl ⟨rfl, rfl⟩, rfl, sl0_nils 2, by simp⟩
    obtain ⟨S3, hS3⟩ : ∃ S3 : St, S3 = ⟨S2.objs, S2.tips ++ [(1, 2)]⟩ := ⟨_, rfl⟩
    have g3 : Grows S S3 := by rw [hS3]; exact (hro.g.trans a1.grows).arrs _
    have hro3 := hro.ext g3 (fun i x hx => by rw [hS3, o1]; exact hx)
    obtain ⟨v', S4, q1, q2⟩ := hro3.push hw (by omega)
    obtain ⟨vl', f1, f2⟩ := q2.fin 0
    rw [e2]
    refine ⟨vl', _, cval_ok' fn_71 rfl ?_, f2, by rw [abs_fr, abs_app]; rfl⟩
    have hlap : ∀ S, appendedS S 2 vl1 = some (r.labs.map labV) := fun S => i1.appdS
    have hw1 := hw.one.1
    have hwc := one_cells hw1
    simp -implicitDefEqProofs [-z88_r11_go, z88, pstep, isl_one i1, isl_one i2, isl_one i3, hpt, hck, part1, hk, hap, hst, hid, hvl, hbig']
    simp only at hw1 hwc
    simp only [serE] at q1
    simp -implicitDefEqProofs [pstep, part1, elems, setParts, newArr, appP, hlap, p1, peval, fillParts, putCells, hw1, hwc, szOk]
    rw [← hS3, q1]
    simp -implicitDefEqProofs
    exact f1
 ·-- rows
  have e1 : doA r (abs rs) = doRows r.rows (abs rs) := by simp [doA, hz, hk]
  obtain ⟨⟨vl1, vr, vi, rfl, i1, i2, i3⟩, hlens⟩ := hc
  obtain ⟨hr0, hrl, hrf⟩ := rowsN_facts hr
  have hcnt := rcount_val h.sl.reads (fun x hx => (h.ok x hx).ok) (by omega) ht S1
  rw [hz, hk] at hck
  rw [hk] at hpt
  rw [e1]
  obtain ⟨rows, hrows⟩ : ∃ rows, rows = r.rows := ⟨_, rfl⟩
  rw [← hrows] at hr0 hrl hrf i2 ⊢
  obtain ⟨v1, S2, hcv, hS2, vl', rs', hR1, hR2, hR3⟩ := cval_ex (T := T) fn_71 (args := [vl, .agg [.int .i64 r.kind, vl1, vr, vi, .int .i64 r.low, .int .i64 r.high]]) (S := S) rfl
   (R := fun v1 S2 => S2 = S ∧ ∃ vl' rs', v1 = .tup [vl', .int .i64 ((doRows rows (abs rs)).2 : Nat)] ∧ RL vl' rs' ∧ abs rs' = (doRows rows (abs rs)).1) (by
   have hgo : ∀ n, n ≤ rows.length → (∀ i (hi : i < rows.length), i < n → rowStep rows[i] (asR rows (abs rs) i) = none) → rowsGo rows (abs rs) = rowsGo (rows.drop n) (asR rows (abs rs) n) := by
    intro n
    induction n with
    | zero => intro _ _; simp [asR]
    | succ n ih =>
     intro hn hok
     have hnl : n < rows.length := by omega
     rw [ih (by omega) (fun i hi hin => hok i hi (by omega)), List.drop_eq_getElem_cons hnl, rowsGo, hok n hnl (by omega), asR_succ hnl]
   simp -implicitDefEqProofs [z88, pstep, isl_one i1, isl_one i2, isl_one i3, hpt, hck, part1, hk, hap, hst, hcnt]
   refine lp_up rows.length (fun j fr S' => fr 0 = vl ∧ fr 3 = .ref [.int .i64 2, vl1, vr, vi, .int .i64 r.low, .int .i64 r.high] ∧ fr 7 = v ∧ fr 9 = .int .i64 (j : Int) ∧
    (∀ i (hi : i < rows.length), i < j → rowStep rows[i] (asR rows (abs rs) i) = none) ∧ ∃ cs', RO S S' v cs' ∧ cs'.length = rs.length ∧ abs cs' = asR rows (abs rs) j ∧ total cs' ≤ 65536 ∧ fr 8 = .int .i64 (total cs' : Nat)) ?_ ?_ 0 (Nat.zero_le _) _ _
    ⟨by simp, by simp, by simp, by simp, fun i _ hi => absurd hi (by omega), rs, hro, rfl, rfl, ht, by simp⟩
   ·rintro j fr S' hj ⟨f0, f3, f7, f9, hok, cs', x1, x2, x3, x4, f8⟩ k
    refine rrow_round hvl x1 x2 hl x4 i2.reads hrl hj (hrf _ (List.getElem_mem hj)).1.1 f0 f3 f7 f8 f9 (fun e fr' S2 hs hg g4 g5 => ?_) (fun fr' S2 cs2 hs y1 y2 y3 y4 g0 g3 g7 g8 g9 => ?_)
    ·have hd : doRows rows (abs rs) = (abs rs, e) := by
      have := hgo j (by omega) hok
      rw [List.drop_eq_getElem_cons hj, rowsGo, ← x3, hs] at this
      have he := rowStep_ne hs
      simp [doRows, this, he]
     rw [hd]
     simp -implicitDefEqProofs [resAll, resOf, g4, g5, packed, hfv _ _ hg]
     exact ⟨rs, h, rfl⟩
    ·refine k fr' S2 ⟨g0, g3, g7, by simpa using g9, fun i hi hij => ?_, cs2, y1, y2, by rw [y3, x3, asR_succ hj], y4, g8⟩
     by_cases hij' : i < j
     ·exact hok i hi hij'
     ·have : i = j := by omega
      subst this
      rw [← x3]; exact hs
   ·rintro fr S' ⟨f0, f3, f7, f9, hok, cs', x1, x2, x3, x4, f8⟩
    have hd : doRows rows (abs rs) = (asR rows (abs rs) rows.length, 0) := by
     have := hgo rows.length (Nat.le_refl _) hok
     rw [List.drop_length, rowsGo] at this
     simp [doRows, this]
    obtain ⟨vl', f1, f2⟩ := x1.fin 0
    have hvlen := i2.len
    rw [List.length_map] at hvlen
    rw [hd]
    rw [gval_lp]
    simp -implicitDefEqProofs [f0, f3, f7, f9, part1, hvlen, f1]
    exact ⟨_, f2, by rw [abs_fr]; exact x3⟩)
  subst hS2
  subst hR1
  exact ⟨vl', rs', hcv, hR2, hR3⟩
 ·-- what is deleted
  have e1 : doA r (abs rs) = doRem r (abs rs) := by simp [doA, hz, hk]
  obtain ⟨⟨vl1, vr, vi, rfl, i1, i2, i3⟩, hlens⟩ := hc
  obtain ⟨hp, hne, hlo, hhi, hlh⟩ := delN_facts hr
  obtain ⟨hil, hpos, hasc⟩ := postN_facts hp
  rw [hz, hk] at hck
  rw [hk] at hpt
  rw [e1]
  have hAl : (abs rs).length = rs.length := abs_len _
  obtain ⟨v1, S2, hcv, hS2, vl', rs', hR1, hR2, hR3⟩ := cval_ex (T := T) fn_71 (args := [vl, .agg [.int .i64 r.kind, vl1, vr, vi, .int .i64 r.low, .int .i64 r.high]]) (S := S) rfl
   (R := fun v1 S2 => S2 = S ∧ ∃ vl' rs', v1 = .tup [vl', .int .i64 ((doRem r (abs rs)).2 : Nat)] ∧ RL vl' rs' ∧ abs rs' = (doRem r (abs rs)).1) (by
   simp -implicitDefEqProofs [z88, pstep, isl_one i1, isl_one i2, isl_one i3, hpt, hck, part1, hk, hap, hst]
   refine lp_up r.ids.length (fun j fr S' => fr 0 = vl ∧ fr 3 = .ref [.int .i64 3, vl1, vr, vi, .int .i64 r.low, .int .i64 r.high] ∧ fr 7 = v ∧ fr 11 = .int .i64 (j : Int) ∧
    (∀ i (hi : i < r.ids.length), i < j → r.ids[i] < (rs.length : Int)) ∧ ∃ cs', RO S S' v cs' ∧ cs'.length = rs.length ∧ abs cs' = remA r.low r.high (r.ids.take j) (abs rs) ∧ total cs' ≤ 65536) ?_ ?_ 0 (Nat.zero_le _) _ _
    ⟨by simp, by simp, by simp, by simp, fun i _ hi => absurd hi (by omega), rs, hro, rfl, by simp [remA], ht⟩
   ·rintro j fr S' hj ⟨f0, f3, f7, f11, hok, cs', x1, x2, x3, x4⟩ k
    refine rdel_round hvl x1 x2 hl x4 i3.reads hil hj (hpos _ (List.getElem_mem hj)) f0 f3 f7 f11 (fun fr' S2 hs hg g4 g5 => ?_) (fun fr' S2 cs2 hs y1 y2 y3 y4 g0 g3 g7 g11 => ?_)
    ·have hd : doRem r (abs rs) = (abs rs, 9) := by
      have h1 := asc_last hasc hne r.ids[j] (List.getElem_mem hj)
      have : remE r.ids (abs rs).length = 9 := by
       rw [remE, List.getLast?_eq_some_getLast hne, hAl]
       simp only
       rw [if_pos (by omega)]
      simp [doRem, this]
     rw [hd]
     simp -implicitDefEqProofs [resAll, resOf, g4, g5, packed, hfv _ _ hg]
     exact ⟨rs, h, rfl⟩
    ·refine k fr' S2 ⟨g0, g3, g7, by simpa using g11, fun i hi hij => ?_, cs2, y1, y2, ?_, y4⟩
     ·by_cases hij' : i < j
      ·exact hok i hi hij'
      ·have : i = j := by omega
       subst this
       exact hs
     ·rw [y3, x3, List.take_add_one, List.getElem?_eq_getElem hj, Option.toList_some, remA_snoc]
   ·rintro fr S' ⟨f0, f3, f7, f11, hok, cs', x1, x2, x3, x4⟩
    have hd : doRem r (abs rs) = (remA r.low r.high r.ids (abs rs), 0) := by
     have hlp : 0 < r.ids.length := List.length_pos_iff.2 hne
     have h1 := hok (r.ids.length - 1) (by omega) (by omega)
     have : remE r.ids (abs rs).length = 0 := by
      rw [remE, List.getLast?_eq_some_getLast hne, hAl, List.getLast_eq_getElem]
      simp only
      rw [if_neg (by omega)]
     simp [doRem, this]
    rw [List.take_length] at x3
    obtain ⟨vl', f1, f2⟩ := x1.fin 0
    have hvlen := i3.len
    rw [nV_len] at hvlen
    rw [hd]
    rw [gval_lp]
    simp -implicitDefEqProofs [f0, f3, f7, f11, part1, hvlen, f1]
    exact ⟨_, f2, by rw [abs_fr]; exact x3⟩)
  subst hS2
  subst hR1
  exact ⟨vl', rs', hcv, hR2, hR3⟩
end Ps
