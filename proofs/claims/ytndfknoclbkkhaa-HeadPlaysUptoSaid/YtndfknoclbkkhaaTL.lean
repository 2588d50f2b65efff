/- The law HeadPlays: its loop, the law. -/
import Derived.Test.YtndfknoclbkkhaaTI
namespace Ps
set_option linter.unusedSimpArgs false
set_option linter.unusedVariables false
open Go
theorem fn_288 : T.fn 288 = some (.code z33) := rfl
theorem fn_193 : T.fn 193 = some (.code z45) := rfl
theorem fn_290 : T.fn 290 = some (.code z55) := rfl
theorem fn_192 : T.fn 192 = some (.code z86) := rfl

theorem at_out {S : St} {o : Nat} {H : Hd} (h : HAt S o H) {i : Int} (hi : i < 0 ∨ (H.ser.length : Int) ≤ i) : cval T 291 [.ptr o 0, .int .i64 i] S = some (.tup [.agg [.nils, .nils], .int .i64 9], ⟨S.objs ++ [[.nils, .nils]], S.tips⟩) := by
 have hob : (S.objs ++ [[PV.nils, PV.nils]])[o]? = some [H.hv, .map H.mi, .int .i64 H.count] := by
  rw [List.getElem?_append_left (List.getElem?_eq_some_iff.1 h.obj).1]; exact h.obj
 have l0 : loadP ⟨S.objs ++ [[PV.nils, PV.nils]], S.tips⟩ false 1 (.ptr o 0) = some H.hv := by rw [loadP_ptr hob]; exact part1
 have hlen : lenP false H.hv = some (.int .i64 H.ser.length) := by
  rcases h.ser with ⟨e, e2⟩ | ⟨si, e, _⟩
  ·rw [e, e2]; rfl
  ·rw [e]; rfl
 refine cval_ok' fn_291 rfl ?_
 by_cases c : i < 0
 ·simp -implicitDefEqProofs [z56, c, pstep, peval, fillParts, putCells]
  refine ends_ct (v := .agg [.nils, .nils]) (w := .int .i64 9) ?_ ?_ rfl
  ·first | rfl | (simp [part2] <;> done) | (simp [part2, loadP] <;> rfl)
  ·first | rfl | (simp <;> done)
 ·have c2 : (H.ser.length : Int) ≤ i := by omega
  simp -implicitDefEqProofs [z56, c, c2, l0, hlen, pstep, peval, fillParts, putCells]
  refine ends_ct (v := .agg [.nils, .nils]) (w := .int .i64 9) ?_ ?_ rfl
  ·first | rfl | (simp [part2] <;> done) | (simp [part2, loadP] <;> rfl)
  ·first | rfl | (simp <;> done)

section
variable {S : St} {o : Nat} {H : Hd}
theorem labels_val (h : HOk S o H) {i : Nat} {r : Sr} (hr : H.ser[i]? = some r) : ∃ v, cval T 288 [.ptr o 0, .int .i64 (i : Int)] S = some (.tup [v, .int .i64 0], S) ∧ SlL v r.lb := by
 have hil := (List.getElem?_eq_some_iff.1 hr).1
 have hle := h.szs
 obtain ⟨S1, g1, hat⟩ := at_val h.at hr (by unfold maxLen; omega)
 have hr0 := h.all r (List.mem_of_getElem? hr)
 have o1 := isl_one hr0.lab.1.isl
 have o2 := hr0.at_.one.1
 obtain ⟨S2, hS2⟩ : ∃ S2 : St, S2 = ⟨S1.objs ++ [[r.lv, r.sv]], S1.tips⟩ := ⟨_, rfl⟩
 have b2 : S2.objs[S1.objs.length]? = some [r.lv, r.sv] := by rw [hS2]; simp
 have l2 : loadP S2 false 1 (.ptr S1.objs.length 0) = some r.lv := by rw [loadP_ptr b2]; exact part1
 obtain ⟨v, c1, c2, _⟩ := clone_lab hr0.lab.1.isl (by have := hr0.lab.2.1; omega) S2
 have g2 : Grows S S2 := by rw [hS2]; exact g1.objs _
 have hf : finish false S S2 (.tup [v, .int .i64 0]) = (.tup [v, .int .i64 0], S) := by
  rw [fin_free g2 (by simp [PV.free, PV.freeL, c2.free])]
  simp [PV.frz, PV.frzL, c2.frz]
 refine ⟨v, cval_ok' fn_288 rfl ?_, c2⟩
 simp -implicitDefEqProofs [-z33_r2_go, z33, hat, pstep, putCells, o1, o2]
 rw [← hS2]
 simp -implicitDefEqProofs [l2, c1, hf]
theorem labels_out (h : HOk S o H) {i : Int} (hi : i < 0 ∨ (H.ser.length : Int) ≤ i) : cval T 288 [.ptr o 0, .int .i64 i] S = some (.tup [.nils, .int .i64 9], S) := by
 have hat := at_out h.at hi
 obtain ⟨S1, hS1⟩ : ∃ S1 : St, S1 = ⟨S.objs ++ [[.nils, .nils]], S.tips⟩ := ⟨_, rfl⟩
 rw [← hS1] at hat
 obtain ⟨S2, hS2⟩ : ∃ S2 : St, S2 = ⟨S1.objs ++ [[.nils, .nils]], S1.tips⟩ := ⟨_, rfl⟩
 have b2 : S2.objs[S1.objs.length]? = some [.nils, .nils] := by rw [hS2]; simp
 have l2 : loadP S2 false 1 (.ptr S1.objs.length 0) = some .nils := by rw [loadP_ptr b2]; exact part1
 have c1 : cval T 130 [.nils] S2 = some (.nils, S2) := by
  refine cval_ok' fn_130 rfl ?_
  have : eqnP false .s .nils = some (.bool true) := rfl
  simp -implicitDefEqProofs [z28, this]
  rw [fin_free (Grows.refl S2) rfl]; rfl
 have g2 : Grows S S2 := by rw [hS2, hS1]; exact ((Grows.refl S).objs _).objs _
 have hf : finish false S S2 (.tup [.nils, .int .i64 9]) = (.tup [.nils, .int .i64 9], S) := by
  rw [fin_free g2 rfl]; rfl
 refine cval_ok' fn_288 rfl ?_
 simp -implicitDefEqProofs [-z33_r2_go, z33, hat, pstep, putCells]
 rw [← hS2]
 simp -implicitDefEqProofs [l2, c1, hf]

theorem hlast_val (h : HOk S o H) {i : Nat} {r : Sr} (hr : H.ser[i]? = some r) : cval T 193 [.ptr o 0, .int .i64 (i : Int)] S = some (.tup [.int .i64 (lastT r.sm), .int .i64 0], S) := by
 have hil := (List.getElem?_eq_some_iff.1 hr).1
 have hle := h.szs
 obtain ⟨S1, g1, hat⟩ := at_val h.at hr (by unfold maxLen; omega)
 have hrm := List.mem_of_getElem? hr
 have hr0 := h.all r hrm
 have o1 := isl_one hr0.lab.1.isl
 have o2 := hr0.at_.one.1
 obtain ⟨S2, hS2⟩ : ∃ S2 : St, S2 = ⟨S1.objs ++ [[r.lv, r.sv]], S1.tips⟩ := ⟨_, rfl⟩
 have b2 : S2.objs[S1.objs.length]? = some [r.lv, r.sv] := by rw [hS2]; simp
 have l2 : loadP S2 false 1 (.ptr S1.objs.length 1) = some r.sv := by rw [loadP_ptr b2]; exact part1
 have g2 : Grows S S2 := by rw [hS2]; exact g1.objs _
 have hsm := hr0.at_.mono (S' := S2) (fun i _ x hx => g2.get hx)
 have hlv := last_val hsm (by have := h.tot; have := sm_le_total hrm; omega)
 have hf : ∀ e : Int, finish false S S2 (.tup [.int .i64 e, .int .i64 0]) = (.tup [.int .i64 e, .int .i64 0], S) := fun e => by
  rw [fin_free g2 rfl]; rfl
 refine cval_ok' fn_193 rfl ?_
 simp -implicitDefEqProofs [-z45_r2_go, z45, hat, pstep, putCells, o1, o2]
 rw [← hS2]
 simp -implicitDefEqProofs [l2, hlv, hf]
theorem hlast_out (h : HOk S o H) {i : Int} (hi : i < 0 ∨ (H.ser.length : Int) ≤ i) : cval T 193 [.ptr o 0, .int .i64 i] S = some (.tup [.int .i64 0, .int .i64 9], S) := by
 have hat := at_out h.at hi
 have hf : ∀ x y, finish false S ⟨S.objs ++ x, S.tips ++ y⟩ (.tup [.int .i64 0, .int .i64 9]) = (.tup [.int .i64 0, .int .i64 9], S) := fun x y => by
  rw [fin_free ⟨x, y, rfl⟩ rfl]; rfl
 have hf' := hf ([[PV.nils, .nils], [PV.nils, .nils]]) []
 rw [List.append_nil] at hf'
 refine cval_ok' fn_193 rfl ?_
 simp -implicitDefEqProofs [z45, hat, pstep, putCells, hf']
theorem select_out (h : HOk S o H) {i low high : Int} (hi : i < 0 ∨ (H.ser.length : Int) ≤ i) : cval T 289 [.ptr o 0, .int .i64 i, .int .i64 low, .int .i64 high] S = some (.tup [.nils, .int .i64 9], S) := by
 have hat := at_out h.at hi
 have hf : ∀ x y, finish false S ⟨S.objs ++ x, S.tips ++ y⟩ (.tup [.nils, .int .i64 9]) = (.tup [.nils, .int .i64 9], S) := fun x y => by
  rw [fin_free ⟨x, y, rfl⟩ rfl]; rfl
 have hf' := hf ([[PV.nils, .nils], [PV.nils, .nils]]) []
 rw [List.append_nil] at hf'
 refine cval_ok' fn_289 rfl ?_
 simp -implicitDefEqProofs [z32, hat, pstep, putCells, hf']

theorem idx_at {A : Ab} (hd : DistA A) {i : Nat} {l : List Lab} {s : List (Int × Int)} (h : A[i]? = some (l, s)) : idxT (printT l) A = some i := by
 obtain ⟨hi, he⟩ := List.getElem?_eq_some_iff.1 h
 unfold idxT
 rw [List.findIdx?_eq_some_iff_getElem]
 refine ⟨hi, by rw [he]; simp, fun j hj => ?_⟩
 simp only [beq_iff_eq]
 intro e
 have hp := List.pairwise_iff_getElem.1 (show (A.map fun p => printT p.1).Pairwise (· ≠ ·) from hd) j i (by simp; omega) (by simpa using hi) hj
 simp only [List.getElem_map, he] at hp
 exact hp e
theorem hid_val (h : HOk S o H) (hd : DistA (abs H.ser)) {i : Nat} {r : Sr} (hr : H.ser[i]? = some r) {v : PV} (hv : SlL v r.lb) : cval T 290 [.ptr o 0, v] S = some (.tup [.int .i64 (i : Int), .int .i64 0], S) := by
 have hr0 := h.all r (List.mem_of_getElem? hr)
 have hrt := hr0.lab.2
 have hck := check_val hv.reads (fun x hx => by
  have := (hrt.2.1 x hx).1
  cases hh : x.1 with
  | nil => simp
  | cons c l => rw [hh] at this; simp [nameB] at this; simp; unfold maxLen; omega) (by have := hrt.1; unfold maxLen; omega) S
 rw [checkN_zero.2 hrt] at hck
 have hpr := aCall_keep (print_val hv.reads (right_wid hrt).1 S)
 have hob := h.obj
 have l1 : loadP S false 1 (.ptr o 1) = some (.map H.mi) := by rw [loadP_ptr hob]; exact part1
 have hids := h.ids
 have hmf := mfind_ids (printT r.lb) 0 H.ser
 rw [idx_at hd (l := r.lb) (s := r.sm) (i := i) (by simp [abs, hr])] at hmf
 simp only [Option.map_some, Nat.zero_add] at hmf
 obtain ⟨t, ht⟩ : ∃ t, t = printT r.lb := ⟨_, rfl⟩
 rw [← ht] at hpr hmf
 have hf : ∀ e : Int, finish false S S (.tup [.int .i64 e, .int .i64 0]) = (.tup [.int .i64 e, .int .i64 0], S) := fun e => by
  rw [fin_free (Grows.refl S) rfl]; rfl
 refine cval_ok' fn_290 rfl ?_
 simp -implicitDefEqProofs [z55, hck, l1, hpr, pstep, isKeyP, hids, hmf, lookP, hf]

theorem one_val (h : HOk S o H) (hd : DistA (abs H.ser)) {vl : PV} {rs : List Sr} (hl : RL vl rs) (he : abs rs = abs H.ser) (i : Int) (low high : Int) : cval T 192 [.ptr o 0, vl, .int .i64 i, .int .i64 low, .int .i64 high] S = some (.bool true, S) := by
 have hvl := hl.sl.len
 rw [List.length_map] at hvl
 have hll : rs.length = H.ser.length := by have := congrArg List.length he; rwa [abs_len, abs_len] at this
 have hle := h.szs
 by_cases c : i < 0 ∨ (H.ser.length : Int) ≤ i
 ·have a1 := labels_out h c
  have a2 := hlast_out h c
  have a3 := select_out h c (low := low) (high := high)
  have hl0 : lenP false .nils = some (.int .i64 0) := rfl
  refine cval_ok' fn_192 rfl ?_
  by_cases c1 : i < 0
  ·simp -implicitDefEqProofs [z86, a1, a2, a3, c1, hvl, hl0]
  ·have c2 : (rs.length : Int) ≤ i := by omega
   simp -implicitDefEqProofs [z86, a1, a2, a3, c1, c2, hvl, hl0]
 ·obtain ⟨q, rfl⟩ : ∃ q : Nat, i = (q : Int) := ⟨i.toNat, by omega⟩
  have hq : q < H.ser.length := by omega
  have hr : H.ser[q]? = some H.ser[q] := List.getElem?_eq_getElem hq
  have hq2 : q < rs.length := by omega
  obtain ⟨r, hre⟩ : ∃ r, r = H.ser[q] := ⟨_, rfl⟩
  rw [← hre] at hr
  obtain ⟨y, hye⟩ : ∃ y, y = rs[q] := ⟨_, rfl⟩
  have hxy : y.lb = r.lb ∧ y.sm = r.sm := by
   have e := congrArg (fun l => l[q]?) he
   simp only [abs, List.getElem?_map, List.getElem?_eq_getElem hq2, hr, ← hye, Option.map_some, Option.some.injEq, Prod.mk.injEq] at e
   exact e
  have hyo := hl.ok y (by rw [hye]; exact List.getElem_mem hq2)
  have hrm := List.mem_of_getElem? hr
  obtain ⟨sv, a1, a1'⟩ := labels_val h hr
  have a2 := hlast_val h hr
  obtain ⟨ss, a3, a3'⟩ := select_val h.at hr (by unfold maxLen; omega) (by have := h.tot; have := sm_le_total hrm; omega) (low := low) (high := high)
  have a4 := hid_val h hd hr a1'
  have g1 := serE_get hl.sl.reads hq2 (k := .i64)
  rw [← hye] at g1
  have b1 := same_val a1'.reads hyo.ok.lab.1.reads (by have := (h.all r hrm).lab.2.1; unfold maxLen; omega) S
  have hz : (cmpL r.lb y.lb == 0) = true := by rw [hxy.1]; simp [cmpL_zero.2 rfl]
  rw [hz] at b1
  have o1 := hyo.ok.one
  have b2 := rlast_val o1.1 o1.2 hyo.sam.reads (by have := hyo.ok.len; omega) S
  rw [hxy.2] at b2
  obtain ⟨bs, b3, b3'⟩ := rbetween_val hyo.sam.reads (by have := hyo.ok.len; omega) low high S
  have hlen2 : (r.sm.filter (inTm low high)).length ≤ 1048576 := by
   have := List.length_filter_le (inTm low high) r.sm
   have := h.tot
   have := sm_le_total hrm
   omega
  rw [hxy.2] at b3'
  have b4 := csame_val a3'.reads b3'.reads hlen2 S
  have c1 : ¬ ((q : Int) < 0) := by omega
  have c2 : ¬ ((rs.length : Int) ≤ (q : Int)) := by omega
  have c2' : ¬ (rs.length ≤ q) := by omega
  refine cval_ok' fn_192 rfl ?_
  simp -implicitDefEqProofs [z86, a1, a2, a3, a4, c1, c2, c2', hvl, g1, part1, part2, b1, b2, b3, b4]

end
end Ps
namespace Ps
set_option linter.unusedSimpArgs false
set_option linter.unusedVariables false
open Go
theorem fn_75 : T.fn 75 = some (.code z76) := rfl
theorem fn_74 : T.fn 74 = some (.code z82) := rfl
theorem fn_15 : T.fn 15 = some (.code z38) := rfl

theorem fin_b1 {S S1 : St} {b : Bool} : (finish false S S1 (.bool b)).1 = .bool b := by
 unfold finish
 simp only [Bool.false_eq_true, if_false, sol_of_free (r := .bool b) rfl]
 split
 ·rfl
 ·split <;> rfl
theorem told_val {S : St} {o : Nat} {H : Hd} (h : HOk S o H) (hd : DistA (abs H.ser)) {vl : PV} {rs : List Sr} (hl : RL vl rs) (he : abs rs = abs H.ser) (low high : Int) : ∃ S2, cval T 75 [.ptr o 0, vl, .int .i64 low, .int .i64 high] S = some (.bool true, S2) := by
 have hvl := hl.sl.len
 rw [List.length_map] at hvl
 have hll : rs.length = H.ser.length := by have := congrArg List.length he; rwa [abs_len, abs_len] at this
 have hle := h.szs
 have htt := h.tot
 have hto : total rs = total H.ser := by rw [← totA_abs, ← totA_abs, he]
 have c1 := len_val h.at
 have c2 := count_val h.at
 have c3 := rcount_val hl.sl.reads (fun x hx => (hl.ok x hx).ok) (by omega) (by omega) S
 obtain ⟨v1, l1, S2, c4, ob2, k1⟩ := series_val h
 obtain ⟨v2, l2, c5, k2⟩ := rseries_val (S := S2) hl (by omega)
 rw [he] at k2
 have hab := series_one hd k1 k2
 have c6 := bsame_val k1.rd k2.rd k1.ok k2.ok (by
  have := congrArg List.length hab
  have h3 := k1.perm.length_eq
  rw [abs_len] at h3
  have : (keptA (abs H.ser)).length ≤ (abs H.ser).length := List.length_filter_le _ _
  rw [abs_len] at this
  omega) hab S2
 have h2 := h.frame (S' := S2) (fun i _ x hx => by rw [ob2]; exact hx)
 rw [h.cnt] at c2
 rw [hto] at c3
 rw [← hll] at c1
 obtain ⟨v, S3, hc, hv⟩ := cval_ex (T := T) fn_75 (args := [.ptr o 0, vl, .int .i64 low, .int .i64 high]) (S := S) rfl (R := fun v _ => v = .bool true) (by
  simp -implicitDefEqProofs [z76, c1, hvl, c2, c3, c4, c5, c6]
  refine lp_up (rs.length + 2) (fun j fr S' => fr 0 = .ptr o 0 ∧ fr 1 = vl ∧ fr 2 = .int .i64 low ∧ fr 3 = .int .i64 high ∧ fr 9 = .int .i64 ((j : Int) - 1) ∧ S' = S2) ?_ ?_ 0 (Nat.zero_le _) _ _ ⟨by simp, by simp, by simp, by simp, by simp, rfl⟩
  ·rintro j fr S' hj ⟨f0, f1, f2, f3, f9, rfl⟩ k
   have hw : IntKind.i64.wrap ((j : Int) - 1 + 1) = (((j + 1 : Nat) : Int) - 1) := by rw [wrap_i64 (by omega) (by omega)]; omega
   have hlt : (j : Int) - 1 ≤ (rs.length : Int) := by omega
   have ho := one_val h2 hd hl he ((j : Int) - 1) low high
   have hL := fun fr' => k fr' S'
   clear k
   obtain ⟨m, hm⟩ : ∃ m : Int, m = (j : Int) - 1 := ⟨_, rfl⟩
   rw [← hm] at f9 hw hlt ho
   rw [gval_lp]
   simp -implicitDefEqProofs [f0, f1, f2, f3, f9, hvl, hlt, ho, hw]
   exact hL _ ⟨by simp [f0], by simp [f1], by simp [f2], by simp [f3], by simp, rfl⟩
  ·rintro fr S' ⟨f0, f1, f2, f3, f9, rfl⟩
   have hlt : ¬ (((rs.length + 2 : Nat) : Int) - 1 ≤ (rs.length : Int)) := by omega
   obtain ⟨m, hm⟩ : ∃ m : Int, m = ((rs.length + 2 : Nat) : Int) - 1 := ⟨_, rfl⟩
   rw [← hm] at f9 hlt
   rw [gval_lp]
   simp -implicitDefEqProofs [f0, f1, f2, f3, f9, hvl, hlt]
   exact fin_b1)
 rw [hv] at hc
 exact ⟨S3, hc⟩

theorem row_pval : pval T 74 [.int .i64 0, .int .i64 1099511627776, .int .i64 3] = some (.agg [.int .i64 2, .nils, .sl none [rowV (0, 1099511627776, 3)] [], .nils, .int .i64 0, .int .i64 0]) := by
 have h : cval T 74 [.int .i64 0, .int .i64 1099511627776, .int .i64 3] St0 = some (.agg [.int .i64 2, .nils, .sl none [rowV (0, 1099511627776, 3)] [], .nils, .int .i64 0, .int .i64 0], St0) := by
  refine cval_ok' fn_74 rfl ?_
  simp -implicitDefEqProofs [z82, pstep, peval, fillParts, putCells, elems, setParts, newArr, newObj]
  refine ends_c (v := .agg [.int .i64 2, .nils, .sl (some (0, 1)) [rowV (0, 1099511627776, 3)] [], .nils, .int .i64 0, .int .i64 0]) ?_ ?_
  ·simp [loadP, partOf, rowV]; rfl
  ·rw [fin_free ⟨_, _, rfl⟩ rfl]; rfl
 exact pval_st h rfl rfl
end Ps
namespace Ps
set_option linter.unusedSimpArgs false
set_option linter.unusedVariables false
open Go
def RecsB (es : List PV) : Prop := ∀ e ∈ es, ∃ r cs, e = .agg cs ∧ RecC r cs ∧ r.labs.length ≤ 1048576 ∧ r.rows.length ≤ 1048576 ∧ r.ids.length ≤ 1048576
theorem inRs_b {x : (Ty.sl tyRec).den} (h : (Ty.sl tyRec).wf x) (hb : (Ty.sl tyRec).bulk x ≤ 1048576) : ∃ xs, Reads1 6 ((Ty.sl tyRec).pv x) xs ∧ RecsB xs ∧ xs.length ≤ 2000000 := by
 have hisl := inS_isl (e := tyRec) rfl x
 have hln := inS_len (e := tyRec) (fun y => by show 1 ≤ _ + 1; omega) x
 refine ⟨_, hisl.reads, ?_, by rw [List.length_map]; omega⟩
 intro e he
 obtain ⟨y, hy, rfl⟩ := List.mem_map.1 he
 cases x with
 | none => simp [inS] at hy
 | some q =>
  obtain ⟨es, sp⟩ := q
  have hw : tyRec.wf y := h.2.1 y hy
  have hmem : ∀ (l : List tyRec.den), y ∈ l → tyRec.bulk y ≤ (l.map tyRec.bulk).sum := by
   intro l
   induction l with
   | nil => intro h; simp at h
   | cons z l ih =>
    intro h
    simp only [List.map_cons, List.sum_cons]
    rcases List.mem_cons.1 h with rfl | h
    ·omega
    ·have := ih h; omega
  have hyb := hmem es hy
  have hb2 : (es.map tyRec.bulk).sum + (sp.map tyRec.bulk).sum + 1 ≤ 1048576 := hb
  obtain ⟨⟨cs, e1, e2⟩, e3, e4, e5⟩ := inR_rec hw (by omega)
  exact ⟨_, cs, e1, e2, e3, e4, e5⟩

theorem RecW.mono {n : Nat} {S S' : St} {r : RecM} {vl vr vi : PV} (h : RecW n S r vl vr vi) (hk : ∀ i x, n ≤ i → (gidV vl = some i ∨ gidV vr = some i) → S.objs[i]? = some x → S'.objs[i]? = some x) : RecW n S' r vl vr vi :=
 ⟨h.hl.mono fun i x a b c => hk i x a (.inl b) c, h.hr.mono fun i x a b c => hk i x a (.inr b) c, h.ne, h.hi, h.fi, h.zi⟩

structure Alk (S : St) (o : Nat) (H : Hd) (vl : PV) (rs : List Sr) : Prop where
 ok : HOk S o H
 rl : RL vl rs
 same : abs rs = abs H.ser
 dist : DistA (abs H.ser)

theorem Alk.len {S : St} {o : Nat} {H : Hd} {vl : PV} {rs : List Sr} (h : Alk S o H vl rs) : rs.length ≤ 256 ∧ total rs ≤ 65536 := by
 have a := congrArg List.length h.same
 rw [abs_len, abs_len] at a
 have b := h.ok.szs
 have c := h.ok.tot
 have d : total rs = total H.ser := by rw [← totA_abs, ← totA_abs, h.same]
 omega

theorem left_val {S : St} {o o2 : Nat} {H H2 : Hd} (h : HOk S o H) (h2 : HOk S o2 H2) (hd : ∀ i ∈ ownH o2 H2, i ∉ ownH o H) :
  ∃ S1 S2 r1 r2, cval T 70 [.ptr o 0, .agg [.int .i64 3, .nils, .nils, .sl (some (S.tips.length, 1)) [.int .i64 0] [], .int .i64 0, .int .i64 1099511627776]] ⟨S.objs, S.tips ++ [(1, 1)]⟩ = some (r1, S1) ∧
   cval T 70 [.ptr o 0, .agg [.int .i64 2, .nils, .sl none [rowV (0, 1099511627776, 3)] [], .nils, .int .i64 0, .int .i64 0]] S1 = some (r2, S2) ∧ HOk S2 o2 H2 := by
 obtain ⟨S0, hS0⟩ : ∃ S0 : St, S0 = ⟨S.objs, S.tips ++ [(1, 1)]⟩ := ⟨_, rfl⟩
 have ob : S0.objs = S.objs := by rw [hS0]
 have h0 := h.frame (S' := S0) (fun i _ x hx => by rw [ob]; exact hx)
 have h20 := h2.frame (S' := S0) (fun i _ x hx => by rw [ob]; exact hx)
 have hc : RecO S0 o H ⟨3, [], [], [0], 0, 1099511627776⟩ .nils .nils (.sl (some (S.tips.length, 1)) [.int .i64 0] []) :=
  recO_del ⟨rfl, rfl⟩ (.inr ⟨_, [], rfl, by rw [List.append_nil]; exact nV_cells _⟩) rfl (.inr ⟨none, [], rfl, by rw [List.append_nil]; exact nV_cells _⟩) (by simp)
 obtain ⟨S1, H1, a1, a2, a3, a4⟩ := do_val h0 hc
 have h21 := h20.frame (S' := S1) (fun i hi x hx => a3.keep i x (hd i hi) hx)
 have hd1 : ∀ i ∈ ownH o2 H2, i ∉ ownH o H1 := fun i hi hi1 => by
  rcases a3.own i hi1 with q | q
  ·exact hd i hi q
  ·have := h20.lt i hi; omega
 obtain ⟨S2, H3, b1, b2, b3, b4⟩ := do_val a2 (recO_row (S := S1) (o := o) (H := H1) (x := (0, 1099511627776, 3)))
 have h22 := h21.frame (S' := S2) (fun i hi x hx => b3.keep i x (hd1 i hi) hx)
 rw [← hS0]
 exact ⟨S1, S2, _, _, a1, b1, h22⟩

theorem plays_loop {xs : List PV} {v : PV} (hv : Reads1 6 v xs) (hx : RecsB xs) {low high : PV} {K : List Kt} {Q : Fr → St → Prop}
  (k : ∀ fr' S' o H vl rs, Alk S' o H vl rs → fr' 1 = low → fr' 2 = high → fr' 7 = .ptr o 0 → fr' 8 = vl → Ok (gval T K fr' S') Q)
  {fr : Fr} {S : St} {o : Nat} {H : Hd} {vl : PV} {rs : List Sr} (h : Alk S o H vl rs) (f0 : fr 0 = v) (f1 : fr 1 = low) (f2 : fr 2 = high) (f7 : fr 7 = .ptr o 0) (f8 : fr 8 = vl) (f9 : fr 9 = .int .i64 0) :
  Ok (gval T (.lp z38_l0 :: .blk 0 :: K) fr S) Q := by
 have hlen := hv.len
 refine lp_up (min xs.length 60) (fun j fr S' => fr 0 = v ∧ fr 1 = low ∧ fr 2 = high ∧ fr 9 = .int .i64 (j : Int) ∧ ∃ o H vl rs, Alk S' o H vl rs ∧ fr 7 = .ptr o 0 ∧ fr 8 = vl) ?_ ?_ 0 (Nat.zero_le _) _ _ ⟨f0, f1, f2, by simpa using f9, o, H, vl, rs, h, f7, f8⟩
 ·clear k h f7 f8
  rintro j fr S hj ⟨f0, f1, f2, f9, o, H, vl, rs, h, f7, f8⟩ k
  have hj1 : j < xs.length := by omega
  have hlt : (j : Int) < (xs.length : Int) := by omega
  have hlt2 : (j : Int) < 60 := by omega
  have hj60 : j < 60 := by omega
  have hg := hv.get j hj1 .i64
  obtain ⟨r, cs, he, hr, hb1, hb2, hb3⟩ := hx xs[j] (List.getElem_mem hj1)
  rw [he, cells_agg] at hg
  have hpt := pt_all (recC_all hr).1
  have hw : IntKind.i64.wrap ((j : Int) + 1) = (j : Int) + 1 := wrap_i64 (by omega) (by omega)
  obtain ⟨n, hn⟩ : ∃ n, n = S.objs.length := ⟨_, rfl⟩
  -- a record of one's own
  obtain ⟨il, ir, ii, S1, c1, w1, k1, l1⟩ := own_val (S := S) hr hb1 hb2 hb3
  rw [← hn] at w1 l1
  obtain ⟨m, hm⟩ : ∃ m, m = S1.objs.length := ⟨_, rfl⟩
  obtain ⟨S2, hS2⟩ : ∃ S2 : St, S2 = ⟨S1.objs ++ [[.int .i64 r.kind, il, ir, ii, .int .i64 r.low, .int .i64 r.high]], S1.tips⟩ := ⟨_, rfl⟩
  have k2 : ∀ (i : Nat) (x : List PV), S1.objs[i]? = some x → S2.objs[i]? = some x := fun i x hx => by
   rw [hS2]; simp only; rw [List.getElem?_append_left (List.getElem?_eq_some_iff.1 hx).1]; exact hx
  have l2 : S2.objs.length = m + 1 := by rw [hS2, hm]; simp
  have bm : S2.objs[m]? = some [.int .i64 r.kind, il, ir, ii, .int .i64 r.low, .int .i64 r.high] := by rw [hS2, hm]; simp
  have w2 := w1.mono (S' := S2) (fun i x _ _ hx => k2 i x hx)
  have h2 := (h.ok.grow k1).grow k2
  have hown : ∀ i ∈ ownH o H, i < n := fun i hi => by rw [hn]; exact h.ok.lt i hi
  -- the head does it
  have hnam := hr.lens.2.2.2
  obtain ⟨S3, H3, d1, d2, d3, d4⟩ := do_val h2 (w2.o hown hb1 hb2 hb3 hnam)
  have hmo : m ∉ ownH o H := fun hi => by have := hown m hi; omega
  have bm3 := d3.keep _ _ hmo bm
  have w3 := w2.mono (S' := S3) (fun i x hi _ hx => d3.keep i x (fun q => by have := hown i q; omega) hx)
  -- the document does it
  obtain ⟨hl1, hl2⟩ := h.len
  obtain ⟨vl', rs', e1, e2, e3⟩ := rdo_val (S := S3) h.rl hl1 hl2 hr
  rw [h.same] at e1 e3
  -- it is written over
  obtain ⟨S4, s1, s2, s3⟩ := spoil_val w3 hb1 hb2
  have hid : ∀ i, (gidV il = some i ∨ gidV ir = some i) → n ≤ i ∧ i < S2.objs.length := fun i hi => by
   rcases hi with hi | hi
   ·exact w2.hl.lt hi
   ·exact w2.hr.lt hi
  have d2' := d2.frame (S' := S4) (fun i hi x hx => by
   have key : gidV il ≠ some i ∧ gidV ir ≠ some i := by
    rcases d3.own i hi with q | q
    ·have := hown i q
     exact ⟨fun e => by have := hid i (.inl e); omega, fun e => by have := hid i (.inr e); omega⟩
    ·exact ⟨fun e => by have := hid i (.inl e); omega, fun e => by have := hid i (.inr e); omega⟩
   exact s2 i x key.1 key.2 hx)
  have hA : Alk S4 o H3 vl' rs' := ⟨d2', e2, by rw [e3, d4], by rw [d4]; exact doA_dist h.dist⟩
  have lm : loadP S2 true 6 (.ptr m 0) = some (.agg [.int .i64 r.kind, il, ir, ii, .int .i64 r.low, .int .i64 r.high]) := by rw [loadP_ptr bm]; simp [partOf]
  have lm3 : loadP S3 true 6 (.ptr m 0) = some (.agg [.int .i64 r.kind, il, ir, ii, .int .i64 r.low, .int .i64 r.high]) := by rw [loadP_ptr bm3]; simp [partOf]
  have o1 := w1.hl.one.1
  have o2 := w1.hr.one.1
  have o3 := isl_one w1.hi
  have hrem : arith .rem (.int .i64 (j : Int)) (.int .i64 8) = some (.int .i64 ((j % 8 : Nat) : Int)) := by
   show (if (8 : Int) = 0 then none else some (PV.int .i64 ((j : Int).tmod 8))) = _
   rw [if_neg (by decide)]
   congr 2
  by_cases h3 : j % 8 = 3
  ·-- the head is copied
   obtain ⟨S5, o5, H5, p1, p2, p3, p4, p5, p6⟩ := copy_val hA.ok hA.dist
   have hH3 := hA.ok.frame (S' := S5) (fun i _ x hx => p4 i x hx)
   obtain ⟨S6, S7, r1, r2, q1, q2, q3⟩ := left_val hH3 p2 (fun i hi hi2 => by
    have := p6 i hi
    have := hA.ok.lt i hi2
    omega)
   have hA5 : Alk S7 o5 H5 vl' rs' := ⟨q3, e2, by rw [p3]; exact hA.same, by rw [p3]; exact hA.dist⟩
   have hL := fun fr' => k fr' S7
   clear k
   have h3' : (((j % 8 : Nat) : Int) == 3) = true := by rw [h3]; rfl
   rw [gval_lp]
   simp -implicitDefEqProofs [-z38_r9_go, f0, f1, f2, f7, f8, f9, hlen, hlt, hlt2, hj60, hj1, hg, hpt, c1, pstep, putCells, o1, o2, o3]
   rw [← hS2, ← hm]
   simp -implicitDefEqProofs [-z38_r19_go, f0, f1, f2, f7, f8, f9, lm, lm3, d1, hg, hpt, e1, s1, hrem, h3, h3', hj1, hlt, p1]
   simp -implicitDefEqProofs [f0, f1, f2, f7, f8, f9, pstep, elems, setParts, newArr, peval, fillParts, putCells, q1, row_pval, q2]
   exact hL _ ⟨by simp [f0], by simp [f1], by simp [f2], by simp [hw], o5, H5, vl', rs', hA5, by simp, by simp⟩
  ·have hL := fun fr' => k fr' S4
   clear k
   have h3' : (((j % 8 : Nat) : Int) == 3) = false := by rw [beq_eq_false_iff_ne]; omega
   obtain ⟨q, hq⟩ : ∃ q : Int, q = ((j % 8 : Nat) : Int) := ⟨_, rfl⟩
   rw [← hq] at hrem h3'
   rw [gval_lp]
   simp -implicitDefEqProofs [-z38_r9_go, f0, f1, f2, f7, f8, f9, hlen, hlt, hlt2, hj60, hj1, hg, hpt, c1, pstep, putCells, o1, o2, o3]
   rw [← hS2, ← hm]
   simp -implicitDefEqProofs [f0, f1, f2, f7, f8, f9, lm, lm3, d1, hg, hpt, e1, s1, hrem, h3, h3', hj1, hlt]
   exact hL _ ⟨by simp [f0], by simp [f1], by simp [f2], by simp [hw], o, H3, vl', rs', hA, by simp [f7], by simp⟩
 ·rintro fr S' ⟨f0, f1, f2, f9, o, H, vl, rs, h, f7, f8⟩
  have hc : ¬ ((min xs.length 60 : Nat) : Int) < (xs.length : Int) ∨ ¬ ((min xs.length 60 : Nat) : Int) < 60 := by omega
  have hL := fun fr' => k fr' S' o H vl rs h
  clear k
  by_cases c1 : ((min xs.length 60 : Nat) : Int) < (xs.length : Int)
  ·have c2 : ¬ ((min xs.length 60 : Nat) : Int) < 60 := by omega
   generalize ((min xs.length 60 : Nat) : Int) = m at *
   rw [gval_lp]
   simp -implicitDefEqProofs [f0, f1, f2, f7, f8, f9, hlen, c1, c2]
   exact hL _ (by simp [f1]) (by simp [f2]) (by simp [f7]) (by simp [f8])
  ·generalize ((min xs.length 60 : Nat) : Int) = m at *
   rw [gval_lp]
   simp -implicitDefEqProofs [f0, f1, f2, f7, f8, f9, hlen, c1]
   exact hL _ (by simp [f1]) (by simp [f2]) (by simp [f7]) (by simp [f8])

theorem plays_walk {xs : List PV} {v : PV} (hv : Reads1 6 v xs) (hx : RecsB xs) {low high : Int} : ∃ S', cval T 15 [v, .int .i64 low, .int .i64 high] St0 = some (.bool true, S') := by
 have hnew := new_val' St0
 have hok := new_hok St0
 have fin : ∀ S : St, finish false St0 S (.bool true) = (.bool true, St0) := fun S => finish_pur_free rfl
 have hA : Alk ⟨St0.objs ++ [[], [.nils, .map St0.objs.length, .int .i64 0]], St0.tips⟩ (St0.objs.length + 1) ⟨.nils, St0.objs.length, [], [], 0⟩ .nils [] := ⟨hok, ⟨sl0_nils 2, by simp⟩, rfl, by simp [DistA, abs]⟩
 obtain ⟨S1, hS1⟩ : ∃ S1 : St, S1 = ⟨St0.objs ++ [[], [.nils, .map St0.objs.length, .int .i64 0]], St0.tips⟩ := ⟨_, rfl⟩
 obtain ⟨o, ho⟩ : ∃ o, o = St0.objs.length + 1 := ⟨_, rfl⟩
 rw [← hS1, ← ho] at hnew hA
 refine ⟨St0, cval_ok' fn_15 rfl ?_⟩
 simp -implicitDefEqProofs [z38, hnew]
 refine plays_loop hv hx (low := .int .i64 low) (high := .int .i64 high) (fun fr' S' o H vl rs h g1 g2 g7 g8 => ?_) hA (by simp) (by simp) (by simp) (by simp) (by simp) (by simp)
 obtain ⟨S2, ht⟩ := told_val h.ok h.dist h.rl h.same low high
 simp -implicitDefEqProofs [g1, g2, g7, g8, ht, lives_pval, fin]

theorem law_HeadPlays (xs : denL [.sl tyRec, .int .i64, .int .i64]) (h : wfL [.sl tyRec, .int .i64, .int .i64] xs) (hb : bulkL [.sl tyRec, .int .i64, .int .i64] xs ≤ 1048576) :
  ∃ S', cval T 15 (pvL [.sl tyRec, .int .i64, .int .i64] xs) St0 = some (.bool true, S') := by
 obtain ⟨l, low, high, u⟩ := xs
 obtain ⟨h1, _⟩ := h
 have hb : (Ty.sl tyRec).bulk l + _ ≤ 1048576 := hb
 obtain ⟨xs, r1, r2, r3⟩ := inRs_b h1 (by omega)
 exact plays_walk r1 r2
end Ps
