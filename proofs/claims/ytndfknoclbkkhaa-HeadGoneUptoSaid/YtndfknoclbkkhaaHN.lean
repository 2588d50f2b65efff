/- The head: a round of rows. -/
import Derived.Test.YtndfknoclbkkhaaHM
namespace Ps
set_option linter.unusedSimpArgs false
set_option linter.unusedVariables false
open Go

theorem row_round {S : St} {o : Nat} {H : Hd} (hH : HOk S o H) {vr : PV} {rows : List RowM} (hv : Reads1 3 vr (rows.map rowV)) (hrl : rows.length ≤ 64) {j : Nat} (hj : j < rows.length)
    (hx0 : 0 ≤ rows[j].1 ∧ rows[j].1 ≤ 1099511627776) (hx1 : 0 ≤ rows[j].2.1 ∧ rows[j].2.1 ≤ 1099511627776) {S' : St} {H' : Hd} (h : RInv S o H vr S' H' 0 (j : Int))
    {K : List Kt} {Q : Fr → St → Prop} {fr : Fr} (f2 : fr 2 = .ptr S.objs.length 0) (f3 : fr 3 = .ptr (S.objs.length + 1) 0) (f4 : fr 4 = .ptr (S.objs.length + 2) 0) (f5 : fr 5 = .ptr (S.objs.length + 3) 0)
    (f10 : fr 10 = vr) (f11 : fr 11 = .int .i64 rows.length) (f12 : fr 12 = .int .i64 (j : Int))
    (kE : ∀ e fr' S2, rowStep rows[j] (abs H'.ser) = some e → RInv S o H vr S2 H' (e : Int) (j : Int) → fr' 4 = .ptr (S.objs.length + 2) 0 → Q fr' S2)
    (kN : ∀ fr' S2 H2, rowStep rows[j] (abs H'.ser) = none → RInv S o H vr S2 H2 0 ((j : Int) + 1) → abs H2.ser = pushA rows[j] (abs H'.ser) →
      fr' 2 = .ptr S.objs.length 0 → fr' 3 = .ptr (S.objs.length + 1) 0 → fr' 4 = .ptr (S.objs.length + 2) 0 → fr' 5 = .ptr (S.objs.length + 3) 0 → fr' 10 = vr → fr' 11 = .int .i64 rows.length → fr' 12 = .int .i64 ((j : Int) + 1) →
      Ok (gval T (.lp head_Head_rows_l0 :: .blk 0 :: K) fr' S2) Q) :
    Ok (gval T (.lp head_Head_rows_l0 :: .blk 0 :: K) fr S') Q := by
  have hlt : (j : Int) < (rows.length : Int) := by omega
  have hg := rowG hv hj (k := .i64)
  obtain ⟨x, hx⟩ : ∃ x, x = rows[j] := ⟨_, rfl⟩
  rw [← hx] at hg hx0 hx1 kE kN
  have hw := wrap_up hj (by unfold maxLen; omega : rows.length ≤ maxLen)
  have hp3 : ∀ (a b c : PV) (m : List PV), partOf true 3 (a :: b :: c :: m) = some (.agg [a, b, c]) := pt3
  -- the row in a box
  obtain ⟨S1, hS1⟩ : ∃ S1 : St, S1 = ⟨S'.objs ++ [[.int .i64 x.1, .int .i64 x.2.1, .int .i64 x.2.2]], S'.tips⟩ := ⟨_, rfl⟩
  have h1 : RInv S o H vr S1 H' 0 (j : Int) := by rw [hS1]; exact h.obj _ _
  obtain ⟨n7, hn7⟩ : ∃ n7, n7 = S'.objs.length := ⟨_, rfl⟩
  have hlen := h.len
  have ho7 : S1.objs[n7]? = some [.int .i64 x.1, .int .i64 x.2.1, .int .i64 x.2.2] := by rw [hS1, hn7]; simp
  have hob := h1.ok.obj
  have hlv := hv_len h1.ok
  have hle := h1.ok.szs
  have hcn := h1.ok.cnt
  have htot := h1.ok.tot
  have hA := abs_len H'.ser
  have l0 : loadP S1 false 1 (.ptr S.objs.length 0) = some (.ptr o 0) := by rw [loadP_ptr h1.b0]; exact part1
  have l70 : loadP S1 false 1 (.ptr n7 0) = some (.int .i64 x.1) := by rw [loadP_ptr ho7]; exact part1
  have l71 : loadP S1 false 1 (.ptr n7 1) = some (.int .i64 x.2.1) := by rw [loadP_ptr ho7]; exact part1
  have l712 : loadP S1 true 2 (.ptr n7 1) = some (.agg [.int .i64 x.2.1, .int .i64 x.2.2]) := by rw [loadP_ptr ho7]; exact part2
  have lo0 : loadP S1 false 1 (.ptr o 0) = some H'.hv := by rw [loadP_ptr hob]; exact part1
  have lo2 : loadP S1 false 1 (.ptr o 2) = some (.int .i64 H'.count) := by rw [loadP_ptr hob]; exact part1
  have b2 := h1.b2
  have hbox : ∀ e : Int, RInv S o H vr ⟨S1.objs.set (S.objs.length + 2) [.int .i64 e], S1.tips⟩ H' e (j : Int) := fun e => by
    refine h1.box hH e (j : Int) ?_
    simp only
    have : (S1.objs.set (S.objs.length + 2) [.int .i64 e])[S.objs.length + 3]? = some [.int .i64 (j : Int)] := by rw [List.getElem?_set_ne (by omega)]; exact h1.b3
    obtain ⟨hl, he⟩ := List.getElem?_eq_some_iff.1 this
    rw [← he, List.set_getElem_self]
  by_cases c9 : (H'.ser.length : Int) ≤ x.1
  · have hst : rowStep x (abs H'.ser) = some 9 := by unfold rowStep; rw [hA, if_pos c9]
    have hq := kE 9
    clear kE kN
    rw [gval_lp]
    simp -implicitDefEqProofs [-head_Head_rows_r6_go, f2, f3, f4, f5, f10, f11, f12, hlt, hj, hg, pstep, putCells, hp3]
    rw [← hS1, ← hn7]
    simp -implicitDefEqProofs [f2, f3, f4, f5, l0, l70, lo0, hlv, c9, pstep, b2, putCells]
    exact hq _ _ hst (hbox 9) (by simp [f4])
  obtain ⟨q, hq⟩ : ∃ q : Nat, x.1 = (q : Int) := ⟨x.1.toNat, by omega⟩
  have hql : q < H'.ser.length := by omega
  by_cases c3 : 65536 ≤ H'.count
  · have hst : rowStep x (abs H'.ser) = some 3 := by unfold rowStep; rw [hA, if_neg c9, totA_abs, if_pos (by omega)]
    have hq := kE 3
    clear kE kN
    rw [gval_lp]
    simp -implicitDefEqProofs [-head_Head_rows_r6_go, f2, f3, f4, f5, f10, f11, f12, hlt, hj, hg, pstep, putCells, hp3]
    rw [← hS1, ← hn7]
    simp -implicitDefEqProofs [f2, f3, f4, f5, l0, l70, lo0, lo2, hlv, c9, c3, pstep, b2, putCells]
    exact hq _ _ hst (hbox 3) (by simp [f4])
  obtain ⟨si, hhv, hsi, hs⟩ := hv_cases h1.ok hql
  have hsplit : H'.ser = H'.ser.take q ++ H'.ser[q] :: H'.ser.drop (q + 1) := by
    rw [← List.drop_eq_getElem_cons hql, List.take_append_drop]
  have hta : (H'.ser.take q).length = q := by rw [List.length_take]; omega
  obtain ⟨a, ha⟩ : ∃ a, a = H'.ser.take q := ⟨_, rfl⟩
  obtain ⟨b, hb⟩ : ∃ b, b = H'.ser.drop (q + 1) := ⟨_, rfl⟩
  obtain ⟨r, hr⟩ : ∃ r, r = H'.ser[q] := ⟨_, rfl⟩
  rw [← ha, ← hb, ← hr] at hsplit
  rw [← ha] at hta
  have hr0 := h1.ok.all r (by rw [hsplit]; simp)
  have hls : loadP S1 false 1 (.ptr si (q * 2 + 1)) = some r.sv := by rw [loadP_ptr hs, hsplit, ← hta, serC_dropB]; exact part1
  have hsml : r.sm.length ≤ 65536 := by
    have := h1.ok.tot
    rw [hsplit, total_app, total_cons] at this; omega
  have hlast := last_val hr0.at_ (by omega)
  have hlk := aCall_keep hlast
  have hqi : (q : Int) < (H'.ser.length : Int) := by omega
  rw [hhv] at hlv lo0
  have hlA : lastA (abs H'.ser) x.1.toNat = lastT r.sm := by
    have e : x.1.toNat = q := by omega
    rw [lastA, e, hsplit, abs_app, abs_cons, List.getElem?_append_right (by rw [abs_len]; omega), abs_len, hta]
    simp
  rw [hq] at c9
  by_cases c13 : x.2.1 ≤ lastT r.sm
  · have hst : rowStep x (abs H'.ser) = some 13 := by
      unfold rowStep; rw [hA, if_neg (by omega), totA_abs, if_neg (by omega), hlA, if_pos c13]
    have hq' := kE 13
    clear kE kN
    rw [gval_lp]
    simp -implicitDefEqProofs [-head_Head_rows_r6_go, f2, f3, f4, f5, f10, f11, f12, hlt, hj, hg, pstep, putCells, hp3]
    rw [← hS1, ← hn7]
    simp -implicitDefEqProofs [f2, f3, f4, f5, l0, l70, l71, lo0, lo2, hlv, hq, c9, c3, hql, hqi, hls, hlk, c13, pstep, b2, putCells]
    exact hq' _ _ hst (hbox 13) (by simp [f4])
  have hst : rowStep x (abs H'.ser) = none := by
    unfold rowStep; rw [hA, if_neg (by omega), totA_abs, if_neg (by omega), hlA, if_neg c13]
  have hkN := fun fr' S2 H2 => kN fr' S2 H2 hst
  clear kE kN
  obtain ⟨d1, d2, d3⟩ := dis_at h1.ok hsplit hsi
  -- the append
  obtain ⟨S2, hS2⟩ : ∃ S2 : St, S2 = ⟨S1.objs, S1.tips ++ [(1, 2)]⟩ := ⟨_, rfl⟩
  have h2 : RInv S o H vr S2 H' 0 (j : Int) := by
    have := h1.obj [] (S1.tips ++ [(1, 2)])
    rw [List.append_nil] at this
    rw [hS2]; exact this
  have hr2 := h2.ok.all r (by rw [hsplit]; simp)
  obtain ⟨ni, S3, g1, g2, g3, g4, g5, g6⟩ := gapp_sm hr2 (by omega) (t := x.2.1) (v := x.2.2)
  have hl2 : S2.objs = S1.objs := by rw [hS2]
  have hlt1 : ∀ i ∈ ownH o H', i < S1.objs.length := h1.ok.lt
  have ho3 : S3.objs[o]? = some [H'.hv, .map H'.mi, .int .i64 H'.count] := g6 o _ d2 (by rw [hl2]; exact hob)
  have hs3 : S3.objs[si]? = some (serC (a ++ r :: b)) := g6 si _ d3 (by rw [hl2, ← hsplit]; exact hs)
  have h0own : S.objs.length ∉ ownH o H' := h1.out hH (by omega) (by omega)
  have hsvown : ∀ i, gidV r.sv = some i → i ∈ ownH o H' := fun i hi => by
    simp only [ownH, List.mem_cons, List.mem_append]
    exact .inr (.inr (.inr (List.mem_flatMap.2 ⟨r, by rw [hsplit]; simp, mem_gl.2 hi⟩)))
  have hb0 : S3.objs[S.objs.length]? = some [.ptr o 0] := g6 _ _ (fun w => h0own (hsvown _ w)) (by rw [hl2]; exact h1.b0)
  have hcnt1 : H'.count + 1 = (H'.count + 1 : Int) := rfl
  have hw1 : IntKind.i64.wrap (H'.count + 1) = H'.count + 1 := wrap_i64 (by omega) (by omega)
  -- the two stores
  obtain ⟨S4, hS4⟩ : ∃ S4 : St, S4 = ⟨S3.objs.set si (serC (a ++ ⟨r.lv, .osl ni 0 (r.sm.length + 1) 2, r.sm ++ [(x.2.1, x.2.2)], r.lb⟩ :: b)), S3.tips⟩ := ⟨_, rfl⟩
  have ho4 : S4.objs[o]? = some [H'.hv, .map H'.mi, .int .i64 H'.count] := by rw [hS4]; simp only; rw [List.getElem?_set_ne (Ne.symm d1)]; exact ho3
  have hs4 : S4.objs[si]? = some (serC (a ++ ⟨r.lv, .osl ni 0 (r.sm.length + 1) 2, r.sm ++ [(x.2.1, x.2.2)], r.lb⟩ :: b)) := by rw [hS4]; exact get_set hs3
  obtain ⟨S5, hS5⟩ : ∃ S5 : St, S5 = ⟨S4.objs.set o [H'.hv, .map H'.mi, .int .i64 (H'.count + 1)], S4.tips⟩ := ⟨_, rfl⟩
  have hot : ∀ i, i ≠ o → i ≠ si → S5.objs[i]? = S3.objs[i]? := fun i q1 q2 => by
    rw [hS5, hS4]; simp only
    rw [List.getElem?_set_ne (Ne.symm q1), List.getElem?_set_ne (Ne.symm q2)]
  have hl35 : S5.objs.length = S3.objs.length := by rw [hS5, hS4]; simp
  have hsilt := (List.getElem?_eq_some_iff.1 hs).1
  have holt := (List.getElem?_eq_some_iff.1 hob).1
  rw [← hl2] at hsilt holt
  have hs5n : S5.objs[ni]? = some (smC (r.sm ++ [(x.2.1, x.2.2)])) := by
    rw [hot ni (by omega) (by omega)]
    exact g3
  have hsm5 : SmAt S5 (.osl ni 0 (r.sm.length + 1) 2) (r.sm ++ [(x.2.1, x.2.2)]) := .inr ⟨ni, [], by simp, by rw [List.append_nil]; exact hs5n⟩
  have hu := h2.ok.upd (S' := S5) hsplit hsi (sv := .osl ni 0 (r.sm.length + 1) 2) (sm := r.sm ++ [(x.2.1, x.2.2)]) (c := H'.count + 1) (by rw [hS5]; exact get_set ho4)
    (by rw [hS5]; simp only; rw [List.getElem?_set_ne d1]; exact hs4)
    (fun i y q1 q2 q3 hy => by rw [hot i q1 q2]; exact g6 i y q3 hy) (by omega) hsm5 (fun id hid => by
      cases hid
      exact ⟨_, hs5n, by simp [smC]⟩)
    (fun id hid => by cases hid; exact .inr g2) (rises_push hr0.rise (by omega) hx1.2 hx1.1) (by
      rw [hcn, hsplit, total_app, total_cons, total_app, total_cons]; simp; omega) (by
      have : total H'.ser < 65536 := by omega
      rw [hsplit, total_app, total_cons] at this
      rw [total_app, total_cons]; simp; omega)
  have h5 := h2.step hH hu.1 hu.2
  obtain ⟨S6, hS6⟩ : ∃ S6 : St, S6 = ⟨S5.objs.set (S.objs.length + 3) [.int .i64 ((j : Int) + 1)], S5.tips⟩ := ⟨_, rfl⟩
  have h6 : RInv S o H vr S6 ⟨H'.hv, H'.mi, a ++ ⟨r.lv, .osl ni 0 (r.sm.length + 1) 2, r.sm ++ [(x.2.1, x.2.2)], r.lb⟩ :: b, H'.ids, H'.count + 1⟩ 0 ((j : Int) + 1) := by
    refine h5.box hH 0 ((j : Int) + 1) ?_
    rw [hS6]; simp only
    congr 1
    obtain ⟨hl, he⟩ := List.getElem?_eq_some_iff.1 h5.b2
    rw [← he, List.set_getElem_self]
  have habs : abs (a ++ ⟨r.lv, .osl ni 0 (r.sm.length + 1) 2, r.sm ++ [(x.2.1, x.2.2)], r.lb⟩ :: b) = pushA x (abs H'.ser) := by
    have e : x.1.toNat = (abs a).length := by rw [abs_len]; omega
    rw [hsplit, abs_app, abs_cons, abs_app, abs_cons, pushA, e, modify_mid]
  have hput := serC_put a r b (.osl ni 0 (r.sm.length + 1) 2) (r.sm ++ [(x.2.1, x.2.2)])
  rw [hta] at hput
  have hle1 : q * 2 + 1 + 1 ≤ (serC (a ++ r :: b)).length := by rw [serC_len, ← hsplit]; omega
  have b34 : S4.objs[S.objs.length]? = some [.ptr o 0] := by
    rw [hS4]; simp only; rw [List.getElem?_set_ne (fun w => h0own (by
      simp only [ownH, List.mem_cons, List.mem_append]
      exact .inr (.inr (.inl (by rw [← w]; exact mem_gl.2 hsi)))))]; exact hb0
  have l04 : loadP S4 false 1 (.ptr S.objs.length 0) = some (.ptr o 0) := by rw [loadP_ptr b34]; exact part1
  have lo24 : loadP S4 false 1 (.ptr o 2) = some (.int .i64 H'.count) := by rw [loadP_ptr ho4]; exact part1
  have l53 : loadP S5 false 1 (.ptr (S.objs.length + 3) 0) = some (.int .i64 (j : Int)) := by rw [loadP_ptr h5.b3]; exact part1
  have b53 := h5.b3
  have hap : appendedS S2 2 (.sl (some (S1.tips.length, 1)) [.agg [.int .i64 x.2.1, .int .i64 x.2.2]] []) = some [.agg [.int .i64 x.2.1, .int .i64 x.2.2]] := by
    rw [appendedS_sl]; simp [szOk, PV.cells]
  rw [gval_lp]
  simp -implicitDefEqProofs [-head_Head_rows_r6_go, f2, f3, f4, f5, f10, f11, f12, hlt, hj, hg, pstep, putCells, hp3]
  rw [← hS1, ← hn7]
  simp -implicitDefEqProofs [-head_Head_rows_r14_go, f2, f3, f4, f5, f10, f11, f12, l0, l70, l71, l712, lo0, lo2, hlv, hq, c9, c3, hql, hqi, hls, hlk, c13, pstep, elems, setParts, newArr]
  rw [← hS2, g1]
  simp -implicitDefEqProofs [-head_Head_rows_r14_go, f2, f3, f4, f5, f10, f11, f12, hs3, hle1, pstep]
  rw [hput, ← hS4]
  simp -implicitDefEqProofs [-head_Head_rows_r15_go, f2, f3, f4, f5, f10, f11, f12, l04, lo24, hw1, pstep, ho4, putCells]
  rw [← hS5]
  simp -implicitDefEqProofs [f2, f3, f4, f5, f10, f11, f12, l53, hw, pstep, b53, putCells]
  rw [← hS6]
  exact hkN _ S6 _ h6 habs (by simp [f2]) (by simp [f3]) (by simp [f4]) (by simp [f5]) (by simp [f10]) (by simp [f11]) (by simp [hw])

end Ps
