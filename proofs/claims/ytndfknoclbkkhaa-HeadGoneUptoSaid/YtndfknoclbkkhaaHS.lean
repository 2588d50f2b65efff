/- The law HeadGone. -/
import Derived.Test.YtndfknoclbkkhaaHR
namespace Ps
set_option linter.unusedSimpArgs false
set_option linter.unusedVariables false
open Go

theorem fn_474 : T.fn 474 = some (.code law13_HeadGone) := rfl

theorem gone_loop {xs : List PV} {v : PV} (hv : Reads1 6 v xs) (hx : RecsI xs) {o : Nat} {K : List Kt} {Q : Fr → St → Prop} {a1 a2 a3 : PV}
    (k : ∀ fr' S' H', HOk S' o H' → fr' 1 = a1 → fr' 2 = a2 → fr' 3 = a3 → fr' 9 = .ptr o 0 → Ok (gval T K fr' S') Q)
    {fr : Fr} {S : St} {H : Hd} (h : HOk S o H) (f0 : fr 0 = v) (f1 : fr 1 = a1) (f2 : fr 2 = a2) (f3 : fr 3 = a3) (f9 : fr 9 = .ptr o 0) (f10 : fr 10 = .int .i64 0) :
    Ok (gval T (.lp law13_HeadGone_l0 :: .blk 0 :: K) fr S) Q := by
  have hlen := hv.len
  refine lp_up (min xs.length 60) (fun j fr S' => fr 0 = v ∧ fr 1 = a1 ∧ fr 2 = a2 ∧ fr 3 = a3 ∧ fr 9 = .ptr o 0 ∧ fr 10 = .int .i64 (j : Int) ∧ ∃ H', HOk S' o H') ?_ ?_ 0 (Nat.zero_le _) _ _ ⟨f0, f1, f2, f3, f9, by simpa using f10, H, h⟩
  · clear k
    rintro j fr S' hj ⟨f0, f1, f2, f3, f9, f10, H', h⟩ k
    have hj1 : j < xs.length := by omega
    have hlt : (j : Int) < (xs.length : Int) := by omega
    have hlt2 : (j : Int) < 60 := by omega
    have hg := hv.get j hj1 .i64
    obtain ⟨r, cs, he, hr⟩ := hx xs[j] (List.getElem_mem hj1)
    rw [he, cells_agg] at hg
    have hpt := pt_all (recC_all hr).1
    obtain ⟨S2, H2, b1, b2, _, _⟩ := do_val h hr
    have hw : IntKind.i64.wrap ((j : Int) + 1) = (j : Int) + 1 := wrap_i64 (by omega) (by omega)
    have hL := fun fr' => k fr' S2
    clear k
    rw [gval_lp]
    simp -implicitDefEqProofs [f0, f1, f2, f3, f9, f10, hlen, hlt, hlt2, hj1, hg, hpt, b1]
    exact hL _ ⟨by simp [f0], by simp [f1], by simp [f2], by simp [f3], by simp [f9], by simp [hw], H2, b2⟩
  · rintro fr S' ⟨f0, f1, f2, f3, f9, f10, H', h⟩
    have hc : ¬ ((min xs.length 60 : Nat) : Int) < (xs.length : Int) ∨ ¬ ((min xs.length 60 : Nat) : Int) < 60 := by omega
    have hL := fun fr' => k fr' S' H' h
    clear k
    by_cases c1 : ((min xs.length 60 : Nat) : Int) < (xs.length : Int)
    · have c2 : ¬ ((min xs.length 60 : Nat) : Int) < 60 := by omega
      generalize ((min xs.length 60 : Nat) : Int) = m at *
      rw [gval_lp]
      simp -implicitDefEqProofs [f0, f1, f2, f3, f9, f10, hlen, c1, c2]
      exact hL _ (by simp [f1]) (by simp [f2]) (by simp [f3]) (by simp [f9])
    · generalize ((min xs.length 60 : Nat) : Int) = m at *
      rw [gval_lp]
      simp -implicitDefEqProofs [f0, f1, f2, f3, f9, f10, hlen, c1]
      exact hL _ (by simp [f1]) (by simp [f2]) (by simp [f3]) (by simp [f9])

theorem nodel {id low high : Int} (h0 : 0 ≤ id) (h1 : id ≤ 256) (h2 : 0 ≤ low) (h3 : high ≤ 1099511627776) (h4 : low ≤ high) : recN ⟨3, [], [], [id], low, high⟩ = 0 := by
  have e : postN [id] = 0 := by
    simp only [postN, postR]
    have : ¬ (id < 0 ∨ 1099511627776 < id) := by omega
    simp [this]
  simp only [recN, delN, e]
  have a : ¬ (low < 0 ∨ 1099511627776 < high) := by omega
  have b : ¬ high < low := by omega
  simp [a, b]
theorem rem_one {id low high : Int} {A : Ab} (h0 : 0 ≤ id) (h1 : id < (A.length : Int)) (hn : recN ⟨3, [], [], [id], low, high⟩ = 0) : doA ⟨3, [], [], [id], low, high⟩ A = (rem1 low high id.toNat A, 0) := by
  have : remE [id] A.length = 0 := by
    have : ¬ (A.length : Int) ≤ id := by omega
    simp [remE, this]
  simp [doA, hn, doRem, this, remA]

theorem total_rem1 {low high : Int} {A : Ab} {i : Nat} : totA (rem1 low high i (rem1 low high i A)) = totA (rem1 low high i A) := by
  congr 1
  unfold rem1
  rw [List.modify_modify_eq]
  congr 1
  funext p
  simp [kept_again]

theorem sm_le_total {r : Sr} : ∀ {l : List Sr}, r ∈ l → r.sm.length ≤ total l
  | x :: l, h => by
    rw [total_cons]
    rcases List.mem_cons.1 h with rfl | h
    · omega
    · have := sm_le_total h; omega
set_option maxHeartbeats 4000000 in
theorem gone_walk {xs : List PV} {v : PV} (hv : Reads1 6 v xs) (hx : RecsI xs) {id low high : Int} : ∃ S', cval T 474 [v, .int .i64 id, .int .i64 low, .int .i64 high] St0 = some (.bool true, S') := by
  have fin : ∀ S : St, finish false St0 S (.bool true) = (.bool true, St0) := fun S => finish_pur_free rfl
  have hnew := new_val' St0
  have hok := new_hok St0
  obtain ⟨S1, hS1⟩ : ∃ S1 : St, S1 = ⟨St0.objs ++ [[], [.nils, .map St0.objs.length, .int .i64 0]], St0.tips⟩ := ⟨_, rfl⟩
  obtain ⟨o, ho⟩ : ∃ o, o = St0.objs.length + 1 := ⟨_, rfl⟩
  rw [← hS1, ← ho] at hnew hok
  refine ⟨St0, cval_ok' fn_474 rfl ?_⟩
  simp -implicitDefEqProofs [law13_HeadGone, hnew]
  refine gone_loop hv hx (a1 := .int .i64 id) (a2 := .int .i64 low) (a3 := .int .i64 high) (fun fr S H h g1 g2 g3 g9 => ?_) hok (by simp) (by simp) (by simp) (by simp) (by simp) (by simp)
  have hlen := len_val h.at
  have hle := h.szs
  by_cases c1 : low < 0
  · simp -implicitDefEqProofs [-law13_HeadGone_r10_go, g1, g2, g3, g9, c1, lives_pval, fin]
  by_cases c2 : 1099511627776 < high
  · simp -implicitDefEqProofs [-law13_HeadGone_r10_go, g1, g2, g3, g9, c1, c2, lives_pval, fin]
  by_cases c3 : high < low
  · simp -implicitDefEqProofs [-law13_HeadGone_r10_go, g1, g2, g3, g9, c1, c2, c3, lives_pval, fin]
  by_cases c4 : id < 0
  · simp -implicitDefEqProofs [-law13_HeadGone_r10_go, g1, g2, g3, g9, c1, c2, c3, c4, lives_pval, fin]
  obtain ⟨q, hq⟩ : ∃ q : Nat, id = (q : Int) := ⟨id.toNat, by omega⟩
  subst hq
  by_cases c5 : (H.ser.length : Int) ≤ (q : Int)
  · have c5' : H.ser.length ≤ q := by omega
    simp -implicitDefEqProofs [-law13_HeadGone_r10_go, g1, g2, g3, g9, c1, c2, c3, c4, c5', hlen, lives_pval, fin]
  have hql : q < H.ser.length := by omega
  obtain ⟨r, hr⟩ : ∃ r, H.ser[q]? = some r := ⟨_, List.getElem?_eq_getElem hql⟩
  have hrm := List.mem_of_getElem? hr
  have hr0 := h.all r hrm
  have hq' : q ≤ maxLen := by unfold maxLen; omega
  have hsml : ∀ {H : Hd} {S : St} {r : Sr}, HOk S o H → r ∈ H.ser → r.sm.length ≤ 1048576 := fun {H S r} h hr => by
    have := h.tot
    have := sm_le_total hr
    omega
  have hwl : IntKind.i64.wrap (low - 1) = low - 1 := wrap_i64 (by omega) (by omega)
  have hwh : IntKind.i64.wrap (high + 1) = high + 1 := wrap_i64 (by omega) (by omega)
  obtain ⟨va, s1, a1⟩ := select_val h.at hr hq' (hsml h hrm) (low := 0) (high := low - 1)
  obtain ⟨vb, s2, a2⟩ := select_val h.at hr hq' (hsml h hrm) (low := high + 1) (high := 1099511627776)
  obtain ⟨r0, hr0'⟩ : ∃ r0 : RecM, r0 = ⟨3, [], [], [(q : Int)], low, high⟩ := ⟨_, rfl⟩
  -- the record
  obtain ⟨S2, hS2⟩ : ∃ S2 : St, S2 = ⟨S.objs ++ [[.int .i64 3, .nils, .nils, .sl (some (S.tips.length, 1)) [.int .i64 (q : Int)] [], .int .i64 low, .int .i64 high]], S.tips ++ [(1, 1)]⟩ := ⟨_, rfl⟩
  have hg2 : ∀ (i : Nat) (x : List PV), S.objs[i]? = some x → S2.objs[i]? = some x := fun i x hx => by
    rw [hS2]; simp only; rw [List.getElem?_append_left (List.getElem?_eq_some_iff.1 hx).1]; exact hx
  have h2 := h.grow hg2
  have hnb : S.objs.length ∉ ownH o H := fun hi => by have := h.lt _ hi; omega
  obtain ⟨cs, hcs⟩ : ∃ cs, cs = [PV.int .i64 3, .nils, .nils, .sl (some (S.tips.length, 1)) [.int .i64 (q : Int)] [], .int .i64 low, .int .i64 high] := ⟨_, rfl⟩
  have hS2' : S2 = ⟨S.objs ++ [cs], S.tips ++ [(1, 1)]⟩ := by rw [hS2, hcs]
  have hrc : RecC ⟨3, [], [], [(q : Int)], low, high⟩ cs := by
    refine ⟨⟨.nils, .nils, .sl (some (S.tips.length, 1)) [.int .i64 (q : Int)] [], hcs, .inl ⟨rfl, rfl⟩, .inl ⟨rfl, rfl⟩, .inr ⟨_, [], rfl, by rw [List.append_nil]; exact nV_cells _⟩⟩, ?_⟩
    simp [maxLen]
  have hb2 : S2.objs[S.objs.length]? = some cs := by rw [hS2, hcs]; simp
  have hpt : partOf true 6 cs = some (.agg cs) := pt_all (recC_all hrc).1
  have lb2 : loadP S2 true 6 (.ptr S.objs.length 0) = some (.agg cs) := by rw [loadP_ptr hb2]; exact hpt
  have hn := nodel (id := (q : Int)) (low := low) (high := high) (by omega) (by omega) (by omega) (by omega) (by omega)
  have hA := abs_len H.ser
  obtain ⟨S3, H3, d1, d2, d3, d4⟩ := do_val h2 hrc
  rw [rem_one (by omega) (by omega) hn] at d1 d4
  simp only [Int.toNat_natCast] at d1 d4
  have hb3 : S3.objs[S.objs.length]? = some cs := d3.keep _ _ hnb hb2
  have lb3 : loadP S3 true 6 (.ptr S.objs.length 0) = some (.agg cs) := by rw [loadP_ptr hb3]; exact hpt
  -- what is there then
  have hl3 : H3.ser.length = H.ser.length := by
    have := congrArg List.length d4
    rw [abs_len] at this; simp [rem1, abs_len] at this; exact this
  obtain ⟨r3, hr3⟩ : ∃ r3, H3.ser[q]? = some r3 := ⟨_, List.getElem?_eq_getElem (by omega)⟩
  have hr3m := List.mem_of_getElem? hr3
  have hsm3 : r3.sm = kept low high r.sm := by
    have e := congrArg (fun l => l[q]?) d4
    simp only [abs, rem1, List.getElem?_map, hr3, List.getElem?_modify_eq, hr, Option.map_some, Option.map_eq_map, Option.some.injEq, Prod.mk.injEq] at e
    simpa using e.2
  have hlen3 := len_val d2.at
  have hcnt3 := count_val d2.at
  obtain ⟨vc, s3, a3⟩ := select_val d2.at hr3 hq' (hsml d2 hr3m) (low := 0) (high := 1099511627776)
  obtain ⟨vd, s4, a4⟩ := select_val d2.at hr3 hq' (hsml d2 hr3m) (low := low) (high := high)
  have hall := filter_all (d2.all r3 hr3m).rise.2
  rw [hall] at a3
  rw [hsm3, kept_none] at a4
  have htwo := kept_two (l := r.sm) (low := low) (high := high) (by omega) hr0.rise.1 hr0.rise.2
  rw [hsm3, htwo] at a3
  have hlv4 := a4.len
  -- laid behind one another
  have hsl := hsml h hrm
  have hla := List.length_filter_le (inTm 0 (low - 1)) r.sm
  have hlb := List.length_filter_le (inTm (high + 1) 1099511627776) r.sm
  obtain ⟨w1, S4, e1, e2, e3⟩ := (accg_new 2 [] (Grows.refl S3)).app (bytes := 16) ((r.sm.filter (inTm 0 (low - 1))).map smE) (by simp; omega)
  obtain ⟨w2, S5, e4, e5, e6⟩ := e2.app (bytes := 16) ((r.sm.filter (inTm (high + 1) 1099511627776)).map smE) (by simp; omega)
  simp only [List.length_nil, List.nil_append] at e1 e4 e5
  have hw2 : Reads1 2 w2 ((r.sm.filter (inTm 0 (low - 1)) ++ r.sm.filter (inTm (high + 1) 1099511627776)).map smE) := by
    rw [List.map_append]
    exact (e5.isSl (fun e he => by
      rw [← List.map_append] at he
      obtain ⟨x, _, rfl⟩ := List.mem_map.1 he; rfl)).reads
  have hl2 : r.sm.length ≤ 1048576 := hsl
  have hkl : (r.sm.filter (inTm 0 (low - 1)) ++ r.sm.filter (inTm (high + 1) 1099511627776)).length ≤ 1048576 := by
    rw [← htwo]; exact Nat.le_trans (kept_len _ _ _) hsl
  have hcs2 := csame_val a3.reads hw2 hkl S5
  have hob5 : S5.objs = S3.objs := e6.trans e3
  have d5 := d2.frame (S' := S5) (fun i _ x hx => by rw [hob5]; exact hx)
  have hb5 : S5.objs[S.objs.length]? = some cs := by rw [hob5]; exact hb3
  have lb5 : loadP S5 true 6 (.ptr S.objs.length 0) = some (.agg cs) := by rw [loadP_ptr hb5]; exact hpt
  obtain ⟨S6, H6, k1, k2, k3, k4⟩ := do_val d5 hrc
  have hA3 : (abs H3.ser).length = H3.ser.length := abs_len _
  rw [rem_one (by omega) (by omega) hn] at k1 k4
  simp only [Int.toNat_natCast] at k1 k4
  have hcnt6 := count_val k2.at
  have hcc : H6.count = H3.count := by
    rw [k2.cnt, d2.cnt, ← totA_abs, ← totA_abs, k4, d4, total_rem1]
  rw [hcc] at hcnt6
  have ha1 := fun S => a1.appd S
  have ha2 := fun S => a2.appd S
  have hsm2 : (q : Int) < (H.ser.length : Int) := by omega
  simp -implicitDefEqProofs [-law13_HeadGone_r13_go, g1, g2, g3, g9, c1, c2, c3, c4, c5, hlen, hwl, hwh, s1, s2, pstep, peval, fillParts, elems, setParts, newArr, putCells, hql]
  rw [← hcs, ← hS2']
  simp -implicitDefEqProofs [-law13_HeadGone_r15_go, g1, g2, g3, g9, lb2, d1, pstep]
  simp -implicitDefEqProofs [-law13_HeadGone_r18_go, g1, g2, g3, g9, s3, s4, hcnt3]
  simp -implicitDefEqProofs [g1, g2, g3, g9, pstep, elems, setParts, newArr, hlv4, ha1, ha2, e1, e4, hcs2, lb5, k1, hcnt6, lives_pval, fin]

theorem law_HeadGone (xs : denL [.sl tyRec, .int .i64, .int .i64, .int .i64]) (h : wfL [.sl tyRec, .int .i64, .int .i64, .int .i64] xs) (hb : bulkL [.sl tyRec, .int .i64, .int .i64, .int .i64] xs ≤ 1048576) :
    ∃ S', cval T 474 (pvL [.sl tyRec, .int .i64, .int .i64, .int .i64] xs) St0 = some (.bool true, S') := by
  obtain ⟨l, id, low, high, u⟩ := xs
  obtain ⟨h1, _⟩ := h
  have hb : (Ty.sl tyRec).bulk l + _ ≤ 1048576 := hb
  obtain ⟨xs, r1, r2, r3⟩ := inRs_ok h1 (by omega)
  exact gone_walk r1 r2

end Ps
