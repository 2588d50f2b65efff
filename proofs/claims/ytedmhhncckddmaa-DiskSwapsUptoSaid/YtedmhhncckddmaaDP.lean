/- The laws DiskNil and DiskDark. -/
import Derived.Test.YtedmhhncckddmaaDO
namespace Ps
set_option linter.unusedSimpArgs false
set_option linter.unusedVariables false
open Go

theorem fn_470 : T.fn 470 = some (.code law04_DiskNil) := rfl
theorem fn_465 : T.fn 465 = some (.code law04_DiskDark) := rfl

theorem nil_act {S : St} {a : ActD} (ha : a.Wf) : ∃ e : Int, cval T 19 [.nilp, actV a] S = some (.tup [.int .i64 e, .nils], S) ∧ ((e = 1 ∧ (1 ≤ a.kind ∧ a.kind ≤ 7 ∨ a.kind = 9)) ∨ (e = 0 ∧ ¬ (1 ≤ a.kind ∧ a.kind ≤ 7 ∨ a.kind = 9))) := by
  have ff : ∀ n : Int, finish false S S (.tup [.int .i64 n, .nils]) = (.tup [.int .i64 n, .nils], S) := fun n => by rw [fin_same]; rfl
  by_cases h0 : a.kind < 1 ∨ 9 < a.kind
  · exact ⟨0, do_0 ha h0, .inr ⟨rfl, by omega⟩⟩
  by_cases h1 : a.kind = 1
  · exact ⟨1, do_1 ha h1 create_nil (ff _), .inl ⟨rfl, by omega⟩⟩
  by_cases h2 : a.kind = 2
  · exact ⟨1, do_2 ha h2 append_nil (ff _), .inl ⟨rfl, by omega⟩⟩
  by_cases h3 : a.kind = 3
  · exact ⟨1, do_3 ha h3 rename_nil (ff _), .inl ⟨rfl, by omega⟩⟩
  by_cases h4 : a.kind = 4
  · exact ⟨1, do_4 ha h4 remove_nil (ff _), .inl ⟨rfl, by omega⟩⟩
  by_cases h5 : a.kind = 5
  · exact ⟨1, do_5 ha h5 sync_nil (ff _), .inl ⟨rfl, by omega⟩⟩
  by_cases h6 : a.kind = 6
  · exact ⟨1, do_6 ha h6 syncdir_nil (ff _), .inl ⟨rfl, by omega⟩⟩
  by_cases h7 : a.kind = 7
  · exact ⟨1, do_7 ha h7 read_nil (ff _), .inl ⟨rfl, by omega⟩⟩
  by_cases h8 : a.kind = 8
  · exact ⟨0, do_8 ha h8 fuse_nil (ff _), .inr ⟨rfl, by omega⟩⟩
  · exact ⟨1, do_9 ha (by omega) crash_nil (ff _), .inl ⟨rfl, by omega⟩⟩

theorem actV_cells (a : ActD) : (actV a).cells = [.int .i64 a.kind, .str a.name, .str a.to, a.bv, .int .i64 a.n, a.kv] := rfl
theorem part6' {x1 x2 x3 x4 x5 x6 : PV} : partOf true 6 [x1, x2, x3, x4, x5, x6] = some (.agg [x1, x2, x3, x4, x5, x6]) := rfl

theorem law_DiskNil (xs : denL [tyAct]) (h : wfL [tyAct] xs) : ∃ S', cval T 470 (pvL [tyAct] xs) St0 = some (.bool true, S') := by
  obtain ⟨x, u⟩ := xs
  obtain ⟨h1, _⟩ := h
  have ha := actOf_wf h1
  refine ⟨St0, ?_⟩
  show cval T 470 [tyAct.pv x] St0 = _
  rw [actV_of]
  generalize actOf x = a at ha
  obtain ⟨e, hc, he⟩ := nil_act (S := St0) ha
  have hc' := hc
  simp only [actV] at hc
  refine cval_ok' fn_470 rfl ?_
  rcases he with ⟨rfl, hk⟩ | ⟨rfl, hk⟩
  · by_cases hk1 : 1 ≤ a.kind
    · by_cases hk7 : a.kind ≤ 7
      · simp -implicitDefEqProofs [law04_DiskNil, pstep, actV_cells, ha.bone, ha.kone, part6', part1, hc, fuse_nil, list_nil, done_nil, copy_nil, lives_pval, hk1, hk7]
      · have hk9 : a.kind = 9 := by omega
        rw [hk9] at hc
        simp -implicitDefEqProofs [law04_DiskNil, pstep, actV_cells, ha.bone, ha.kone, part6', part1, hc, fuse_nil, list_nil, done_nil, copy_nil, lives_pval, hk1, hk7, hk9]
    · exfalso; omega
  · by_cases hk1 : 1 ≤ a.kind
    · have hk7 : ¬ a.kind ≤ 7 := by omega
      have hk9 : (a.kind == 9) = false := by rw [beq_eq_false_iff_ne]; omega
      simp -implicitDefEqProofs [law04_DiskNil, pstep, actV_cells, ha.bone, ha.kone, part6', part1, hc, fuse_nil, list_nil, done_nil, copy_nil, lives_pval, hk1, hk7, hk9]
    · have hk9 : (a.kind == 9) = false := by rw [beq_eq_false_iff_ne]; omega
      simp -implicitDefEqProofs [law04_DiskNil, pstep, actV_cells, ha.bone, ha.kone, part6', part1, hc, fuse_nil, list_nil, done_nil, copy_nil, lives_pval, hk1, hk9]

theorem dark_does {D D' : Dk} {a : ActD} {r : Int} {bv : PV} (hd : D.dark = true) (hk : 1 ≤ a.kind ∧ a.kind ≤ 7) (h : DoesD D a r bv D') : (r == 0) = false ∧ bv = .nils ∧ D'.dark = true ∧ D'.done = D.done := by
  have hs6 : stepR D = 6 := by simp [stepR, hd]
  have hsD : stepD D = { D with dark := true } := by simp [stepD, hd]
  cases h with
  | refuse hk' hr => exact ⟨by simpa using hr, rfl, hd, rfl⟩
  | dark hk' hr hs => rw [hsD]; exact ⟨rfl, rfl, rfl, rfl⟩
  | create hk' hr hs F wv' hF => rw [hs6] at hs; cases hs
  | append hk' hr hs f v' hf => rw [hs6] at hs; cases hs
  | rename hk' hr hs wv' => rw [hs6] at hs; cases hs
  | remove hk' hr hs wv' => rw [hs6] at hs; cases hs
  | sync hk' hr hs f hf => rw [hs6] at hs; cases hs
  | syncdir hk' hs B => rw [hs6] at hs; cases hs
  | read hk' =>
    have hr : readE D a.name ≠ 0 := by
      unfold readE
      split
      · assumption
      · simp [hd]
    exact ⟨by simpa using hr, by simp [readV, hr], hd, rfl⟩
  | fuse hk' => omega
  | crash hk' => omega
  | none hk' => omega

theorem dark_loop {ml : List ActD} {v : PV} (hv : Reads1 6 v (ml.map actV)) (hl : ml.length ≤ maxLen) (hw : ∀ a ∈ ml, a.Wf) {o : Nat} {n : Int} {K : List Kt} {Q : Fr → St → Prop} :
    ∀ (rest pre : List ActD), ml = pre ++ rest → pre.length ≤ 15 → ∀ (fr : Fr) (S : St) (D : Dk), At S o (100 + 2 * pre.length) D → D.dark = true → D.done = n → fr 7 = .ptr o 0 → fr 2 = v → fr 9 = .int .i64 pre.length →
    (∀ fr' S' D', At S' o 150 D' → D'.dark = true → D'.done = n → fr' 7 = .ptr o 0 → fr' 8 = fr 8 → Ok (gval T K fr' S') Q) →
    Ok (gval T (.lp law04_DiskDark_l0 :: .blk 0 :: K) fr S) Q := by
  intro rest
  induction rest with
  | nil =>
    intro pre hp h15 fr S D h hd hn h7 h2 h9 k
    rw [List.append_nil] at hp; subst hp
    have hlen := hv.len
    rw [List.length_map] at hlen
    rw [gval_lp]
    simp -implicitDefEqProofs [h7, h2, h9, hlen]
    exact k _ S D (h.mono (by omega)) hd hn (by simp [h7]) (by simp)
  | cons a rest ih =>
    intro pre hp h15 fr S D h hd hn h7 h2 h9 k
    have hi : pre.length < ml.length := by rw [hp]; simp
    have hlen := hv.len
    rw [List.length_map] at hlen
    have hg := hv.get pre.length (by simpa using hi) .i64
    have hgx : (ml.map actV)[pre.length]'(by simpa using hi) = actV a := by simp [hp]
    rw [hgx, actV_cells] at hg
    unfold maxLen at hl
    have hwr := wrap_len (a := pre.length) (by omega)
    by_cases hlt : pre.length < 15
    · have hlt' : (pre.length : Int) < 15 := by omega
      by_cases hk : 1 ≤ a.kind ∧ a.kind ≤ 7
      · obtain ⟨r, bv, D', S', hc, hA, hR, hdo⟩ := act_val h (by omega) (hw a (by rw [hp]; simp))
        obtain ⟨q1, q2, q3, q4⟩ := dark_does hd hk hdo
        subst q2
        simp only [actV] at hc
        have hL : ∀ fr', fr' 7 = .ptr o 0 → fr' 2 = v → fr' 8 = fr 8 → fr' 9 = .int .i64 ((pre.length + 1 : Nat) : Int) → Ok (gval T (.lp law04_DiskDark_l0 :: .blk 0 :: K) fr' S') Q := by
          intro fr' g7 g2 g8 g9
          refine ih (pre ++ [a]) (by simp [hp]) (by simp; omega) fr' S' D' (by simp only [List.length_append, List.length_cons, List.length_nil]; exact hA.mono (by omega)) q3 (by rw [q4, hn]) g7 g2 (by simpa using g9) ?_
          intro fr2 S2 D2 e1 e2 e3 e4 e5
          exact k fr2 S2 D2 e1 e2 e3 e4 (e5.trans g8)
        clear k ih
        obtain ⟨hk1, hk7⟩ := hk
        rw [gval_lp]
        simp -implicitDefEqProofs [h7, h2, h9, hlen, hi, hlt, hlt', hg, hk1, hk7, part1, part6', hc, q1]
        exact hL _ (by simp [h7]) (by simp [h2]) (by simp) (by simp [hwr])
      · have hL : ∀ fr', fr' 7 = .ptr o 0 → fr' 2 = v → fr' 8 = fr 8 → fr' 9 = .int .i64 ((pre.length + 1 : Nat) : Int) → Ok (gval T (.lp law04_DiskDark_l0 :: .blk 0 :: K) fr' S) Q := by
          intro fr' g7 g2 g8 g9
          refine ih (pre ++ [a]) (by simp [hp]) (by simp; omega) fr' S D (by simp only [List.length_append, List.length_cons, List.length_nil]; exact h.mono (by omega)) hd hn g7 g2 (by simpa using g9) ?_
          intro fr2 S2 D2 e1 e2 e3 e4 e5
          exact k fr2 S2 D2 e1 e2 e3 e4 (e5.trans g8)
        clear k ih
        by_cases hk1 : 1 ≤ a.kind
        · have hk7 : ¬ a.kind ≤ 7 := by omega
          rw [gval_lp]
          simp -implicitDefEqProofs [h7, h2, h9, hlen, hi, hlt, hlt', hg, hk1, hk7, part1]
          exact hL _ (by simp [h7]) (by simp [h2]) (by simp) (by simp [hwr])
        · rw [gval_lp]
          simp -implicitDefEqProofs [h7, h2, h9, hlen, hi, hlt, hlt', hg, hk1, part1]
          exact hL _ (by simp [h7]) (by simp [h2]) (by simp) (by simp [hwr])
    · have hlt' : ¬ (pre.length : Int) < 15 := by omega
      rw [gval_lp]
      simp -implicitDefEqProofs [h7, h2, h9, hlen, hi, hlt, hlt']
      exact k _ S D (h.mono (by omega)) hd hn (by simp [h7]) (by simp)

theorem law_DiskDark (xs : denL [.int .i64, .sl tyAct, .sl tyAct]) (h : wfL [.int .i64, .sl tyAct, .sl tyAct] xs) : ∃ S', cval T 465 (pvL [.int .i64, .sl tyAct, .sl tyAct] xs) St0 = some (.bool true, S') := by
  obtain ⟨room, l, m, u⟩ := xs
  obtain ⟨h1, h2, h3, _⟩ := h
  obtain ⟨l1, l2⟩ := inA_wf h2
  obtain ⟨m1, m2⟩ := inA_wf h3
  have hl := inA_reads (x := l)
  have hm := inA_reads (x := m)
  refine ⟨St0, ?_⟩
  show cval T 465 [.int .i64 room, (Ty.sl tyAct).pv l, (Ty.sl tyAct).pv m] St0 = _
  generalize (Ty.sl tyAct).pv l = lv at hl
  generalize (Ty.sl tyAct).pv m = mv at hm
  generalize inA l = al at *
  generalize inA m = ml at *
  refine cval_ok' fn_465 rfl ?_
  rcases begun_val (S := St0) (room := room) hl l1 l2 with hb | ⟨o, S1, D1, hb, hA1, _⟩
  · simp -implicitDefEqProofs [law04_DiskDark, hb, lives_pval]
  · obtain ⟨hf, hA2, _⟩ := fuse_val hA1 (n := 0) (by omega)
    obtain ⟨S2, hS2⟩ : ∃ S2 : St, S2 = ⟨S1.objs.set o (dcells (fuseD D1 0)), S1.tips⟩ := ⟨_, rfl⟩
    rw [← hS2] at hf hA2
    have hl0 : (fuseD D1 0).left = 0 := by simp [fuseD]
    have hs2 : stepR (fuseD D1 0) = 6 := by simp [stepR, hl0]
    have hy := syncdir_no hA2 (by omega) hs2
    have hA3 := (step_val hA2 (by omega)).2
    obtain ⟨S3, hS3⟩ : ∃ S3 : St, S3 = ⟨S2.objs.set o (dcells (stepD (fuseD D1 0))), S2.tips⟩ := ⟨_, rfl⟩
    rw [← hS3] at hy hA3
    obtain ⟨D3, hD3⟩ : ∃ D3, D3 = stepD (fuseD D1 0) := ⟨_, rfl⟩
    rw [← hD3] at hA3
    have hd3 : D3.dark = true := by rw [hD3]; simp [stepD, hl0]
    have hdone := done_val hA3
    simp -implicitDefEqProofs [law04_DiskDark, hb, hf, hy, hdone]
    refine dark_loop hm m1 m2 ml [] rfl (by simp) _ S3 D3 (hA3.mono (by simp)) hd3 rfl (by simp) (by simp) (by simp) ?_
    intro fr4 S4 D4 hA4 hd4 hn4 g7 g8
    simp at g8
    have hdone4 := done_val hA4
    rw [hn4] at hdone4
    have hlist4 := list_val hA4 (by omega)
    have hlv : listV D4 = .nils := by simp [listV, hd4]
    rw [hlv] at hlist4
    obtain ⟨li', fv', S5, hc5, hA5, _, _⟩ := crash_val hA4 (by omega) (dirs := 0) (kept := []) (kv := .nils) (reads_nils 1)
    have hs5 : stepR (crashD D4 li' fv' 0 []) = 0 := by simp [stepR, crashD]
    obtain ⟨S6, hc6, hA6, _⟩ := syncdir_ok hA5 (by omega) hs5
    have hdone6 := done_val hA6
    have hdd : (stepD (crashD D4 li' fv' 0 [])).done = D3.done + 1 := by rw [stepD_ok hs5]; simp [crashD, hn4]
    simp only [hdd] at hdone6
    have hdn := hA3.dn
    have hw : IntKind.i64.wrap (D3.done + 1) = D3.done + 1 := wrap_i64 (by omega) (by omega)
    simp -implicitDefEqProofs [g7, g8, hdone4, hlist4, hc5, hc6, hdone6, hw, lives_pval]
    exact finish_pur_free rfl

end Ps
