/- The law DiskRefuses. -/
import Derived.Test.YtedmhhncckddmaaDQ
namespace Ps
set_option linter.unusedSimpArgs false
set_option linter.unusedVariables false
open Go

theorem fn_471 : T.fn 471 = some (.code law04_DiskRefuses) := rfl

theorem findE_ne6 (D : Dk) (n : Nm) : findE D n ≠ 6 := by
  rcases findE_cases D n with h | ⟨h, _⟩ | ⟨h, _⟩ <;> rw [h] <;> decide
theorem refE_ne6 (D : Dk) (a : ActD) : refE D a ≠ 6 := by
  unfold refE
  have hf := findE_ne6 D a.name
  split
  · unfold createE; split
    · decide
    · split
      · split <;> decide
      · exact hf
  · split
    · unfold appendE; split
      · exact hf
      · split <;> decide
    · split
      · unfold renameE; split
        · decide
        · split
          · exact hf
          · decide
      · split
        · decide
        · exact hf
theorem ref_does {D D' : Dk} {a : ActD} {r : Int} {bv : PV} (hk : 1 ≤ a.kind ∧ a.kind ≤ 6) (h : DoesD D a r bv D') : (r = 0 ∧ D'.done = D.done + 1) ∨ (r = 6 ∧ D'.dark = true ∧ D'.done = D.done) ∨ ((r == 0) = false ∧ (r == 6) = false ∧ D' = D) := by
  have ok : ∀ D : Dk, stepR D = 0 → (stepD D).done = D.done + 1 := fun D hs => by rw [stepD_ok hs]
  cases h with
  | refuse hk' hr => exact .inr (.inr ⟨by simpa using hr, by simpa using refE_ne6 D a, rfl⟩)
  | dark hk' hr hs =>
    right; left
    have hc : (D.dark || D.left == 0) = true := by
      cases hq : (D.dark || D.left == 0)
      · unfold stepR at hs; rw [hq] at hs; simp at hs
      · rfl
    refine ⟨rfl, ?_, ?_⟩ <;> simp only [stepD, hc, if_true]
  | create hk' hr hs F wv' hF => exact .inl ⟨rfl, ok (addF D F) (by rw [stepR_add]; exact hs)⟩
  | append hk' hr hs f v' hf => exact .inl ⟨rfl, ok D hs⟩
  | rename hk' hr hs wv' => exact .inl ⟨rfl, ok D hs⟩
  | remove hk' hr hs wv' => exact .inl ⟨rfl, ok D hs⟩
  | sync hk' hr hs f hf => exact .inl ⟨rfl, ok D hs⟩
  | syncdir hk' hs B => exact .inl ⟨rfl, ok D hs⟩
  | read hk' => omega
  | fuse hk' => omega
  | crash hk' => omega
  | none hk' => omega

theorem ref_l0 {o K' : Nat} {D : Dk} {nv : PV} {ns : List Nm} (hv : Reads1 1 nv (ns.map .str)) (hl : ns.length ≤ 1000000) (hm : ∀ n ∈ ns, n.length ≤ maxLen) {K : List Kt} {Q : Fr → St → Prop} :
    ∀ (rest pre : List Nm), ns = pre ++ rest → ∀ (fr : Fr) (S : St) (v : PV), At S o K' D → AccS S D v (pre.map (readV D)) → fr 7 = .ptr o 0 → fr 8 = nv → fr 10 = v → fr 11 = .int .i64 pre.length →
    (∀ fr' S' v', At S' o K' D → AccS S' D v' (ns.map (readV D)) → fr' 5 = fr 5 → fr' 7 = .ptr o 0 → fr' 8 = nv → fr' 9 = fr 9 → fr' 10 = v' → Ok (gval T K fr' S') Q) →
    Ok (gval T (.lp law04_DiskRefuses_l0 :: .blk 0 :: K) fr S) Q := by
  intro rest
  induction rest with
  | nil =>
    intro pre hp fr S v h ha h7 h8 h10 h11 k
    rw [List.append_nil] at hp; subst hp
    have hlen := hv.len
    rw [List.length_map] at hlen
    rw [gval_lp]
    simp -implicitDefEqProofs [h7, h8, h10, h11, hlen]
    exact k _ S v h ha (by simp) (by simp [h7]) (by simp [h8]) (by simp) (by simp [h10])
  | cons n rest ih =>
    intro pre hp fr S v h ha h7 h8 h10 h11 k
    have hi : pre.length < ns.length := by rw [hp]; simp
    have hlen := hv.len
    rw [List.length_map] at hlen
    have hg := hv.get pre.length (by simpa using hi) .i64
    have hgx : (ns.map PV.str)[pre.length]'(by simpa using hi) = .str n := by simp [hp]
    rw [hgx, cells_str] at hg
    have hwr := wrap_len (a := pre.length) (by omega)
    have hrd := read_val h (hm n (by rw [hp]; simp))
    obtain ⟨r1, r2⟩ := readV_one D n
    obtain ⟨v', S', hap, hA, ha'⟩ := acc_push h ha (by simp; omega) (e := readV D n) (by rw [r1]; rfl)
    have hL : ∀ fr', fr' 5 = fr 5 → fr' 7 = .ptr o 0 → fr' 8 = nv → fr' 9 = fr 9 → fr' 10 = v' → fr' 11 = .int .i64 ((pre.length + 1 : Nat) : Int) → Ok (gval T (.lp law04_DiskRefuses_l0 :: .blk 0 :: K) fr' S') Q := by
      intro fr' g5 g7 g8 g9 g10 g11
      refine ih (pre ++ [n]) (by simp [hp]) fr' S' v' hA (by simpa using ha') g7 g8 g10 (by simpa using g11) ?_
      intro fr2 S2 v2 q1 q2 q5 q7 q8 q9 q10
      exact k fr2 S2 v2 q1 q2 (q5.trans g5) q7 q8 (q9.trans g9) q10
    clear k ih
    have hsz : szOk 1 [readV D n] = true := by simp [szOk, r1]
    rw [gval_lp]
    simp -implicitDefEqProofs [h7, h8, h10, h11, hlen, hi, hg, part1, hrd, pstep, elems, setParts, r1, r2, newArr, appended, hsz, hap]
    exact hL _ (by simp) (by simp [h7]) (by simp [h8]) (by simp) (by simp) (by simp [hwr])

theorem ref_l1 {o K' : Nat} {D : Dk} {nv wv : PV} {ns : List Nm} (hv : Reads1 1 nv (ns.map .str)) (hw : Reads1 1 wv (ns.map (readV D))) (hl : ns.length ≤ 1000000) (hm : ∀ n ∈ ns, n.length ≤ maxLen) {K : List Kt} {Q : Fr → St → Prop} {S : St} (h : At S o K' D) :
    ∀ (rest pre : List Nm), ns = pre ++ rest → ∀ (fr : Fr), fr 7 = .ptr o 0 → fr 8 = nv → fr 10 = wv → fr 16 = .int .i64 pre.length →
    (∀ fr', Ok (gval T K fr' S) Q) →
    Ok (gval T (.lp law04_DiskRefuses_l1 :: .blk 2 :: K) fr S) Q := by
  intro rest
  induction rest with
  | nil =>
    intro pre hp fr h7 h8 h10 h16 k
    rw [List.append_nil] at hp; subst hp
    have hlen := hv.len
    rw [List.length_map] at hlen
    rw [gval_lp]
    simp -implicitDefEqProofs [h7, h8, h10, h16, hlen]
    exact k _
  | cons n rest ih =>
    intro pre hp fr h7 h8 h10 h16 k
    have hi : pre.length < ns.length := by rw [hp]; simp
    have hlen := hv.len
    rw [List.length_map] at hlen
    have hg := hv.get pre.length (by simpa using hi) .i64
    have hgx : (ns.map PV.str)[pre.length]'(by simpa using hi) = .str n := by simp [hp]
    rw [hgx, cells_str] at hg
    have hg2 := hw.get pre.length (by simpa using hi) .i64
    have hgx2 : (ns.map (readV D))[pre.length]'(by simpa using hi) = readV D n := by simp [hp]
    obtain ⟨r1, r2⟩ := readV_one D n
    rw [hgx2, r1] at hg2
    have hwr := wrap_len (a := pre.length) (by omega)
    have hrd := read_val h (hm n (by rw [hp]; simp))
    obtain ⟨s, hs⟩ := read_isl h n
    have hst := toStr_isl hs
    have hL : ∀ fr', fr' 7 = .ptr o 0 → fr' 8 = nv → fr' 10 = wv → fr' 16 = .int .i64 ((pre.length + 1 : Nat) : Int) → Ok (gval T (.lp law04_DiskRefuses_l1 :: .blk 2 :: K) fr' S) Q := by
      intro fr' g7 g8 g10 g16
      exact ih (pre ++ [n]) (by simp [hp]) fr' g7 g8 g10 (by simpa using g16) k
    clear k ih
    rw [gval_lp]
    simp -implicitDefEqProofs [h7, h8, h10, h16, hlen, hi, hg, hg2, part1, hrd, hst]
    exact hL _ (by simp [h7]) (by simp [h8]) (by simp [h10]) (by simp [hwr])

theorem law_DiskRefuses (xs : denL [.int .i64, .sl tyAct, tyAct]) (h : wfL [.int .i64, .sl tyAct, tyAct] xs) : ∃ S', cval T 471 (pvL [.int .i64, .sl tyAct, tyAct] xs) St0 = some (.bool true, S') := by
  obtain ⟨room, l, x, u⟩ := xs
  obtain ⟨h1, h2, h3, _⟩ := h
  obtain ⟨l1, l2⟩ := inA_wf h2
  have hl := inA_reads (x := l)
  have ha := actOf_wf h3
  refine ⟨St0, ?_⟩
  show cval T 471 [.int .i64 room, (Ty.sl tyAct).pv l, tyAct.pv x] St0 = _
  rw [actV_of]
  generalize (Ty.sl tyAct).pv l = lv at hl
  generalize inA l = al at *
  generalize actOf x = a at ha
  refine cval_ok' fn_471 rfl ?_
  rcases begun_val (S := St0) (room := room) hl l1 l2 with hb | ⟨o, S1, D1, hb, hA1, _⟩
  · simp -implicitDefEqProofs [law04_DiskRefuses, pstep, actV_cells, ha.bone, ha.kone, hb, lives_pval]
  · by_cases hk1 : a.kind < 1
    · simp -implicitDefEqProofs [law04_DiskRefuses, pstep, actV_cells, ha.bone, ha.kone, hb, part1, hk1, lives_pval]
      exact finish_pur_free rfl
    by_cases hk6 : 6 < a.kind
    · simp -implicitDefEqProofs [law04_DiskRefuses, pstep, actV_cells, ha.bone, ha.kone, hb, part1, hk1, hk6, lives_pval]
      exact finish_pur_free rfl
    have hk : 1 ≤ a.kind ∧ a.kind ≤ 6 := by omega
    have hls := list_val hA1 (by omega)
    have hdn := done_val hA1
    have hnr := listV_reads D1
    have hnl := hA1.namesLen
    have hnm := hA1.namesMax
    simp -implicitDefEqProofs [law04_DiskRefuses, pstep, actV_cells, ha.bone, ha.kone, hb, part1, hk1, hk6, hls, hdn]
    refine ref_l0 hnr (by omega) hnm (namesL D1) [] rfl _ S1 .nils hA1 ⟨.inl ⟨rfl, rfl⟩, fun e he => by simp at he⟩ (by simp) (by simp) (by simp) (by simp) ?_
    intro fr2 S2 wv hA2 hW g5 g7 g8 g9 g10
    simp at g5 g9
    obtain ⟨r, bv, D3, S3, hc, hA3, hR3, hd⟩ := act_val hA2 (by omega) ha
    simp only [actV] at hc
    have hdn3 := done_val hA3
    have hls3 := list_val hA3 (by omega)
    have hd1 := hA1.dn
    rcases ref_does hk hd with ⟨rfl, e2⟩ | ⟨rfl, e2, e3⟩ | ⟨e1, e2, rfl⟩
    · rw [e2] at hdn3
      have hw : IntKind.i64.wrap (D1.done + 1) = D1.done + 1 := wrap_i64 (by omega) (by omega)
      simp -implicitDefEqProofs [g5, g7, g8, g9, g10, part6', hc, hdn3, hw, lives_pval]
      exact finish_pur_free rfl
    · rw [e3] at hdn3
      have hlv : listV D3 = .nils := by simp [listV, e2]
      rw [hlv] at hls3
      simp -implicitDefEqProofs [g5, g7, g8, g9, g10, part6', hc, hdn3, hls3, lives_pval]
      exact finish_pur_free rfl
    · have hsm := same_val (S := S3) hnr hnr (Nat.le_trans hnl (by decide))
      simp -implicitDefEqProofs [g5, g7, g8, g9, g10, part6', hc, hdn3, hls3, e1, e2, hsm]
      refine ref_l1 hnr hW.reads (by omega) hnm hA3 (namesL D3) [] rfl _ (by simp [g7]) (by simp [g8]) (by simp [g10]) (by simp) ?_
      intro fr4
      simp -implicitDefEqProofs [lives_pval]
      exact finish_pur_free rfl

end Ps
