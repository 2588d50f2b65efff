/- The law DiskNames. -/
import Derived.Test.YtedmhhncckddmaaDQ
namespace Ps
set_option linter.unusedSimpArgs false
set_option linter.unusedVariables false
open Go

theorem fn_469 : T.fn 469 = some (.code law04_DiskNames) := rfl

/-- The power stays. -/
def Free (D : Dk) : Prop := D.left = -1 ∧ D.dark = false
theorem Free.step {D : Dk} (h : Free D) : stepR D = 0 ∧ Free (stepD D) := by
  obtain ⟨h1, h2⟩ := h
  have hs : stepR D = 0 := by simp [stepR, h1, h2]
  refine ⟨hs, ?_⟩
  rw [stepD_ok hs]
  exact ⟨by simp [h1], h2⟩

theorem names_step {S' : St} {o K' : Nat} {D D' : Dk} {a : ActD} {r : Int} {bv : PV} (h' : At S' o K' D') (hf : Free D) (hk : 1 ≤ a.kind ∧ a.kind ≤ 5) (h : DoesD D a r bv D') :
    Free D' ∧ ∀ j, j ≤ D'.wait.length → dirAt D' j = D'.live ∨ ∃ i, i ≤ D.wait.length ∧ dirAt D' j = dirAt D i := by
  obtain ⟨hs, hf2⟩ := hf.step
  obtain ⟨s1, s2, s3, s4, s5, s6, s7, s8, s9, s10, s11⟩ := stepD_fields D
  have same : ∀ D' : Dk, D'.wait = D.wait → D'.base = D.base → ∀ j, j ≤ D'.wait.length → dirAt D' j = D'.live ∨ ∃ i, i ≤ D.wait.length ∧ dirAt D' j = dirAt D i := by
    intro D' e1 e2 j hj
    exact .inr ⟨j, by rw [← e1]; exact hj, by unfold dirAt; rw [e1, e2]⟩
  have more : ∀ (D' : Dk) (x : Ent), Hist D'.base D'.wait D'.live → D'.wait = D.wait ++ [x] → D'.base = D.base → ∀ j, j ≤ D'.wait.length → dirAt D' j = D'.live ∨ ∃ i, i ≤ D.wait.length ∧ dirAt D' j = dirAt D i := by
    intro D' x hh e1 e2 j hj
    rw [e1] at hj
    simp only [List.length_append, List.length_cons, List.length_nil] at hj
    by_cases hje : j ≤ D.wait.length
    · exact .inr ⟨j, hje, by unfold dirAt; rw [e1, e2, List.take_append_of_le_length hje]⟩
    · left
      have hj : j = D.wait.length + 1 := by omega
      rw [hh.okA.2]
      unfold dirAt
      rw [List.take_of_length_le (by rw [e1]; simp; omega)]
  cases h with
  | refuse hk' hr => exact ⟨hf, same D rfl rfl⟩
  | dark hk' hr hs' => rw [hs] at hs'; cases hs'
  | create hk' hr hs' F wv' hF =>
    have q : stepD (addF D F) = addF (stepD D) F := by
      unfold stepD addF
      simp only
      split <;> rfl
    refine ⟨?_, more _ ([], a.name, some F) h'.hist rfl ?_⟩
    · have : Free (stepD (addF D F)) := (Free.step (D := addF D F) hf).2
      exact this
    · show (stepD (addF D F)).base = _
      rw [q]; exact s3
  | append hk' hr hs' f v' hf' => exact ⟨hf2, same _ s5 s3⟩
  | rename hk' hr hs' wv' => exact ⟨hf2, more _ _ h'.hist rfl s3⟩
  | remove hk' hr hs' wv' => exact ⟨hf2, more _ _ h'.hist rfl s3⟩
  | sync hk' hr hs' f hf' => exact ⟨hf2, same _ s5 s3⟩
  | syncdir hk' hs' B => omega
  | read hk' => omega
  | fuse hk' => omega
  | crash hk' => omega
  | none hk' => omega

/-- The directories that were told. -/
structure Told (D : Dk) (ls : List (List (Nm × Nat))) : Prop where
  free : Free D
  all : ∀ j, j ≤ D.wait.length → dirAt D j ∈ ls
  len : ∀ l ∈ ls, l.length ≤ 1048576

theorem names_loop {ml : List ActD} {v : PV} (hv : Reads1 6 v (ml.map actV)) (hl : ml.length ≤ maxLen) (hw : ∀ a ∈ ml, a.Wf) {o : Nat} {K : List Kt} {Q : Fr → St → Prop} :
    ∀ (rest pre : List ActD), ml = pre ++ rest → pre.length ≤ 15 → ∀ (fr : Fr) (S : St) (D : Dk) (wv : PV) (ls : List (List (Nm × Nat))), At S o (100 + 2 * pre.length) D → Told D ls → AccS S D wv (ls.map namesV) → ls.length ≤ 1 + pre.length →
    fr 9 = .ptr o 0 → fr 2 = v → fr 11 = .int .i64 pre.length → fr 10 = wv →
    (∀ fr' S' D' wv' ls', At S' o 150 D' → Told D' ls' → AccS S' D' wv' (ls'.map namesV) → ls'.length ≤ 100 → fr' 9 = .ptr o 0 → fr' 3 = fr 3 → fr' 10 = wv' → Ok (gval T K fr' S') Q) →
    Ok (gval T (.lp law04_DiskNames_l0 :: .blk 0 :: K) fr S) Q := by
  intro rest
  induction rest with
  | nil =>
    intro pre hp h15 fr S D wv ls h ht ha hll h9 h2 h11 h10 k
    rw [List.append_nil] at hp; subst hp
    have hlen := hv.len
    rw [List.length_map] at hlen
    rw [gval_lp]
    simp -implicitDefEqProofs [h9, h2, h11, hlen]
    exact k _ S D wv ls (h.mono (by omega)) ht ha (by omega) (by simp [h9]) (by simp) (by simp [h10])
  | cons a rest ih =>
    intro pre hp h15 fr S D wv ls h ht ha hll h9 h2 h11 h10 k
    have hi : pre.length < ml.length := by rw [hp]; simp
    have hlen := hv.len
    rw [List.length_map] at hlen
    have hg := hv.get pre.length (by simpa using hi) .i64
    have hgx : (ml.map actV)[pre.length]'(by simpa using hi) = actV a := by simp [hp]
    rw [hgx, actV_cells] at hg
    unfold maxLen at hl
    have hwr := wrap_len (a := pre.length) (by omega)
    by_cases hlt : pre.length < 15
    · have hlt' : (pre.length : Int) < 15 := by omega
      by_cases hk : 1 ≤ a.kind ∧ a.kind ≤ 5
      · obtain ⟨r, bv, D1, S1, hc, hA, hR, hdo⟩ := act_val h (by omega) (hw a (by rw [hp]; simp))
        obtain ⟨q1, q2⟩ := names_step hA ht.free hk hdo
        simp only [actV] at hc
        have ha1 := ha.fra hR
        have hlv : listV D1 = namesV D1.live := by unfold listV; rw [q1.2]; rfl
        have hls := list_val hA (by omega)
        rw [hlv] at hls
        obtain ⟨n1, n2⟩ := namesV_one D1.live
        obtain ⟨wv', S2, hap, hA2, ha2⟩ := acc_push hA ha1 (by simp; omega) (e := namesV D1.live) (by rw [n1]; rfl)
        have ht2 : Told D1 (ls ++ [D1.live]) := ⟨q1, fun j hj => by
          rcases q2 j hj with e | ⟨i, hi, e⟩
          · rw [e]; simp
          · rw [e]; exact List.mem_append_left _ (ht.all i hi), fun l hl => by
          rcases List.mem_append.1 hl with hl | hl
          · exact ht.len l hl
          · simp at hl; subst hl; have := hA.ll; omega⟩
        have hL : ∀ fr', fr' 9 = .ptr o 0 → fr' 2 = v → fr' 3 = fr 3 → fr' 10 = wv' → fr' 11 = .int .i64 ((pre.length + 1 : Nat) : Int) → Ok (gval T (.lp law04_DiskNames_l0 :: .blk 0 :: K) fr' S2) Q := by
          intro fr' g9 g2 g3 g10 g11
          refine ih (pre ++ [a]) (by simp [hp]) (by simp; omega) fr' S2 D1 wv' (ls ++ [D1.live]) (by simp only [List.length_append, List.length_cons, List.length_nil]; exact hA2.mono (by omega)) ht2 (by simpa using ha2) (by simp; omega) g9 g2 (by simpa using g11) g10 ?_
          intro fr2 S2 D2 wv2 ls2 e1 e2 e3 e4 e5 e6 e7
          exact k fr2 S2 D2 wv2 ls2 e1 e2 e3 e4 e5 (e6.trans g3) e7
        clear k ih
        obtain ⟨hk1, hk5⟩ := hk
        have hsz : szOk 1 [namesV D1.live] = true := by simp [szOk, n1]
        rw [gval_lp]
        simp -implicitDefEqProofs [h9, h2, h11, h10, hlen, hi, hlt, hlt', hg, hk1, hk5, part1, part6', hc, hls, pstep, elems, setParts, n1, n2, newArr, appended, hsz, hap]
        exact hL _ (by simp [h9]) (by simp [h2]) (by simp) (by simp) (by simp [hwr])
      · have hL : ∀ fr', fr' 9 = .ptr o 0 → fr' 2 = v → fr' 3 = fr 3 → fr' 10 = wv → fr' 11 = .int .i64 ((pre.length + 1 : Nat) : Int) → Ok (gval T (.lp law04_DiskNames_l0 :: .blk 0 :: K) fr' S) Q := by
          intro fr' g9 g2 g3 g10 g11
          refine ih (pre ++ [a]) (by simp [hp]) (by simp; omega) fr' S D wv ls (by simp only [List.length_append, List.length_cons, List.length_nil]; exact h.mono (by omega)) ht ha (by simp; omega) g9 g2 (by simpa using g11) g10 ?_
          intro fr2 S2 D2 wv2 ls2 e1 e2 e3 e4 e5 e6 e7
          exact k fr2 S2 D2 wv2 ls2 e1 e2 e3 e4 e5 (e6.trans g3) e7
        clear k ih
        by_cases hk1 : 1 ≤ a.kind
        · have hk5 : ¬ a.kind ≤ 5 := by omega
          rw [gval_lp]
          simp -implicitDefEqProofs [h9, h2, h11, hlen, hi, hlt, hlt', hg, hk1, hk5, part1]
          exact hL _ (by simp [h9]) (by simp [h2]) (by simp) (by simp [h10]) (by simp [hwr])
        · rw [gval_lp]
          simp -implicitDefEqProofs [h9, h2, h11, hlen, hi, hlt, hlt', hg, hk1, part1]
          exact hL _ (by simp [h9]) (by simp [h2]) (by simp) (by simp [h10]) (by simp [hwr])
    · have hlt' : ¬ (pre.length : Int) < 15 := by omega
      rw [gval_lp]
      simp -implicitDefEqProofs [h9, h2, h11, hlen, hi, hlt, hlt']
      exact k _ S D wv ls (h.mono (by omega)) ht ha (by omega) (by simp [h9]) (by simp) (by simp [h10])

theorem names_search {l0 : List (Nm × Nat)} (h0 : l0.length ≤ 1048576) {ls : List (List (Nm × Nat))} {wv : PV} (hv : Reads1 1 wv (ls.map namesV)) (hl : ls.length ≤ 1000000) (hll : ∀ l ∈ ls, l.length ≤ 1048576) {K : List Kt} {Q : Fr → St → Prop} {S : St} (hQ : ∀ fr', fr' 8 = .bool true → Q fr' S) :
    ∀ (rest pre : List (List (Nm × Nat))), ls = pre ++ rest → l0 ∈ rest → ∀ (fr : Fr), fr 10 = wv → fr 12 = namesV l0 → fr 13 = .int .i64 pre.length →
    Ok (gval T (.lp law04_DiskNames_l1 :: .blk 2 :: K) fr S) Q := by
  intro rest
  induction rest with
  | nil => intro pre hp hm; cases hm
  | cons l rest ih =>
    intro pre hp hm fr h10 h12 h13
    have hi : pre.length < ls.length := by rw [hp]; simp
    have hlen := hv.len
    rw [List.length_map] at hlen
    have hg := hv.get pre.length (by simpa using hi) .i64
    have hgx : (ls.map namesV)[pre.length]'(by simpa using hi) = namesV l := by simp [hp]
    obtain ⟨n1, n2⟩ := namesV_one l
    rw [hgx, n1] at hg
    have hwr := wrap_len (a := pre.length) (by omega)
    have hs := same_val (S := S) (namesV_reads l) (namesV_reads l0) (by rw [sortN_len]; exact Nat.le_trans (hll l (by rw [hp]; simp)) (by decide))
    by_cases e : sortN l = sortN l0
    · rw [decide_eq_true e] at hs
      rw [gval_lp]
      simp -implicitDefEqProofs [h10, h12, h13, hlen, hi, hg, part1, hs, lives_pval]
      exact hQ _ (by simp)
    · have hm' : l0 ∈ rest := by
        rcases List.mem_cons.1 hm with q | q
        · exact absurd (by rw [q]) e
        · exact q
      have hL : ∀ fr', fr' 10 = wv → fr' 12 = namesV l0 → fr' 13 = .int .i64 ((pre.length + 1 : Nat) : Int) → Ok (gval T (.lp law04_DiskNames_l1 :: .blk 2 :: K) fr' S) Q := by
        intro fr' g10 g12 g13
        exact ih (pre ++ [l]) (by simp [hp]) hm' fr' g10 g12 (by simpa using g13)
      clear ih
      rw [decide_eq_false e] at hs
      rw [gval_lp]
      simp -implicitDefEqProofs [h10, h12, h13, hlen, hi, hg, part1, hs]
      exact hL _ (by simp [h10]) (by simp [h12]) (by simp [hwr])

theorem law_DiskNames (xs : denL [.int .i64, .sl tyAct, .sl tyAct, .int .i64]) (h : wfL [.int .i64, .sl tyAct, .sl tyAct, .int .i64] xs) : ∃ S', cval T 469 (pvL [.int .i64, .sl tyAct, .sl tyAct, .int .i64] xs) St0 = some (.bool true, S') := by
  obtain ⟨room, l, m, dirs, u⟩ := xs
  obtain ⟨h1, h2, h3, _⟩ := h
  obtain ⟨l1, l2⟩ := inA_wf h2
  obtain ⟨m1, m2⟩ := inA_wf h3
  have hl := inA_reads (x := l)
  have hm := inA_reads (x := m)
  refine ⟨St0, ?_⟩
  show cval T 469 [.int .i64 room, (Ty.sl tyAct).pv l, (Ty.sl tyAct).pv m, .int .i64 dirs] St0 = _
  generalize (Ty.sl tyAct).pv l = lv at hl
  generalize (Ty.sl tyAct).pv m = mv at hm
  generalize inA l = al at *
  generalize inA m = ml at *
  refine cval_ok' fn_469 rfl ?_
  rcases begun_val (S := St0) (room := room) hl l1 l2 with hb | ⟨o, S1, D1, hb, hA1, _⟩
  · simp -implicitDefEqProofs [law04_DiskNames, hb, lives_pval]
  · obtain ⟨li', fv', S2, hc2, hA2, _, _⟩ := crash_val hA1 (by omega) (dirs := 0) (kept := []) (kv := .nils) (reads_nils 1)
    obtain ⟨D2, hD2⟩ : ∃ D2, D2 = crashD D1 li' fv' 0 [] := ⟨_, rfl⟩
    rw [← hD2] at hA2
    have hf2 : Free D2 := by rw [hD2]; exact ⟨rfl, rfl⟩
    have hw2 : D2.wait = [] := by rw [hD2]; rfl
    have hb2 : D2.base = D2.live := by rw [hD2]; rfl
    have hls2 := list_val hA2 (by omega)
    have hlv2 : listV D2 = namesV D2.live := by unfold listV; rw [hf2.2]; rfl
    rw [hlv2] at hls2
    obtain ⟨n1, n2⟩ := namesV_one D2.live
    have hacc := acc_first hA2 (e := namesV D2.live) (by rw [n1]; rfl)
    have hA3 := hA2.more [(1, 1)]
    have ht : Told D2 [D2.live] := ⟨hf2, fun j hj => by
      rw [hw2] at hj
      have hj : j = 0 := by simpa using hj
      subst hj
      simp [dirAt, doA, hb2], fun l hl => by simp at hl; subst hl; have := hA2.ll; omega⟩
    simp -implicitDefEqProofs [law04_DiskNames, hb, hc2, hls2, pstep, elems, setParts, n1, n2, newArr]
    refine names_loop hm m1 m2 ml [] rfl (by simp) _ _ D2 _ [D2.live] (hA3.mono (by simp)) ht hacc (by simp) (by simp) (by simp) (by simp) (by simp) ?_
    intro fr4 S4 D4 wv4 ls4 hA4 ht4 ha4 hl4 g9 g3 g10
    simp at g3
    obtain ⟨li5, fv5, S5, hc5, hA5, _, _⟩ := crash_val hA4 (by omega) (dirs := dirs) (kept := []) (kv := .nils) (reads_nils 1)
    have hls5 := list_val hA5 (by omega)
    have hlv5 : listV (crashD D4 li5 fv5 dirs []) = namesV (dirAt D4 (crashK D4 dirs)) := rfl
    rw [hlv5] at hls5
    have hmem := ht4.all _ (crashK_le D4 dirs)
    simp -implicitDefEqProofs [g9, g3, g10, hc5, hls5]
    refine names_search (l0 := dirAt D4 (crashK D4 dirs)) (ht4.len _ hmem) ha4.reads (by omega) ht4.len (fun fr' h8 => ?_) ls4 [] rfl hmem _ (by simp [g10]) (by simp) (by simp)
    simp -implicitDefEqProofs [h8]
    exact finish_pur_free rfl

end Ps
