/- wal.Of, walked. -/
import Derived.Test.YtppjibgophfdfaaWG
namespace Ps
set_option linter.unusedSimpArgs false
open Go
theorem fn_143 : T.fn 143 = some (.code z72) := rfl
theorem fn_246 : T.fn 246 = some (.code z3) := rfl
theorem eq_loop {a b : List UInt8} {va vb : PV} (ha : Reads1 1 va (ofBytes a)) (hb : Reads1 1 vb (ofBytes b)) (hl : a.length = b.length) (hm : a.length ≤ 67108864) {K : List Kt} {Q : Fr → St → Prop} {S : St} : ∀ (r q p1 p2 : List UInt8) (fr : Fr), a = p1 ++ r → b = p2 ++ q → p1.length = p2.length →
    fr 0 = va → fr 1 = vb → fr 12 = .int .i64 a.length → fr 13 = .int .i64 p1.length →
    (r ≠ q → ∀ fr', fr' 4 = .bool false → Q fr' S) → (r = q → ∀ fr', Ok (gval T K fr' S) Q) →
    Ok (gval T (.lp z3_l0 :: .blk 0 :: K) fr S) Q := by
  intro r
  induction r with
  | nil =>
    intro q p1 p2 fr e1 e2 hp h0 h1 h12 h13 k1 k2
    have hq : q = [] := by
      have := congrArg List.length e1
      have := congrArg List.length e2
      simp only [List.length_append, List.length_nil] at *
      exact List.length_eq_zero_iff.1 (by omega)
    have hx : ¬ (p1.length : Int) < (a.length : Int) := by rw [e1]; simp
    rw [gval_lp]
    simp -implicitDefEqProofs [h12, h13, hx]
    exact k2 hq.symm _
  | cons x r ih =>
    intro q p1 p2 fr e1 e2 hp h0 h1 h12 h13 k1 k2
    cases q with
    | nil =>
      have := congrArg List.length e1
      have := congrArg List.length e2
      simp only [List.length_append, List.length_nil, List.length_cons] at *
      omega
    | cons y q =>
      have hlt : p1.length < a.length := by rw [e1]; simp
      have hlt' : (p1.length : Int) < (a.length : Int) := by omega
      have g1 := byt_get ha e1
      have g2 := byt_get hb e2
      rw [← hp] at g2
      have hw := wrap_len (a := p1.length) (by omega)
      rw [gval_lp]
      by_cases hxy : x = y
      · subst hxy
        simp -implicitDefEqProofs [h0, h1, h12, h13, hlt', hlt, g1, g2, pt1, hw]
        exact ih q (p1 ++ [x]) (p2 ++ [x]) _ (by simp [e1]) (by simp [e2]) (by simp [hp]) (by simp [h0]) (by simp [h1]) (by simp [h12]) (by simp [hw]) (fun hne => k1 (by simpa using hne)) (fun he => k2 (by rw [he]))
      · have hne : ((x.toNat : Int) != (y.toNat : Int)) = true := by
          simp only [bne_iff_ne, ne_eq]
          intro h
          exact hxy (UInt8.toNat_inj.1 (by omega))
        simp -implicitDefEqProofs [h0, h1, h12, h13, hlt', hlt, g1, g2, pt1, hw, hne]
        exact k1 (by simp [hxy]) _ (by simp)
theorem eq_val {a b : List UInt8} {va vb : PV} (ha : IsSl 1 va (ofBytes a)) (hb : IsSl 1 vb (ofBytes b)) (hm : b.length ≤ 67108864) (S : St) : cval T 246 [va, vb] S = some (.bool (decide (a = b)), S) := by
  have l1 := ha.len
  have l2 := hb.len
  rw [ofBytes_len] at l1 l2
  refine cval_ok' fn_246 rfl ?_
  by_cases hl : a.length = b.length
  · have hne : ((a.length : Int) != (b.length : Int)) = false := by rw [hl]; simp
    simp -implicitDefEqProofs [z3, l1, l2, hne]
    refine eq_loop ha.reads hb.reads hl (by omega) a b [] [] _ rfl rfl rfl (by simp) (by simp) (by simp) (by simp) (fun hne fr' h4 => ?_) (fun he fr' => ?_)
    · rw [ends1, h4]
      simp [hne]
    · subst he
      simp
  · have hne : ((a.length : Int) != (b.length : Int)) = true := by
      simp only [bne_iff_ne, ne_eq]; omega
    have hd : decide (a = b) = false := by
      simp only [decide_eq_false_iff_not]
      intro h; exact hl (by rw [h])
    simp -implicitDefEqProofs [z3, l1, l2, hne, hd]
def emptyC : List PV := [.int .i64 0, .nils, .nils, .nils, .int .i64 0, .int .i64 0]
def walRest : PCode := (.seq (.seq (.clr [(84, 91)] (.region z72_r14)) (.cond (.tmp 91) (.seq (.clr [(92, 93)] (.region z72_r15)) .ret) .skip)) (.seq (.seq (.clr [(93, 98)] (.region z72_r16)) (.seq (.clr [(98, 105)] (.region z72_r17)) (.cond (.tmp 105) (.seq (.clr [(106, 107)] (.region z72_r18)) .ret) .skip))) (.seq (.clr [(107, 108)] (.region z72_r19)) .ret)))
theorem walRest_go (K : List Kt) (fr : Fr) (S : St) : gval T (.code walRest :: K) fr S = gval T (.code (.seq (.seq (.clr [(84, 91)] (.region z72_r14)) (.cond (.tmp 91) (.seq (.clr [(92, 93)] (.region z72_r15)) .ret) .skip)) (.seq (.seq (.clr [(93, 98)] (.region z72_r16)) (.seq (.clr [(98, 105)] (.region z72_r17)) (.cond (.tmp 105) (.seq (.clr [(106, 107)] (.region z72_r18)) .ret) .skip))) (.seq (.clr [(107, 108)] (.region z72_r19)) .ret))) :: K) fr S := rfl
theorem recC_all {r : RecM} {cs : List PV} (h : RecC r cs) : cs.length = 6 ∧ cs.all PV.one = true := by
  obtain ⟨⟨vl, vr, vi, rfl, h1, h2, h3⟩, _⟩ := h
  exact ⟨rfl, cells_one h1 h2 h3⟩
theorem put_all {ca cs : List PV} (h : ca.length = cs.length) : putCells ca 0 cs = cs := by
  simp [putCells, h]
theorem pt_all {cs : List PV} (h : cs.length = 6) : partOf true 6 cs = some (.agg cs) := by
  simp only [partOf, h, Nat.le_refl, if_true]
  rw [← h, List.take_length]
theorem rest_ok {s : List UInt8} {v : PV} (hv : IsSl 1 v (ofBytes s)) (hs : s.length ≤ 67108864) {a i j p e : Nat} {bad : Bool} {S0 : St} {Q : Fr → St → Prop} {fr : Fr} {S : St} {r : RecM} {ca cs : List PV}
    (h0 : fr 0 = v) (h2 : fr 2 = .ptr a 0) (h4 : fr 4 = .ptr i 0) (h5 : fr 5 = .ptr j 0) (h6 : fr 6 = .int .i64 (e : Int)) (oa : S.objs[a]? = some ca) (hca : ca.length = 6)
    (oi : S.objs[i]? = some [v, .int .i64 (p : Int), .bool bad]) (oj : S.objs[j]? = some cs) (hr : bad = false → e = 0 → RecC r cs) (hgr : Grows S0 S) (hal : S0.objs.length ≤ a)
    (k1 : ¬ (bad = false ∧ e = 0 ∧ recN r = 0 ∧ recB r = s) → ∀ fr' S', fr' 2 = .ptr a 0 → fr' 3 = .int .i64 5 → S'.objs[a]? = some emptyC → Grows S0 S' → Q fr' S')
    (k2 : bad = false → e = 0 → recN r = 0 → recB r = s → ∀ fr' S', fr' 2 = .ptr a 0 → fr' 3 = .int .i64 0 → S'.objs[a]? = some cs → Grows S0 S' → Q fr' S') :
    Ok (gval T [.code walRest] fr S) Q := by
  have hlt : a < S.objs.length := (List.getElem?_eq_some_iff.1 oa).1
  have hca' : ca.length = emptyC.length := hca
  have he : ∀ cs' : List PV, cs'.length = 6 → putCells ca 0 cs' = cs' := fun cs' h => put_all (by rw [hca, h])
  have hne := he emptyC rfl
  unfold emptyC at hne
  rw [walRest_go]
  cases hbad : bad with
  | true =>
    rw [hbad] at oi
    simp -implicitDefEqProofs [h0, h2, h4, h5, h6, loadP_ptr oi, pt1, pt2, partOf, peval, fillParts, pstep, oa, hca, hne]
    exact k1 (by simp [hbad]) _ _ (by simp [h2]) (by simp) (by simp [emptyC, hlt]) (hgr.set hal)
  | false =>
    rw [hbad] at oi
    by_cases hee : e = 0
    · subst hee
      have hR := hr hbad rfl
      obtain ⟨hc6, hc1⟩ := recC_all hR
      have hne2 := he cs hc6
      by_cases hN : recN r = 0
      · obtain ⟨w, b1, b2⟩ := recB_ok hR hN S
        have hq := eq_val b2.isl hv hs S
        by_cases hB : recB r = s
        · have hq' : cval T 246 [w, v] S = some (.bool true, S) := by rw [hq]; simp [hB]
          simp -implicitDefEqProofs [-List.all_eq_true, h0, h2, h4, h5, h6, loadP_ptr oi, loadP_ptr oj, pt1, pt2, pt_all hc6, peval, fillParts, pstep, oa, hca, hc6, hc1, hne2, b1, hq']
          exact k2 hbad rfl hN hB _ _ (by simp [h2]) (by simp) (by simp [hlt]) (hgr.set hal)
        · have hq' : cval T 246 [w, v] S = some (.bool false, S) := by rw [hq]; simp [hB]
          simp -implicitDefEqProofs [-List.all_eq_true, h0, h2, h4, h5, h6, loadP_ptr oi, loadP_ptr oj, pt1, pt2, pt_all hc6, peval, fillParts, pstep, oa, hca, hc6, hc1, hne, b1, hq']
          exact k1 (by simp [hB]) _ _ (by simp [h2]) (by simp) (by simp [emptyC, hlt]) (hgr.set hal)
      · have b1 := recB_no hR hN S
        have hn1 : ((recN r : Int) != 0) = true := by simpa using hN
        simp -implicitDefEqProofs [-List.all_eq_true, h0, h2, h4, h5, h6, loadP_ptr oi, loadP_ptr oj, pt1, pt2, pt_all hc6, peval, fillParts, pstep, oa, hca, hc6, hc1, hne, b1, hn1]
        exact k1 (by simp [hN]) _ _ (by simp [h2]) (by simp) (by simp [emptyC, hlt]) (hgr.set hal)
    · have hn1 : ((e : Int) != 0) = true := by simpa using hee
      simp -implicitDefEqProofs [h0, h2, h4, h5, h6, loadP_ptr oi, pt1, pt2, partOf, peval, fillParts, pstep, oa, hca, hne, hn1]
      exact k1 (by simp [hee]) _ _ (by simp [h2]) (by simp) (by simp [emptyC, hlt]) (hgr.set hal)
def row1 (s : List UInt8) (p : Nat) (bad : Bool) : RowM × Nat × Bool :=
  ((((readS s p bad).1 : Int), ((readS s (readS s p bad).2.1 (readS s p bad).2.2).1 : Int), zagN (readS s (readS s (readS s p bad).2.1 (readS s p bad).2.2).2.1 (readS s (readS s p bad).2.1 (readS s p bad).2.2).2.2).1),
   (readS s (readS s (readS s p bad).2.1 (readS s p bad).2.2).2.1 (readS s (readS s p bad).2.1 (readS s p bad).2.2).2.2).2)
def rowsP (s : List UInt8) : Nat → List RowM → Nat → Bool → List RowM × Nat × Bool
  | 0, l, p, bad => (l, p, bad)
  | m + 1, l, p, bad => if bad = true then (l, p, bad) else rowsP s m (l ++ [(row1 s p bad).1]) (row1 s p bad).2.1 (row1 s p bad).2.2
theorem rowsP_len {s : List UInt8} : ∀ (m : Nat) (l : List RowM) (p : Nat) (bad : Bool), (rowsP s m l p bad).1.length ≤ l.length + m := by
  intro m
  induction m with
  | zero => intro l p bad; simp [rowsP]
  | succ m ih =>
    intro l p bad
    rw [rowsP]
    split
    · simp
    · have := ih (l ++ [(row1 s p bad).1]) (row1 s p bad).2.1 (row1 s p bad).2.2
      simp only [List.length_append, List.length_cons, List.length_nil] at this
      omega
theorem readS_lt {s : List UInt8} {p : Nat} {bad : Bool} : (readS s p bad).1 < 9223372036854775808 := by
  unfold readS
  split
  · simp
  · split
    · simp
    · rename_i h
      exact (getU_ok (s := s) (i := (p : Int)) (by simpa using h)).2
theorem rows_cells (l : List RowM) : ∀ e ∈ l.map rowV, e.cells.length = 3 := by
  intro e he
  obtain ⟨x, _, rfl⟩ := List.mem_map.1 he
  rfl
theorem rows_free (l : List RowM) : PV.freeL (l.map rowV) = true := freeL_map rowV (fun _ => rfl) l
theorem rows_frz (l : List RowM) : PV.frzL (l.map rowV) = l.map rowV := frzL_map' rowV (fun _ => rfl) l
theorem wof_loop {s : List UInt8} {v : PV} (hv : IsSl 1 v (ofBytes s)) (hs : s.length ≤ 67108864) {n : Nat} {i j : Nat} (hij : i ≠ j) {S0 : St} (hi : S0.objs.length ≤ i) (hj : S0.objs.length ≤ j) {kd vl vi lo hh f0 f2 f6 : PV} {K : List Kt} {Q : Fr → St → Prop} : ∀ (m : Nat) (l : List RowM) (p : Nat) (bad : Bool), l.length + m = min n 65 → ∀ (fr : Fr) (S : St) (vr : PV),
    fr 0 = f0 → fr 2 = f2 → fr 4 = .ptr i 0 → fr 5 = .ptr j 0 → fr 6 = f6 → fr 7 = .int .i64 (n : Int) → S.objs[i]? = some [v, .int .i64 (p : Int), .bool bad] → S.objs[j]? = some [kd, vl, vr, vi, lo, hh] → AccG S0 3 S vr (l.map rowV) →
    (∀ fr' S' vr', fr' 0 = f0 → fr' 2 = f2 → fr' 4 = .ptr i 0 → fr' 5 = .ptr j 0 → fr' 6 = f6 → S'.objs[i]? = some [v, .int .i64 ((rowsP s m l p bad).2.1 : Int), .bool (rowsP s m l p bad).2.2] → S'.objs[j]? = some [kd, vl, vr', vi, lo, hh] →
      (∀ a, a ≠ i → a ≠ j → S'.objs[a]? = S.objs[a]?) → AccG S0 3 S' vr' ((rowsP s m l p bad).1.map rowV) → Ok (gval T K fr' S') Q) →
    Ok (gval T (.lp z72_l0 :: .blk 1 :: K) fr S) Q := by
  intro m
  induction m with
  | zero =>
    intro l p bad hl fr S vr h0 h2 h4 h5 h6 h7 oi oj ha k
    have hlen := (ha.isSl (rows_cells _)).len
    rw [List.length_map] at hlen
    have hmn : (if (65 : Int) < (n : Int) then (65 : Int) else (n : Int)) = ((min n 65 : Nat) : Int) := by split <;> omega
    have hlt : ¬ (l.length : Int) < ((min n 65 : Nat) : Int) := by omega
    rw [gval_lp]
    simp -implicitDefEqProofs [h4, h5, h7, loadP_ptr oi, loadP_ptr oj, pt1, hlen, hmn, hlt]
    exact k _ S vr (by simp [h0]) (by simp [h2]) (by simp [h4]) (by simp [h5]) (by simp [h6]) (by simpa [rowsP] using oi) oj (fun _ _ _ => rfl) (by simpa [rowsP] using ha)
  | succ m ih =>
    intro l p bad hl fr S vr h0 h2 h4 h5 h6 h7 oi oj ha k
    have hlen := (ha.isSl (rows_cells _)).len
    rw [List.length_map] at hlen
    have hmn : (if (65 : Int) < (n : Int) then (65 : Int) else (n : Int)) = ((min n 65 : Nat) : Int) := by split <;> omega
    have hlt : (l.length : Int) < ((min n 65 : Nat) : Int) := by omega
    rw [rowsP] at k
    rw [gval_lp]
    cases hbad : bad with
    | true =>
      subst hbad
      simp only [if_true] at k
      simp -implicitDefEqProofs [h4, h5, h7, loadP_ptr oi, loadP_ptr oj, pt1, hlen, hmn, hlt]
      exact k _ S vr (by simp [h0]) (by simp [h2]) (by simp [h4]) (by simp [h5]) (by simp [h6]) (by simpa using oi) oj (fun _ _ _ => rfl) (by simpa using ha)
    | false =>
      subst hbad
      rw [if_neg (by decide)] at k
      unfold row1 at k
      simp only at k
      have il : i < S.objs.length := (List.getElem?_eq_some_iff.1 oi).1
      have jl : j < S.objs.length := (List.getElem?_eq_some_iff.1 oj).1
      have c1 := rd_val hv hs oi
      obtain ⟨⟨n1, p1, b1⟩, e1⟩ : ∃ q, readS s p false = q := ⟨_, rfl⟩
      rw [e1] at c1 k
      simp only at c1 k
      have oi1 : (St.mk (S.objs.set i [v, .int .i64 (p1 : Int), .bool b1]) S.tips).objs[i]? = some [v, .int .i64 (p1 : Int), .bool b1] := by simp [il]
      have c2 := rd_val hv hs oi1
      obtain ⟨⟨n2, p2, b2⟩, e2⟩ : ∃ q, readS s p1 b1 = q := ⟨_, rfl⟩
      rw [e2] at c2 k
      simp only [List.set_set] at c2 k
      have oi2 : (St.mk (S.objs.set i [v, .int .i64 (p2 : Int), .bool b2]) S.tips).objs[i]? = some [v, .int .i64 (p2 : Int), .bool b2] := by simp [il]
      have c3 := rd_val hv hs oi2
      have hn3 := readS_lt (s := s) (p := p2) (bad := b2)
      obtain ⟨⟨n3, p3, b3⟩, e3⟩ : ∃ q, readS s p2 b2 = q := ⟨_, rfl⟩
      rw [e3] at c3 k hn3
      simp only [List.set_set] at c3 k hn3
      have hz := zag_pval hn3
      have oj1 : (St.mk (S.objs.set i [v, .int .i64 (p1 : Int), .bool b1]) S.tips).objs[j]? = some [kd, vl, vr, vi, lo, hh] := by simp [List.getElem?_set_ne hij, oj]
      have oj2 : (St.mk (S.objs.set i [v, .int .i64 (p2 : Int), .bool b2]) S.tips).objs[j]? = some [kd, vl, vr, vi, lo, hh] := by simp [List.getElem?_set_ne hij, oj]
      have oj3 : (St.mk (S.objs.set i [v, .int .i64 (p3 : Int), .bool b3]) S.tips).objs[j]? = some [kd, vl, vr, vi, lo, hh] := by simp [List.getElem?_set_ne hij, oj]
      have q1 := keepO_some (i := j) (v := .int .i64 (n1 : Int)) oj oj1
      have q2 := keepO_some (i := j) (v := .int .i64 (n2 : Int)) oj1 oj2
      have q3 := keepO_some (i := j) (v := .int .i64 (n3 : Int)) oj2 oj3
      have ha3 : AccG S0 3 ⟨S.objs.set i [v, .int .i64 (p3 : Int), .bool b3], S.tips ++ [(1, 3)]⟩ vr (l.map rowV) := by
        have := AccG.arrs (⟨ha.grows.set (x := [v, .int .i64 (p3 : Int), .bool b3]) hi, ha.acc⟩ : AccG S0 3 ⟨S.objs.set i [v, .int .i64 (p3 : Int), .bool b3], S.tips⟩ vr (l.map rowV)) [(1, 3)]
        exact this
      obtain ⟨vr', S', f1, f2, f3⟩ := ha3.app (bytes := 24) [rowV ((n1 : Int), (n2 : Int), zagN n3)] (by simp; omega)
      obtain ⟨so, stp⟩ := S'
      simp only at f3
      subst f3
      simp only [rowV] at f1
      obtain ⟨cc, co⟩ := accg_cells f2
      simp -implicitDefEqProofs [h4, h5, h7, loadP_ptr oi, loadP_ptr oj, pt1, hlen, hmn, hlt, c1, c2, c3, q1, q2, q3, hz, peval, fillParts, putCells, pstep, elems, setParts, f1, cc, co, List.getElem?_set_ne hij, oj]
      have oiF : ((S.objs.set i [v, .int .i64 (p3 : Int), .bool b3]).set j [kd, vl, vr', vi, lo, hh])[i]? = some [v, .int .i64 (p3 : Int), .bool b3] := by rw [List.getElem?_set_ne (Ne.symm hij)]; simp [il]
      refine ih (l ++ [((n1 : Int), (n2 : Int), zagN n3)]) p3 b3 (by simp; omega) _ ⟨(S.objs.set i [v, .int .i64 (p3 : Int), .bool b3]).set j [kd, vl, vr', vi, lo, hh], stp⟩ vr' (by simp [h0]) (by simp [h2]) (by simp [h4]) (by simp [h5]) (by simp [h6]) (by simp [h7]) oiF (by simp [jl]) ⟨f2.grows.set hj, by simpa [rowV] using f2.acc⟩ (fun fr' S' vr'' g0 g2 g4 g5 g6 gi gj go ga => k fr' S' vr'' g0 g2 g4 g5 g6 gi gj (fun a a1 a2 => ?_) ga)
      rw [go a a1 a2]
      simp [List.getElem?_set_ne (Ne.symm a1), List.getElem?_set_ne (Ne.symm a2)]
end Ps
