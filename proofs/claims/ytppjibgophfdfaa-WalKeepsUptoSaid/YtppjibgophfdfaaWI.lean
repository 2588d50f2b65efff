/- wal.Of, whole. -/
import Derived.Test.YtppjibgophfdfaaWH
namespace Ps
set_option linter.unusedSimpArgs false
open Go
def parP (s : List UInt8) : RecM × Bool :=
  if (readS s 0 false).1 = 1 then (⟨1, (readN s (readS s 0 false).2.1).1, [], [], 0, 0⟩, !(readS s 0 false).2.2 && decide ((readN s (readS s 0 false).2.1).2.2 = 0)) else
  if (readS s 0 false).1 = 2 then
    (⟨2, [], (rowsP s (min (readS s (readS s 0 false).2.1 (readS s 0 false).2.2).1 65) [] (readS s (readS s 0 false).2.1 (readS s 0 false).2.2).2.1 (readS s (readS s 0 false).2.1 (readS s 0 false).2.2).2.2).1, [], 0, 0⟩,
      !(rowsP s (min (readS s (readS s 0 false).2.1 (readS s 0 false).2.2).1 65) [] (readS s (readS s 0 false).2.1 (readS s 0 false).2.2).2.1 (readS s (readS s 0 false).2.1 (readS s 0 false).2.2).2.2).2.2) else
  if (readS s 0 false).1 = 3 then
    (⟨3, [], [], (postRd s (readS s 0 false).2.1).1, (readS s (postRd s (readS s 0 false).2.1).2.1 (readS s 0 false).2.2).1,
      (readS s (readS s (postRd s (readS s 0 false).2.1).2.1 (readS s 0 false).2.2).2.1 (readS s (postRd s (readS s 0 false).2.1).2.1 (readS s 0 false).2.2).2.2).1⟩,
      !(readS s (readS s (postRd s (readS s 0 false).2.1).2.1 (readS s 0 false).2.2).2.1 (readS s (postRd s (readS s 0 false).2.1).2.1 (readS s 0 false).2.2).2.2).2.2 && decide ((postRd s (readS s 0 false).2.1).2.2 = 0)) else
  (⟨(readS s 0 false).1, [], [], [], 0, 0⟩, !(readS s 0 false).2.2)
theorem checkN_nil : checkN [] = 0 := checkN_zero.2 ⟨by simp, by simp, by simp⟩
theorem readN_chk {s : List UInt8} {i : Int} : checkN (readN s i).1 = 0 := by
  unfold readN
  split
  · exact checkN_nil
  · split
    · exact checkN_nil
    · split
      · exact checkN_nil
      · split
        · exact checkN_nil
        · rename_i h; simpa using h
def walKind : PCode := (.seq (.region z72_r3) (.seq (.seq (.clr [(16, 17)] (.region z72_r4)) (.block 0 (.seq (.clr [(19, 20)] (.region z72_r5)) (.cond (.tmp 18) (.clr [(20, 31)] (.region z72_r6)) (.seq (.clr [(32, 33)] (.region z72_r7)) (.cond (.tmp 31) (.seq (.clr [(33, 35)] (.region z72_r8)) (.block 1 (.loop z72_l0))) (.seq (.clr [(63, 64)] (.region z72_r11)) (.cond (.tmp 62) (.seq (.clr [(64, 78)] (.region z72_r12)) (.clr [(78, 84)] (.region z72_r13))) .skip)))))))) walRest))
theorem walKind_go (K : List Kt) (fr : Fr) (S : St) : gval T (.code walKind :: K) fr S = gval T (.code (.seq (.region z72_r3) (.seq (.seq (.clr [(16, 17)] (.region z72_r4)) (.block 0 (.seq (.clr [(19, 20)] (.region z72_r5)) (.cond (.tmp 18) (.clr [(20, 31)] (.region z72_r6)) (.seq (.clr [(32, 33)] (.region z72_r7)) (.cond (.tmp 31) (.seq (.clr [(33, 35)] (.region z72_r8)) (.block 1 (.loop z72_l0))) (.seq (.clr [(63, 64)] (.region z72_r11)) (.cond (.tmp 62) (.seq (.clr [(64, 78)] (.region z72_r12)) (.clr [(78, 84)] (.region z72_r13))) .skip)))))))) walRest)) :: K) fr S := rfl
theorem wal_Of_eq2 : z72 = ⟨1, [.cell 2 true 6, .tmp 3],
  (.seq (.region z72_r0) (.seq (.clr [(10, 13)] (.region z72_r1)) (.seq (.clr [(13, 16)] (.region z72_r2)) walKind))), false⟩ := rfl
theorem rec_nil (k : Int) : RecC ⟨k, [], [], [], 0, 0⟩ [.int .i64 k, .nils, .nils, .nils, .int .i64 0, .int .i64 0] :=
  ⟨⟨.nils, .nils, .nils, rfl, .inl ⟨rfl, rfl⟩, .inl ⟨rfl, rfl⟩, .inl ⟨rfl, rfl⟩⟩, by simp [maxLen]⟩
theorem isl_nils (sz : Nat) : IsSl sz .nils [] := .inl ⟨rfl, rfl⟩
theorem maxLen_ge {n : Nat} (h : n ≤ 67108864) : n ≤ maxLen := by unfold maxLen; omega
theorem kind_ok {s : List UInt8} {v : PV} (hv : IsSl 1 v (ofBytes s)) (hs : s.length ≤ 67108864) {a i j : Nat} (hai : a ≠ i) (haj : a ≠ j) (hij : i ≠ j) {S0 : St} {Q : Fr → St → Prop} {fr : Fr} {S : St}
    (h0 : fr 0 = v) (h2 : fr 2 = .ptr a 0) (h4 : fr 4 = .ptr i 0) (h5 : fr 5 = .ptr j 0) (oa : S.objs[a]? = some emptyC)
    (oi : S.objs[i]? = some [v, .int .i64 ((readS s 0 false).2.1 : Int), .bool (readS s 0 false).2.2]) (oj : S.objs[j]? = some [.int .i64 ((readS s 0 false).1 : Int), .nils, .nils, .nils, .int .i64 0, .int .i64 0])
    (hgr : Grows S0 S) (hal : S0.objs.length ≤ a) (hil : S0.objs.length ≤ i) (hjl : S0.objs.length ≤ j)
    (k1 : ¬ ((parP s).2 = true ∧ recN (parP s).1 = 0 ∧ recB (parP s).1 = s) → ∀ fr' S', fr' 2 = .ptr a 0 → fr' 3 = .int .i64 5 → S'.objs[a]? = some emptyC → Grows S0 S' → Q fr' S')
    (k2 : (parP s).2 = true → recN (parP s).1 = 0 → recB (parP s).1 = s → ∀ fr' S' cs, PV.freeL cs = true → RecC (parP s).1 (PV.frzL cs) → cs.length = 6 → fr' 2 = .ptr a 0 → fr' 3 = .int .i64 0 → S'.objs[a]? = some cs → Grows S0 S' → Q fr' S') :
    Ok (gval T [.code walKind] fr S) Q := by
  have al : a < S.objs.length := (List.getElem?_eq_some_iff.1 oa).1
  have il : i < S.objs.length := (List.getElem?_eq_some_iff.1 oi).1
  have jl : j < S.objs.length := (List.getElem?_eq_some_iff.1 oj).1
  unfold parP at k1 k2
  have hklt := readS_lt (s := s) (p := 0) (bad := false)
  obtain ⟨⟨k, p, bad⟩, hk⟩ : ∃ q, readS s 0 false = q := ⟨_, rfl⟩
  rw [hk] at oi oj k1 k2 hklt
  simp only at oi oj k1 k2 hklt
  rw [walKind_go]
  by_cases c1 : k = 1
  · subst c1
    rw [if_pos rfl] at k1 k2
    obtain ⟨x, r1, v', rfl, r2⟩ := read_val hv hs (i := (p : Int)) S
    have hchk := readN_chk (s := s) (i := (p : Int))
    obtain ⟨⟨l, nx, e⟩, hN⟩ : ∃ q, readN s (p : Int) = q := ⟨_, rfl⟩
    rw [hN] at r1 r2 k1 k2 hchk
    simp only at r1 r2 k1 k2 hchk
    obtain ⟨hl1, hl2, _⟩ := checkN_zero.1 hchk
    have hone := isl_one r2.isl
    have hcells := isl_cells r2.isl
    have hrec : RecC ⟨1, l, [], [], 0, 0⟩ [.int .i64 1, v', .nils, .nils, .int .i64 0, .int .i64 0] :=
      ⟨⟨v', .nils, .nils, rfl, r2.isl, isl_nils _, isl_nils _⟩, maxLen_ge (by simp only; omega), by simp [maxLen], by simp [maxLen], fun x hx => maxLen_ge (by have := (okLab_len (hl2 x hx)).1; omega)⟩
    simp -implicitDefEqProofs [h0, h2, h4, h5, loadP_ptr oi, loadP_ptr oj, pt1, r1, pstep, putCells, oj, hone, hcells]
    refine rest_ok hv hs (a := a) (i := i) (j := j) (p := p) (e := e) (bad := bad) (S0 := S0) (r := ⟨1, l, [], [], 0, 0⟩) (ca := emptyC) (cs := [.int .i64 1, v', .nils, .nils, .int .i64 0, .int .i64 0]) (by simp [h0]) (by simp [h2]) (by simp [h4]) (by simp [h5]) (by simp) (by simp [List.getElem?_set_ne (Ne.symm haj), oa]) rfl
      (by simp [List.getElem?_set_ne (Ne.symm hij), oi]) (by simp [jl]) (fun _ _ => hrec) (hgr.set hjl) hal (fun hno fr' S' g2 g3 go gg => k1 (fun z => hno ?_) fr' S' g2 g3 go gg) (fun q1 q2 q3 q4 fr' S' g2 g3 go gg => k2 ?_ q3 q4 fr' S' _ ?_ ?_ rfl g2 g3 go gg)
    · simpa [Bool.and_eq_true, and_assoc] using z
    · simp [q1, q2]
    · simp [PV.freeL, PV.free, r2.free]
    · simpa [PV.frzL, PV.frz, r2.frz] using hrec
  by_cases c2 : k = 2
  · subst c2
    rw [if_neg (by decide), if_pos rfl] at k1 k2
    have hc := rd_val hv hs oi
    have hnlt := readS_lt (s := s) (p := p) (bad := bad)
    obtain ⟨⟨n, p2, bad2⟩, hn⟩ : ∃ q, readS s p bad = q := ⟨_, rfl⟩
    rw [hn] at hc k1 k2 hnlt
    simp only at hc k1 k2 hnlt
    simp -implicitDefEqProofs [h0, h2, h4, h5, loadP_ptr oi, loadP_ptr oj, pt1, hc]
    refine wof_loop hv hs (n := n) hij (S0 := S0) hil hjl (kd := .int .i64 2) (vl := .nils) (vi := .nils) (lo := .int .i64 0) (hh := .int .i64 0) (f0 := v) (f2 := .ptr a 0) (f6 := .int .i64 0) (min n 65) [] p2 bad2 (by simp) _ ⟨S.objs.set i [v, .int .i64 (p2 : Int), .bool bad2], S.tips⟩ .nils
      (by simp [h0]) (by simp [h2]) (by simp [h4]) (by simp [h5]) (by simp) (by simp) (by simp [il]) (by simp [List.getElem?_set_ne hij, oj]) (accg_nil 3 (hgr.set hil)) (fun fr' S' vr' g0 g2 g4 g5 g6 gi gj go ga => ?_)
    have hrl := rowsP_len (s := s) (min n 65) [] p2 bad2
    obtain ⟨⟨rows, p3, bad3⟩, hq⟩ : ∃ q, rowsP s (min n 65) [] p2 bad2 = q := ⟨_, rfl⟩
    rw [hq] at gi ga k1 k2 hrl
    simp only at gi ga k1 k2 hrl
    simp only [List.length_nil, Nat.zero_add] at hrl
    have hrec : ∀ vr, IsSl 3 vr (rows.map rowV) → RecC ⟨2, [], rows, [], 0, 0⟩ [.int .i64 2, .nils, vr, .nils, .int .i64 0, .int .i64 0] := fun vr hvr =>
      ⟨⟨.nils, vr, .nils, rfl, isl_nils _, hvr, isl_nils _⟩, by simp [maxLen], maxLen_ge (by simp only; omega), by simp [maxLen], by simp⟩
    have hfz : vr'.free = true ∧ vr'.frz = slF vr' (rows.map rowV) := by
      rcases ga.acc with ⟨h, _⟩ | ⟨id, _, h, _⟩
      · rw [h]; exact ⟨rfl, rfl⟩
      · rw [h]; exact ⟨by simp [PV.free, rows_free, PV.freeL], by simp [slF, PV.frz, rows_frz, PV.frzL]⟩
    have oa' : S'.objs[a]? = some emptyC := by
      rw [go a hai haj]
      simp [List.getElem?_set_ne (Ne.symm hai), oa]
    simp -implicitDefEqProofs
    refine rest_ok hv hs (a := a) (i := i) (j := j) (p := p3) (e := 0) (bad := bad3) (S0 := S0) (r := ⟨2, [], rows, [], 0, 0⟩) (ca := emptyC) g0 g2 g4 g5 g6 oa' rfl gi gj (fun _ _ => hrec vr' (ga.isSl (rows_cells _))) ga.grows hal (fun hno fr' S' g2 g3 go gg => k1 (fun z => hno ?_) fr' S' g2 g3 go gg) (fun q1 q2 q3 q4 fr' S' g2 g3 go gg => k2 ?_ q3 q4 fr' S' _ ?_ ?_ rfl g2 g3 go gg)
    · simpa using z
    · simp [q1]
    · simp [PV.freeL, PV.free, hfz.1]
    · have := hrec _ (slF_isSl ga (rows_cells _))
      simpa [PV.frzL, PV.frz, hfz.2] using this
  by_cases c3 : k = 3
  · subst c3
    rw [if_neg (by decide), if_neg (by decide), if_pos rfl] at k1 k2
    obtain ⟨x, r1, v', rfl, r2⟩ := pread_val hv hs (i := (p : Int)) S
    have hll := postRd_len (s := s) (i := (p : Int))
    obtain ⟨⟨l, nx, e⟩, hN⟩ : ∃ q, postRd s (p : Int) = q := ⟨_, rfl⟩
    rw [hN] at r1 r2 k1 k2 hll
    simp only at r1 r2 k1 k2 hll
    have hone := isl_one r2.isl
    have hcells := isl_cells r2.isl
    obtain ⟨S2, hS2⟩ : ∃ S2 : St, S2 = ⟨(S.objs.set j [.int .i64 3, .nils, .nils, v', .int .i64 0, .int .i64 0]).set i [v, .int .i64 (nx : Int), .bool bad], S.tips⟩ := ⟨_, rfl⟩
    have oi2 : S2.objs[i]? = some [v, .int .i64 (nx : Int), .bool bad] := by rw [hS2]; simp [il]
    have oj2 : S2.objs[j]? = some [.int .i64 3, .nils, .nils, v', .int .i64 0, .int .i64 0] := by rw [hS2]; simp only; rw [List.getElem?_set_ne hij]; simp [jl]
    have oa2 : S2.objs[a]? = some emptyC := by rw [hS2]; simp only; rw [List.getElem?_set_ne (Ne.symm hai), List.getElem?_set_ne (Ne.symm haj)]; exact oa
    have hg2 : Grows S0 S2 := by rw [hS2]; exact (hgr.set hjl).set hil
    have d1 := rd_val hv hs oi2
    obtain ⟨⟨n1, p1, bad1⟩, e1⟩ : ∃ q, readS s nx bad = q := ⟨_, rfl⟩
    rw [e1] at d1 k1 k2
    simp only at d1 k1 k2
    obtain ⟨S3, hS3⟩ : ∃ S3 : St, S3 = ⟨S2.objs.set i [v, .int .i64 (p1 : Int), .bool bad1], S2.tips⟩ := ⟨_, rfl⟩
    rw [← hS3] at d1
    have il2 : i < S2.objs.length := (List.getElem?_eq_some_iff.1 oi2).1
    have oi3 : S3.objs[i]? = some [v, .int .i64 (p1 : Int), .bool bad1] := by rw [hS3]; simp [il2]
    have oj3 : S3.objs[j]? = some [.int .i64 3, .nils, .nils, v', .int .i64 0, .int .i64 0] := by rw [hS3]; simp only; rw [List.getElem?_set_ne hij]; exact oj2
    have oa3 : S3.objs[a]? = some emptyC := by rw [hS3]; simp only; rw [List.getElem?_set_ne (Ne.symm hai)]; exact oa2
    have hg3 : Grows S0 S3 := by rw [hS3]; exact hg2.set hil
    have d2 := rd_val hv hs oi3
    obtain ⟨⟨n2, p2, bad2⟩, e2⟩ : ∃ q, readS s p1 bad1 = q := ⟨_, rfl⟩
    rw [e2] at d2 k1 k2
    simp only at d2 k1 k2
    obtain ⟨S4, hS4⟩ : ∃ S4 : St, S4 = ⟨S3.objs.set i [v, .int .i64 (p2 : Int), .bool bad2], S3.tips⟩ := ⟨_, rfl⟩
    rw [← hS4] at d2
    have il3 : i < S3.objs.length := (List.getElem?_eq_some_iff.1 oi3).1
    have oi4 : S4.objs[i]? = some [v, .int .i64 (p2 : Int), .bool bad2] := by rw [hS4]; simp [il3]
    have oj4 : S4.objs[j]? = some [.int .i64 3, .nils, .nils, v', .int .i64 0, .int .i64 0] := by rw [hS4]; simp only; rw [List.getElem?_set_ne hij]; exact oj3
    have oa4 : S4.objs[a]? = some emptyC := by rw [hS4]; simp only; rw [List.getElem?_set_ne (Ne.symm hai)]; exact oa3
    have hg4 : Grows S0 S4 := by rw [hS4]; exact hg3.set hil
    have jl4 : j < S4.objs.length := (List.getElem?_eq_some_iff.1 oj4).1
    have oij : (S.objs.set j [.int .i64 3, .nils, .nils, v', .int .i64 0, .int .i64 0])[i]? = some [v, .int .i64 (p : Int), .bool bad] := by rw [List.getElem?_set_ne (Ne.symm hij)]; exact oi
    have hS2' : St.mk ((S.objs.set j [.int .i64 3, .nils, .nils, v', .int .i64 0, .int .i64 0]).set i [v, .int .i64 (nx : Int), .bool bad]) S.tips = S2 := hS2.symm
    have oj5 : (S4.objs.set j [.int .i64 3, .nils, .nils, v', .int .i64 (n1 : Int), .int .i64 0])[j]? = some [.int .i64 3, .nils, .nils, v', .int .i64 (n1 : Int), .int .i64 0] := by simp [jl4]
    have hrec : RecC ⟨3, [], [], l, (n1 : Int), (n2 : Int)⟩ [.int .i64 3, .nils, .nils, v', .int .i64 (n1 : Int), .int .i64 (n2 : Int)] :=
      ⟨⟨.nils, .nils, v', rfl, isl_nils _, isl_nils _, r2.isl⟩, by simp [maxLen], by simp [maxLen], maxLen_ge (by simp only; omega), by simp⟩
    simp -implicitDefEqProofs [h0, h2, h4, h5, loadP_ptr oi, loadP_ptr oj, pt1, r1, pstep, putCells, oj, hone, hcells, oij, hS2', d1, d2, oj4, oj5]
    refine rest_ok hv hs (a := a) (i := i) (j := j) (p := p2) (e := e) (bad := bad2) (S0 := S0) (r := ⟨3, [], [], l, (n1 : Int), (n2 : Int)⟩) (ca := emptyC) (cs := [.int .i64 3, .nils, .nils, v', .int .i64 (n1 : Int), .int .i64 (n2 : Int)]) (by simp [h0]) (by simp [h2]) (by simp [h4]) (by simp [h5]) (by simp) (by simp [List.getElem?_set_ne (Ne.symm haj), oa4]) rfl
      (by simp [List.getElem?_set_ne (Ne.symm hij), oi4]) (by simp [jl4]) (fun _ _ => hrec) (hg4.set hjl) hal (fun hno fr' S' g2 g3 go gg => k1 (fun z => hno ?_) fr' S' g2 g3 go gg) (fun q1 q2 q3 q4 fr' S' g2 g3 go gg => k2 ?_ q3 q4 fr' S' _ ?_ ?_ rfl g2 g3 go gg)
    · simpa [Bool.and_eq_true, and_assoc] using z
    · simp [q1, q2]
    · simp [PV.freeL, PV.free, r2.free]
    · simpa [PV.frzL, PV.frz, r2.frz] using hrec
  · rw [if_neg c1, if_neg c2, if_neg c3] at k1 k2
    have b1 : ((k : Int) == 1) = false := by
      rw [Bool.eq_false_iff]; simp only [ne_eq, beq_iff_eq]; omega
    have b2 : ((k : Int) == 2) = false := by
      rw [Bool.eq_false_iff]; simp only [ne_eq, beq_iff_eq]; omega
    have b3 : ((k : Int) == 3) = false := by
      rw [Bool.eq_false_iff]; simp only [ne_eq, beq_iff_eq]; omega
    simp -implicitDefEqProofs [h0, h2, h4, h5, loadP_ptr oi, loadP_ptr oj, pt1, b1, b2, b3]
    refine rest_ok hv hs (a := a) (i := i) (j := j) (p := p) (e := 0) (bad := bad) (S0 := S0) (r := ⟨k, [], [], [], 0, 0⟩) (ca := emptyC) (by simp [h0]) (by simp [h2]) (by simp [h4]) (by simp [h5]) (by simp) oa rfl
      oi oj (fun _ _ => rec_nil k) hgr hal (fun hno fr' S' g2 g3 go gg => k1 (fun z => hno ?_) fr' S' g2 g3 go gg) (fun q1 q2 q3 q4 fr' S' g2 g3 go gg => k2 ?_ q3 q4 fr' S' _ ?_ ?_ rfl g2 g3 go gg)
    · simpa using z
    · simp [q1]
    · rfl
    · exact rec_nil k
mutual
theorem frz_frz : ∀ v : PV, v.frz.frz = v.frz
  | .und | .int _ _ | .bool _ | .str _ | .nilp | .nils | .nili | .nilf | .ptr _ _ | .osl _ _ _ | .nilm | .map _ | .hnd _ => rfl
  | .bfn _ cs => by simp only [PV.frz, frzL_frzL cs]
  | .ref cs => by simp only [PV.frz, frzL_frzL cs]
  | .sl _ es sp => by simp only [PV.frz, frzL_frzL es, frzL_frzL sp]
  | .iface _ v => by simp only [PV.frz, frz_frz v]
  | .agg cs => by simp only [PV.frz, frzL_frzL cs]
  | .tup cs => by simp only [PV.frz, frzL_frzL cs]
  | .fn _ cs => by simp only [PV.frz, frzL_frzL cs]
theorem frzL_frzL : ∀ l : List PV, PV.frzL (PV.frzL l) = PV.frzL l
  | [] => rfl
  | v :: l => by simp only [PV.frzL, frz_frz v, frzL_frzL l]
end
mutual
theorem free_frz : ∀ v : PV, v.free = true → v.frz.free = true
  | .und, h | .ptr _ _, h | .osl _ _ _, h | .map _, h | .hnd _, h => by cases h
  | .int _ _, _ | .bool _, _ | .str _, _ | .nilp, _ | .nils, _ | .nili, _ | .nilf, _ | .nilm, _ => rfl
  | .bfn _ cs, h => by simp only [PV.frz, PV.free] at h ⊢; exact freeL_frz cs h
  | .ref cs, h => by simp only [PV.frz, PV.free] at h ⊢; exact freeL_frz cs h
  | .sl _ es sp, h => by
    simp only [PV.frz, PV.free, Bool.and_eq_true] at h ⊢
    exact ⟨freeL_frz es h.1, freeL_frz sp h.2⟩
  | .iface _ v, h => by simp only [PV.frz, PV.free] at h ⊢; exact free_frz v h
  | .agg cs, h => by simp only [PV.frz, PV.free] at h ⊢; exact freeL_frz cs h
  | .tup cs, h => by simp only [PV.frz, PV.free] at h ⊢; exact freeL_frz cs h
  | .fn _ cs, h => by simp only [PV.frz, PV.free] at h ⊢; exact freeL_frz cs h
theorem freeL_frz : ∀ l : List PV, PV.freeL l = true → PV.freeL (PV.frzL l) = true
  | [], _ => rfl
  | v :: l, h => by
    simp only [PV.frzL, PV.freeL, Bool.and_eq_true] at h ⊢
    exact ⟨free_frz v h.1, freeL_frz l h.2⟩
end
def OfTo (s : List UInt8) (x : PV) : Prop :=
  ((parP s).2 = true ∧ recN (parP s).1 = 0 ∧ recB (parP s).1 = s ∧ ∃ cs, RecC (parP s).1 cs ∧ x = .tup [.agg cs, .int .i64 0]) ∨
  (¬ ((parP s).2 = true ∧ recN (parP s).1 = 0 ∧ recB (parP s).1 = s) ∧ x = .tup [.agg emptyC, .int .i64 5])
theorem of_valF {s : List UInt8} {v : PV} (hv : IsSl 1 v (ofBytes s)) (hs : s.length ≤ 67108864) (S : St) : ∃ x, cval T 143 [v] S = some (x, S) ∧ OfTo s x ∧ x.free = true ∧ x.frz = x := by
  have key := cval_ex (T := T) (f := 143) (c := z72) fn_143 (args := [v]) (S := S) rfl (R := fun r S2 => S2 = S ∧ OfTo s r ∧ r.free = true ∧ r.frz = r) ?_
  · obtain ⟨r, S2, h1, rfl, h2⟩ := key
    exact ⟨r, h1, h2⟩
  have hone := isl_one hv
  have hcells := isl_cells hv
  rw [wal_Of_eq2]
  obtain ⟨S1, hS1⟩ : ∃ S1 : St, S1 = ⟨S.objs ++ [emptyC] ++ [[v, .int .i64 0, .bool false]], S.tips⟩ := ⟨_, rfl⟩
  have hlen1 : S1.objs.length = S.objs.length + 2 := by rw [hS1]; simp
  have oi1 : S1.objs[S.objs.length + 1]? = some [v, .int .i64 ((0 : Nat) : Int), .bool false] := by rw [hS1]; simp
  have oa1 : S1.objs[S.objs.length]? = some emptyC := by rw [hS1]; simp
  have hg1 : Grows S S1 := by rw [hS1]; exact ((Grows.refl S).obj _).obj _
  have c1 := rd_val hv hs oi1
  obtain ⟨S2, hS2⟩ : ∃ S2 : St, S2 = ⟨S1.objs.set (S.objs.length + 1) [v, .int .i64 ((readS s 0 false).2.1 : Int), .bool (readS s 0 false).2.2], S1.tips⟩ := ⟨_, rfl⟩
  rw [← hS2] at c1
  have hlen2 : S2.objs.length = S.objs.length + 2 := by rw [hS2]; simp [hlen1]
  have oi2 : S2.objs[S.objs.length + 1]? = some [v, .int .i64 ((readS s 0 false).2.1 : Int), .bool (readS s 0 false).2.2] := by rw [hS2]; simp [hlen1]
  have oa2 : S2.objs[S.objs.length]? = some emptyC := by rw [hS2]; simp only; rw [List.getElem?_set_ne (by omega)]; exact oa1
  have hg2 : Grows S S2 := by rw [hS2]; exact hg1.set (by omega)
  have hS1' : St.mk (S.objs ++ [[.int .i64 0, .nils, .nils, .nils, .int .i64 0, .int .i64 0], [v, .int .i64 0, .bool false]]) S.tips = S1 := by rw [hS1]; simp [emptyC]
  simp -implicitDefEqProofs [pstep, peval, fillParts, putCells, hone, hcells, pt1, hS1', c1]
  refine kind_ok hv hs (a := S.objs.length) (i := S.objs.length + 1) (j := S2.objs.length) (by omega) (by omega) (by omega) (S0 := S) (by simp) (by simp) (by simp) (by simp) (by simp only; rw [List.getElem?_append_left (by omega)]; exact oa2) (by simp only; rw [List.getElem?_append_left (by omega)]; exact oi2) (by simp) (hg2.obj _) (by omega) (by omega) (by omega)
    (fun hno fr' S' g2 g3 go gg => ?_) (fun q1 q2 q3 fr' S' cs w1 w2 w3 g2 g3 go gg => ?_)
  · have hp : partOf true 6 emptyC = some (.agg emptyC) := rfl
    have hf : finish false S S' (.tup [.agg emptyC, .int .i64 5]) = (.tup [.agg emptyC, .int .i64 5], S) := by rw [fin_free gg rfl]; rfl
    simp [g2, g3, go, hp, hf, -PV.free, -PV.frz]
    exact ⟨.inr ⟨hno, rfl⟩, rfl, rfl⟩
  · have hp : partOf true 6 cs = some (.agg cs) := pt_all w3
    have hf : finish false S S' (.tup [.agg cs, .int .i64 0]) = (.tup [.agg (PV.frzL cs), .int .i64 0], S) := by
      rw [fin_free gg (by simp [PV.free, PV.freeL, w1])]
      simp [PV.frz, PV.frzL]
    simp [g2, g3, go, hp, hf, -PV.free, -PV.frz]
    refine ⟨.inl ⟨q1, q2, q3, _, w2, rfl⟩, ?_, ?_⟩
    · simp only [PV.free, PV.freeL, Bool.and_true, freeL_frz cs w1]
    · simp only [PV.frz, PV.frzL, frzL_frzL]
end Ps
