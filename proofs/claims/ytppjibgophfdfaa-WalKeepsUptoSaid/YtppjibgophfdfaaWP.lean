/- Records in the memory: the same, own; as they come in. -/
import Derived.Test.YtppjibgophfdfaaFC
import Derived.Test.YtppjibgophfdfaaArgs
import Derived.Test.YtppjibgophfdfaaLives
namespace Ps
set_option linter.unusedSimpArgs false
open Go
theorem fn_253 : T.fn 253 = some (.code z55) := rfl
theorem fn_175 : T.fn 175 = some (.code z51) := rfl
theorem fn_149 : T.fn 149 = some (.code z57) := rfl
theorem lives_pval : pval T 57 [] = some (.bool true) := pval_st (cval_of 3000 lives_run) rfl rfl
theorem psame_loop {l : List Int} {v1 v2 : PV} (h1 : Reads1 1 v1 (nV l)) (h2 : Reads1 1 v2 (nV l)) (hm : l.length ≤ 100000000) {K : List Kt} {Q : Fr → St → Prop} {S : St} : ∀ (r p : List Int) (fr : Fr), l = p ++ r →
    fr 0 = v1 → fr 1 = v2 → fr 5 = .int .i64 p.length → (∀ fr', Ok (gval T K fr' S) Q) → Ok (gval T (.lp z51_l0 :: .blk 0 :: K) fr S) Q := by
  have hlen := h1.len
  rw [nV_len] at hlen
  intro r
  induction r with
  | nil =>
    intro p fr e f0 f1 f5 k
    rw [List.append_nil] at e; subst e
    rw [gval_lp]
    simp -implicitDefEqProofs [f0, f5, hlen]
    exact k _
  | cons n r ih =>
    intro p fr e f0 f1 f5 k
    have hlt : p.length < l.length := by rw [e]; simp
    have g1 := nV_get h1 e (k := .i64)
    have g2 := nV_get h2 e (k := .i64)
    have hw := wrap_len (a := p.length) (by omega)
    rw [gval_lp]
    simp -implicitDefEqProofs [f0, f1, f5, hlen, hlt, g1, g2, pt1, hw]
    exact ih (p ++ [n]) _ (by simp [e]) (by simp [f0]) (by simp [f1]) (by simp [hw]) k
theorem psame_val {l : List Int} {v1 v2 : PV} (h1 : Reads1 1 v1 (nV l)) (h2 : Reads1 1 v2 (nV l)) (hm : l.length ≤ 100000000) (S : St) : cval T 175 [v1, v2] S = some (.bool true, S) := by
  have l1 := h1.len
  have l2 := h2.len
  rw [nV_len] at l1 l2
  refine cval_ok' fn_175 rfl ?_
  simp -implicitDefEqProofs [z51, l1, l2]
  refine psame_loop h1 h2 hm l [] _ rfl (by simp) (by simp) (by simp) (fun fr' => ?_)
  simp
theorem same11_loop {l : List RowM} {v1 v2 : PV} (h1 : Reads1 3 v1 (l.map rowV)) (h2 : Reads1 3 v2 (l.map rowV)) (hm : l.length ≤ 100000000) {c0 c1 c3 c4 c5 d0 d1 d3 d4 d5 : PV} {K : List Kt} {Q : Fr → St → Prop} {S : St} : ∀ (r p : List RowM) (fr : Fr), l = p ++ r →
    fr 2 = .ref [c0, c1, v1, c3, c4, c5] → fr 3 = .ref [d0, d1, v2, d3, d4, d5] → fr 5 = .int .i64 p.length → (∀ fr', Ok (gval T K fr' S) Q) → Ok (gval T (.lp z55_l0 :: .blk 0 :: K) fr S) Q := by
  have hlen := h1.len
  rw [List.length_map] at hlen
  intro r
  induction r with
  | nil =>
    intro p fr e f2 f3 f5 k
    rw [List.append_nil] at e; subst e
    rw [gval_lp]
    simp -implicitDefEqProofs [f2, f5, hlen, pt1]
    exact k _
  | cons n r ih =>
    intro p fr e f2 f3 f5 k
    have hlt : p.length < l.length := by rw [e]; simp
    have g1 := row_get h1 e (k := .i64)
    have g2 := row_get h2 e (k := .i64)
    have hw := wrap_len (a := p.length) (by omega)
    rw [gval_lp]
    simp -implicitDefEqProofs [f2, f3, f5, hlen, hlt, g1, g2, pt1, pt3, hw, eqCells]
    exact ih (p ++ [n]) _ (by simp [e]) (by simp [f2]) (by simp [f3]) (by simp [hw]) k
theorem same11_val {r : RecM} {cs ds : List PV} (h : RecC r cs) (k : RecC r ds) (hm : r.rows.length ≤ 100000000 ∧ r.ids.length ≤ 100000000) (S : St) : cval T 253 [.agg cs, .agg ds] S = some (.bool true, S) := by
  obtain ⟨⟨vl, vr, vi, rfl, h1, h2, h3⟩, hlens⟩ := h
  obtain ⟨⟨wl, wr, wi, rfl, k1, k2, k3⟩, _⟩ := k
  have hal : ([.int .i64 r.kind, vl, vr, vi, .int .i64 r.low, .int .i64 r.high] : List PV).all PV.one = true := cells_one h1 h2 h3
  have kal : ([.int .i64 r.kind, wl, wr, wi, .int .i64 r.low, .int .i64 r.high] : List PV).all PV.one = true := cells_one k1 k2 k3
  have l1 := h1.len
  have l2 := h2.len
  have m1 := k1.len
  have m2 := k2.len
  rw [List.length_map] at l1 l2 m1 m2
  have s1 := psame_val h3.reads k3.reads hm.2 S
  have s2 := same_val h1.reads k1.reads hlens.1 S
  rw [cmpL_zero.2 rfl] at s2
  have s2' : cval T 26 [vl, wl] S = some (.bool true, S) := s2
  refine cval_ok' fn_253 rfl ?_
  simp -implicitDefEqProofs [-List.all_eq_true, z55, hal, kal, pstep, pt1, s1, s2', l1, l2, m1, m2]
  refine same11_loop (c0 := .int .i64 r.kind) (c1 := vl) (c3 := vi) (c4 := .int .i64 r.low) (c5 := .int .i64 r.high) (d0 := .int .i64 r.kind) (d1 := wl) (d3 := wi) (d4 := .int .i64 r.low) (d5 := .int .i64 r.high) h2.reads k2.reads hm.1 r.rows [] _ rfl (by simp) (by simp) (by simp) (fun fr' => ?_)
  simp
theorem rown_val {r : RecM} {cs : List PV} (h : RecC r cs) (hm : r.labs.length ≤ 100000000 ∧ r.rows.length ≤ 100000000 ∧ r.ids.length ≤ 100000000) (S : St) : ∃ ds, cval T 149 [.agg cs] S = some (.agg ds, S) ∧ RecC r ds := by
  obtain ⟨⟨vl, vr, vi, rfl, h1, h2, h3⟩, hlens⟩ := h
  have key := cval_ex (T := T) (f := 149) (c := z57) fn_149 (args := [.agg [.int .i64 r.kind, vl, vr, vi, .int .i64 r.low, .int .i64 r.high]]) (S := S) rfl (R := fun x S2 => S2 = S ∧ ∃ ds, x = .agg ds ∧ RecC r ds) ?_
  · obtain ⟨x, S2, q1, rfl, ds, rfl, q2⟩ := key
    exact ⟨ds, q1, q2⟩
  have hal : ([.int .i64 r.kind, vl, vr, vi, .int .i64 r.low, .int .i64 r.high] : List PV).all PV.one = true := cells_one h1 h2 h3
  have p6 : ∀ (a b c d e f : PV), partOf true 6 [a, b, c, d, e, f] = some (.agg [a, b, c, d, e, f]) := fun a b c d e f => by simp [partOf]
  obtain ⟨SA, hSA⟩ : ∃ SA : St, SA = ⟨S.objs ++ [[.int .i64 r.kind, vl, vr, vi, .int .i64 r.low, .int .i64 r.high], [.int .i64 0, .nils, .nils, .nils, .int .i64 0, .int .i64 0]], S.tips⟩ := ⟨_, rfl⟩
  have hlA : SA.objs.length = S.objs.length + 2 := by rw [hSA]; simp
  have oA : SA.objs[S.objs.length]? = some [.int .i64 r.kind, vl, vr, vi, .int .i64 r.low, .int .i64 r.high] := by rw [hSA]; simp
  have aA : SA.objs[S.objs.length + 1]? = some [.int .i64 0, .nils, .nils, .nils, .int .i64 0, .int .i64 0] := by rw [hSA]; simp
  have gA : Grows S SA := by rw [hSA]; exact (Grows.refl S).objs _
  obtain ⟨w1, S1, a1, a2, a3⟩ := (accg_new 2 [] gA).app (bytes := 32) (r.labs.map labV) (by simp; omega)
  obtain ⟨o1, t1⟩ := S1
  simp only at a3
  subst a3
  simp only [List.length_nil, List.nil_append] at a1 a2
  obtain ⟨cc1, co1⟩ := accg_cells a2
  obtain ⟨SB, hSB⟩ : ∃ SB : St, SB = ⟨SA.objs.set S.objs.length [.int .i64 r.kind, w1, vr, vi, .int .i64 r.low, .int .i64 r.high], t1⟩ := ⟨_, rfl⟩
  have a2B : AccG S 2 SB w1 (r.labs.map labV) := by rw [hSB]; exact ⟨a2.grows.set (Nat.le_refl _), a2.acc⟩
  have hlB : SB.objs.length = S.objs.length + 2 := by rw [hSB]; simp [hlA]
  have oB : SB.objs[S.objs.length]? = some [.int .i64 r.kind, w1, vr, vi, .int .i64 r.low, .int .i64 r.high] := by rw [hSB]; simp [hlA]
  have aB : SB.objs[S.objs.length + 1]? = some [.int .i64 0, .nils, .nils, .nils, .int .i64 0, .int .i64 0] := by rw [hSB]; simp only; rw [List.getElem?_set_ne (by omega)]; exact aA
  obtain ⟨w2, S2, b1, b2, b3⟩ := (accg_new 3 [] a2B.grows).app (bytes := 24) (r.rows.map rowV) (by simp; omega)
  obtain ⟨o2, t2⟩ := S2
  simp only at b3
  subst b3
  simp only [List.length_nil, List.nil_append] at b1 b2
  obtain ⟨cc2, co2⟩ := accg_cells b2
  obtain ⟨SC, hSC⟩ : ∃ SC : St, SC = ⟨SB.objs.set S.objs.length [.int .i64 r.kind, w1, w2, vi, .int .i64 r.low, .int .i64 r.high], t2⟩ := ⟨_, rfl⟩
  have b2C : AccG S 3 SC w2 (r.rows.map rowV) := by rw [hSC]; exact ⟨b2.grows.set (Nat.le_refl _), b2.acc⟩
  have hlC : SC.objs.length = S.objs.length + 2 := by rw [hSC]; simp [hlB]
  have oC : SC.objs[S.objs.length]? = some [.int .i64 r.kind, w1, w2, vi, .int .i64 r.low, .int .i64 r.high] := by rw [hSC]; simp [hlB]
  have aC : SC.objs[S.objs.length + 1]? = some [.int .i64 0, .nils, .nils, .nils, .int .i64 0, .int .i64 0] := by rw [hSC]; simp only; rw [List.getElem?_set_ne (by omega)]; exact aB
  obtain ⟨w3, S3, c1, c2, c3⟩ := (accg_new 1 [] b2C.grows).app (bytes := 8) (nV r.ids) (by rw [nV_len]; simp; omega)
  obtain ⟨o3, t3⟩ := S3
  simp only at c3
  subst c3
  simp only [List.length_nil, List.nil_append] at c1 c2
  obtain ⟨cc3, co3⟩ := accg_cells c2
  obtain ⟨SD, hSD⟩ : ∃ SD : St, SD = ⟨SC.objs.set S.objs.length [.int .i64 r.kind, w1, w2, w3, .int .i64 r.low, .int .i64 r.high], t3⟩ := ⟨_, rfl⟩
  have gD : Grows S SD := by rw [hSD]; exact c2.grows.set (Nat.le_refl _)
  have hlD : SD.objs.length = S.objs.length + 2 := by rw [hSD]; simp [hlC]
  have oD : SD.objs[S.objs.length]? = some [.int .i64 r.kind, w1, w2, w3, .int .i64 r.low, .int .i64 r.high] := by rw [hSD]; simp [hlC]
  have aD : SD.objs[S.objs.length + 1]? = some [.int .i64 0, .nils, .nils, .nils, .int .i64 0, .int .i64 0] := by rw [hSD]; simp only; rw [List.getElem?_set_ne (by omega)]; exact aC
  have fz1 : w1.free = true ∧ w1.frz = slF w1 (r.labs.map labV) := by
    rcases a2.acc with ⟨h, _⟩ | ⟨id, _, h, _⟩
    · rw [h]; exact ⟨rfl, rfl⟩
    · rw [h]; exact ⟨by simp [PV.free, labs_free, PV.freeL], by simp [slF, PV.frz, labs_frz, PV.frzL]⟩
  have fz2 : w2.free = true ∧ w2.frz = slF w2 (r.rows.map rowV) := by
    rcases b2.acc with ⟨h, _⟩ | ⟨id, _, h, _⟩
    · rw [h]; exact ⟨rfl, rfl⟩
    · rw [h]; exact ⟨by simp [PV.free, rows_free, PV.freeL], by simp [slF, PV.frz, rows_frz, PV.frzL]⟩
  have fz3 : w3.free = true ∧ w3.frz = slF w3 (nV r.ids) := by
    rcases c2.acc with ⟨h, _⟩ | ⟨id, _, h, _⟩
    · rw [h]; exact ⟨rfl, rfl⟩
    · rw [h]; exact ⟨by simp [PV.free, nV_free, PV.freeL], by simp [slF, PV.frz, nV_frz, PV.frzL]⟩
  have hfin : finish false S ⟨SD.objs.set (S.objs.length + 1) [.int .i64 r.kind, w1, w2, w3, .int .i64 r.low, .int .i64 r.high], t3⟩ (.agg [.int .i64 r.kind, w1, w2, w3, .int .i64 r.low, .int .i64 r.high]) =
      (.agg [.int .i64 r.kind, slF w1 (r.labs.map labV), slF w2 (r.rows.map rowV), slF w3 (nV r.ids), .int .i64 r.low, .int .i64 r.high], S) := by
    have g : Grows S ⟨SD.objs.set (S.objs.length + 1) [.int .i64 r.kind, w1, w2, w3, .int .i64 r.low, .int .i64 r.high], t3⟩ := by
      have := gD.set (i := S.objs.length + 1) (x := [.int .i64 r.kind, w1, w2, w3, .int .i64 r.low, .int .i64 r.high]) (by omega)
      rw [hSD] at this ⊢
      exact this
    rw [fin_free g (by simp [PV.free, PV.freeL, fz1.1, fz2.1, fz3.1])]
    simp [PV.frz, PV.frzL, fz1.2, fz2.2, fz3.2]
  have hA' : St.mk (S.objs ++ [[.int .i64 r.kind, vl, vr, vi, .int .i64 r.low, .int .i64 r.high], [.int .i64 0, .nils, .nils, .nils, .int .i64 0, .int .i64 0]]) S.tips = SA := hSA.symm
  have hB' : St.mk (SA.objs.set S.objs.length [.int .i64 r.kind, w1, vr, vi, .int .i64 r.low, .int .i64 r.high]) t1 = SB := hSB.symm
  have hC' : St.mk (SB.objs.set S.objs.length [.int .i64 r.kind, w1, w2, vi, .int .i64 r.low, .int .i64 r.high]) t2 = SC := hSC.symm
  have hD' : St.mk (SC.objs.set S.objs.length [.int .i64 r.kind, w1, w2, w3, .int .i64 r.low, .int .i64 r.high]) t3 = SD := hSD.symm
  have tD : SD.tips = t3 := by rw [hSD]
  have og : (SD.objs.set (S.objs.length + 1) [.int .i64 r.kind, w1, w2, w3, .int .i64 r.low, .int .i64 r.high])[S.objs.length + 1]? = some [.int .i64 r.kind, w1, w2, w3, .int .i64 r.low, .int .i64 r.high] := List.getElem?_set_self (by omega)
  have n1 : 0 < (3 : Nat) := by omega
  have oA2 : (St.mk SA.objs (SA.tips ++ [(0, 2)])).objs[S.objs.length]? = _ := oA
  have oB2 : (St.mk SB.objs (SB.tips ++ [(0, 3)])).objs[S.objs.length]? = _ := oB
  have oC2 : (St.mk SC.objs (SC.tips ++ [(0, 1)])).objs[S.objs.length]? = _ := oC
  simp -implicitDefEqProofs [-List.all_eq_true, -z57_r1_go, z57, hal, pstep, putCells, hA', pt1]
  simp -implicitDefEqProofs [-List.all_eq_true, -z57_r2_go, pstep, elems, setParts, putCells, pt1, loadP_ptr oA2, h1.appd, a1, oA, hB', cc1, co1]
  simp -implicitDefEqProofs [-List.all_eq_true, -z57_r3_go, pstep, elems, setParts, putCells, pt1, loadP_ptr oB2, h2.appd, b1, oB, hC', cc2, co2]
  simp -implicitDefEqProofs [-List.all_eq_true, -z57_r4_go, pstep, elems, setParts, putCells, pt1, loadP_ptr oC2, h3.appd, c1, oC, hD', cc3, co3]
  simp -implicitDefEqProofs [-List.all_eq_true, pstep, putCells, loadP_ptr oD, p6, aD, og, tD, hfin, cc1, co1, cc2, co2, cc3, co3]
  exact ⟨⟨_, _, _, rfl, slF_isSl a2 (labs_cells _), slF_isSl b2 (rows_cells _), slF_isSl c2 (nV_cells _)⟩, hlens⟩
abbrev tyRow : Ty := .st (.pair (.int .i64) (.pair (.st (.pair (.int .i64) (.pair (.int .i64) .unit))) .unit))
abbrev tyRec : Ty := .st (.pair (.int .i64) (.pair (.sl tyLab) (.pair (.sl tyRow) (.pair (.sl (.int .i64)) (.pair (.int .i64) (.pair (.int .i64) .unit))))))
def inS {e : Ty} (x : (Ty.sl e).den) : List e.den := match x with | none => [] | some q => q.1
theorem inS_isl {e : Ty} (he : e.isTy = true) (x : (Ty.sl e).den) : IsSl e.n ((Ty.sl e).pv x) ((inS x).map e.pv) := by
  cases x with
  | none => exact .inl ⟨rfl, rfl⟩
  | some q =>
    obtain ⟨es, sp⟩ := q
    refine .inr ⟨none, sp.map e.pv, rfl, fun v hv => ?_⟩
    rcases List.mem_append.1 hv with hv | hv
    · obtain ⟨y, _, rfl⟩ := List.mem_map.1 hv
      rw [pv_cells he, emb_len]
    · obtain ⟨y, _, rfl⟩ := List.mem_map.1 hv
      rw [pv_cells he, emb_len]
theorem inS_len {e : Ty} (h : ∀ x : e.den, 1 ≤ e.bulk x) (x : (Ty.sl e).den) : (inS x).length ≤ (Ty.sl e).bulk x := by
  cases x with
  | none => exact Nat.zero_le _
  | some q =>
    obtain ⟨es, sp⟩ := q
    have := len_le_bulk e h es
    show es.length ≤ (es.map e.bulk).sum + (sp.map e.bulk).sum + 1
    omega
def inRow (x : tyRow.den) : RowM := (x.1, x.2.1.1, x.2.1.2.1)
def inR (x : tyRec.den) : RecM := ⟨x.1, inLW x.2.1, (inS x.2.2.1).map inRow, inS x.2.2.2.1, x.2.2.2.2.1, x.2.2.2.2.2.1⟩
theorem inR_rec {x : tyRec.den} (h : tyRec.wf x) (hb : tyRec.bulk x ≤ 1048576) : (∃ cs, tyRec.pv x = .agg cs ∧ RecC (inR x) cs) ∧ (inR x).labs.length ≤ 1048576 ∧ (inR x).rows.length ≤ 1048576 ∧ (inR x).ids.length ≤ 1048576 := by
  obtain ⟨k, l, rows, ids, lo, hi, u⟩ := x
  obtain ⟨_, wl, _⟩ := h
  have hb' : 1 + ((Ty.sl tyLab).bulk l + ((Ty.sl tyRow).bulk rows + ((Ty.sl (.int .i64)).bulk ids + (1 + (1 + 0))))) + 1 ≤ 1048576 := hb
  have b1 := inL_len l
  have b2 := inS_len (e := tyRow) (fun _ => Nat.succ_le_succ (Nat.zero_le _)) rows
  have b3 := inS_len (e := .int .i64) (fun _ => Nat.le_refl _) ids
  obtain ⟨_, wn⟩ := inL_wf wl
  have e1 : (inR (k, l, rows, ids, lo, hi, u)).labs.length = (inLW l).length := rfl
  have e2 : (inR (k, l, rows, ids, lo, hi, u)).rows.length = (inS rows).length := List.length_map ..
  have e3 : (inR (k, l, rows, ids, lo, hi, u)).ids.length = (inS ids).length := rfl
  refine ⟨⟨_, rfl, ⟨(Ty.sl tyLab).pv l, (Ty.sl tyRow).pv rows, (Ty.sl (.int .i64)).pv ids, ?_, ?_, ?_, ?_⟩, ?_⟩, by omega, by omega, by omega⟩
  · have q : ∀ (e : Ty) (y : (Ty.sl e).den), (Ty.sl e).emb y = [(Ty.sl e).pv y] := fun e y => by cases y <;> rfl
    show [PV.int .i64 k] ++ ((Ty.sl tyLab).emb l ++ ((Ty.sl tyRow).emb rows ++ ((Ty.sl (.int .i64)).emb ids ++ ([PV.int .i64 lo] ++ ([PV.int .i64 hi] ++ []))))) = _
    rw [q, q, q]; rfl
  · have := inS_isl (e := tyLab) rfl l
    have e : (inS l).map tyLab.pv = (inLW l).map labV := by cases l <;> rfl
    rw [e] at this; exact this
  · have := inS_isl (e := tyRow) rfl rows
    have e : (inS rows).map tyRow.pv = ((inS rows).map inRow).map rowV := by
      rw [List.map_map]
      apply List.map_congr_left
      intro y _
      rfl
    rw [e] at this; exact this
  · exact inS_isl (e := .int .i64) rfl ids
  · refine ⟨maxLen_ge (by omega), maxLen_ge (by omega), maxLen_ge (by omega), fun y hy => (wn y hy).1⟩
theorem recB_len {r : RecM} (h : recN r = 0) : (recB r).length ≤ 10000 := by
  rcases recN_full h with ⟨l, rfl, z⟩ | ⟨l, rfl, z⟩ | ⟨l, x, y, rfl, z, z1, z2, z3⟩
  · obtain ⟨h1, h2, _⟩ := checkN_zero.1 z
    have a := labs_flat_len h2
    have b := uintB_le9 (n := l.length) (by omega)
    have c := uintB_le9 (n := 1) (by omega)
    have he : recB ⟨1, l, [], [], 0, 0⟩ = uintB 1 ++ (uintB l.length ++ l.flatMap lab1B) := by simp [recB, labsB]
    rw [he]; simp only [List.length_append]; omega
  · obtain ⟨y1, y2, y3⟩ := rowsN_ok z
    have a : ∀ l : List RowM, (∀ x ∈ l, rowOk x) → (l.flatMap rowB).length ≤ 27 * l.length := by
      intro l
      induction l with
      | nil => intro _; simp
      | cons x l ih =>
        intro h
        have := ih (fun y hy => h y (by simp [hy]))
        have := rowB_len (h x (by simp))
        simp only [List.flatMap_cons, List.length_append, List.length_cons]; omega
    have := a l y3
    have b := uintB_le9 (n := l.length) (by omega)
    have c := uintB_le9 (n := 2) (by omega)
    have he : recB ⟨2, [], l, [], 0, 0⟩ = uintB 2 ++ (uintB l.length ++ l.flatMap rowB) := by simp [recB]
    rw [he]; simp only [List.length_append]; omega
  · obtain ⟨p1, p2⟩ := postN_asc z
    have q1 := postD_len l 0 (by omega) p2
    have q2 := uintB_le9 (n := l.length) (by omega)
    have q3 := uintB_le9 (n := x.toNat) (by omega)
    have q4 := uintB_le9 (n := y.toNat) (by omega)
    have c := uintB_le9 (n := 3) (by omega)
    have he : recB ⟨3, [], [], l, x, y⟩ = uintB 3 ++ (uintB l.length ++ (postD 0 l ++ (uintB x.toNat ++ uintB y.toNat))) := by simp [recB, postB]
    rw [he]; simp only [List.length_append]; omega
theorem recC_lens {r : RecM} (h : recN r = 0) : r.labs.length ≤ 100000000 ∧ r.rows.length ≤ 100000000 ∧ r.ids.length ≤ 100000000 := by
  rcases recN_full h with ⟨l, rfl, z⟩ | ⟨l, rfl, z⟩ | ⟨l, x, y, rfl, z, z1, z2, z3⟩
  · obtain ⟨h1, h2, _⟩ := checkN_zero.1 z
    simp; omega
  · obtain ⟨y1, y2, y3⟩ := rowsN_ok z
    simp; omega
  · obtain ⟨p1, p2⟩ := postN_asc z
    simp; omega
end Ps
