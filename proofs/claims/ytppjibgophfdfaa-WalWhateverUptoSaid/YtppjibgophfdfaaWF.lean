/- Bytes of a record: the program's, whole. -/
import Derived.Test.YtppjibgophfdfaaWE
namespace Ps
set_option linter.unusedSimpArgs false
set_option linter.unusedVariables false
open Go
theorem recB_no {r : RecM} {cs : List PV} (h : RecC r cs) (hr : recN r ≠ 0) (S : St) : cval T 142 [.agg cs] S = some (.tup [.nils, .int .i64 (recN r)], S) := by
  have hc := fun S => reccheck_val h S
  obtain ⟨⟨vl, vr, vi, rfl, h1, h2, h3⟩, hlens⟩ := h
  have hal : ([.int .i64 r.kind, vl, vr, vi, .int .i64 r.low, .int .i64 r.high] : List PV).all PV.one = true := cells_one h1 h2 h3
  have pt6 : ∀ (a b c d e f : PV), partOf true 6 [a, b, c, d, e, f] = some (.agg [a, b, c, d, e, f]) := fun a b c d e f => by simp [partOf]
  refine cval_ok' fn_142 rfl ?_
  simp -implicitDefEqProofs [-List.all_eq_true, -wal_Bytes_r4_go, wal_Bytes, hal, pstep, pt1, pt6, hc]
  refine ok_br (fun _ => ?_) (fun a => absurd a (by simpa using hr))
  simp
  try (rw [fin_free (Grows.refl S) rfl]; rfl)

theorem isl_cells {sz : Nat} {v : PV} {es : List PV} (h : IsSl sz v es) : v.cells = [v] := by
  rcases h with ⟨rfl, _⟩ | ⟨tip, sp, rfl, _⟩ <;> rfl
theorem nils_b : IsSl 1 .nils (ofBytes []) := .inl ⟨rfl, rfl⟩
theorem isl_ints (tip : Option (Nat × Nat)) (l : List Int) : IsSl 1 (.sl tip (nV l) []) (nV l) := .inr ⟨tip, [], rfl, fun e he => nV_cells l e (by simpa using he)⟩
theorem recB_ok1 {r : RecM} {cs : List PV} (h : RecC r cs) (hr : recN r = 0) (k1 : r.kind = 1) (z : checkN r.labs = 0) (S : St) : ∃ v', cval T 142 [.agg cs] S = some (.tup [v', .int .i64 0], S) ∧ SlB v' (recB r) := by
  have hc : ∀ S, cval T 179 [.agg cs] S = some (.int .i64 0, S) := fun S => by rw [reccheck_val h S, hr]; rfl
  obtain ⟨⟨vl, vr, vi, rfl, h1, h2, h3⟩, hlens⟩ := h
  have hal : ([.int .i64 r.kind, vl, vr, vi, .int .i64 r.low, .int .i64 r.high] : List PV).all PV.one = true := cells_one h1 h2 h3
  have pt6 : ∀ (a b c d e f : PV), partOf true 6 [a, b, c, d, e, f] = some (.agg [a, b, c, d, e, f]) := fun a b c d e f => by simp [partOf]
  have hk : ((r.kind.toNat : Nat) : Int) = r.kind := by omega
  have uk := uintB_le9 (n := r.kind.toNat) (by omega)
  obtain ⟨v1, S1, a1, a2, a3⟩ := putU_raw nils_b (n := r.kind.toNat) (by omega) (by simp) (Grows.refl S)
  rw [hk] at a1
  have b1 : (r.kind == 1) = true := by simpa using k1
  have he : recB r = uintB r.kind.toNat ++ labsB r.labs := by unfold recB; rw [if_pos k1]
  have hR := checkN_zero.1 z
  obtain ⟨cc, co⟩ := accg_cells a2
  have key := cval_ex (T := T) (f := 142) (c := wal_Bytes) fn_142 (args := [.agg [.int .i64 r.kind, vl, vr, vi, .int .i64 r.low, .int .i64 r.high]]) (S := S) rfl (R := fun x S2 => S2 = S ∧ ∃ v', x = .tup [v', .int .i64 0] ∧ SlB v' (recB r)) ?_
  · obtain ⟨x, S2, q1, rfl, v', rfl, q2⟩ := key
    exact ⟨v', q1, q2⟩
  have ha1 : AccG S 1 ⟨S1.objs ++ [[v1]], S1.tips⟩ v1 (ofBytes (uintB r.kind.toNat)) := by simpa using a2.objs [[v1]]
  obtain ⟨v2, c1, c2⟩ := putL_ok (ha1.isSl (ofBytes_cells _)) (by omega) h1.reads hlens.2.2.2 hlens.1 hR ⟨S1.objs ++ [[v1]], S1.tips⟩
  simp -implicitDefEqProofs [-List.all_eq_true, wal_Bytes, hal, pstep, putCells, pt1, pt6, hc, a1, b1, cc, co, c1, isl_cells c2.isl, isl_one c2.isl]
  have hfin : finish false S ⟨S1.objs ++ [[v2]], S1.tips⟩ (.tup [v2, .int .i64 0]) = (.tup [v2, .int .i64 0], S) := by
    rw [fin_free (a2.grows.obj [v2]) (by simp [PV.free, PV.freeL, c2.free])]
    simp [PV.frz, PV.frzL, c2.frz]
  have hol : (St.mk (S1.objs ++ [[v2]]) S1.tips).objs[S1.objs.length]? = some [v2] := by simp
  simp -implicitDefEqProofs [loadP_ptr hol, hfin]
  rw [he]; exact c2
theorem recB_ok3 {r : RecM} {cs : List PV} (h : RecC r cs) (hr : recN r = 0) (k3 : r.kind = 3) (z : postN r.ids = 0) (z1 : 0 ≤ r.low) (z2 : r.low ≤ r.high) (z3 : r.high ≤ 1099511627776) (S : St) : ∃ v', cval T 142 [.agg cs] S = some (.tup [v', .int .i64 0], S) ∧ SlB v' (recB r) := by
  have hc : ∀ S, cval T 179 [.agg cs] S = some (.int .i64 0, S) := fun S => by rw [reccheck_val h S, hr]; rfl
  obtain ⟨⟨vl, vr, vi, rfl, h1, h2, h3⟩, hlens⟩ := h
  have hal : ([.int .i64 r.kind, vl, vr, vi, .int .i64 r.low, .int .i64 r.high] : List PV).all PV.one = true := cells_one h1 h2 h3
  have pt6 : ∀ (a b c d e f : PV), partOf true 6 [a, b, c, d, e, f] = some (.agg [a, b, c, d, e, f]) := fun a b c d e f => by simp [partOf]
  have hk : ((r.kind.toNat : Nat) : Int) = r.kind := by omega
  have uk := uintB_le9 (n := r.kind.toNat) (by omega)
  obtain ⟨v1, S1, a1, a2, a3⟩ := putU_raw nils_b (n := r.kind.toNat) (by omega) (by simp) (Grows.refl S)
  rw [hk] at a1
  have b1 : (r.kind == 1) = false := by rw [k3]; rfl
  have b2 : (r.kind == 2) = false := by rw [k3]; rfl
  obtain ⟨cc, co⟩ := accg_cells a2
  have key := cval_ex (T := T) (f := 142) (c := wal_Bytes) fn_142 (args := [.agg [.int .i64 r.kind, vl, vr, vi, .int .i64 r.low, .int .i64 r.high]]) (S := S) rfl (R := fun x S2 => S2 = S ∧ ∃ v', x = .tup [v', .int .i64 0] ∧ SlB v' (recB r)) ?_
  · obtain ⟨x, S2, q1, rfl, v', rfl, q2⟩ := key
    exact ⟨v', q1, q2⟩
  have ha1 : AccG S 1 ⟨S1.objs ++ [[v1]], S1.tips⟩ v1 (ofBytes (uintB r.kind.toNat)) := by simpa using a2.objs [[v1]]
  obtain ⟨v2, c1, c2⟩ := pput_val (ha1.isSl (ofBytes_cells _)) (by omega) h3.reads z ⟨S1.objs ++ [[v1]], S1.tips⟩
  have n1 : ((r.low.toNat : Nat) : Int) = r.low := by omega
  have n2 : ((r.high.toNat : Nat) : Int) = r.high := by omega
  have hp : (postB r.ids).length ≤ 20000 := by
    obtain ⟨p1, p2⟩ := postN_asc z
    have q1 := postD_len r.ids 0 (by omega) p2
    have q2 := uintB_le9 (n := r.ids.length) (by omega)
    unfold postB; rw [List.length_append]; omega
  have hvl : IsSl 1 (PV.sl (some (S1.tips.length, 2)) [PV.int IntKind.i64 r.low, PV.int IntKind.i64 r.high] []) (nV ([r.low.toNat, r.high.toNat].map Int.ofNat)) := by
    have := isl_ints (some (S1.tips.length, 2)) ([r.low.toNat, r.high.toNat].map Int.ofNat)
    simpa [nV, n1, n2] using this
  have g2 : Grows S ⟨S1.objs ++ [[v2]], S1.tips ++ [(2, 1)]⟩ := (a2.grows.obj [v2]).arr _
  have hol : (St.mk (S1.objs ++ [[v2]]) (S1.tips ++ [(2, 1)])).objs[S1.objs.length]? = some [v2] := by simp
  have hid : ∀ id n es sp, v2 = .sl (some (id, n)) es sp → id < (St.mk (S1.objs ++ [[v2]]) (S1.tips ++ [(2, 1)])).tips.length := by
    intro id n es sp e
    have := c2.frz
    rw [e] at this
    simp [PV.frz] at this
  obtain ⟨S3, v3, d1, d2, d3⟩ := cput_val (S0 := S) (i := S1.objs.length) hvl.reads (by simp) (by simp; omega) (by rw [a3]; exact Nat.le_refl _) (by simp) hol g2 c2.isl hid (by simp only [List.length_append, List.length_cons, List.length_nil]; omega)
  simp -implicitDefEqProofs [-List.all_eq_true, wal_Bytes, hal, pstep, putCells, elems, setParts, pt1, pt6, hc, a1, b1, b2, cc, co, c1, isl_cells c2.isl, isl_one c2.isl, d1, loadP_ptr d2]
  have he : uintB r.kind.toNat ++ postB r.ids ++ [r.low.toNat, r.high.toNat].flatMap uintB = recB r := by unfold recB; rw [if_neg (by omega), if_neg (by omega)]; simp
  rw [he] at d3
  have hfin := tup_fin d3
  simp [hfin]
  exact slF_byt d3
theorem accg_idl {S0 S : St} {sz : Nat} {v : PV} {es : List PV} (h : AccG S0 sz S v es) : ∀ id n es' sp, v = .sl (some (id, n)) es' sp → id < S.tips.length := by
  intro id n es' sp e
  rcases h.acc with ⟨a, _⟩ | ⟨j, _, a, b⟩
  · rw [a] at e; cases e
  · rw [a] at e; cases e
    exact (List.getElem?_eq_some_iff.1 b).1

theorem wrows_loop {l : List RowM} {vr : PV} (hv : Reads1 3 vr (l.map rowV)) (hl : l.length ≤ 64) (hok : ∀ x ∈ l, rowOk x) {i : Nat} {S0 : St} (hi : S0.objs.length ≤ i) {K : List Kt} {Q : Fr → St → Prop} : ∀ (r p : List RowM) (s : List UInt8) (v : PV), l = p ++ r → s.length + 27 * r.length ≤ 67000000 → ∀ (fr : Fr) (S : St),
    fr 5 = .ptr i 0 → fr 7 = .fn 240 [.ptr i 0] → fr 56 = vr → fr 57 = .int .i64 l.length → fr 58 = .int .i64 p.length → S.objs[i]? = some [v] → AccG S0 1 S v (ofBytes s) →
    (∀ fr' S' v', fr' 5 = .ptr i 0 → S'.objs[i]? = some [v'] → AccG S0 1 S' v' (ofBytes (s ++ r.flatMap rowB)) → Ok (gval T K fr' S') Q) →
    Ok (gval T (.lp wal_Bytes_l0 :: .blk 1 :: K) fr S) Q := by
  intro r
  induction r with
  | nil =>
    intro p s v e hs fr S h5 h7 h56 h57 h58 ho ha k
    rw [List.append_nil] at e; subst e
    rw [gval_lp]
    simp -implicitDefEqProofs [h57, h58]
    exact k _ _ v (by simp [h5]) ho (by simpa using ha)
  | cons x r ih =>
    intro p s v e hs fr S h5 h7 h56 h57 h58 ho ha k
    have hlt : p.length < l.length := by rw [e]; simp
    have hg := row_get hv e (k := .i64)
    have hw := wrap_len (a := p.length) (by omega)
    have hx := hok x (by rw [e]; simp)
    obtain ⟨x1, x2, x3⟩ := hx
    obtain ⟨m1, m2, m3, m4⟩ := may_bounds x3
    simp only [List.length_cons] at hs
    have hz := zig_pval m3 m4
    have n1 : ((x.1.toNat : Nat) : Int) = x.1 := by omega
    have n2 : ((x.2.1.toNat : Nat) : Int) = x.2.1 := by omega
    have u1 := uintB_le9 (n := x.1.toNat) (by omega)
    have u2 := uintB_le9 (n := x.2.1.toNat) (by omega)
    have u3 := uintB_le9 (n := zigN x.2.2) (zigN_lt m3 m4)
    have hil : i < S.objs.length := (List.getElem?_eq_some_iff.1 ho).1
    have hvl : IsSl 1 (PV.sl (some (S.tips.length, 3)) [PV.int IntKind.i64 x.1, PV.int IntKind.i64 x.2.1, PV.int IntKind.i64 (zigN x.2.2 : Nat)] []) (nV ([x.1.toNat, x.2.1.toNat, zigN x.2.2].map Int.ofNat)) := by
      have := isl_ints (some (S.tips.length, 3)) ([x.1.toNat, x.2.1.toNat, zigN x.2.2].map Int.ofNat)
      simpa [nV, n1, n2] using this
    have ho2 : (St.mk (S.objs ++ [[PV.int IntKind.i64 x.1, PV.int IntKind.i64 x.2.1, PV.int IntKind.i64 x.2.2]]) (S.tips ++ [(3, 1)])).objs[i]? = some [v] := by
      simp only
      rw [List.getElem?_append_left hil]; exact ho
    have ha2 := (ha.objs [[PV.int IntKind.i64 x.1, PV.int IntKind.i64 x.2.1, PV.int IntKind.i64 x.2.2]]).arrs [(3, 1)]
    obtain ⟨S3, v3, d1, d2, d3⟩ := cput_val (S0 := S0) (i := i) hvl.reads (by simp) (by
      intro y hy
      have hzl := zigN_lt m3 m4
      simp only [List.mem_cons, List.not_mem_nil, or_false] at hy
      omega) hi (by simp) ho2 ha2.grows (ha2.isSl (ofBytes_cells _)) (accg_idl ha2) (by simp only [List.length_cons, List.length_nil]; omega)
    rw [gval_lp]
    simp -implicitDefEqProofs [h5, h7, h56, h57, h58, hlt, hg, pt1, pt2, pt3, hw, pstep, putCells, elems, setParts, hz, d1]
    refine ih (p ++ [x]) (s ++ uintB x.1.toNat ++ uintB x.2.1.toNat ++ uintB (zigN x.2.2)) v3 (by simp [e]) (by simp only [List.length_append]; omega) _ S3 (by simp [h5]) (by simp [h7]) (by simp [h56]) (by simp [h57]) (by simp [hw]) d2 (by simpa using d3) (fun fr' S' v' g1 g2 g3 => k fr' S' v' g1 g2 ?_)
    simpa [rowB] using g3

theorem recB_ok2 {r : RecM} {cs : List PV} (h : RecC r cs) (hr : recN r = 0) (k2 : r.kind = 2) (z : rowsN r.rows = 0) (S : St) : ∃ v', cval T 142 [.agg cs] S = some (.tup [v', .int .i64 0], S) ∧ SlB v' (recB r) := by
  have hc : ∀ S, cval T 179 [.agg cs] S = some (.int .i64 0, S) := fun S => by rw [reccheck_val h S, hr]; rfl
  obtain ⟨⟨vl, vr, vi, rfl, h1, h2, h3⟩, hlens⟩ := h
  have hal : ([.int .i64 r.kind, vl, vr, vi, .int .i64 r.low, .int .i64 r.high] : List PV).all PV.one = true := cells_one h1 h2 h3
  have pt6 : ∀ (a b c d e f : PV), partOf true 6 [a, b, c, d, e, f] = some (.agg [a, b, c, d, e, f]) := fun a b c d e f => by simp [partOf]
  have l2 := h2.len
  rw [List.length_map] at l2
  have hk : ((r.kind.toNat : Nat) : Int) = r.kind := by omega
  have uk := uintB_le9 (n := r.kind.toNat) (by omega)
  obtain ⟨v1, S1, a1, a2, a3⟩ := putU_raw nils_b (n := r.kind.toNat) (by omega) (by simp) (Grows.refl S)
  rw [hk] at a1
  have b1 : (r.kind == 1) = false := by rw [k2]; rfl
  have b2 : (r.kind == 2) = true := by simpa using k2
  obtain ⟨y1, y2, y3⟩ := rowsN_ok z
  have he : recB r = uintB r.kind.toNat ++ (uintB r.rows.length ++ r.rows.flatMap rowB) := by unfold recB; rw [if_neg (by omega), if_pos k2]
  obtain ⟨cc, co⟩ := accg_cells a2
  have key := cval_ex (T := T) (f := 142) (c := wal_Bytes) fn_142 (args := [.agg [.int .i64 r.kind, vl, vr, vi, .int .i64 r.low, .int .i64 r.high]]) (S := S) rfl (R := fun x S2 => S2 = S ∧ ∃ v', x = .tup [v', .int .i64 0] ∧ SlB v' (recB r)) ?_
  · obtain ⟨x, S2, q1, rfl, v', rfl, q2⟩ := key
    exact ⟨v', q1, q2⟩
  have ha1 : AccG S 1 ⟨S1.objs ++ [[v1]], S1.tips ++ [(1, 1)]⟩ v1 (ofBytes (uintB r.kind.toNat)) := by simpa using (a2.objs [[v1]]).arrs [(1, 1)]
  have hol : (St.mk (S1.objs ++ [[v1]]) (S1.tips ++ [(1, 1)])).objs[S1.objs.length]? = some [v1] := by simp
  have hvl : IsSl 1 (PV.sl (some (S1.tips.length, 1)) [PV.int IntKind.i64 (r.rows.length : Nat)] []) (nV ([r.rows.length].map Int.ofNat)) := by
    have := isl_ints (some (S1.tips.length, 1)) ([r.rows.length].map Int.ofNat)
    simpa [nV] using this
  obtain ⟨S3, v3, d1, d2, d3⟩ := cput_val (S0 := S) (i := S1.objs.length) hvl.reads (by simp) (by
    intro y hy
    simp only [List.mem_cons, List.not_mem_nil, or_false] at hy
    omega) (by rw [a3]; exact Nat.le_refl _) (by simp) hol ha1.grows (ha1.isSl (ofBytes_cells _)) (accg_idl ha1) (by simp only [List.length_cons, List.length_nil]; omega)
  have u2 := uintB_le9 (n := r.rows.length) (by omega)
  simp -implicitDefEqProofs [-List.all_eq_true, wal_Bytes, hal, pstep, putCells, elems, setParts, pt1, pt6, hc, a1, b1, b2, cc, co, l2, d1]
  refine wrows_loop h2.reads y1 y3 (i := S1.objs.length) (S0 := S) (by rw [a3]; exact Nat.le_refl _) r.rows [] (uintB r.kind.toNat ++ uintB r.rows.length) v3 rfl (by simp only [List.length_append]; omega) _ S3 (by simp) (by simp) (by simp) (by simp) (by simp) d2 (by simpa using d3) (fun fr' S' v' g5 g1 g2 => ?_)
  rw [List.append_assoc, ← he] at g2
  have hfin := tup_fin g2
  simp -implicitDefEqProofs [g5, loadP_ptr g1, pt1, hfin]
  exact slF_byt g2

theorem recB_ok {r : RecM} {cs : List PV} (h : RecC r cs) (hr : recN r = 0) (S : St) : ∃ v', cval T 142 [.agg cs] S = some (.tup [v', .int .i64 0], S) ∧ SlB v' (recB r) := by
  rcases recN_zero hr with ⟨k1, z⟩ | ⟨k2, z⟩ | ⟨k3, z, z1, z2, z3⟩
  · exact recB_ok1 h hr k1 z S
  · exact recB_ok2 h hr k2 z S
  · exact recB_ok3 h hr k3 z z1 z2 z3 S
end Ps
