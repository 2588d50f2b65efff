/- Numbers and posting lists read, both. -/
import Derived.Test.YtppjibgophfdfaaWE
namespace Ps
set_option linter.unusedSimpArgs false
open Go
theorem recB_no {r : RecM} {cs : List PV} (h : RecC r cs) (hr : recN r ≠ 0) (S : St) : cval T 142 [.agg cs] S = some (.tup [.nils, .int .i64 (recN r)], S) := by
  have hc := fun S => reccheck_val h S
  obtain ⟨⟨vl, vr, vi, rfl, h1, h2, h3⟩, hlens⟩ := h
  have hal : ([.int .i64 r.kind, vl, vr, vi, .int .i64 r.low, .int .i64 r.high] : List PV).all PV.one = true := cells_one h1 h2 h3
  have pt6 : ∀ (a b c d e f : PV), partOf true 6 [a, b, c, d, e, f] = some (.agg [a, b, c, d, e, f]) := fun a b c d e f => by simp [partOf]
  refine cval_ok' fn_142 rfl ?_
  simp -implicitDefEqProofs [-List.all_eq_true, -z62_r4_go, z62, hal, pstep, pt1, pt6, hc]
  refine ok_br (fun _ => ?_) (fun a => absurd a (by simpa using hr))
  simp
  try (rw [fin_free (Grows.refl S) rfl]; rfl)
theorem isl_cells {sz : Nat} {v : PV} {es : List PV} (h : IsSl sz v es) : v.cells = [v] := by
  rcases h with ⟨rfl, _⟩ | ⟨tip, sp, rfl, _⟩ <;> rfl
theorem nils_b : IsSl 1 .nils (ofBytes []) := .inl ⟨rfl, rfl⟩
theorem isl_ints (tip : Option (Nat × Nat)) (l : List Int) : IsSl 1 (.sl tip (nV l) []) (nV l) := .inr ⟨tip, [], rfl, fun e he => nV_cells l e (by simpa using he)⟩
theorem recB_ok1 {r : RecM} {cs : List PV} (h : RecC r cs) (hr : recN r = 0) (k1 : r.kind = 1) (z : checkN r.labs = 0) (S : St) : ∃ v', cval T 142 [.agg cs] S = some (.tup [v', .int .i64 0], S) ∧ SlB v' (recB r) := by
  have hc : ∀ S, cval T 179 [.agg cs] S = some (.int .i64 0, S) := fun S => by rw [reccheck_val h S, hr]; rfl
  obtain ⟨⟨vl, vr, vi, rfl, h1, h2, h3⟩, hlens⟩ := h
  have hal : ([.int .i64 r.kind, vl, vr, vi, .int .i64 r.low, .int .i64 r.high] : List PV).all PV.one = true := cells_one h1 h2 h3
  have pt6 : ∀ (a b c d e f : PV), partOf true 6 [a, b, c, d, e, f] = some (.agg [a, b, c, d, e, f]) := fun a b c d e f => by simp [partOf]
  have hk : ((r.kind.toNat : Nat) : Int) = r.kind := by omega
  have uk := uintB_le9 (n := r.kind.toNat) (by omega)
  obtain ⟨v1, S1, a1, a2, a3⟩ := putU_raw nils_b (n := r.kind.toNat) (by omega) (by simp) (Grows.refl S)
  rw [hk] at a1
  have b1 : (r.kind == 1) = true := by simpa using k1
  have he : recB r = uintB r.kind.toNat ++ labsB r.labs := by unfold recB; rw [if_pos k1]
  have hR := checkN_zero.1 z
  obtain ⟨cc, co⟩ := accg_cells a2
  have key := cval_ex (T := T) (f := 142) (c := z62) fn_142 (args := [.agg [.int .i64 r.kind, vl, vr, vi, .int .i64 r.low, .int .i64 r.high]]) (S := S) rfl (R := fun x S2 => S2 = S ∧ ∃ v', x = .tup [v', .int .i64 0] ∧ SlB v' (recB r)) ?_
  · obtain ⟨x, S2, q1, rfl, v', rfl, q2⟩ := key
    exact ⟨v', q1, q2⟩
  have ha1 : AccG S 1 ⟨S1.objs ++ [[v1]], S1.tips⟩ v1 (ofBytes (uintB r.kind.toNat)) := by simpa using a2.objs [[v1]]
  obtain ⟨v2, c1, c2⟩ := putL_ok (ha1.isSl (ofBytes_cells _)) (by omega) h1.reads hlens.2.2.2 hlens.1 hR ⟨S1.objs ++ [[v1]], S1.tips⟩
  simp -implicitDefEqProofs [-List.all_eq_true, z62, hal, pstep, putCells, pt1, pt6, hc, a1, b1, cc, co, c1, isl_cells c2.isl, isl_one c2.isl]
  have hfin : finish false S ⟨S1.objs ++ [[v2]], S1.tips⟩ (.tup [v2, .int .i64 0]) = (.tup [v2, .int .i64 0], S) := by
    rw [fin_free (a2.grows.obj [v2]) (by simp [PV.free, PV.freeL, c2.free])]
    simp [PV.frz, PV.frzL, c2.frz]
  have hol : (St.mk (S1.objs ++ [[v2]]) S1.tips).objs[S1.objs.length]? = some [v2] := by simp
  simp -implicitDefEqProofs [loadP_ptr hol, hfin]
  rw [he]; exact c2
theorem recB_ok3 {r : RecM} {cs : List PV} (h : RecC r cs) (hr : recN r = 0) (k3 : r.kind = 3) (z : postN r.ids = 0) (z1 : 0 ≤ r.low) (z2 : r.low ≤ r.high) (z3 : r.high ≤ 1099511627776) (S : St) : ∃ v', cval T 142 [.agg cs] S = some (.tup [v', .int .i64 0], S) ∧ SlB v' (recB r) := by
  have hc : ∀ S, cval T 179 [.agg cs] S = some (.int .i64 0, S) := fun S => by rw [reccheck_val h S, hr]; rfl
  obtain ⟨⟨vl, vr, vi, rfl, h1, h2, h3⟩, hlens⟩ := h
  have hal : ([.int .i64 r.kind, vl, vr, vi, .int .i64 r.low, .int .i64 r.high] : List PV).all PV.one = true := cells_one h1 h2 h3
  have pt6 : ∀ (a b c d e f : PV), partOf true 6 [a, b, c, d, e, f] = some (.agg [a, b, c, d, e, f]) := fun a b c d e f => by simp [partOf]
  have hk : ((r.kind.toNat : Nat) : Int) = r.kind := by omega
  have uk := uintB_le9 (n := r.kind.toNat) (by omega)
  obtain ⟨v1, S1, a1, a2, a3⟩ := putU_raw nils_b (n := r.kind.toNat) (by omega) (by simp) (Grows.refl S)
  rw [hk] at a1
  have b1 : (r.kind == 1) = false := by rw [k3]; rfl
  have b2 : (r.kind == 2) = false := by rw [k3]; rfl
  obtain ⟨cc, co⟩ := accg_cells a2
  have key := cval_ex (T := T) (f := 142) (c := z62) fn_142 (args := [.agg [.int .i64 r.kind, vl, vr, vi, .int .i64 r.low, .int .i64 r.high]]) (S := S) rfl (R := fun x S2 => S2 = S ∧ ∃ v', x = .tup [v', .int .i64 0] ∧ SlB v' (recB r)) ?_
  · obtain ⟨x, S2, q1, rfl, v', rfl, q2⟩ := key
    exact ⟨v', q1, q2⟩
  have ha1 : AccG S 1 ⟨S1.objs ++ [[v1]], S1.tips⟩ v1 (ofBytes (uintB r.kind.toNat)) := by simpa using a2.objs [[v1]]
  obtain ⟨v2, c1, c2⟩ := pput_val (ha1.isSl (ofBytes_cells _)) (by omega) h3.reads z ⟨S1.objs ++ [[v1]], S1.tips⟩
  have n1 : ((r.low.toNat : Nat) : Int) = r.low := by omega
  have n2 : ((r.high.toNat : Nat) : Int) = r.high := by omega
  have hp : (postB r.ids).length ≤ 20000 := by
    obtain ⟨p1, p2⟩ := postN_asc z
    have q1 := postD_len r.ids 0 (by omega) p2
    have q2 := uintB_le9 (n := r.ids.length) (by omega)
    unfold postB; rw [List.length_append]; omega
  have hvl : IsSl 1 (PV.sl (some (S1.tips.length, 2)) [PV.int IntKind.i64 r.low, PV.int IntKind.i64 r.high] []) (nV ([r.low.toNat, r.high.toNat].map Int.ofNat)) := by
    have := isl_ints (some (S1.tips.length, 2)) ([r.low.toNat, r.high.toNat].map Int.ofNat)
    simpa [nV, n1, n2] using this
  have g2 : Grows S ⟨S1.objs ++ [[v2]], S1.tips ++ [(2, 1)]⟩ := (a2.grows.obj [v2]).arr _
  have hol : (St.mk (S1.objs ++ [[v2]]) (S1.tips ++ [(2, 1)])).objs[S1.objs.length]? = some [v2] := by simp
  have hid : ∀ id n es sp, v2 = .sl (some (id, n)) es sp → id < (St.mk (S1.objs ++ [[v2]]) (S1.tips ++ [(2, 1)])).tips.length := by
    intro id n es sp e
    have := c2.frz
    rw [e] at this
    simp [PV.frz] at this
  obtain ⟨S3, v3, d1, d2, d3⟩ := cput_val (S0 := S) (i := S1.objs.length) hvl.reads (by simp) (by simp; omega) (by rw [a3]; exact Nat.le_refl _) (by simp) hol g2 c2.isl hid (by simp only [List.length_append, List.length_cons, List.length_nil]; omega)
  simp -implicitDefEqProofs [-List.all_eq_true, z62, hal, pstep, putCells, elems, setParts, pt1, pt6, hc, a1, b1, b2, cc, co, c1, isl_cells c2.isl, isl_one c2.isl, d1, loadP_ptr d2]
  have he : uintB r.kind.toNat ++ postB r.ids ++ [r.low.toNat, r.high.toNat].flatMap uintB = recB r := by unfold recB; rw [if_neg (by omega), if_neg (by omega)]; simp
  rw [he] at d3
  have hfin := tup_fin d3
  simp [hfin]
  exact slF_byt d3
theorem accg_idl {S0 S : St} {sz : Nat} {v : PV} {es : List PV} (h : AccG S0 sz S v es) : ∀ id n es' sp, v = .sl (some (id, n)) es' sp → id < S.tips.length := by
  intro id n es' sp e
  rcases h.acc with ⟨a, _⟩ | ⟨j, _, a, b⟩
  · rw [a] at e; cases e
  · rw [a] at e; cases e
    exact (List.getElem?_eq_some_iff.1 b).1
theorem wrows_loop {l : List RowM} {vr : PV} (hv : Reads1 3 vr (l.map rowV)) (hl : l.length ≤ 64) (hok : ∀ x ∈ l, rowOk x) {i : Nat} {S0 : St} (hi : S0.objs.length ≤ i) {K : List Kt} {Q : Fr → St → Prop} : ∀ (r p : List RowM) (s : List UInt8) (v : PV), l = p ++ r → s.length + 27 * r.length ≤ 67000000 → ∀ (fr : Fr) (S : St),
    fr 5 = .ptr i 0 → fr 7 = .fn 240 [.ptr i 0] → fr 56 = vr → fr 57 = .int .i64 l.length → fr 58 = .int .i64 p.length → S.objs[i]? = some [v] → AccG S0 1 S v (ofBytes s) →
    (∀ fr' S' v', fr' 5 = .ptr i 0 → S'.objs[i]? = some [v'] → AccG S0 1 S' v' (ofBytes (s ++ r.flatMap rowB)) → Ok (gval T K fr' S') Q) →
    Ok (gval T (.lp z62_l0 :: .blk 1 :: K) fr S) Q := by
  intro r
  induction r with
  | nil =>
    intro p s v e hs fr S h5 h7 h56 h57 h58 ho ha k
    rw [List.append_nil] at e; subst e
    rw [gval_lp]
    simp -implicitDefEqProofs [h57, h58]
    exact k _ _ v (by simp [h5]) ho (by simpa using ha)
  | cons x r ih =>
    intro p s v e hs fr S h5 h7 h56 h57 h58 ho ha k
    have hlt : p.length < l.length := by rw [e]; simp
    have hg := row_get hv e (k := .i64)
    have hw := wrap_len (a := p.length) (by omega)
    have hx := hok x (by rw [e]; simp)
    obtain ⟨x1, x2, x3⟩ := hx
    obtain ⟨m1, m2, m3, m4⟩ := may_bounds x3
    simp only [List.length_cons] at hs
    have hz := zig_pval m3 m4
    have n1 : ((x.1.toNat : Nat) : Int) = x.1 := by omega
    have n2 : ((x.2.1.toNat : Nat) : Int) = x.2.1 := by omega
    have u1 := uintB_le9 (n := x.1.toNat) (by omega)
    have u2 := uintB_le9 (n := x.2.1.toNat) (by omega)
    have u3 := uintB_le9 (n := zigN x.2.2) (zigN_lt m3 m4)
    have hil : i < S.objs.length := (List.getElem?_eq_some_iff.1 ho).1
    have hvl : IsSl 1 (PV.sl (some (S.tips.length, 3)) [PV.int IntKind.i64 x.1, PV.int IntKind.i64 x.2.1, PV.int IntKind.i64 (zigN x.2.2 : Nat)] []) (nV ([x.1.toNat, x.2.1.toNat, zigN x.2.2].map Int.ofNat)) := by
      have := isl_ints (some (S.tips.length, 3)) ([x.1.toNat, x.2.1.toNat, zigN x.2.2].map Int.ofNat)
      simpa [nV, n1, n2] using this
    have ho2 : (St.mk (S.objs ++ [[PV.int IntKind.i64 x.1, PV.int IntKind.i64 x.2.1, PV.int IntKind.i64 x.2.2]]) (S.tips ++ [(3, 1)])).objs[i]? = some [v] := by
      simp only
      rw [List.getElem?_append_left hil]; exact ho
    have ha2 := (ha.objs [[PV.int IntKind.i64 x.1, PV.int IntKind.i64 x.2.1, PV.int IntKind.i64 x.2.2]]).arrs [(3, 1)]
    obtain ⟨S3, v3, d1, d2, d3⟩ := cput_val (S0 := S0) (i := i) hvl.reads (by simp) (by
      intro y hy
      have hzl := zigN_lt m3 m4
      simp only [List.mem_cons, List.not_mem_nil, or_false] at hy
      omega) hi (by simp) ho2 ha2.grows (ha2.isSl (ofBytes_cells _)) (accg_idl ha2) (by simp only [List.length_cons, List.length_nil]; omega)
    rw [gval_lp]
    simp -implicitDefEqProofs [h5, h7, h56, h57, h58, hlt, hg, pt1, pt2, pt3, hw, pstep, putCells, elems, setParts, hz, d1]
    refine ih (p ++ [x]) (s ++ uintB x.1.toNat ++ uintB x.2.1.toNat ++ uintB (zigN x.2.2)) v3 (by simp [e]) (by simp only [List.length_append]; omega) _ S3 (by simp [h5]) (by simp [h7]) (by simp [h56]) (by simp [h57]) (by simp [hw]) d2 (by simpa using d3) (fun fr' S' v' g1 g2 g3 => k fr' S' v' g1 g2 ?_)
    simpa [rowB] using g3
theorem recB_ok2 {r : RecM} {cs : List PV} (h : RecC r cs) (hr : recN r = 0) (k2 : r.kind = 2) (z : rowsN r.rows = 0) (S : St) : ∃ v', cval T 142 [.agg cs] S = some (.tup [v', .int .i64 0], S) ∧ SlB v' (recB r) := by
  have hc : ∀ S, cval T 179 [.agg cs] S = some (.int .i64 0, S) := fun S => by rw [reccheck_val h S, hr]; rfl
  obtain ⟨⟨vl, vr, vi, rfl, h1, h2, h3⟩, hlens⟩ := h
  have hal : ([.int .i64 r.kind, vl, vr, vi, .int .i64 r.low, .int .i64 r.high] : List PV).all PV.one = true := cells_one h1 h2 h3
  have pt6 : ∀ (a b c d e f : PV), partOf true 6 [a, b, c, d, e, f] = some (.agg [a, b, c, d, e, f]) := fun a b c d e f => by simp [partOf]
  have l2 := h2.len
  rw [List.length_map] at l2
  have hk : ((r.kind.toNat : Nat) : Int) = r.kind := by omega
  have uk := uintB_le9 (n := r.kind.toNat) (by omega)
  obtain ⟨v1, S1, a1, a2, a3⟩ := putU_raw nils_b (n := r.kind.toNat) (by omega) (by simp) (Grows.refl S)
  rw [hk] at a1
  have b1 : (r.kind == 1) = false := by rw [k2]; rfl
  have b2 : (r.kind == 2) = true := by simpa using k2
  obtain ⟨y1, y2, y3⟩ := rowsN_ok z
  have he : recB r = uintB r.kind.toNat ++ (uintB r.rows.length ++ r.rows.flatMap rowB) := by unfold recB; rw [if_neg (by omega), if_pos k2]
  obtain ⟨cc, co⟩ := accg_cells a2
  have key := cval_ex (T := T) (f := 142) (c := z62) fn_142 (args := [.agg [.int .i64 r.kind, vl, vr, vi, .int .i64 r.low, .int .i64 r.high]]) (S := S) rfl (R := fun x S2 => S2 = S ∧ ∃ v', x = .tup [v', .int .i64 0] ∧ SlB v' (recB r)) ?_
  · obtain ⟨x, S2, q1, rfl, v', rfl, q2⟩ := key
    exact ⟨v', q1, q2⟩
  have ha1 : AccG S 1 ⟨S1.objs ++ [[v1]], S1.tips ++ [(1, 1)]⟩ v1 (ofBytes (uintB r.kind.toNat)) := by simpa using (a2.objs [[v1]]).arrs [(1, 1)]
  have hol : (St.mk (S1.objs ++ [[v1]]) (S1.tips ++ [(1, 1)])).objs[S1.objs.length]? = some [v1] := by simp
  have hvl : IsSl 1 (PV.sl (some (S1.tips.length, 1)) [PV.int IntKind.i64 (r.rows.length : Nat)] []) (nV ([r.rows.length].map Int.ofNat)) := by
    have := isl_ints (some (S1.tips.length, 1)) ([r.rows.length].map Int.ofNat)
    simpa [nV] using this
  obtain ⟨S3, v3, d1, d2, d3⟩ := cput_val (S0 := S) (i := S1.objs.length) hvl.reads (by simp) (by
    intro y hy
    simp only [List.mem_cons, List.not_mem_nil, or_false] at hy
    omega) (by rw [a3]; exact Nat.le_refl _) (by simp) hol ha1.grows (ha1.isSl (ofBytes_cells _)) (accg_idl ha1) (by simp only [List.length_cons, List.length_nil]; omega)
  have u2 := uintB_le9 (n := r.rows.length) (by omega)
  simp -implicitDefEqProofs [-List.all_eq_true, z62, hal, pstep, putCells, elems, setParts, pt1, pt6, hc, a1, b1, b2, cc, co, l2, d1]
  refine wrows_loop h2.reads y1 y3 (i := S1.objs.length) (S0 := S) (by rw [a3]; exact Nat.le_refl _) r.rows [] (uintB r.kind.toNat ++ uintB r.rows.length) v3 rfl (by simp only [List.length_append]; omega) _ S3 (by simp) (by simp) (by simp) (by simp) (by simp) d2 (by simpa using d3) (fun fr' S' v' g5 g1 g2 => ?_)
  rw [List.append_assoc, ← he] at g2
  have hfin := tup_fin g2
  simp -implicitDefEqProofs [g5, loadP_ptr g1, pt1, hfin]
  exact slF_byt g2
theorem recB_ok {r : RecM} {cs : List PV} (h : RecC r cs) (hr : recN r = 0) (S : St) : ∃ v', cval T 142 [.agg cs] S = some (.tup [v', .int .i64 0], S) ∧ SlB v' (recB r) := by
  rcases recN_zero hr with ⟨k1, z⟩ | ⟨k2, z⟩ | ⟨k3, z, z1, z2, z3⟩
  · exact recB_ok1 h hr k1 z S
  · exact recB_ok2 h hr k2 z S
  · exact recB_ok3 h hr k3 z z1 z2 z3 S
end Ps
namespace Ps
set_option linter.unusedSimpArgs false
open Go
theorem fn_243 : T.fn 243 = some (.code z14) := rfl
theorem fn_244 : T.fn 244 = some (.code z70) := rfl
theorem fn_245 : T.fn 245 = some (.code z35) := rfl
def readS (s : List UInt8) (i : Nat) (bad : Bool) : Nat × Nat × Bool := if bad = true then (0, i, true) else if (getU s i).2.2 ≠ 0 then (0, i, true) else ((getU s i).1, (getU s i).2.1, false)
theorem fin_set {S : St} {i : Nat} {x : List PV} {k : IntKind} {n : Int} : finish false S ⟨S.objs.set i x, S.tips⟩ (.int k n) = (.int k n, ⟨S.objs.set i x, S.tips⟩) := finish_noalloc (by simp) rfl rfl rfl (fun _ _ h => beqLL_eq h)
theorem set_self {α : Type} {l : List α} {i : Nat} {x : α} (h : l[i]? = some x) : l.set i x = l := by
  apply List.ext_getElem?
  intro k
  by_cases hk : i = k
  · subst hk
    have := (List.getElem?_eq_some_iff.1 h).1
    rw [List.getElem?_set_self this, h]
  · rw [List.getElem?_set_ne hk]
theorem rd_val {s : List UInt8} {v : PV} (hv : IsSl 1 v (ofBytes s)) (hs : s.length ≤ 67108864) {S : St} {i p : Nat} {bad : Bool} (ho : S.objs[i]? = some [v, .int .i64 (p : Int), .bool bad]) :
    cval T 243 [.ptr i 0] S = some (.int .i64 ((readS s p bad).1 : Int), ⟨S.objs.set i [v, .int .i64 ((readS s p bad).2.1 : Int), .bool (readS s p bad).2.2], S.tips⟩) := by
  cases bad with
  | true =>
    have hr : readS s p true = (0, p, true) := rfl
    rw [hr]
    simp only
    rw [set_self ho]
    refine cval_ok' fn_243 rfl ?_
    simp -implicitDefEqProofs [z14, loadP_ptr ho, pt1]
  | false =>
    have hg := gu_val hv hs (i := (p : Int)) S
    obtain ⟨⟨n, nx, e⟩, hu⟩ : ∃ q, getU s p = q := ⟨_, rfl⟩
    rw [hu] at hg
    simp only [res3] at hg
    have h1 := isl_one hv
    have h2 := isl_cells hv
    refine cval_ok' fn_243 rfl ?_
    by_cases he : e = 0
    · subst he
      have hr : readS s p false = (n, nx, false) := by simp [readS, hu]
      rw [hr]
      simp -implicitDefEqProofs [z14, loadP_ptr ho, pt1, hg, pstep, putCells, ho]
      exact fin_set
    · have hr : readS s p false = (0, p, true) := by simp [readS, hu, he]
      have hne : ((e : Int) != 0) = true := by simpa using he
      rw [hr]
      simp -implicitDefEqProofs [z14, loadP_ptr ho, pt1, hg, pstep, putCells, ho, hne]
      exact fin_set
def zagN (n : Nat) : Int := if n % 2 = 1 then -((n / 2 : Nat) : Int) - 1 else ((n / 2 : Nat) : Int)
theorem zag_pval {n : Nat} (h : n < 9223372036854775808) : pval T 244 [.int .i64 (n : Int)] = some (.int .i64 (zagN n)) := by
  refine pval_st ?_ rfl rfl
  refine cval_ok' fn_244 rfl ?_
  have hm : (n : Int).tmod 2 = ((n % 2 : Nat) : Int) := by rw [Int.tmod_eq_emod_of_nonneg (by omega)]; omega
  have hd : (n : Int).tdiv 2 = ((n / 2 : Nat) : Int) := by rw [Int.tdiv_eq_ediv_of_nonneg (by omega)]; omega
  have w1 : IntKind.i64.wrap ((n / 2 : Nat) : Int) = ((n / 2 : Nat) : Int) := wrap_i64 (by omega) (by omega)
  have w1' : IntKind.i64.wrap ((n : Int) / 2) = (n : Int) / 2 := wrap_i64 (by omega) (by omega)
  have w2 : IntKind.i64.wrap (-((n : Int) / 2)) = -((n : Int) / 2) := wrap_i64 (by omega) (by omega)
  have w3 : IntKind.i64.wrap (-((n : Int) / 2) - 1) = -((n : Int) / 2) - 1 := wrap_i64 (by omega) (by omega)
  by_cases hn : n % 2 = 1
  · have hb : ((n : Int) % 2 == 1) = true := by simp only [beq_iff_eq]; omega
    simp -implicitDefEqProofs [z70, zagN, hn, hm, hd, w1, w1', w2, w3, hb]
  · have hb : ((n : Int) % 2 == 1) = false := by
      rw [Bool.eq_false_iff]; simp only [ne_eq, beq_iff_eq]; omega
    simp -implicitDefEqProofs [z70, zagN, hn, hm, hd, w1, w1', w2, w3, hb]
def pR (s : List UInt8) : Nat → Nat → Int → List Int → List Int × Nat × Nat
  | 0, i, _, l => (l, i, 0)
  | m + 1, i, last, l =>
    if (getU s i).2.2 ≠ 0 then ([], 0, (getU s i).2.2) else
    if 1099511627776 - last < ((getU s i).1 : Int) ∨ (0 < l.length ∧ (getU s i).1 = 0) then ([], 0, 5) else
    pR s m (getU s i).2.1 (last + ((getU s i).1 : Int)) (l ++ [last + ((getU s i).1 : Int)])
def postRd (s : List UInt8) (i : Int) : List Int × Nat × Nat :=
  if (getU s i).2.2 ≠ 0 then ([], 0, (getU s i).2.2) else if 1024 < (getU s i).1 then ([], 0, 3) else pR s (getU s i).1 (getU s i).2.1 0 []
theorem pR_len {s : List UInt8} : ∀ (m i : Nat) (last : Int) (l : List Int), (pR s m i last l).1.length ≤ l.length + m := by
  intro m
  induction m with
  | zero => intro i last l; simp [pR]
  | succ m ih =>
    intro i last l
    rw [pR]
    split
    · simp
    · split
      · simp
      · have := ih (getU s i).2.1 (last + ((getU s i).1 : Int)) (l ++ [last + ((getU s i).1 : Int)])
        simp only [List.length_append, List.length_cons, List.length_nil] at this
        omega
theorem postRd_len {s : List UInt8} {i : Int} : (postRd s i).1.length ≤ 1024 := by
  unfold postRd
  split
  · simp
  · split
    · simp
    · have := pR_len (s := s) (getU s i).1 (getU s i).2.1 0 []
      simp only [List.length_nil] at this
      omega
structure SlI (v : PV) (l : List Int) : Prop where
  isl : IsSl 1 v (nV l)
  free : v.free = true
  frz : v.frz = v
theorem slF_int {S0 S : St} {v : PV} {l : List Int} (ha : AccG S0 1 S v (nV l)) : SlI (slF v (nV l)) l := by
  refine ⟨slF_isSl ha (nV_cells _), ?_, ?_⟩
  · rcases ha.acc with ⟨h, _⟩ | ⟨id, _, h, _⟩
    · rw [h]; rfl
    · rw [h]; simp [slF, PV.free, nV_free, PV.freeL]
  · rcases ha.acc with ⟨h, _⟩ | ⟨id, _, h, _⟩
    · rw [h]; rfl
    · rw [h]; simp [slF, PV.frz, nV_frz, PV.frzL]
theorem nilI : SlI .nils [] := ⟨.inl ⟨rfl, rfl⟩, rfl, rfl⟩
theorem pread_loop {s : List UInt8} {v : PV} (hv : IsSl 1 v (ofBytes s)) (hs : s.length ≤ 67108864) {N : Nat} (hN : N ≤ 1024) {S0 : St} {K : List Kt} {Q : Fr → St → Prop} : ∀ (m i : Nat) (last : Int) (l : List Int), l.length + m = N → 0 ≤ last → last ≤ 1099511627776 → ∀ (fr : Fr) (S : St),
    fr 0 = v → fr 1 = .int .i64 (i : Int) → fr 7 = .int .i64 (N : Int) → fr 8 = .int .i64 0 → fr 10 = .int .i64 last → AccG S0 1 S (fr 9) (nV l) →
    ((pR s m i last l).2.2 = 0 → ∀ fr' S', fr' 1 = .int .i64 ((pR s m i last l).2.1 : Int) → fr' 8 = .int .i64 0 → AccG S0 1 S' (fr' 9) (nV (pR s m i last l).1) → Ok (gval T K fr' S') Q) →
    ((pR s m i last l).2.2 ≠ 0 → ∀ fr' S', Grows S0 S' → fr' 8 = .int .i64 ((pR s m i last l).2.2 : Int) → Ok (gval T K fr' S') Q) →
    Ok (gval T (.lp z35_l0 :: .blk 0 :: K) fr S) Q := by
  intro m
  induction m with
  | zero =>
    intro i last l hl hl0 hl1 fr S h0 h1 h7 h8 h10 ha k1 k2
    have hlen := (ha.isSl (nV_cells _)).len
    rw [nV_len] at hlen
    have hlt : ¬ (l.length : Int) < (N : Int) := by omega
    rw [gval_lp]
    simp -implicitDefEqProofs [h7, h8, hlen, hlt]
    exact k1 rfl _ _ (by simp [h1, pR]) (by simp [h8]) (by simpa [pR] using ha)
  | succ m ih =>
    intro i last l hl hl0 hl1 fr S h0 h1 h7 h8 h10 ha k1 k2
    have hlen := (ha.isSl (nV_cells _)).len
    rw [nV_len] at hlen
    have hlt : (l.length : Int) < (N : Int) := by omega
    have hg := gu_val hv hs (i := (i : Int)) S
    rw [pR] at k1 k2
    obtain ⟨⟨d, nx, e⟩, hu⟩ : ∃ q, getU s i = q := ⟨_, rfl⟩
    rw [hu] at hg k1 k2
    simp only [res3] at hg k1 k2
    have hok := getU_ok (s := s) (i := (i : Int))
    rw [hu] at hok
    have hwm : IntKind.i64.wrap (1099511627776 - last) = 1099511627776 - last := wrap_i64 (by omega) (by omega)
    rw [gval_lp]
    by_cases he : e = 0
    · subst he
      obtain ⟨o1, o2⟩ := hok rfl
      simp only at o1 o2
      rw [if_neg (by decide)] at k1 k2
      by_cases hb1 : 1099511627776 - last < (d : Int)
      · rw [if_pos (.inl hb1)] at k2
        simp -implicitDefEqProofs [h0, h1, h7, h8, h10, hlen, hlt, hg, hwm, hb1]
        exact k2 (by decide) _ _ ha.grows (by simp)
      · simp -implicitDefEqProofs [h0, h1, h7, h8, h10, hlen, hlt, hg, hwm, hb1]
        refine ok_br (fun c => ?_) (fun c => ?_)
        · have hc : 0 < l.length ∧ d = 0 := by simpa using c
          rw [if_pos (.inr hc)] at k2
          exact k2 (by decide) _ _ ha.grows (by simp)
        · have hc : ¬ (0 < l.length ∧ d = 0) := by
            rintro ⟨q1, q2⟩
            subst q2
            simp [q1] at c
          rw [if_neg (fun z => z.elim hb1 hc)] at k1 k2
          have hwl : IntKind.i64.wrap (last + (d : Int)) = last + (d : Int) := wrap_i64 (by omega) (by omega)
          obtain ⟨v', S', f1, f2, f3⟩ := (ha.arrs [(1, 1)]).app (bytes := 8) [PV.int .i64 (last + (d : Int))] (by rw [nV_len]; simp; omega)
          simp -implicitDefEqProofs [h10, hwl, pstep, elems, setParts, f1]
          refine ih nx (last + (d : Int)) (l ++ [last + (d : Int)]) (by simp; omega) (by omega) (by omega) _ S' (by simp [h0]) (by simp) (by simp [h7]) (by simp) (by simp [hwl]) (by rw [nV_app]; simpa [nV] using f2) k1 k2
    · rw [if_pos he] at k1 k2
      have hne : ((e : Int) != 0) = true := by simpa using he
      simp -implicitDefEqProofs [h0, h1, h7, h8, h10, hlen, hlt, hg, hne]
      exact k2 he _ _ ha.grows (by simp)
def PReadTo (x : List Int × Nat × Nat) (r : PV) : Prop := ∃ v', r = .tup [v', .int .i64 (x.2.1 : Int), .int .i64 (x.2.2 : Int)] ∧ SlI v' x.1
theorem resI_fin {S S' : St} {v : PV} {l : List Int} {a b : PV} (ha : AccG S 1 S' v (nV l)) (hf : a.free = true) (hfb : b.free = true) (hz : a.frz = a) (hzb : b.frz = b) : finish false S S' (.tup [v, a, b]) = (.tup [slF v (nV l), a, b], S) := by
  have hf1 : v.free = true ∧ v.frz = slF v (nV l) := by
    rcases ha.acc with ⟨h, _⟩ | ⟨id, _, h, _⟩
    · rw [h]; exact ⟨rfl, rfl⟩
    · rw [h]; exact ⟨by simp [PV.free, nV_free, PV.freeL], by simp [slF, PV.frz, nV_frz, PV.frzL]⟩
  rw [fin_free ha.grows (by simp [PV.free, PV.freeL, hf1.1, hf, hfb])]
  simp [PV.frz, PV.frzL, hf1.2, hz, hzb]
theorem pread_val {s : List UInt8} {v : PV} (hv : IsSl 1 v (ofBytes s)) (hs : s.length ≤ 67108864) {i : Int} (S : St) : ∃ r, cval T 245 [v, .int .i64 i] S = some (r, S) ∧ PReadTo (postRd s i) r := by
  have key := cval_ex (T := T) (f := 245) (c := z35) fn_245 (args := [v, .int .i64 i]) (S := S) rfl (R := fun r S2 => S2 = S ∧ PReadTo (postRd s i) r) ?_
  · obtain ⟨r, S2, h1, rfl, h2⟩ := key
    exact ⟨r, h1, h2⟩
  have hg := gu_val hv hs (i := i) S
  have hok := getU_ok (s := s) (i := i)
  generalize hR : postRd s i = R
  unfold postRd at hR
  obtain ⟨⟨n, nx, e⟩, hu⟩ : ∃ q, getU s i = q := ⟨_, rfl⟩
  rw [hu] at hg hok
  simp only [res3] at hg hok
  simp only [hu] at hR
  have fin_no : ∀ (S' : St) (e : Nat), R = ([], 0, e) → Grows S S' → (finish false S S' (.tup [.nils, .int .i64 0, .int .i64 (e : Int)])).2 = S ∧ PReadTo R (finish false S S' (.tup [.nils, .int .i64 0, .int .i64 (e : Int)])).1 := by
    intro S' e hR hg
    rw [fin_free hg rfl]
    exact ⟨rfl, .nils, by rw [hR]; rfl, by rw [hR]; exact nilI⟩
  simp -implicitDefEqProofs [z35, hg]
  refine ok_br (fun c => ?_) (fun c => ?_)
  · obtain ⟨h1, h2⟩ : e = 0 ∧ 1024 < n := by simp at c; omega
    subst h1
    rw [if_neg (by decide), if_pos h2] at hR
    simp -implicitDefEqProofs
    rw [gval_lp]
    simp -implicitDefEqProofs
    exact fin_no S 3 hR.symm (Grows.refl S)
  · by_cases he : e = 0
    · subst he
      have hn : ¬ 1024 < n := by simp at c; omega
      rw [if_neg (by decide), if_neg hn] at hR
      simp -implicitDefEqProofs
      refine pread_loop hv hs (N := n) (by omega) (S0 := S) n nx 0 [] (by simp) (by omega) (by omega) _ S (by simp) (by simp) (by simp) (by simp) (by simp) (by simpa [nV] using accg_nil 1 (Grows.refl S)) (fun hz fr' S' g1 g8 ha => ?_) (fun hz fr' S' hgr g8 => ?_)
      · have hf := resI_fin (a := .int .i64 ((pR s n nx 0 []).2.1 : Int)) (b := .int .i64 0) ha rfl rfl rfl rfl
        simp -implicitDefEqProofs [g1, g8, hf]
        refine ⟨slF (fr' 9) (nV (pR s n nx 0 []).1), ?_, ?_⟩
        · rw [← hR, hz]; rfl
        · rw [← hR]; exact slF_int ha
      · have hne2 : (((pR s n nx 0 []).2.2 : Int) != 0) = true := by simpa using hz
        simp -implicitDefEqProofs [g8, hne2]
        have hR' : R = ([], 0, (pR s n nx 0 []).2.2) := by
          rw [← hR]
          have : ∀ (m i : Nat) (last : Int) (l : List Int), (pR s m i last l).2.2 ≠ 0 → pR s m i last l = ([], 0, (pR s m i last l).2.2) := by
            intro m
            induction m with
            | zero => intro i last l h; exact absurd rfl h
            | succ m ih =>
              intro i last l h
              rw [pR] at h ⊢
              split
              · rfl
              · rename_i q
                rw [if_neg q] at h
                split
                · rfl
                · rename_i q2
                  rw [if_neg q2] at h
                  exact ih _ _ _ h
          exact this _ _ _ _ hz
        exact fin_no S' _ hR' hgr
    · have hneb : ((e : Int) == 0) = false := by simpa using he
      have hne2 : ((e : Int) != 0) = true := by simpa using he
      rw [if_pos he] at hR
      rw [gval_lp]
      simp -implicitDefEqProofs [hneb, hne2]
      exact fin_no S _ hR.symm (Grows.refl S)
end Ps
