/- Bytes of a record: the document's. -/
import Derived.Test.YtooppbhipihjaaaWC
namespace Ps
set_option linter.unusedSimpArgs false
set_option linter.unusedVariables false
open Go

theorem fn_254 : T.fn 254 = some (.code ref11_Bytes) := rfl
theorem fn_142 : T.fn 142 = some (.code wal_Bytes) := rfl

def rowOk (x : RowM) : Prop := 0 ≤ x.1 ∧ x.1 ≤ 1099511627776 ∧ mayB x.2.1 x.2.2 = true
theorem rowsR_ok : ∀ (l : List RowM), rowsR l = 0 → ∀ x ∈ l, rowOk x := by
  intro l
  induction l with
  | nil => intro _ x hx; cases hx
  | cons y l ih =>
    intro h x hx
    rw [rowsR_cons] at h
    by_cases a : y.1 < 0 ∨ 1099511627776 < y.1
    · rw [if_pos a] at h; cases h
    · rw [if_neg a] at h
      cases b : mayB y.2.1 y.2.2 with
      | false => rw [b, if_pos rfl] at h; cases h
      | true =>
        rw [b, if_neg (by decide)] at h
        rcases List.mem_cons.1 hx with rfl | hx
        · exact ⟨by omega, by omega, b⟩
        · exact ih h x hx
theorem may_bounds {t v : Int} (h : mayB t v = true) : 0 ≤ t ∧ t ≤ 1099511627776 ∧ -1152921504606846976 ≤ v ∧ v ≤ 1152921504606846976 := by
  unfold mayB at h
  simp only [Bool.and_eq_true, decide_eq_true_eq] at h
  omega
def rowB (x : RowM) : List UInt8 := uintB x.1.toNat ++ uintB x.2.1.toNat ++ uintB (zigN x.2.2)
def recB (r : RecM) : List UInt8 := uintB r.kind.toNat ++ (if r.kind = 1 then labsB r.labs else if r.kind = 2 then uintB r.rows.length ++ r.rows.flatMap rowB else postB r.ids ++ uintB r.low.toNat ++ uintB r.high.toNat)
theorem rowB_len {x : RowM} (h : rowOk x) : (rowB x).length ≤ 27 := by
  obtain ⟨h1, h2, h3⟩ := h
  obtain ⟨m1, m2, m3, m4⟩ := may_bounds h3
  have a := uintB_le9 (n := x.1.toNat) (by omega)
  have b := uintB_le9 (n := x.2.1.toNat) (by omega)
  have c := uintB_le9 (n := zigN x.2.2) (zigN_lt m3 m4)
  unfold rowB
  simp only [List.length_append]; omega

theorem rrb_loop {l : List RowM} {vr : PV} (hv : Reads1 3 vr (l.map rowV)) (hl : l.length ≤ 64) (hok : ∀ x ∈ l, rowOk x) {c0 c1 c3 c4 c5 : PV} (hal : ([c0, c1, vr, c3, c4, c5] : List PV).all PV.one = true) {S0 : St} {K : List Kt} {Q : Fr → St → Prop} : ∀ (r p : List RowM) (s : List UInt8), l = p ++ r → s.length + 27 * r.length ≤ 67100000 → ∀ (fr : Fr) (S : St),
    fr 1 = .ref [c0, c1, vr, c3, c4, c5] → fr 6 = .int .i64 p.length → AccG S0 1 S (fr 5) (ofBytes s) →
    (∀ fr' S', AccG S0 1 S' (fr' 5) (ofBytes (s ++ r.flatMap rowB)) → Ok (gval T K fr' S') Q) →
    Ok (gval T (.lp ref11_Bytes_l0 :: .blk 1 :: K) fr S) Q := by
  have hlen := hv.len
  rw [List.length_map] at hlen
  intro r
  induction r with
  | nil =>
    intro p s e hs fr S h1 h6 ha k
    rw [List.append_nil] at e; subst e
    rw [gval_lp]
    simp -implicitDefEqProofs [h1, h6, hlen, pt1]
    exact k _ _ (by simpa using ha)
  | cons x r ih =>
    intro p s e hs fr S h1 h6 ha k
    have hlt : p.length < l.length := by rw [e]; simp
    have hg := row_get hv e (k := .i64)
    have hw := wrap_len (a := p.length) (by omega)
    have hx := hok x (by rw [e]; simp)
    obtain ⟨x1, x2, x3⟩ := hx
    obtain ⟨m1, m2, m3, m4⟩ := may_bounds x3
    simp only [List.length_cons] at hs
    have hz := rzig_pval m3 m4
    have u1 := uintB_le9 (n := x.1.toNat) (by omega)
    have u2 := uintB_le9 (n := x.2.1.toNat) (by omega)
    have u3 := uintB_le9 (n := zigN x.2.2) (zigN_lt m3 m4)
    have n1 : ((x.1.toNat : Nat) : Int) = x.1 := by omega
    have n2 : ((x.2.1.toNat : Nat) : Int) = x.2.1 := by omega
    obtain ⟨v1, S1, a1, a2, a3⟩ := ruint_raw (n := x.1.toNat) (by omega) (Grows.refl S)
    rw [n1] at a1
    obtain ⟨v2, S2, b1, b2, b3⟩ := (ha.grow a2.grows).app (bytes := 1) (ofBytes (uintB x.1.toNat)) (by rw [ofBytes_len, ofBytes_len]; omega)
    rw [← ofBytes_app] at b2
    obtain ⟨v3, S3, c1, c2, c3⟩ := ruint_raw (n := x.2.1.toNat) (by omega) (Grows.refl S2)
    rw [n2] at c1
    obtain ⟨v4, S4, d1, d2, d3⟩ := (b2.grow c2.grows).app (bytes := 1) (ofBytes (uintB x.2.1.toNat)) (by rw [ofBytes_len, ofBytes_len, List.length_append]; omega)
    rw [← ofBytes_app] at d2
    obtain ⟨v5, S5, e1, e2, e3⟩ := ruint_raw (n := zigN x.2.2) (zigN_lt m3 m4) (Grows.refl S4)
    obtain ⟨v6, S6, f1, f2, f3⟩ := (d2.grow e2.grows).app (bytes := 1) (ofBytes (uintB (zigN x.2.2))) (by rw [ofBytes_len, ofBytes_len]; simp only [List.length_append]; omega)
    rw [← ofBytes_app] at f2
    rw [gval_lp]
    simp -implicitDefEqProofs [h1, h6, hlen, hlt, hg, pt1, hw, a1, (a2.isSl (ofBytes_cells _)).appd, b1, c1, (c2.isSl (ofBytes_cells _)).appd, d1, hz, e1, (e2.isSl (ofBytes_cells _)).appd, f1]
    refine ih (p ++ [x]) (s ++ uintB x.1.toNat ++ uintB x.2.1.toNat ++ uintB (zigN x.2.2)) (by simp [e]) (by simp only [List.length_append]; omega) _ S6 (by simp [h1]) (by simp [hw]) (by simpa using f2) (fun fr' S' h => k fr' S' ?_)
    simpa [rowB] using h

theorem tup_fin {S S' : St} {v : PV} {b : List UInt8} (ha : AccG S 1 S' v (ofBytes b)) : finish false S S' (.tup [v, .int .i64 0]) = (.tup [slF v (ofBytes b), .int .i64 0], S) := by
  have hf : v.free = true ∧ v.frz = slF v (ofBytes b) := by
    rcases ha.acc with ⟨h, _⟩ | ⟨id, _, h, _⟩
    · rw [h]; exact ⟨rfl, rfl⟩
    · rw [h]; exact ⟨by simp [PV.free, ofBytes_free, PV.freeL], by simp [slF, PV.frz, ofBytes_frz, PV.frzL]⟩
  rw [fin_free ha.grows (by simp [PV.free, PV.freeL, hf.1])]
  simp [PV.frz, PV.frzL, hf.2]

/-- What a right record is. -/
theorem recN_zero {r : RecM} (h : recN r = 0) : (r.kind = 1 ∧ checkN r.labs = 0) ∨ (r.kind = 2 ∧ rowsN r.rows = 0) ∨ (r.kind = 3 ∧ postN r.ids = 0 ∧ 0 ≤ r.low ∧ r.low ≤ r.high ∧ r.high ≤ 1099511627776) := by
  unfold recN at h
  by_cases a : r.kind = 1 ∧ r.rows.length = 0 ∧ r.ids.length = 0 ∧ r.low = 0 ∧ r.high = 0
  · rw [if_pos a] at h; exact .inl ⟨a.1, h⟩
  rw [if_neg a] at h
  by_cases b : r.kind = 2 ∧ r.labs.length = 0 ∧ r.ids.length = 0 ∧ r.low = 0 ∧ r.high = 0
  · rw [if_pos b] at h; exact .inr (.inl ⟨b.1, h⟩)
  rw [if_neg b] at h
  by_cases c : r.kind = 3 ∧ r.labs.length = 0 ∧ r.rows.length = 0
  · rw [if_pos c] at h
    unfold delN at h
    by_cases d : postN r.ids = 0
    · rw [if_neg (by simpa using d)] at h
      by_cases e : r.ids.length = 0
      · rw [if_pos e] at h; cases h
      rw [if_neg e] at h
      by_cases f : r.low < 0 ∨ 1099511627776 < r.high
      · rw [if_pos f] at h; cases h
      rw [if_neg f] at h
      by_cases g : r.high < r.low
      · rw [if_pos g] at h; cases h
      exact .inr (.inr ⟨c.1, d, by omega, by omega, by omega⟩)
    · rw [if_pos d] at h; exact absurd h d
  · rw [if_neg c] at h; cases h
theorem rowsN_ok {l : List RowM} (h : rowsN l = 0) : l.length ≤ 64 ∧ 0 < l.length ∧ ∀ x ∈ l, rowOk x := by
  unfold rowsN at h
  by_cases a : l.length = 0 ∨ 64 < l.length
  · rw [if_pos a] at h; cases h
  · rw [if_neg a] at h
    exact ⟨by omega, by omega, rowsR_ok l h⟩

theorem rrecB_no {r : RecM} {cs : List PV} (h : RecC r cs) (hr : recN r ≠ 0) (S : St) : cval T 254 [.agg cs] S = some (.tup [.nils, .int .i64 (recN r)], S) := by
  have hc := fun S => rreccheck_val h S
  obtain ⟨⟨vl, vr, vi, rfl, h1, h2, h3⟩, hlens⟩ := h
  have hal : ([.int .i64 r.kind, vl, vr, vi, .int .i64 r.low, .int .i64 r.high] : List PV).all PV.one = true := cells_one h1 h2 h3
  have pt6 : ∀ (a b c d e f : PV), partOf true 6 [a, b, c, d, e, f] = some (.agg [a, b, c, d, e, f]) := fun a b c d e f => by simp [partOf]
  refine cval_ok' fn_254 rfl ?_
  simp -implicitDefEqProofs [-List.all_eq_true, ref11_Bytes, hal, pstep, pt1, pt6, hc]
  refine ok_br (fun _ => ?_) (fun a => absurd a (by simpa using hr))
  simp
  try (rw [fin_free (Grows.refl S) rfl]; rfl)

theorem rrecB_ok {r : RecM} {cs : List PV} (h : RecC r cs) (hr : recN r = 0) (S : St) : ∃ v', cval T 254 [.agg cs] S = some (.tup [v', .int .i64 0], S) ∧ SlB v' (recB r) := by
  have hc : ∀ S, cval T 183 [.agg cs] S = some (.int .i64 0, S) := fun S => by rw [rreccheck_val h S, hr]; rfl
  obtain ⟨⟨vl, vr, vi, rfl, h1, h2, h3⟩, hlens⟩ := h
  have hal : ([.int .i64 r.kind, vl, vr, vi, .int .i64 r.low, .int .i64 r.high] : List PV).all PV.one = true := cells_one h1 h2 h3
  have pt6 : ∀ (a b c d e f : PV), partOf true 6 [a, b, c, d, e, f] = some (.agg [a, b, c, d, e, f]) := fun a b c d e f => by simp [partOf]
  have l2 := h2.len
  rw [List.length_map] at l2
  have hz := recN_zero hr
  have hk : ((r.kind.toNat : Nat) : Int) = r.kind := by omega
  have uk := uintB_le9 (n := r.kind.toNat) (by omega)
  obtain ⟨v1, S1, a1, a2, a3⟩ := ruint_raw (n := r.kind.toNat) (by omega) (Grows.refl S)
  rw [hk] at a1
  have key := cval_ex (T := T) (f := 254) (c := ref11_Bytes) fn_254 (args := [.agg [.int .i64 r.kind, vl, vr, vi, .int .i64 r.low, .int .i64 r.high]]) (S := S) rfl (R := fun x S2 => S2 = S ∧ ∃ v', x = .tup [v', .int .i64 0] ∧ SlB v' (recB r)) ?_
  · obtain ⟨x, S2, q1, rfl, v', rfl, q2⟩ := key
    exact ⟨v', q1, q2⟩
  rcases hz with ⟨k1, z⟩ | ⟨k2, z⟩ | ⟨k3, z, z1, z2, z3⟩
  · have b1 : (r.kind == 1) = true := by simpa using k1
    have he : recB r = uintB r.kind.toNat ++ labsB r.labs := by unfold recB; rw [if_pos k1]
    have hR := checkN_zero.1 z
    obtain ⟨v2, c1, c2⟩ := rbytes_val h1.reads hR S1
    obtain ⟨v3, S3, d1, d2, d3⟩ := a2.app (bytes := 1) (ofBytes (labsB r.labs)) (by
      have q1 := labs_flat_len hR.2.1
      have q2 := hR.1
      have q3 := uintB_le9 (n := r.labs.length) (by omega)
      rw [ofBytes_len, ofBytes_len]; unfold labsB; rw [List.length_append]; omega)
    rw [← ofBytes_app, ← he] at d2
    simp -implicitDefEqProofs [-List.all_eq_true, ref11_Bytes, hal, pstep, pt1, pt6, hc, a1, b1, c1, c2.isl.appd, d1]
    have := tup_fin d2
    simp [this]
    exact slF_byt d2
  · have b1 : (r.kind == 1) = false := by rw [k2]; rfl
    have b2 : (r.kind == 2) = true := by simpa using k2
    obtain ⟨y1, y2, y3⟩ := rowsN_ok z
    have he : recB r = uintB r.kind.toNat ++ (uintB r.rows.length ++ r.rows.flatMap rowB) := by unfold recB; rw [if_neg (by omega), if_pos k2]
    obtain ⟨v2, S2, c1, c2, c3⟩ := ruint_raw (n := r.rows.length) (by omega) (Grows.refl S1)
    have u2 := uintB_le9 (n := r.rows.length) (by omega)
    obtain ⟨v3, S3, d1, d2, d3⟩ := (a2.grow c2.grows).app (bytes := 1) (ofBytes (uintB r.rows.length)) (by rw [ofBytes_len, ofBytes_len]; omega)
    rw [← ofBytes_app] at d2
    simp -implicitDefEqProofs [-List.all_eq_true, ref11_Bytes, hal, pstep, pt1, pt6, hc, a1, b1, b2, l2, c1, (c2.isSl (ofBytes_cells _)).appd, d1]
    refine rrb_loop h2.reads y1 y3 hal r.rows [] (uintB r.kind.toNat ++ uintB r.rows.length) rfl (by simp only [List.length_append]; omega) _ S3 (by simp) (by simp) (by simpa using d2) (fun fr' S' ha => ?_)
    rw [List.append_assoc, ← he] at ha
    have := tup_fin ha
    simp [this]
    exact slF_byt ha
  · have b1 : (r.kind == 1) = false := by rw [k3]; rfl
    have b2 : (r.kind == 2) = false := by rw [k3]; rfl
    have he : recB r = uintB r.kind.toNat ++ (postB r.ids ++ uintB r.low.toNat ++ uintB r.high.toNat) := by unfold recB; rw [if_neg (by omega), if_neg (by omega)]
    have n1 : ((r.low.toNat : Nat) : Int) = r.low := by omega
    have n2 : ((r.high.toNat : Nat) : Int) = r.high := by omega
    obtain ⟨v2, c1, c2⟩ := rpput_val h3.reads z S1
    have hp : (postB r.ids).length ≤ 20000 := by
      obtain ⟨p1, p2⟩ := postN_asc z
      have q1 := postD_len r.ids 0 (by omega) p2
      have q2 := uintB_le9 (n := r.ids.length) (by omega)
      unfold postB; rw [List.length_append]; omega
    obtain ⟨v3, S3, d1, d2, d3⟩ := a2.app (bytes := 1) (ofBytes (postB r.ids)) (by rw [ofBytes_len, ofBytes_len]; omega)
    rw [← ofBytes_app] at d2
    have u3 := uintB_le9 (n := r.low.toNat) (by omega)
    have u4 := uintB_le9 (n := r.high.toNat) (by omega)
    obtain ⟨v4, S4, e1, e2, e3⟩ := ruint_raw (n := r.low.toNat) (by omega) (Grows.refl S3)
    rw [n1] at e1
    obtain ⟨v5, S5, f1, f2, f3⟩ := (d2.grow e2.grows).app (bytes := 1) (ofBytes (uintB r.low.toNat)) (by rw [ofBytes_len, ofBytes_len, List.length_append]; omega)
    rw [← ofBytes_app] at f2
    obtain ⟨v6, S6, g1, g2, g3⟩ := ruint_raw (n := r.high.toNat) (by omega) (Grows.refl S5)
    rw [n2] at g1
    obtain ⟨v7, S7, i1, i2, i3⟩ := (f2.grow g2.grows).app (bytes := 1) (ofBytes (uintB r.high.toNat)) (by rw [ofBytes_len, ofBytes_len]; simp only [List.length_append]; omega)
    rw [← ofBytes_app] at i2
    have he2 : uintB r.kind.toNat ++ postB r.ids ++ uintB r.low.toNat ++ uintB r.high.toNat = recB r := by rw [he]; simp
    rw [he2] at i2
    simp -implicitDefEqProofs [-List.all_eq_true, ref11_Bytes, hal, pstep, pt1, pt6, hc, a1, b1, b2, c1, c2.isl.appd, d1, e1, (e2.isSl (ofBytes_cells _)).appd, f1, g1, (g2.isSl (ofBytes_cells _)).appd, i1]
    have := tup_fin i2
    simp [this]
    exact slF_byt i2
end Ps
