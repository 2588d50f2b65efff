/- Rows: whether they may be, both. -/
import Derived.Test.YtppjibgophfdfaaLM
namespace Ps
set_option linter.unusedSimpArgs false
open Go
theorem fn_318 : T.fn 318 = some (.code z32) := rfl
theorem fn_260 : T.fn 260 = some (.code z65) := rfl
theorem fn_154 : T.fn 154 = some (.code z37) := rfl
theorem fn_275 : T.fn 275 = some (.code z30) := rfl
def nV (l : List Int) : List PV := l.map fun (n : Int) => PV.int .i64 n
theorem nV_len (l : List Int) : (nV l).length = l.length := by simp [nV]
theorem nV_free (l : List Int) : PV.freeL (nV l) = true := freeL_map _ (fun _ => rfl) l
theorem nV_frz (l : List Int) : PV.frzL (nV l) = nV l := frzL_map' _ (fun _ => rfl) l
theorem nV_cells (l : List Int) : ∀ e ∈ nV l, e.cells.length = 1 := by
  intro e he
  obtain ⟨x, _, rfl⟩ := List.mem_map.1 he
  rfl
theorem nV_app (a b : List Int) : nV (a ++ b) = nV a ++ nV b := by simp [nV]
theorem nV_get {l p r : List Int} {n : Int} {v : PV} (hv : Reads1 1 v (nV l)) (hl : l = p ++ n :: r) {k : IntKind} : iaddrP 1 v (.int k (p.length : Int)) = some (.ref [.int .i64 n]) := by
  have hlt : p.length < (nV l).length := by rw [nV_len, hl]; simp
  have := hv.get p.length hlt k
  have e : (nV l)[p.length] = .int .i64 n := by simp [nV, hl]
  rw [e] at this
  exact this
def postR (prev : Option Int) : List Int → Nat
  | [] => 0
  | n :: l => if n < 0 ∨ 1099511627776 < n then 2 else if (match prev with | some q => decide (n ≤ q) | none => false) then 13 else postR (some n) l
theorem postR_cons (prev : Option Int) (n : Int) (l : List Int) : postR prev (n :: l) = if n < 0 ∨ 1099511627776 < n then 2 else if (match prev with | some q => decide (n ≤ q) | none => false) then 13 else postR (some n) l := rfl
def postN (l : List Int) : Nat := if 1024 < l.length then 3 else postR none l
theorem pchk_loop {l : List Int} (hl : l.length ≤ 1024) {v : PV} (hv : Reads1 1 v (nV l)) {K : List Kt} {Q : Fr → St → Prop} {S : St} : ∀ (r p : List Int) (fr : Fr), l = p ++ r →
    fr 0 = v → fr 8 = v → fr 9 = .int .i64 l.length → fr 10 = .int .i64 p.length →
    (∀ fr', fr' 2 = .int .i64 (postR p.getLast? r) → Q fr' S) → (postR p.getLast? r = 0 → ∀ fr', Ok (gval T K fr' S) Q) →
    Ok (gval T (.lp z32_l0 :: .blk 0 :: K) fr S) Q := by
  intro r
  induction r with
  | nil =>
    intro p fr hp h0 h8 h9 h10 k1 k2
    rw [List.append_nil] at hp
    subst hp
    rw [gval_lp]
    simp -implicitDefEqProofs [h9, h10]
    exact k2 rfl _
  | cons n r ih =>
    intro p fr hp h0 h8 h9 h10 k1 k2
    have hplt : p.length < l.length := by rw [hp]; simp
    have hlt : (p.length : Int) < (l.length : Int) := by omega
    have hg := nV_get hv hp (k := .i64)
    have hp1 : partOf false 1 [PV.int .i64 n] = some (.int .i64 n) := rfl
    have hw := wrap_len (a := p.length) (by omega)
    have hlast : (p ++ [n]).getLast? = some n := by simp
    have hnext : postR p.getLast? (n :: r) = postR (some n) r → ∀ fr' : Fr, fr' 0 = v → fr' 8 = v → fr' 9 = .int .i64 l.length → fr' 10 = .int .i64 ((p ++ [n]).length : Nat) → Ok (gval T (.lp z32_l0 :: .blk 0 :: K) fr' S) Q := by
      intro e fr' c0 c8 c9 c10
      refine ih (p ++ [n]) fr' (by simp [hp]) c0 c8 c9 c10 (fun fr2 h2 => k1 fr2 (by rw [e]; rw [hlast] at h2; exact h2)) (fun h2 fr2 => k2 (by rw [e]; rw [hlast] at h2; exact h2) fr2)
    rw [gval_lp]
    by_cases hb : n < 0 ∨ 1099511627776 < n
    · have hr : postR p.getLast? (n :: r) = 2 := by rw [postR_cons, if_pos hb]
      have hb' : (decide (n < 0) || decide (1099511627776 < n)) = true := by simpa using hb
      simp -implicitDefEqProofs [h0, h8, h9, h10, hlt, hg, hp1]
      refine ok_br (fun _ => ok_ret (k1 _ (by rw [hr]; simp))) (fun q => ?_)
      rw [hb'] at q; cases q
    · have hb' : (decide (n < 0) || decide (1099511627776 < n)) = false := by
        rw [Bool.or_eq_false_iff]; simp only [decide_eq_false_iff_not]; omega
      rcases List.eq_nil_or_concat p with hnil | ⟨p0, z, hz⟩
      · have hr : postR p.getLast? (n :: r) = postR (some n) r := by rw [postR_cons, if_neg hb, hnil]; rfl
        have hd0 : ¬ 0 < p.length := by rw [hnil]; simp
        simp -implicitDefEqProofs [h0, h8, h9, h10, hlt, hg, hp1]
        refine ok_br (fun q => ?_) (fun _ => ?_)
        · rw [hb'] at q; cases q
        · simp -implicitDefEqProofs [h0, h8, h9, h10, hd0, hw]
          exact hnext hr _ (by simp [h0]) (by simp [h8]) (by simp [h9]) (by simp [hw])
      · have hz' : p = p0 ++ [z] := by simpa using hz
        have hlz : p.getLast? = some z := by rw [hz']; simp
        have hd0 : 0 < p.length := by rw [hz']; simp
        have hwp : IntKind.i64.wrap ((p.length : Int) - 1) = (p0.length : Int) := by
          rw [hz', List.length_append]
          simp only [List.length_cons, List.length_nil]
          rw [hz'] at hplt
          simp only [List.length_append, List.length_cons, List.length_nil] at hplt
          rw [wrap_i64 (by omega) (by omega)]; omega
        have hg0 := nV_get hv (show l = p0 ++ z :: (n :: r) by rw [hp, hz']; simp) (k := .i64)
        have hp2 : partOf false 1 [PV.int .i64 z] = some (.int .i64 z) := rfl
        simp -implicitDefEqProofs [h0, h8, h9, h10, hlt, hg, hp1]
        refine ok_br (fun q => ?_) (fun _ => ?_)
        · rw [hb'] at q; cases q
        · simp -implicitDefEqProofs [h0, h8, h9, h10, hd0, hw, hwp, hg0, hp2]
          refine ok_br (fun q => ok_ret ?_) (fun q => ?_)
          · have hq : n ≤ z := by simpa using q
            have hr : postR p.getLast? (n :: r) = 13 := by rw [postR_cons, if_neg hb, hlz]; simp [hq]
            exact k1 _ (by rw [hr]; simp)
          · have hq : ¬ n ≤ z := by simpa using q
            have hr : postR p.getLast? (n :: r) = postR (some n) r := by rw [postR_cons, if_neg hb, hlz]; simp [hq]
            exact hnext hr _ (by simp [h0]) (by simp [h8]) (by simp [h9]) (by simp [hw])
theorem pcheck_val {l : List Int} {v : PV} (hv : Reads1 1 v (nV l)) (S : St) : cval T 318 [v] S = some (.int .i64 (postN l), S) := by
  have hlen := hv.len
  rw [nV_len] at hlen
  refine cval_ok' fn_318 rfl ?_
  by_cases hl : 1024 < l.length
  · have hl' : (1024 : Int) < (l.length : Int) := by omega
    have hr : postN l = 3 := by unfold postN; rw [if_pos hl]
    rw [hr]
    simp -implicitDefEqProofs [z32, hlen, hl']
  · have hl' : ¬ (1024 : Int) < (l.length : Int) := by omega
    have hr : postN l = postR none l := by unfold postN; rw [if_neg hl]
    rw [hr]
    simp -implicitDefEqProofs [z32, hlen, hl']
    refine pchk_loop (by omega) hv l [] _ rfl (by simp) (by simp) (by simp) (by simp) (fun fr' h2 => ?_) (fun h2 fr' => ?_)
    · rw [ends1, h2]; exact fin_gi (Grows.refl S)
    · have h2' : postR none l = 0 := h2
      rw [h2']
      simp
def mayB (t v : Int) : Bool := decide (0 ≤ t) && decide (t ≤ 1099511627776) && decide (-1152921504606846976 ≤ v) && decide (v ≤ 1152921504606846976)
def smpV (t v : Int) : PV := .agg [.int .i64 t, .int .i64 v]
theorem may_val (t v : Int) (S : St) : cval T 260 [smpV t v] S = some (.bool (mayB t v), S) := by
  refine cval_ok' fn_260 rfl ?_
  have hp1 : ∀ (a : PV) (m : List PV), partOf false 1 (a :: m) = some a := fun a m => by simp [partOf]
  simp -implicitDefEqProofs [z65, smpV, pstep, hp1, mayB]
end Ps
namespace Ps
set_option linter.unusedSimpArgs false
open Go
theorem pt1 (a : PV) (m : List PV) : partOf false 1 (a :: m) = some a := by simp [partOf]
theorem pt2 (a b : PV) (m : List PV) : partOf true 2 (a :: b :: m) = some (.agg [a, b]) := by simp [partOf]
theorem pt3 (a b c : PV) (m : List PV) : partOf true 3 (a :: b :: c :: m) = some (.agg [a, b, c]) := by simp [partOf]
theorem single_val (t v : Int) (tip : Option (Nat × Nat)) (S : St) : cval T 154 [.sl tip [smpV t v] []] S = some (.int .i64 (if mayB t v then 0 else 11 : Nat), S) := by
  have hm := fun S => may_val t v S
  have hw1 : IntKind.i64.wrap 1 = 1 := wrap_i64 (by omega) (by omega)
  unfold smpV at hm ⊢
  cases hb : mayB t v with
  | true =>
    rw [hb] at hm
    refine cval_ok' fn_154 rfl ?_
    simp -implicitDefEqProofs [z37]
    rw [gval_lp]
    simp -implicitDefEqProofs [pt2, pt1, pstep, putCells, hm]
    rw [gval_lp]
    simp -implicitDefEqProofs [hw1]
    exact fin_gi ((Grows.refl S).obj _)
  | false =>
    rw [hb] at hm
    refine cval_ok' fn_154 rfl ?_
    simp -implicitDefEqProofs [z37]
    rw [gval_lp]
    simp -implicitDefEqProofs [pt2, pt1, pstep, putCells, hm]
    exact fin_gi ((Grows.refl S).obj _)
abbrev RowM := Int × Int × Int
def rowV (x : RowM) : PV := .agg [.int .i64 x.1, .int .i64 x.2.1, .int .i64 x.2.2]
def rowsR : List RowM → Nat
  | [] => 0
  | x :: l => if x.1 < 0 ∨ 1099511627776 < x.1 then 2 else if mayB x.2.1 x.2.2 = false then 11 else rowsR l
def rowsN (l : List RowM) : Nat := if l.length = 0 ∨ 64 < l.length then 2 else rowsR l
theorem rowsR_cons (x : RowM) (l : List RowM) : rowsR (x :: l) = if x.1 < 0 ∨ 1099511627776 < x.1 then 2 else if mayB x.2.1 x.2.2 = false then 11 else rowsR l := rfl
theorem row_get {l p r : List RowM} {x : RowM} {v : PV} (hv : Reads1 3 v (l.map rowV)) (hl : l = p ++ x :: r) {k : IntKind} : iaddrP 3 v (.int k (p.length : Int)) = some (.ref [.int .i64 x.1, .int .i64 x.2.1, .int .i64 x.2.2]) := by
  have hlt : p.length < (l.map rowV).length := by rw [hl]; simp
  have := hv.get p.length hlt k
  have e : (l.map rowV)[p.length] = rowV x := by simp [hl]
  rw [e] at this
  exact this
theorem rows_loop {l : List RowM} (hl : l.length ≤ 64) {v : PV} (hv : Reads1 3 v (l.map rowV)) {S0 : St} {K : List Kt} {Q : Fr → St → Prop} : ∀ (r p : List RowM) (fr : Fr) (S : St), l = p ++ r → Grows S0 S →
    fr 13 = v → fr 14 = .int .i64 l.length → fr 15 = .int .i64 p.length →
    (∀ fr' S', Grows S0 S' → fr' 2 = .int .i64 (rowsR r) → Q fr' S') → (rowsR r = 0 → ∀ fr' S', Grows S0 S' → Ok (gval T K fr' S') Q) →
    Ok (gval T (.lp z30_l0 :: .blk 0 :: K) fr S) Q := by
  intro r
  induction r with
  | nil =>
    intro p fr S hp hg h13 h14 h15 k1 k2
    rw [List.append_nil] at hp
    subst hp
    rw [gval_lp]
    simp -implicitDefEqProofs [h14, h15]
    exact k2 rfl _ S hg
  | cons x r ih =>
    intro p fr S hp hg h13 h14 h15 k1 k2
    have hplt : p.length < l.length := by rw [hp]; simp
    have hlt : (p.length : Int) < (l.length : Int) := by omega
    have hget := row_get hv hp (k := .i64)
    have hw := wrap_len (a := p.length) (by omega)
    have hcons := rowsR_cons x r
    have hsv := single_val x.2.1 x.2.2
    unfold smpV at hsv
    rw [gval_lp]
    by_cases hb : x.1 < 0 ∨ 1099511627776 < x.1
    · rw [if_pos hb] at hcons
      have hb' : (decide (x.1 < 0) || decide (1099511627776 < x.1)) = true := by simpa using hb
      simp -implicitDefEqProofs [h13, h14, h15, hlt, hget, pt1, pt2, pt3, pstep, putCells]
      refine ok_br (fun _ => ok_ret (k1 _ _ (hg.obj _) (by rw [hcons]; simp))) (fun q => ?_)
      rw [hb'] at q; cases q
    · rw [if_neg hb] at hcons
      have hb' : (decide (x.1 < 0) || decide (1099511627776 < x.1)) = false := by
        rw [Bool.or_eq_false_iff]; simp only [decide_eq_false_iff_not]; omega
      simp -implicitDefEqProofs [h13, h14, h15, hlt, hget, pt1, pt2, pt3, pstep, putCells]
      refine ok_br (fun q => ?_) (fun _ => ?_)
      · rw [hb'] at q; cases q
      · cases hm : mayB x.2.1 x.2.2 with
        | false =>
          rw [hm] at hcons
          rw [if_pos rfl] at hcons
          have hsv' : ∀ tip S, cval T 154 [.sl tip [.agg [.int .i64 x.2.1, .int .i64 x.2.2]] []] S = some (.int .i64 11, S) := fun tip S => by rw [hsv tip S, hm]; rfl
          simp -implicitDefEqProofs [h13, h14, h15, pt1, pt2, pt3, pstep, elems, setParts, hsv']
          exact k1 _ _ ((hg.obj _).arr _) (by rw [hcons]; simp)
        | true =>
          rw [hm] at hcons
          rw [if_neg (by decide)] at hcons
          have hsv' : ∀ tip S, cval T 154 [.sl tip [.agg [.int .i64 x.2.1, .int .i64 x.2.2]] []] S = some (.int .i64 0, S) := fun tip S => by rw [hsv tip S, hm]; rfl
          simp -implicitDefEqProofs [h13, h14, h15, pt1, pt2, pt3, pstep, elems, setParts, hsv', hw]
          refine ih (p ++ [x]) _ _ (by simp [hp]) ((hg.obj _).arr _) (by simp [h13]) (by simp [h14]) (by simp [hw]) (fun fr' S' g1 g2 => k1 fr' S' g1 (by rw [hcons]; exact g2)) (fun g1 fr' S' g2 => k2 (by rw [hcons]; exact g1) fr' S' g2)
theorem rows_val {l : List RowM} {v : PV} (hv : Reads1 3 v (l.map rowV)) (S : St) : cval T 275 [v] S = some (.int .i64 (rowsN l), S) := by
  have hlen := hv.len
  rw [List.length_map] at hlen
  refine cval_ok' fn_275 rfl ?_
  by_cases hl : l.length = 0 ∨ 64 < l.length
  · have hr : rowsN l = 2 := by unfold rowsN; rw [if_pos hl]
    rw [hr]
    have hb : (decide ((l.length : Int) < 1) || decide (64 < (l.length : Int))) = true := by
      rw [Bool.or_eq_true]; simp only [decide_eq_true_eq]; omega
    by_cases h1 : (l.length : Int) < 1
    · simp -implicitDefEqProofs [z30, hlen, h1]
    · have h2 : (64 : Int) < (l.length : Int) := by omega
      simp -implicitDefEqProofs [z30, hlen, h1, h2]
  · have hr : rowsN l = rowsR l := by unfold rowsN; rw [if_neg hl]
    rw [hr]
    have h1 : ¬ (l.length : Int) < 1 := by omega
    have h2 : ¬ (64 : Int) < (l.length : Int) := by omega
    simp -implicitDefEqProofs [z30, hlen, h1, h2]
    refine rows_loop (S0 := S) (by omega) hv l [] _ S rfl (Grows.refl S) (by simp) (by simp) (by simp) (fun fr' S' g h2 => ?_) (fun h2 fr' S' g => ?_)
    · rw [ends1, h2]; exact fin_gi g
    · rw [h2]
      simp -implicitDefEqProofs
      exact fin_gi g
structure RecM where
  kind : Int
  labs : List Lab
  rows : List RowM
  ids : List Int
  low : Int
  high : Int
structure RecC (r : RecM) (cs : List PV) : Prop where
  ex : ∃ vl vr vi, cs = [.int .i64 r.kind, vl, vr, vi, .int .i64 r.low, .int .i64 r.high] ∧ IsSl 2 vl (r.labs.map labV) ∧ IsSl 3 vr (r.rows.map rowV) ∧ IsSl 1 vi (nV r.ids)
  lens : r.labs.length ≤ maxLen ∧ r.rows.length ≤ maxLen ∧ r.ids.length ≤ maxLen ∧ ∀ x ∈ r.labs, x.1.length ≤ maxLen
def delN (r : RecM) : Nat := if postN r.ids ≠ 0 then postN r.ids else if r.ids.length = 0 then 2 else if r.low < 0 ∨ 1099511627776 < r.high then 11 else if r.high < r.low then 13 else 0
def recN (r : RecM) : Nat :=
  if r.kind = 1 ∧ r.rows.length = 0 ∧ r.ids.length = 0 ∧ r.low = 0 ∧ r.high = 0 then checkN r.labs else
  if r.kind = 2 ∧ r.labs.length = 0 ∧ r.ids.length = 0 ∧ r.low = 0 ∧ r.high = 0 then rowsN r.rows else
  if r.kind = 3 ∧ r.labs.length = 0 ∧ r.rows.length = 0 then delN r else 2
theorem fn_276 : T.fn 276 = some (.code z10) := rfl
theorem fn_179 : T.fn 179 = some (.code z58) := rfl
theorem isl_one {sz : Nat} {v : PV} {es : List PV} (h : IsSl sz v es) : v.one = true := by
  rcases h with ⟨rfl, _⟩ | ⟨tip, sp, rfl, _⟩ <;> rfl
theorem cells_one {k a b : Int} {vl vr vi : PV} {s1 s2 s3 : Nat} {e1 e2 e3 : List PV} (h1 : IsSl s1 vl e1) (h2 : IsSl s2 vr e2) (h3 : IsSl s3 vi e3) : ([.int .i64 k, vl, vr, vi, .int .i64 a, .int .i64 b] : List PV).all PV.one = true := by
  have hi : ∀ (k : IntKind) n, (PV.int k n).one = true := fun _ _ => rfl
  simp only [List.all_cons, List.all_nil, isl_one h1, isl_one h2, isl_one h3, hi, Bool.and_self]
theorem del_val {r : RecM} {cs : List PV} (h : RecC r cs) (S : St) : cval T 276 [.agg cs] S = some (.int .i64 (delN r), S) := by
  obtain ⟨⟨vl, vr, vi, rfl, h1, h2, h3⟩, hlens⟩ := h
  have hp := pcheck_val h3.reads S
  have hl := h3.len
  rw [nV_len] at hl
  have hal : ([.int .i64 r.kind, vl, vr, vi, .int .i64 r.low, .int .i64 r.high] : List PV).all PV.one = true := cells_one h1 h2 h3
  refine cval_ok' fn_276 rfl ?_
  simp -implicitDefEqProofs [-List.all_eq_true, z10, hal, pstep, pt1, hp, hl]
  have dn : delN r = if postN r.ids ≠ 0 then postN r.ids else if r.ids.length = 0 then 2 else if r.low < 0 ∨ 1099511627776 < r.high then 11 else if r.high < r.low then 13 else 0 := rfl
  refine ok_br (fun q => ok_ret ?_) (fun q => ok_br (fun q2 => ok_ret ?_) (fun q2 => ok_br (fun q3 => ok_ret ?_) (fun q3 => ok_br (fun q4 => ok_ret ?_) (fun q4 => ok_ret ?_))))
  · rw [if_pos (by simpa using q)] at dn
    rw [dn]; simp
  · rw [if_neg (by simpa using q), if_pos (by simpa using q2)] at dn
    rw [dn]; simp
  · rw [if_neg (by simpa using q), if_neg (by simpa using q2), if_pos (by simpa using q3)] at dn
    rw [dn]; simp
  · rw [if_neg (by simpa using q), if_neg (by simpa using q2), if_neg (by simpa using q3), if_pos (by simpa using q4)] at dn
    rw [dn]; simp
  · rw [if_neg (by simpa using q), if_neg (by simpa using q2), if_neg (by simpa using q3), if_neg (by simpa using q4)] at dn
    rw [dn]; simp
theorem reccheck_val {r : RecM} {cs : List PV} (h : RecC r cs) (S : St) : cval T 179 [.agg cs] S = some (.int .i64 (recN r), S) := by
  have hd := fun S => del_val h S
  obtain ⟨⟨vl, vr, vi, rfl, h1, h2, h3⟩, hlens⟩ := h
  have hc := fun S => check_val h1.reads hlens.2.2.2 hlens.1 S
  have hr := fun S => rows_val h2.reads S
  have l1 := h1.len
  have l2 := h2.len
  have l3 := h3.len
  rw [List.length_map] at l1 l2
  rw [nV_len] at l3
  have hal : ([.int .i64 r.kind, vl, vr, vi, .int .i64 r.low, .int .i64 r.high] : List PV).all PV.one = true := cells_one h1 h2 h3
  have pt5 : ∀ (a b c d e : PV), partOf true 5 [a, b, c, d, e] = some (.agg [a, b, c, d, e]) := fun a b c d e => by simp [partOf]
  have pt6 : ∀ (a b c d e f : PV), partOf true 6 [a, b, c, d, e, f] = some (.agg [a, b, c, d, e, f]) := fun a b c d e f => by simp [partOf]
  have dn : recN r = if r.kind = 1 ∧ r.rows.length = 0 ∧ r.ids.length = 0 ∧ r.low = 0 ∧ r.high = 0 then checkN r.labs else
    if r.kind = 2 ∧ r.labs.length = 0 ∧ r.ids.length = 0 ∧ r.low = 0 ∧ r.high = 0 then rowsN r.rows else
    if r.kind = 3 ∧ r.labs.length = 0 ∧ r.rows.length = 0 then delN r else 2 := rfl
  refine cval_ok' fn_179 rfl ?_
  by_cases k1 : r.kind = 1
  · have b1 : (r.kind == 1) = true := by simpa using k1
    have b2 : (r.kind == 2) = false := by rw [k1]; rfl
    have b3 : (r.kind == 3) = false := by rw [k1]; rfl
    have n2 : ¬ r.kind = 2 := by omega
    have n3 : ¬ r.kind = 3 := by omega
    simp -implicitDefEqProofs [-List.all_eq_true, z58, hal, pstep, peval, fillParts, putCells, pt1, pt5, l1, l2, l3, hc, hr, hd, pt6, eqCells, negIf, b1, b2, b3]
    refine ok_br (fun q => ok_ret ?_) (fun q => ok_ret ?_)
    · rw [if_pos (by simpa [k1] using q)] at dn
      rw [dn]; simp -implicitDefEqProofs; exact fin_gi ((Grows.refl S).obj _)
    · rw [if_neg (by simpa [k1] using q), if_neg (fun z => n2 z.1), if_neg (fun z => n3 z.1)] at dn
      rw [dn]; simp -implicitDefEqProofs; exact fin_gi ((Grows.refl S).obj _)
  by_cases k2 : r.kind = 2
  · have b1 : (r.kind == 1) = false := by simpa using k1
    have b2 : (r.kind == 2) = true := by simpa using k2
    have b3 : (r.kind == 3) = false := by rw [k2]; rfl
    have n3 : ¬ r.kind = 3 := by omega
    simp -implicitDefEqProofs [-List.all_eq_true, z58, hal, pstep, peval, fillParts, putCells, pt1, pt5, l1, l2, l3, hc, hr, hd, pt6, eqCells, negIf, b1, b2, b3]
    refine ok_br (fun q => ok_ret ?_) (fun q => ok_ret ?_)
    · rw [if_neg (fun z => k1 z.1), if_pos (by simpa [k2] using q)] at dn
      rw [dn]; simp -implicitDefEqProofs; exact fin_gi ((Grows.refl S).obj _)
    · rw [if_neg (fun z => k1 z.1), if_neg (by simpa [k2] using q), if_neg (fun z => n3 z.1)] at dn
      rw [dn]; simp -implicitDefEqProofs; exact fin_gi ((Grows.refl S).obj _)
  by_cases k3 : r.kind = 3
  · have b1 : (r.kind == 1) = false := by simpa using k1
    have b2 : (r.kind == 2) = false := by simpa using k2
    have b3 : (r.kind == 3) = true := by simpa using k3
    simp -implicitDefEqProofs [-List.all_eq_true, z58, hal, pstep, peval, fillParts, putCells, pt1, pt5, l1, l2, l3, hc, hr, hd, pt6, eqCells, negIf, b1, b2, b3]
    refine ok_br (fun q => ok_ret ?_) (fun q => ok_ret ?_)
    · rw [if_neg (fun z => k1 z.1), if_neg (fun z => k2 z.1), if_pos (by simpa [k3] using q)] at dn
      rw [dn]; simp -implicitDefEqProofs; exact fin_gi ((Grows.refl S).obj _)
    · rw [if_neg (fun z => k1 z.1), if_neg (fun z => k2 z.1), if_neg (by simpa [k3] using q)] at dn
      rw [dn]; simp -implicitDefEqProofs; exact fin_gi ((Grows.refl S).obj _)
  · have b1 : (r.kind == 1) = false := by simpa using k1
    have b2 : (r.kind == 2) = false := by simpa using k2
    have b3 : (r.kind == 3) = false := by simpa using k3
    simp -implicitDefEqProofs [-List.all_eq_true, z58, hal, pstep, peval, fillParts, putCells, pt1, pt5, l1, l2, l3, hc, hr, hd, pt6, eqCells, negIf, b1, b2, b3]
    rw [if_neg (fun z => k1 z.1), if_neg (fun z => k2 z.1), if_neg (fun z => k3 z.1)] at dn
    rw [dn]; simp -implicitDefEqProofs; exact fin_gi ((Grows.refl S).obj _)
end Ps
