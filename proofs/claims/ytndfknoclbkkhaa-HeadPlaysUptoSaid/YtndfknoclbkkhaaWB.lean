/- Rows: whether they may be, both. -/
import Derived.Test.YtndfknoclbkkhaaWA
namespace Ps
set_option linter.unusedSimpArgs false
set_option linter.unusedVariables false
open Go
theorem pt1 (a : PV) (m : List PV) : partOf false 1 (a :: m) = some a := by simp [partOf]
theorem pt2 (a b : PV) (m : List PV) : partOf true 2 (a :: b :: m) = some (.agg [a, b]) := by simp [partOf]
theorem pt3 (a b c : PV) (m : List PV) : partOf true 3 (a :: b :: c :: m) = some (.agg [a, b, c]) := by simp [partOf]

theorem single_val (t v : Int) (tip : Option (Nat × Nat)) (S : St) : cval T 154 [.sl tip [smpV t v] []] S = some (.int .i64 (if mayB t v then 0 else 11 : Nat), S) := by
 have hm := fun S => may_val t v S
 have hw1 : IntKind.i64.wrap 1 = 1 := wrap_i64 (by omega) (by omega)
 unfold smpV at hm ⊢
 cases hb : mayB t v with
 | true =>
  rw [hb] at hm
  refine cval_ok' fn_154 rfl ?_
  simp -implicitDefEqProofs [z63]
  rw [gval_lp]
  simp -implicitDefEqProofs [pt2, pt1, pstep, putCells, hm]
  rw [gval_lp]
  simp -implicitDefEqProofs [hw1]
  exact fin_gi ((Grows.refl S).obj _)
 | false =>
  rw [hb] at hm
  refine cval_ok' fn_154 rfl ?_
  simp -implicitDefEqProofs [z63]
  rw [gval_lp]
  simp -implicitDefEqProofs [pt2, pt1, pstep, putCells, hm]
  exact fin_gi ((Grows.refl S).obj _)

abbrev RowM := Int × Int × Int
def rowV (x : RowM) : PV := .agg [.int .i64 x.1, .int .i64 x.2.1, .int .i64 x.2.2]
def rowsR : List RowM → Nat
 | [] => 0
 | x :: l => if x.1 < 0 ∨ 1099511627776 < x.1 then 2 else if mayB x.2.1 x.2.2 = false then 11 else rowsR l
def rowsN (l : List RowM) : Nat := if l.length = 0 ∨ 64 < l.length then 2 else rowsR l
theorem rowsR_cons (x : RowM) (l : List RowM) : rowsR (x :: l) = if x.1 < 0 ∨ 1099511627776 < x.1 then 2 else if mayB x.2.1 x.2.2 = false then 11 else rowsR l := rfl
theorem row_get {l p r : List RowM} {x : RowM} {v : PV} (hv : Reads1 3 v (l.map rowV)) (hl : l = p ++ x :: r) {k : IntKind} : iaddrP 3 v (.int k (p.length : Int)) = some (.ref [.int .i64 x.1, .int .i64 x.2.1, .int .i64 x.2.2]) := by
 have hlt : p.length < (l.map rowV).length := by rw [hl]; simp
 have := hv.get p.length hlt k
 have e : (l.map rowV)[p.length] = rowV x := by simp [hl]
 rw [e] at this
 exact this

theorem rows_loop {l : List RowM} (hl : l.length ≤ 64) {v : PV} (hv : Reads1 3 v (l.map rowV)) {S0 : St} {K : List Kt} {Q : Fr → St → Prop} : ∀ (r p : List RowM) (fr : Fr) (S : St), l = p ++ r → Grows S0 S →
  fr 13 = v → fr 14 = .int .i64 l.length → fr 15 = .int .i64 p.length →
  (∀ fr' S', Grows S0 S' → fr' 2 = .int .i64 (rowsR r) → Q fr' S') → (rowsR r = 0 → ∀ fr' S', Grows S0 S' → Ok (gval T K fr' S') Q) →
  Ok (gval T (.lp z51_l0 :: .blk 0 :: K) fr S) Q := by
 intro r
 induction r with
 | nil =>
  intro p fr S hp hg h13 h14 h15 k1 k2
  rw [List.append_nil] at hp
  subst hp
  rw [gval_lp]
  simp -implicitDefEqProofs [h14, h15]
  exact k2 rfl _ S hg
 | cons x r ih =>
  intro p fr S hp hg h13 h14 h15 k1 k2
  have hplt : p.length < l.length := by rw [hp]; simp
  have hlt : (p.length : Int) < (l.length : Int) := by omega
  have hget := row_get hv hp (k := .i64)
  have hw := wrap_len (a := p.length) (by omega)
  have hcons := rowsR_cons x r
  have hsv := single_val x.2.1 x.2.2
  unfold smpV at hsv
  rw [gval_lp]
  by_cases hb : x.1 < 0 ∨ 1099511627776 < x.1
  ·rw [if_pos hb] at hcons
   have hb' : (decide (x.1 < 0) || decide (1099511627776 < x.1)) = true := by simpa using hb
   simp -implicitDefEqProofs [h13, h14, h15, hlt, hget, pt1, pt2, pt3, pstep, putCells]
   refine ok_br (fun _ => ok_ret (k1 _ _ (hg.obj _) (by rw [hcons]; simp))) (fun q => ?_)
   rw [hb'] at q; cases q
  ·rw [if_neg hb] at hcons
   have hb' : (decide (x.1 < 0) || decide (1099511627776 < x.1)) = false := by
    rw [Bool.or_eq_false_iff]; simp only [decide_eq_false_iff_not]; omega
   simp -implicitDefEqProofs [h13, h14, h15, hlt, hget, pt1, pt2, pt3, pstep, putCells]
   refine ok_br (fun q => ?_) (fun _ => ?_)
   ·rw [hb'] at q; cases q
   ·cases hm : mayB x.2.1 x.2.2 with
    | false =>
     rw [hm] at hcons
     rw [if_pos rfl] at hcons
     have hsv' : ∀ tip S, cval T 154 [.sl tip [.agg [.int .i64 x.2.1, .int .i64 x.2.2]] []] S = some (.int .i64 11, S) := fun tip S => by rw [hsv tip S, hm]; rfl
     simp -implicitDefEqProofs [h13, h14, h15, pt1, pt2, pt3, pstep, elems, setParts, hsv']
     exact k1 _ _ ((hg.obj _).arr _) (by rw [hcons]; simp)
    | true =>
     rw [hm] at hcons
     rw [if_neg (by decide)] at hcons
     have hsv' : ∀ tip S, cval T 154 [.sl tip [.agg [.int .i64 x.2.1, .int .i64 x.2.2]] []] S = some (.int .i64 0, S) := fun tip S => by rw [hsv tip S, hm]; rfl
     simp -implicitDefEqProofs [h13, h14, h15, pt1, pt2, pt3, pstep, elems, setParts, hsv', hw]
     refine ih (p ++ [x]) _ _ (by simp [hp]) ((hg.obj _).arr _) (by simp [h13]) (by simp [h14]) (by simp [hw]) (fun fr' S' g1 g2 => k1 fr' S' g1 (by rw [hcons]; exact g2)) (fun g1 fr' S' g2 => k2 (by rw [hcons]; exact g1) fr' S' g2)
theorem rows_val {l : List RowM} {v : PV} (hv : Reads1 3 v (l.map rowV)) (S : St) : cval T 275 [v] S = some (.int .i64 (rowsN l), S) := by
 have hlen := hv.len
 rw [List.length_map] at hlen
 refine cval_ok' fn_275 rfl ?_
 by_cases hl : l.length = 0 ∨ 64 < l.length
 ·have hr : rowsN l = 2 := by unfold rowsN; rw [if_pos hl]
  rw [hr]
  have hb : (decide ((l.length : Int) < 1) || decide (64 < (l.length : Int))) = true := by
   rw [Bool.or_eq_true]; simp only [decide_eq_true_eq]; omega
  by_cases h1 : (l.length : Int) < 1
  ·simp -implicitDefEqProofs [z51, hlen, h1]
  ·have h2 : (64 : Int) < (l.length : Int) := by omega
   simp -implicitDefEqProofs [z51, hlen, h1, h2]
 ·have hr : rowsN l = rowsR l := by unfold rowsN; rw [if_neg hl]
  rw [hr]
  have h1 : ¬ (l.length : Int) < 1 := by omega
  have h2 : ¬ (64 : Int) < (l.length : Int) := by omega
  simp -implicitDefEqProofs [z51, hlen, h1, h2]
  refine rows_loop (S0 := S) (by omega) hv l [] _ S rfl (Grows.refl S) (by simp) (by simp) (by simp) (fun fr' S' g h2 => ?_) (fun h2 fr' S' g => ?_)
  ·rw [ends1, h2]; exact fin_gi g
  ·rw [h2]
   simp -implicitDefEqProofs
   exact fin_gi g

theorem rrows_loop {l : List RowM} (hl : l.length ≤ 64) {v : PV} (hv : Reads1 3 v (l.map rowV)) {K : List Kt} {Q : Fr → St → Prop} {S : St} : ∀ (r p : List RowM) (fr : Fr), l = p ++ r →
  fr 0 = v → fr 3 = .int .i64 p.length →
  (∀ fr', fr' 2 = .int .i64 (rowsR r) → Q fr' S) → (rowsR r = 0 → ∀ fr', Ok (gval T K fr' S) Q) →
  Ok (gval T (.lp z79_l0 :: .blk 0 :: K) fr S) Q := by
 have hlen := hv.len
 rw [List.length_map] at hlen
 intro r
 induction r with
 | nil =>
  intro p fr hp h0 h3 k1 k2
  rw [List.append_nil] at hp
  subst hp
  rw [gval_lp]
  simp -implicitDefEqProofs [h0, h3, hlen]
  exact k2 rfl _
 | cons x r ih =>
  intro p fr hp h0 h3 k1 k2
  have hplt : p.length < l.length := by rw [hp]; simp
  have hlt : (p.length : Int) < (l.length : Int) := by omega
  have hget := row_get hv hp (k := .i64)
  have hw := wrap_len (a := p.length) (by omega)
  have hcons := rowsR_cons x r
  have hm := rmay_val x.2.1 x.2.2 S
  unfold smpV at hm
  rw [gval_lp]
  by_cases hb : x.1 < 0 ∨ 1099511627776 < x.1
  ·rw [if_pos hb] at hcons
   by_cases hn : x.1 < 0
   ·simp -implicitDefEqProofs [h0, h3, hlen, hlt, hget, pt1, hn]
    exact k1 _ (by rw [hcons]; simp)
   ·have hn2 : 1099511627776 < x.1 := by omega
    simp -implicitDefEqProofs [h0, h3, hlen, hlt, hget, pt1, hn, hn2]
    exact k1 _ (by rw [hcons]; simp)
  ·rw [if_neg hb] at hcons
   have hn : ¬ x.1 < 0 := fun q => hb (.inl q)
   have hn2 : ¬ 1099511627776 < x.1 := fun q => hb (.inr q)
   cases hmb : mayB x.2.1 x.2.2 with
   | false =>
    rw [hmb] at hcons hm
    rw [if_pos rfl] at hcons
    simp -implicitDefEqProofs [h0, h3, hlen, hlt, hget, pt1, pt2, hn, hn2, hm]
    exact k1 _ (by rw [hcons]; simp)
   | true =>
    rw [hmb] at hcons hm
    rw [if_neg (by decide)] at hcons
    simp -implicitDefEqProofs [h0, h3, hlen, hlt, hget, pt1, pt2, hn, hn2, hm, hw]
    exact ih (p ++ [x]) _ (by simp [hp]) (by simp [h0]) (by simp [hw]) (fun fr' g2 => k1 fr' (by rw [hcons]; exact g2)) (fun g1 fr' => k2 (by rw [hcons]; exact g1) fr')
theorem rrows_val {l : List RowM} {v : PV} (hv : Reads1 3 v (l.map rowV)) (S : St) : cval T 281 [v] S = some (.int .i64 (rowsN l), S) := by
 have hlen := hv.len
 rw [List.length_map] at hlen
 refine cval_ok' fn_281 rfl ?_
 by_cases hl : l.length = 0 ∨ 64 < l.length
 ·have hr : rowsN l = 2 := by unfold rowsN; rw [if_pos hl]
  rw [hr]
  by_cases h1 : l.length = 0
  ·have h1' : lenP false v = some (.int .i64 0) := by rw [hlen, h1]; rfl
   simp -implicitDefEqProofs [z79, h1']
  ·have h1' : ((l.length : Int) == 0) = false := by simpa using h1
   have h2 : (64 : Int) < (l.length : Int) := by omega
   simp -implicitDefEqProofs [z79, hlen, h1', h2]
 ·have hr : rowsN l = rowsR l := by unfold rowsN; rw [if_neg hl]
  rw [hr]
  have h1' : ((l.length : Int) == 0) = false := by
   have : ¬ (l.length : Int) = 0 := by omega
   simpa using this
  have h2 : ¬ (64 : Int) < (l.length : Int) := by omega
  simp -implicitDefEqProofs [z79, hlen, h1', h2]
  refine rrows_loop (by omega) hv l [] _ rfl (by simp) (by simp) (fun fr' h2 => ?_) (fun h2 fr' => ?_)
  ·rw [ends1, h2]; exact fin_gi (Grows.refl S)
  ·rw [h2]
   simp

structure RecM where
 kind : Int
 labs : List Lab
 rows : List RowM
 ids : List Int
 low : Int
 high : Int
structure RecC (r : RecM) (cs : List PV) : Prop where
 ex : ∃ vl vr vi, cs = [.int .i64 r.kind, vl, vr, vi, .int .i64 r.low, .int .i64 r.high] ∧ IsSl 2 vl (r.labs.map labV) ∧ IsSl 3 vr (r.rows.map rowV) ∧ IsSl 1 vi (nV r.ids)
 lens : r.labs.length ≤ maxLen ∧ r.rows.length ≤ maxLen ∧ r.ids.length ≤ maxLen ∧ ∀ x ∈ r.labs, x.1.length ≤ maxLen

def delN (r : RecM) : Nat := if postN r.ids ≠ 0 then postN r.ids else if r.ids.length = 0 then 2 else if r.low < 0 ∨ 1099511627776 < r.high then 11 else if r.high < r.low then 13 else 0
def recN (r : RecM) : Nat :=
 if r.kind = 1 ∧ r.rows.length = 0 ∧ r.ids.length = 0 ∧ r.low = 0 ∧ r.high = 0 then checkN r.labs else
 if r.kind = 2 ∧ r.labs.length = 0 ∧ r.ids.length = 0 ∧ r.low = 0 ∧ r.high = 0 then rowsN r.rows else
 if r.kind = 3 ∧ r.labs.length = 0 ∧ r.rows.length = 0 then delN r else 2

theorem fn_276 : T.fn 276 = some (.code z43) := rfl
theorem fn_179 : T.fn 179 = some (.code z83) := rfl
theorem fn_183 : T.fn 183 = some (.code z69) := rfl

theorem isl_one {sz : Nat} {v : PV} {es : List PV} (h : IsSl sz v es) : v.one = true := by
 rcases h with ⟨rfl, _⟩ | ⟨tip, sp, rfl, _⟩ <;> rfl
theorem cells_one {k a b : Int} {vl vr vi : PV} {s1 s2 s3 : Nat} {e1 e2 e3 : List PV} (h1 : IsSl s1 vl e1) (h2 : IsSl s2 vr e2) (h3 : IsSl s3 vi e3) : ([.int .i64 k, vl, vr, vi, .int .i64 a, .int .i64 b] : List PV).all PV.one = true := by
 have hi : ∀ (k : IntKind) n, (PV.int k n).one = true := fun _ _ => rfl
 simp only [List.all_cons, List.all_nil, isl_one h1, isl_one h2, isl_one h3, hi, Bool.and_self]
theorem del_val {r : RecM} {cs : List PV} (h : RecC r cs) (S : St) : cval T 276 [.agg cs] S = some (.int .i64 (delN r), S) := by
 obtain ⟨⟨vl, vr, vi, rfl, h1, h2, h3⟩, hlens⟩ := h
 have hp := pcheck_val h3.reads S
 have hl := h3.len
 rw [nV_len] at hl
 have hal : ([.int .i64 r.kind, vl, vr, vi, .int .i64 r.low, .int .i64 r.high] : List PV).all PV.one = true := cells_one h1 h2 h3
 refine cval_ok' fn_276 rfl ?_
 simp -implicitDefEqProofs [-List.all_eq_true, z43, hal, pstep, pt1, hp, hl]
 have dn : delN r = if postN r.ids ≠ 0 then postN r.ids else if r.ids.length = 0 then 2 else if r.low < 0 ∨ 1099511627776 < r.high then 11 else if r.high < r.low then 13 else 0 := rfl
 refine ok_br (fun q => ok_ret ?_) (fun q => ok_br (fun q2 => ok_ret ?_) (fun q2 => ok_br (fun q3 => ok_ret ?_) (fun q3 => ok_br (fun q4 => ok_ret ?_) (fun q4 => ok_ret ?_))))
 ·rw [if_pos (by simpa using q)] at dn
  rw [dn]; simp
 ·rw [if_neg (by simpa using q), if_pos (by simpa using q2)] at dn
  rw [dn]; simp
 ·rw [if_neg (by simpa using q), if_neg (by simpa using q2), if_pos (by simpa using q3)] at dn
  rw [dn]; simp
 ·rw [if_neg (by simpa using q), if_neg (by simpa using q2), if_neg (by simpa using q3), if_pos (by simpa using q4)] at dn
  rw [dn]; simp
 ·rw [if_neg (by simpa using q), if_neg (by simpa using q2), if_neg (by simpa using q3), if_neg (by simpa using q4)] at dn
  rw [dn]; simp

theorem reccheck_val {r : RecM} {cs : List PV} (h : RecC r cs) (S : St) : cval T 179 [.agg cs] S = some (.int .i64 (recN r), S) := by
 have hd := fun S => del_val h S
 obtain ⟨⟨vl, vr, vi, rfl, h1, h2, h3⟩, hlens⟩ := h
 have hc := fun S => check_val h1.reads hlens.2.2.2 hlens.1 S
 have hr := fun S => rows_val h2.reads S
 have l1 := h1.len
 have l2 := h2.len
 have l3 := h3.len
 rw [List.length_map] at l1 l2
 rw [nV_len] at l3
 have hal : ([.int .i64 r.kind, vl, vr, vi, .int .i64 r.low, .int .i64 r.high] : List PV).all PV.one = true := cells_one h1 h2 h3
 have pt5 : ∀ (a b c d e : PV), partOf true 5 [a, b, c, d, e] = some (.agg [a, b, c, d, e]) := fun a b c d e => by simp [partOf]
 have pt6 : ∀ (a b c d e f : PV), partOf true 6 [a, b, c, d, e, f] = some (.agg [a, b, c, d, e, f]) := fun a b c d e f => by simp [partOf]
 have dn : recN r = if r.kind = 1 ∧ r.rows.length = 0 ∧ r.ids.length = 0 ∧ r.low = 0 ∧ r.high = 0 then checkN r.labs else
  if r.kind = 2 ∧ r.labs.length = 0 ∧ r.ids.length = 0 ∧ r.low = 0 ∧ r.high = 0 then rowsN r.rows else
  if r.kind = 3 ∧ r.labs.length = 0 ∧ r.rows.length = 0 then delN r else 2 := rfl
 refine cval_ok' fn_179 rfl ?_
 by_cases k1 : r.kind = 1
 ·have b1 : (r.kind == 1) = true := by simpa using k1
  have b2 : (r.kind == 2) = false := by rw [k1]; rfl
  have b3 : (r.kind == 3) = false := by rw [k1]; rfl
  have n2 : ¬ r.kind = 2 := by omega
  have n3 : ¬ r.kind = 3 := by omega
  simp -implicitDefEqProofs [-List.all_eq_true, z83, hal, pstep, peval, fillParts, putCells, pt1, pt5, l1, l2, l3, hc, hr, hd, pt6, eqCells, negIf, b1, b2, b3]
  refine ok_br (fun q => ok_ret ?_) (fun q => ok_ret ?_)
  ·rw [if_pos (by simpa [k1] using q)] at dn
   rw [dn]; simp -implicitDefEqProofs; exact fin_gi ((Grows.refl S).obj _)
  ·rw [if_neg (by simpa [k1] using q), if_neg (fun z => n2 z.1), if_neg (fun z => n3 z.1)] at dn
   rw [dn]; simp -implicitDefEqProofs; exact fin_gi ((Grows.refl S).obj _)
 by_cases k2 : r.kind = 2
 ·have b1 : (r.kind == 1) = false := by simpa using k1
  have b2 : (r.kind == 2) = true := by simpa using k2
  have b3 : (r.kind == 3) = false := by rw [k2]; rfl
  have n3 : ¬ r.kind = 3 := by omega
  simp -implicitDefEqProofs [-List.all_eq_true, z83, hal, pstep, peval, fillParts, putCells, pt1, pt5, l1, l2, l3, hc, hr, hd, pt6, eqCells, negIf, b1, b2, b3]
  refine ok_br (fun q => ok_ret ?_) (fun q => ok_ret ?_)
  ·rw [if_neg (fun z => k1 z.1), if_pos (by simpa [k2] using q)] at dn
   rw [dn]; simp -implicitDefEqProofs; exact fin_gi ((Grows.refl S).obj _)
  ·rw [if_neg (fun z => k1 z.1), if_neg (by simpa [k2] using q), if_neg (fun z => n3 z.1)] at dn
   rw [dn]; simp -implicitDefEqProofs; exact fin_gi ((Grows.refl S).obj _)
 by_cases k3 : r.kind = 3
 ·have b1 : (r.kind == 1) = false := by simpa using k1
  have b2 : (r.kind == 2) = false := by simpa using k2
  have b3 : (r.kind == 3) = true := by simpa using k3
  simp -implicitDefEqProofs [-List.all_eq_true, z83, hal, pstep, peval, fillParts, putCells, pt1, pt5, l1, l2, l3, hc, hr, hd, pt6, eqCells, negIf, b1, b2, b3]
  refine ok_br (fun q => ok_ret ?_) (fun q => ok_ret ?_)
  ·rw [if_neg (fun z => k1 z.1), if_neg (fun z => k2 z.1), if_pos (by simpa [k3] using q)] at dn
   rw [dn]; simp -implicitDefEqProofs; exact fin_gi ((Grows.refl S).obj _)
  ·rw [if_neg (fun z => k1 z.1), if_neg (fun z => k2 z.1), if_neg (by simpa [k3] using q)] at dn
   rw [dn]; simp -implicitDefEqProofs; exact fin_gi ((Grows.refl S).obj _)
 ·have b1 : (r.kind == 1) = false := by simpa using k1
  have b2 : (r.kind == 2) = false := by simpa using k2
  have b3 : (r.kind == 3) = false := by simpa using k3
  simp -implicitDefEqProofs [-List.all_eq_true, z83, hal, pstep, peval, fillParts, putCells, pt1, pt5, l1, l2, l3, hc, hr, hd, pt6, eqCells, negIf, b1, b2, b3]
  rw [if_neg (fun z => k1 z.1), if_neg (fun z => k2 z.1), if_neg (fun z => k3 z.1)] at dn
  rw [dn]; simp -implicitDefEqProofs; exact fin_gi ((Grows.refl S).obj _)

theorem rdel_like {r : RecM} : recN r = if r.kind < 1 ∨ 3 < r.kind ∨ (r.kind ≠ 1 ∧ 0 < r.labs.length) ∨ (r.kind ≠ 2 ∧ 0 < r.rows.length) ∨ (r.kind ≠ 3 ∧ (0 < r.ids.length ∨ r.low ≠ 0 ∨ r.high ≠ 0)) then 2 else if r.kind = 1 then checkN r.labs else if r.kind = 2 then rowsN r.rows else delN r := by
 unfold recN
 by_cases k1 : r.kind = 1
 ·by_cases q : r.rows.length = 0 ∧ r.ids.length = 0 ∧ r.low = 0 ∧ r.high = 0
  ·rw [if_pos ⟨k1, q⟩, if_neg (by omega), if_pos k1]
  ·rw [if_neg (fun z => q z.2), if_neg (by omega), if_neg (by omega), if_pos (by omega)]
 by_cases k2 : r.kind = 2
 ·by_cases q : r.labs.length = 0 ∧ r.ids.length = 0 ∧ r.low = 0 ∧ r.high = 0
  ·rw [if_neg (fun z => k1 z.1), if_pos ⟨k2, q⟩, if_neg (by omega), if_neg k1, if_pos k2]
  ·rw [if_neg (fun z => k1 z.1), if_neg (fun z => q z.2), if_neg (by omega), if_pos (by omega)]
 by_cases k3 : r.kind = 3
 ·by_cases q : r.labs.length = 0 ∧ r.rows.length = 0
  ·rw [if_neg (fun z => k1 z.1), if_neg (fun z => k2 z.1), if_pos ⟨k3, q⟩, if_neg (by omega), if_neg k1, if_neg k2]
  ·rw [if_neg (fun z => k1 z.1), if_neg (fun z => k2 z.1), if_neg (fun z => q z.2), if_pos (by omega)]
 ·rw [if_neg (fun z => k1 z.1), if_neg (fun z => k2 z.1), if_neg (fun z => k3 z.1), if_pos (by omega)]

set_option maxRecDepth 4000 in
theorem rreccheck_val {r : RecM} {cs : List PV} (h : RecC r cs) (S : St) : cval T 183 [.agg cs] S = some (.int .i64 (recN r), S) := by
 have dn := rdel_like (r := r)
 obtain ⟨⟨vl, vr, vi, rfl, h1, h2, h3⟩, hlens⟩ := h
 have hc := fun S => rcheck_val h1.reads hlens.2.2.2 hlens.1 S
 have hr := fun S => rrows_val h2.reads S
 have hp := fun S => rpcheck_val h3.reads S
 have l1 := h1.len
 have l2 := h2.len
 have l3 := h3.len
 rw [List.length_map] at l1 l2
 rw [nV_len] at l3
 have hal : ([.int .i64 r.kind, vl, vr, vi, .int .i64 r.low, .int .i64 r.high] : List PV).all PV.one = true := cells_one h1 h2 h3
 have dd : delN r = if postN r.ids ≠ 0 then postN r.ids else if r.ids.length = 0 then 2 else if r.low < 0 ∨ 1099511627776 < r.high then 11 else if r.high < r.low then 13 else 0 := rfl
 refine cval_ok' fn_183 rfl ?_
 by_cases k1 : r.kind = 1
 ·have b1 : (r.kind == 1) = true := by rw [k1]; rfl
  have b2 : (r.kind == 2) = false := by rw [k1]; rfl
  have b3 : (r.kind == 3) = false := by rw [k1]; rfl
  have b4 : decide (r.kind < 1) = false := by rw [k1]; rfl
  have b5 : decide (3 < r.kind) = false := by rw [k1]; rfl
  have n1 : (r.kind != 1) = false := by rw [k1]; rfl
  have n2 : (r.kind != 2) = true := by rw [k1]; rfl
  have n3 : (r.kind != 3) = true := by rw [k1]; rfl
  simp -implicitDefEqProofs [-List.all_eq_true, z69, hal, pstep, pt1, l1, l2, l3, hc, hr, hp, b1, b2, b3, b4, b5, n1, n2, n3]
  refine ok_br (fun q => ok_ret ?_) (fun q => ok_ret ?_)
  ·simp only [Bool.or_eq_true, decide_eq_true_eq, bne_iff_ne] at q
   rw [if_pos (by omega)] at dn
   rw [dn]; simp -implicitDefEqProofs; try exact fin_gi (Grows.refl S)
  ·simp only [Bool.or_eq_false_iff, decide_eq_false_iff_not, bne_eq_false_iff_eq] at q
   rw [if_neg (by omega), if_pos k1] at dn
   rw [dn]; simp -implicitDefEqProofs; try exact fin_gi (Grows.refl S)
 by_cases k2 : r.kind = 2
 ·have b1 : (r.kind == 1) = false := by rw [k2]; rfl
  have b2 : (r.kind == 2) = true := by rw [k2]; rfl
  have b3 : (r.kind == 3) = false := by rw [k2]; rfl
  have b4 : decide (r.kind < 1) = false := by rw [k2]; rfl
  have b5 : decide (3 < r.kind) = false := by rw [k2]; rfl
  have n1 : (r.kind != 1) = true := by rw [k2]; rfl
  have n2 : (r.kind != 2) = false := by rw [k2]; rfl
  have n3 : (r.kind != 3) = true := by rw [k2]; rfl
  simp -implicitDefEqProofs [-List.all_eq_true, z69, hal, pstep, pt1, l1, l2, l3, hc, hr, hp, b1, b2, b3, b4, b5, n1, n2, n3]
  refine ok_br (fun q => ok_ret ?_) (fun q => ok_ret ?_)
  ·simp only [Bool.or_eq_true, decide_eq_true_eq, bne_iff_ne] at q
   rw [if_pos (by omega)] at dn
   rw [dn]; simp -implicitDefEqProofs; try exact fin_gi (Grows.refl S)
  ·simp only [Bool.or_eq_false_iff, decide_eq_false_iff_not, bne_eq_false_iff_eq] at q
   rw [if_neg (by omega), if_neg k1, if_pos k2] at dn
   rw [dn]; simp -implicitDefEqProofs; try exact fin_gi (Grows.refl S)
 by_cases k3 : r.kind = 3
 ·have b1 : (r.kind == 1) = false := by rw [k3]; rfl
  have b2 : (r.kind == 2) = false := by rw [k3]; rfl
  have b3 : (r.kind == 3) = true := by rw [k3]; rfl
  have b4 : decide (r.kind < 1) = false := by rw [k3]; rfl
  have b5 : decide (3 < r.kind) = false := by rw [k3]; rfl
  have n1 : (r.kind != 1) = true := by rw [k3]; rfl
  have n2 : (r.kind != 2) = true := by rw [k3]; rfl
  have n3 : (r.kind != 3) = false := by rw [k3]; rfl
  simp -implicitDefEqProofs [-List.all_eq_true, z69, hal, pstep, pt1, l1, l2, l3, hc, hr, hp, b1, b2, b3, b4, b5, n1, n2, n3]
  refine ok_br (fun q => ok_ret ?_) (fun q0 => ok_br (fun q => ok_ret ?_) (fun q => ok_br (fun q2 => ok_ret ?_) (fun q2 => ok_br (fun q3 => ok_ret ?_) (fun q3 => ok_br (fun q4 => ok_ret ?_) (fun q4 => ok_ret ?_)))))
  ·simp only [Bool.or_eq_true, decide_eq_true_eq, bne_iff_ne] at q
   rw [if_pos (by omega)] at dn
   rw [dn]; simp -implicitDefEqProofs; try exact fin_gi (Grows.refl S)
  ·simp only [Bool.or_eq_false_iff, decide_eq_false_iff_not, bne_eq_false_iff_eq] at q0
   rw [if_neg (by omega), if_neg k1, if_neg k2] at dn
   rw [if_pos (by simpa using q)] at dd
   rw [dn, dd]; simp -implicitDefEqProofs; try exact fin_gi (Grows.refl S)
  ·simp only [Bool.or_eq_false_iff, decide_eq_false_iff_not, bne_eq_false_iff_eq] at q0
   rw [if_neg (by omega), if_neg k1, if_neg k2] at dn
   rw [if_neg (by simpa using q), if_pos (by simpa using q2)] at dd
   rw [dn, dd]; simp -implicitDefEqProofs; try exact fin_gi (Grows.refl S)
  ·simp only [Bool.or_eq_false_iff, decide_eq_false_iff_not, bne_eq_false_iff_eq] at q0
   rw [if_neg (by omega), if_neg k1, if_neg k2] at dn
   rw [if_neg (by simpa using q), if_neg (by simpa using q2), if_pos (by simpa using q3)] at dd
   rw [dn, dd]; simp -implicitDefEqProofs; try exact fin_gi (Grows.refl S)
  ·simp only [Bool.or_eq_false_iff, decide_eq_false_iff_not, bne_eq_false_iff_eq] at q0
   rw [if_neg (by omega), if_neg k1, if_neg k2] at dn
   rw [if_neg (by simpa using q), if_neg (by simpa using q2), if_neg (by simpa using q3), if_pos (by simpa using q4)] at dd
   rw [dn, dd]; simp -implicitDefEqProofs; try exact fin_gi (Grows.refl S)
  ·simp only [Bool.or_eq_false_iff, decide_eq_false_iff_not, bne_eq_false_iff_eq] at q0
   rw [if_neg (by omega), if_neg k1, if_neg k2] at dn
   rw [if_neg (by simpa using q), if_neg (by simpa using q2), if_neg (by simpa using q3), if_neg (by simpa using q4)] at dd
   rw [dn, dd]; simp -implicitDefEqProofs; try exact fin_gi (Grows.refl S)
 ·have n1 : (r.kind != 1) = true := by simpa using k1
  have n2 : (r.kind != 2) = true := by simpa using k2
  have n3 : (r.kind != 3) = true := by simpa using k3
  simp -implicitDefEqProofs [-List.all_eq_true, z69, hal, pstep, pt1, l1, l2, l3, hc, hr, hp, n1, n2, n3]
  have hk : r.kind < 1 ∨ 3 < r.kind := by omega
  rw [if_pos (by omega)] at dn
  refine ok_br (fun q => ok_ret ?_) (fun q => ?_)
  ·rw [dn]; simp -implicitDefEqProofs
  ·exfalso
   simp only [Bool.or_eq_false_iff, decide_eq_false_iff_not, bne_eq_false_iff_eq] at q
   omega
end Ps
