/- Series sorted: insertion. -/
import Derived.Test.YtndfknoclbkkhaaHR
import Derived.Sort.AssemblyPlain
namespace Ps
set_option linter.unusedSimpArgs false
set_option linter.unusedVariables false
open Go
theorem fn_28 : T.fn 28 = some (.code z53) := rfl
theorem fn_103 : T.fn 103 = some (.code z15) := rfl
theorem fn_104 : T.fn 104 = some (.code z42) := rfl
theorem fn_105 : T.fn 105 = some (.code z72) := rfl
theorem fn_106 : T.fn 106 = some (.code z29) := rfl
theorem fn_217 : T.fn 217 = some (.code z37) := rfl
theorem fn_287 : T.fn 287 = some (.code z27) := rfl

theorem nan_pval (s : List UInt8) : pval T 217 [.str s] = some (.bool false) := by
 refine pval_st ?_ rfl rfl
 refine cval_ok' fn_217 rfl ?_
 simp -implicitDefEqProofs [z37]

theorem cmps_pval (a b : List UInt8) : pval T 106 [.str a, .str b] = some (.int .i64 (cmpT a b)) := by
 refine pval_st ?_ rfl rfl
 refine cval_ok' fn_106 rfl ?_
 simp -implicitDefEqProofs [z29, nan_pval]
 refine ok_br (fun h => ?_) (fun h => ok_br (fun h2 => ?_) (fun h2 => ?_))
 ·simp [cmpT, h]
 ·simp [cmpT, h] at h2 ⊢; simp [h2]
 ·simp [cmpT, h] at h2 ⊢; simp [h2]

theorem or_val (a b : Int) (tip : Option (Nat × Nat)) (S : St) : cval T 105 [.sl tip [.int .i64 a, .int .i64 b] []] S = some (.int .i64 (if a = 0 then b else a), S) := by
 refine cval_ok' fn_105 rfl ?_
 have w1 : IntKind.i64.wrap 1 = 1 := by decide
 have w2 : IntKind.i64.wrap 2 = 2 := by decide
 have hp1 : ∀ {a : PV} {m : List PV}, partOf false 1 (a :: m) = some a := fun {a m} => by simp [partOf]
 simp -implicitDefEqProofs [z72]
 rw [gval_lp]
 simp -implicitDefEqProofs [hp1, w1]
 refine ok_br (fun h => ?_) (fun h => ?_)
 ·simp at h; simp [h]
 ·simp at h
  rw [gval_lp]
  simp -implicitDefEqProofs [hp1, w1, w2]
  refine ok_br (fun h2 => ?_) (fun h2 => ?_)
  ·simp at h2; simp [h]
  ·simp at h2
   rw [gval_lp]
   simp -implicitDefEqProofs [h, h2]

theorem cmp1_val (x y : Lab) (S : St) : cval T 104 [labV x, labV y] S = some (.int .i64 (cmpLab x y), S) := by
 refine cval_ok' fn_104 rfl ?_
 have hp1 : ∀ {a : PV} {m : List PV}, partOf false 1 (a :: m) = some a := fun {a m} => by simp [partOf]
 simp -implicitDefEqProofs [z42, pstep, labV, hp1, cmps_pval, elems, setParts, or_val]
 rw [fin_gi ((Grows.refl S).arr _)]
 simp [cmpLab]

theorem cmpf_loop {l1 l2 : List Lab} {v1 v2 : PV} (hv1 : Reads1 2 v1 (l1.map labV)) (hv2 : Reads1 2 v2 (l2.map labV)) (hl1 : l1.length ≤ maxLen) {K : List Kt} {Q : Fr → St → Prop} {S0 : St} : ∀ (r1 p1 r2 p2 : List Lab), l1 = p1 ++ r1 → l2 = p2 ++ r2 → p2.length = p1.length → ∀ (fr : Fr) (S : St),
  fr 0 = v1 → fr 1 = v2 → fr 2 = .fn 104 [] → fr 11 = v1 → fr 12 = .int .i64 l1.length → fr 13 = .int .i64 p1.length → Grows S0 S →
  (loopR r1 r2 = none → ∀ fr' S', fr' 0 = v1 → fr' 1 = v2 → Grows S0 S' → Ok (gval T K fr' S') Q) → (∀ c, loopR r1 r2 = some c → ∀ fr' S', fr' 6 = .int .i64 c → Grows S0 S' → Q fr' S') →
  Ok (gval T (.lp z15_l0 :: .blk 0 :: K) fr S) Q := by
 intro r1
 induction r1 with
 | nil =>
  intro p1 r2 p2 e1 e2 ep fr S h0 h1 h2 h11 h12 h13 hg k1 k2
  rw [List.append_nil] at e1; subst e1
  rw [gval_lp]
  simp -implicitDefEqProofs [h0, h1, h11, h12, h13]
  exact k1 rfl _ _ (by simp [h0]) (by simp [h1]) hg
 | cons x r1 ih =>
  intro p1 r2 p2 e1 e2 ep fr S h0 h1 h2 h11 h12 h13 hg k1 k2
  have hlt : p1.length < l1.length := by rw [e1]; simp
  have g1 := sl_get hv1 e1
  unfold maxLen at hl1
  have hw := wrap_len (a := p1.length) (by omega)
  have hpo : ∀ {a b : PV}, partOf true 2 [a, b] = some (.agg [a, b]) := fun {a b} => rfl
  have hl2 := hv2.len
  rw [List.length_map] at hl2
  cases r2 with
  | nil =>
   have e2' : l2.length = p1.length := by rw [e2]; simp [ep]
   rw [gval_lp]
   simp -implicitDefEqProofs [h0, h1, h11, h12, h13, hlt, g1, hpo, pstep, putCells, hl2, e2']
   exact k2 1 rfl _ _ (by simp) (hg.obj _)
  | cons y r2 =>
   have hlt2 : p1.length < l2.length := by rw [e2]; simp [ep]
   have g2 := sl_get hv2 e2
   rw [ep] at g2
   have hc := fun S => cmp1_val x y S
   simp only [labV] at hc
   rw [gval_lp]
   simp -implicitDefEqProofs [h0, h1, h2, h11, h12, h13, hlt, g1, hpo, pstep, putCells, hl2, hlt2, g2, hc]
   refine ok_br (fun a => absurd a (by simp; omega)) (fun _ => ok_br (fun a => ?_) (fun a => ?_))
   ·have a' : cmpLab x y ≠ 0 := by simpa using a
    exact ok_ret (k2 (cmpLab x y) (by simp [loopR, a']) _ _ (by simp) (hg.objs _))
   ·have a' : cmpLab x y = 0 := by simpa using a
    refine ih (p1 ++ [x]) r2 (p2 ++ [y]) (by simp [e1]) (by simp [e2]) (by simp [ep]) _ _ (by simp [h0]) (by simp [h1]) (by simp [h2]) (by simp [h11]) (by simp [h12]) (by simp [hw]) (hg.objs _) (fun hz => k1 ?_) (fun c hz => k2 c ?_)
    ·simpa [loopR, a'] using hz
    ·simpa [loopR, a'] using hz

theorem cmpf_val {l1 l2 : List Lab} {v1 v2 : PV} (hv1 : Reads1 2 v1 (l1.map labV)) (hv2 : Reads1 2 v2 (l2.map labV)) (hl1 : l1.length ≤ maxLen) (S : St) : cval T 103 [v1, v2, .fn 104 []] S = some (.int .i64 (cmpL l1 l2), S) := by
 refine cval_ok' fn_103 rfl ?_
 simp -implicitDefEqProofs [z15, hv1.len]
 refine cmpf_loop hv1 hv2 hl1 l1 [] l2 [] rfl rfl rfl _ S (by simp) (by simp) (by simp) (by simp) (by simp) (by simp) (Grows.refl S) (fun hz fr' S' g0 g1 gg => ?_) (fun c hz fr' S' g6 gg => ?_)
 ·simp -implicitDefEqProofs [g0, g1, hv1.len, hv2.len]
  refine ok_br (fun a => ?_) (fun a => ?_)
  ·have : cmpL l1 l2 = -1 := by simp [cmpL, hz]; simp at a; omega
   simp [gg, this]
  ·have : cmpL l1 l2 = 0 := by simp [cmpL, hz]; simp at a; omega
   simp [gg, this]
 ·simp [g6, gg, cmpL, hz]

theorem cmp_val {l1 l2 : List Lab} {v1 v2 : PV} (hv1 : Reads1 2 v1 (l1.map labV)) (hv2 : Reads1 2 v2 (l2.map labV)) (hl1 : l1.length ≤ maxLen) (S : St) : cval T 28 [v1, v2] S = some (.int .i64 (cmpL l1 l2), S) := by
 refine cval_ok' fn_28 rfl ?_
 simp -implicitDefEqProofs [z53, cmpf_val hv1 hv2 hl1]

instance : Inhabited Sr := ⟨⟨.nils, .nils, [], []⟩⟩
def ltS (x y : Sr) : Bool := decide (cmpL x.lb y.lb < 0)
theorem swo_ltS : Sort.SWO ltS where
 irrefl x := by simp [ltS, (cmpL_zero (a := x.lb) (b := x.lb)).2 rfl]
 trans x y z h1 h2 := by
  simp only [ltS, decide_eq_true_eq] at h1 h2 ⊢
  have a := cmpL_rng x.lb y.lb
  have b := cmpL_rng y.lb z.lb
  have := cmpL_trans x.lb y.lb z.lb (by omega) (by omega)
  omega
 ntrans x y z h1 h2 := by
  simp only [ltS, decide_eq_false_iff_not] at h1 h2 ⊢
  intro h3
  have a := cmpL_rng x.lb y.lb
  have b := cmpL_rng y.lb z.lb
  have c := cmpL_rng x.lb z.lb
  have n1 := cmpL_neg x.lb y.lb
  have n2 := cmpL_neg y.lb z.lb
  rcases a with q | q | q
  ·omega
  ·have e := cmpL_zero.1 q
   rw [e] at h3
   omega
  ·rcases b with w | w | w
   ·omega
   ·have e := cmpL_zero.1 w
    rw [← e] at h3
    omega
   ·have := cmpL_trans z.lb y.lb x.lb (by omega) (by omega)
    have n3 := cmpL_neg x.lb z.lb
    omega

structure SeOk (x : Sr) : Prop where
 lab : SlL x.lv x.lb ∧ Right x.lb
 slen : lenP false x.sv = some (.int .i64 x.sm.length)
 sone : x.sv.one = true
 len : x.sm.length ≤ 65536
theorem SeOk.one {x : Sr} (h : SeOk x) : x.lv.one = true ∧ x.sv.one = true := ⟨isl_one h.lab.1.isl, h.sone⟩

def serE (x : Sr) : PV := .agg [x.lv, x.sv]
theorem cmpC_val {x y : Sr} (hx : SeOk x) (hy : SeOk y) (S : St) : cval T 287 [serE x, serE y] S = some (.int .i64 (cmpL x.lb y.lb), S) := by
 have hc := fun S => cmp_val hx.lab.1.reads hy.lab.1.reads (by have := hx.lab.2.1; unfold maxLen; omega) S
 refine cval_ok' fn_287 rfl ?_
 unfold serE
 simp -implicitDefEqProofs [z27, pstep, hx.one.1, hx.one.2, hy.one.1, hy.one.2, part1, hc]

structure Srt (S : St) (id n : Nat) (t : List PV) (S' : St) (d : Array Sr) : Prop where
 mem : S'.objs[id]? = some (serC d.toList ++ t)
 oth : ∀ (i : Nat) (x : List PV), i ≠ id → S.objs[i]? = some x → S'.objs[i]? = some x
 len : S.objs.length ≤ S'.objs.length
 ok : ∀ x ∈ d.toList, SeOk x
 sz : d.size = n
 le : n ≤ 256

theorem serC_app (a b : List Sr) : serC (a ++ b) = serC a ++ serC b := by simp [serC]
theorem serC_at {l : List Sr} {i : Nat} (h : i < l.length) (t : List PV) : (serC l ++ t).drop (i * 2) = l[i].lv :: l[i].sv :: (serC (l.drop (i + 1)) ++ t) := by
 have hs : l = l.take i ++ l[i] :: l.drop (i + 1) := by rw [← List.drop_eq_getElem_cons h, List.take_append_drop]
 have hl : (l.take i).length = i := by rw [List.length_take]; omega
 have := serC_dropA (l.take i) l[i] (l.drop (i + 1))
 rw [hl, ← hs] at this
 rw [List.drop_append_of_le_length (by rw [serC_len]; omega), this]
 rfl
theorem serC_set {l : List Sr} {i : Nat} (h : i < l.length) (t : List PV) (x : Sr) : putCells (serC l ++ t) (i * 2) [x.lv, x.sv] = serC (l.set i x) ++ t := by
 have hs : l = l.take i ++ l[i] :: l.drop (i + 1) := by rw [← List.drop_eq_getElem_cons h, List.take_append_drop]
 have hl : (l.take i).length = i := by rw [List.length_take]; omega
 have e1 : (serC l ++ t).take (i * 2) = serC (l.take i) := by
  rw [List.take_append_of_le_length (by rw [serC_len]; omega)]
  have hq : serC l = serC (l.take i) ++ serC (l.drop i) := by rw [← serC_app, List.take_append_drop]
  rw [hq, List.take_append_of_le_length (by rw [serC_len]; omega), List.take_of_length_le (by rw [serC_len]; omega)]
 have e2 : (serC l ++ t).drop (i * 2 + 2) = serC (l.drop (i + 1)) ++ t := by
  rw [← List.drop_drop, serC_at h]; rfl
 simp only [putCells, List.length_cons, List.length_nil]
 rw [e1, e2]
 have e3 : l.set i x = l.take i ++ x :: l.drop (i + 1) := by rw [List.set_eq_take_append_cons_drop, if_pos h]
 rw [e3, serC_mid]
 simp

theorem getE {d : Array Sr} {i : Nat} (h : i < d.size) : d[i]! = d.toList[i]'(by simpa using h) := by
 rw [getElem!_pos d i h]; simp
section
variable {S S' : St} {id n : Nat} {t : List PV} {d : Array Sr}
theorem Srt.okAt (h : Srt S id n t S' d) {i : Nat} (hi : i < n) : SeOk d[i]! := by
 have := h.sz
 rw [getE (by omega)]
 exact h.ok _ (List.getElem_mem _)
theorem Srt.load (h : Srt S id n t S' d) {i : Nat} (hi : i < n) : loadP S' true 2 (.ptr id (i * 2)) = some (serE d[i]!) := by
 have hsz := h.sz
 rw [loadP_ptr h.mem, serC_at (by simpa [hsz] using hi), getE (by omega)]
 exact part2
theorem Srt.put (h : Srt S id n t S' d) {i : Nat} (hi : i < n) {x : Sr} (hx : SeOk x) : Srt S id n t ⟨S'.objs.set id (putCells (serC d.toList ++ t) (i * 2) [x.lv, x.sv]), S'.tips⟩ (d.setIfInBounds i x) where
 mem := by
  have hsz := h.sz
  simp only
  rw [get_set h.mem, serC_set (by simpa [hsz] using hi), Array.toList_setIfInBounds]
 oth := fun j y hj hy => by simp only; rw [List.getElem?_set_ne (Ne.symm hj)]; exact h.oth j y hj hy
 len := by simpa using h.len
 ok := fun y hy => by
  rw [Array.toList_setIfInBounds] at hy
  rcases List.mem_or_eq_of_mem_set hy with q | q
  ·exact h.ok y q
  ·rw [q]; exact hx
 sz := by rw [Array.size_setIfInBounds]; exact h.sz
 le := h.le
theorem Srt.clen (h : Srt S id n t S' d) : (serC d.toList ++ t).length = 2 * n + t.length := by
 have := h.sz
 rw [List.length_append, serC_len]; simp [this]
end
@[simp] theorem serE_cells (x : Sr) : (serE x).cells = [x.lv, x.sv] := rfl
theorem putCells_len {cs vs : List PV} {o : Nat} (h : o + vs.length ≤ cs.length) : (putCells cs o vs).length = cs.length := by
 simp only [putCells, List.length_append, List.length_take, List.length_drop]; omega
theorem Srt.swap {S S' : St} {id n : Nat} {t : List PV} {d : Array Sr} (h : Srt S id n t S' d) {i j : Nat} (hi : i < n) (hj : j < n) {x y : Sr} (hx : x = d[i]!) (hy : y = d[j]!) :
  ∃ cs S2, S'.objs[id]? = some cs ∧ i * 2 + 2 ≤ cs.length ∧ (∀ c : List PV, (S'.objs.set id c)[id]? = some c) ∧ j * 2 + 2 ≤ (putCells cs (i * 2) [y.lv, y.sv]).length ∧
   S2 = (⟨S'.objs.set id (putCells (putCells cs (i * 2) [y.lv, y.sv]) (j * 2) [x.lv, x.sv]), S'.tips⟩ : St) ∧ Srt S id n t S2 (Sort.swp d i j) := by
 have hcl := h.clen
 have h1 := h.put hi (x := y) (by rw [hy]; exact h.okAt hj)
 have h2 := h1.put hj (x := x) (by rw [hx]; exact h.okAt hi)
 refine ⟨serC d.toList ++ t, _, h.mem, by rw [hcl]; omega, fun c => get_set h.mem, ?_, rfl, ?_⟩
 ·rw [putCells_len (by simp only [List.length_cons, List.length_nil, hcl]; omega), hcl]; omega
 ·have e : putCells (serC d.toList ++ t) (i * 2) [y.lv, y.sv] = serC (d.setIfInBounds i y).toList ++ t := by
   have := h1.mem
   simp only at this
   rw [get_set h.mem] at this
   exact Option.some.inj this
  rw [e]
  have hs : Sort.swp d i j = (d.setIfInBounds i y).setIfInBounds j x := by rw [hx, hy]; rfl
  rw [hs]
  refine ⟨?_, ?_, by simpa using h.len, h2.ok, h2.sz, h.le⟩
  ·have := h2.mem
   simp only at this
   rw [List.set_set] at this
   exact this
  ·intro k z hk hz
   simp only
   rw [List.getElem?_set_ne (Ne.symm hk)]; exact h.oth k z hk hz
end Ps
namespace Ps
set_option linter.unusedSimpArgs false
set_option linter.unusedVariables false
open Go
theorem fn_381 : T.fn 381 = some (.code z4) := rfl

theorem ins_inner {S : St} {id n : Nat} {t : List PV} {a i : Nat} {bv : PV} {K : List Kt} {Q : Fr → St → Prop} : ∀ (j : Nat) (d : Array Sr) (fr : Fr) (S' : St), Srt S id n t S' d → j < n →
  fr 0 = .osl id 0 n 2 → fr 1 = .int .i64 (a : Int) → fr 2 = bv → fr 3 = .fn 287 [] → fr 8 = .int .i64 (i : Int) → fr 9 = .int .i64 (j : Int) →
  (∀ fr' S2, Srt S id n t S2 (Sort.insInner ltS a j d) → fr' 0 = .osl id 0 n 2 → fr' 1 = .int .i64 (a : Int) → fr' 2 = bv → fr' 3 = .fn 287 [] → fr' 8 = .int .i64 (i : Int) → Ok (gval T K fr' S2) Q) →
  Ok (gval T (.lp z4_l1 :: .blk 2 :: K) fr S') Q := by
 intro j
 induction j with
 | zero =>
  intro d fr S' h hj f0 f1 f2 f3 f8 f9 k
  have hna : ¬ ((a : Int) < 0) := by omega
  rw [gval_lp]
  simp -implicitDefEqProofs [f0, f1, f2, f3, f8, f9, hna]
  exact k _ S' h (by simp [f0]) (by simp [f1]) (by simp [f2]) (by simp [f3]) (by simp [f8])
 | succ j ih =>
  intro d fr S' h hj f0 f1 f2 f3 f8 f9 k
  have hle := h.le
  have e9 : fr 9 = .int .i64 ((j : Int) + 1) := by rw [f9]; rfl
  clear f9
  by_cases ha : a < j + 1
  ·have ha' : (a : Int) < (j : Int) + 1 := by omega
   have hw : IntKind.i64.wrap (j : Int) = (j : Int) := wrap_i64 (by omega) (by omega)
   obtain ⟨x, hx⟩ : ∃ x, x = d[j + 1]! := ⟨_, rfl⟩
   obtain ⟨y, hy⟩ : ∃ y, y = d[j]! := ⟨_, rfl⟩
   have hxo := h.okAt hj
   have hyo := h.okAt (by omega : j < n)
   have l1 := h.load hj
   have l2 := h.load (by omega : j < n)
   rw [← hx] at hxo l1
   rw [← hy] at hyo l2
   have hc := cmpC_val hxo hyo S'
   have hj1 : (j : Int) + 1 < (n : Int) := by omega
   have hj2 : (j : Int) < (n : Int) := by omega
   have hj3 : j < n := by omega
   have hj0 : (0 : Int) ≤ (j : Int) + 1 := by omega
   by_cases hl : cmpL x.lb y.lb < 0
   ·have hins : Sort.insInner ltS a (j + 1) d = Sort.insInner ltS a j (Sort.swp d (j + 1) j) := by
     rw [Sort.insInner, if_pos]
     simp [ha, ← hx, ← hy, ltS, hl]
    rw [hins] at k
    obtain ⟨cs, S2, m1, m2, m3, m4, hS2, hsw⟩ := h.swap hj (by omega : j < n) hx hy
    have hL := fun fr' => ih (Sort.swp d (j + 1) j) fr' S2 hsw hj3
    clear ih
    rw [gval_lp]
    simp -implicitDefEqProofs [f0, f1, f2, f3, f8, e9, ha', hw, l1, l2, hj, hj1, hj2, hj3, hj0, hc, hl, pstep, m1, m2, m3, m4, hxo.one, hyo.one]
    rw [← hS2]
    exact hL _ (by simp [f0]) (by simp [f1]) (by simp [f2]) (by simp [f3]) (by simp [f8]) (by simp [hw]) k
   ·have hins : Sort.insInner ltS a (j + 1) d = d := by
     rw [Sort.insInner, if_neg]
     simp [← hx, ← hy, ltS, hl]
    rw [hins] at k
    rw [gval_lp]
    simp -implicitDefEqProofs [f0, f1, f2, f3, f8, e9, ha', hw, l1, l2, hj, hj1, hj2, hj3, hj0, hc, hl, pstep]
    exact k _ S' h (by simp [f0]) (by simp [f1]) (by simp [f2]) (by simp [f3]) (by simp [f8])
  ·have ha' : ¬ (a : Int) < (j : Int) + 1 := by omega
   have hins : Sort.insInner ltS a (j + 1) d = d := by
    rw [Sort.insInner, if_neg]
    simp [ha]
   rw [hins] at k
   rw [gval_lp]
   simp -implicitDefEqProofs [f0, f1, f2, f3, f8, e9, ha']
   exact k _ S' h (by simp [f0]) (by simp [f1]) (by simp [f2]) (by simp [f3]) (by simp [f8])

theorem ins_val {S S1 : St} {id n : Nat} {t : List PV} {d : Array Sr} (h : Srt S id n t S1 d) {a b : Nat} (hab : a ≤ b) (hb : b ≤ n) :
  ∃ S2, cval T 381 [.osl id 0 n 2, .int .i64 (a : Int), .int .i64 (b : Int), .fn 287 []] S1 = some (.tup [], S2) ∧ Srt S id n t S2 (Sort.insertionSort ltS d a b) := by
 have hle := h.le
 by_cases hab' : a < b
 ·obtain ⟨v, S2, hc, h2⟩ := cval_ex (T := T) fn_381 (args := [.osl id 0 n 2, .int .i64 (a : Int), .int .i64 (b : Int), .fn 287 []]) (S := S1) rfl (R := fun v S2 => v = .tup [] ∧ Srt S id n t S2 (Sort.insertionSort ltS d a b)) (by
   have hw : IntKind.i64.wrap ((a : Int) + 1) = (a : Int) + 1 := wrap_i64 (by omega) (by omega)
   simp -implicitDefEqProofs [z4, hw]
   refine lp_up b (fun i fr S' => fr 0 = .osl id 0 n 2 ∧ fr 1 = .int .i64 (a : Int) ∧ fr 2 = .int .i64 (b : Int) ∧ fr 3 = .fn 287 [] ∧ fr 8 = .int .i64 (i : Int) ∧
    ∃ d', Srt S id n t S' d' ∧ Sort.insOuter ltS a b i d' = Sort.insertionSort ltS d a b) ?_ ?_ (a + 1) (by omega) _ _ ⟨by simp, by simp, by simp, by simp, by simp, d, h, rfl⟩
   ·rintro i fr S' hi ⟨f0, f1, f2, f3, f8, d', x1, x2⟩ k
    have hib : (i : Int) < (b : Int) := by omega
    have hwi : IntKind.i64.wrap ((i : Int) + 1) = (i : Int) + 1 := wrap_i64 (by omega) (by omega)
    rw [gval_lp]
    simp -implicitDefEqProofs [f0, f1, f2, f3, f8, hib, hi]
    refine ins_inner (a := a) (i := i) (bv := .int .i64 (b : Int)) i d' _ S' x1 (by omega) (by simp [f0]) (by simp [f1]) (by simp [f2]) (by simp [f3]) (by simp [f8]) (by simp) (fun fr' S2 y1 g0 g1 g2 g3 g8 => ?_)
    have hL := fun fr' => k fr' S2
    clear k
    simp -implicitDefEqProofs [g0, g1, g2, g3, g8]
    refine hL _ ⟨by simp [g0], by simp [g1], by simp [g2], by simp [g3], by simp [hwi], _, y1, ?_⟩
    rw [← x2, Sort.insOuter.eq_1 ltS a b i, if_pos hi]
   ·rintro fr S' ⟨f0, f1, f2, f3, f8, d', x1, x2⟩
    rw [Sort.insOuter, if_neg (by omega)] at x2
    rw [gval_lp]
    simp -implicitDefEqProofs [f2, f8, resAll]
    rw [fin_raw]
    exact ⟨rfl, x2 ▸ x1⟩)
  exact ⟨S2, by rw [hc, h2.1], h2.2⟩
 ·have hins : Sort.insertionSort ltS d a b = d := by
   rw [Sort.insertionSort, Sort.insOuter, if_neg (by omega)]
  rw [hins]
  refine ⟨S1, cval_ok' fn_381 rfl ?_, h⟩
  have hw : IntKind.i64.wrap ((a : Int) + 1) = (a : Int) + 1 := wrap_i64 (by omega) (by omega)
  have hn : ¬ (a : Int) + 1 < (b : Int) := by omega
  simp -implicitDefEqProofs [z4, hw]
  rw [gval_lp]
  simp -implicitDefEqProofs [hn, ends_nil]
  rfl
end Ps
