/- The document's head: rows. -/
import Derived.Test.YtndfknoclbkkhaaTA
namespace Ps
set_option linter.unusedSimpArgs false
set_option linter.unusedVariables false
open Go
theorem fn_185 : T.fn 185 = some (.code z73) := rfl
theorem fn_169 : T.fn 169 = some (.code z65) := rfl
theorem fn_184 : T.fn 184 = some (.code z90) := rfl
theorem fn_186 : T.fn 186 = some (.code z49) := rfl
theorem fn_178 : T.fn 178 = some (.code z48) := rfl

theorem rlast_val {lv sv : PV} {l : List (Int × Int)} (h1 : lv.one = true) (h2 : sv.one = true) (hr : Reads1 2 sv (l.map smE)) (hl : l.length ≤ 1048576) (S : St) : cval T 185 [.agg [lv, sv]] S = some (.int .i64 (lastT l), S) := by
 have hlen := hr.len
 rw [List.length_map] at hlen
 refine cval_ok' fn_185 rfl ?_
 have hc2 : sv.cells = [sv] := by cases sv <;> first | rfl | (simp [PV.one] at h2)
 cases hh : l with
 | nil =>
  subst hh
  simp -implicitDefEqProofs [z73, pstep, h1, h2, part1, hlen, lastT]
 | cons q l' =>
  have hpos : 0 < l.length := by rw [hh]; simp
  have hw : IntKind.i64.wrap ((l.length : Int) - 1) = ((l.length - 1 : Nat) : Int) := by rw [wrap_i64 (by omega) (by omega)]; omega
  have hg := smE_get hr (i := l.length - 1) (by omega) (k := .i64)
  have hz : ((l.length : Int) == 0) = false := by rw [beq_eq_false_iff_ne]; omega
  have e : lastT l = (l[l.length - 1]'(by omega)).1 := by
   rw [lastT, List.getLast?_eq_getElem?, List.getElem?_eq_getElem (by omega)]
  rw [← hh, e]
  simp -implicitDefEqProofs [z73, pstep, h1, h2, part1, hlen, hw, hg, hz]

theorem rcount_val {vl : PV} {rs : List Sr} (h : Reads1 2 vl (rs.map serE)) (ho : ∀ x ∈ rs, SeOk x) (hl : rs.length ≤ 100000) (ht : total rs ≤ 65536) (S : St) : cval T 169 [vl] S = some (.int .i64 (total rs : Nat), S) := by
 have hlen := h.len
 rw [List.length_map] at hlen
 refine cval_ok' fn_169 rfl ?_
 simp -implicitDefEqProofs [z65, hlen]
 refine lp_up rs.length (fun j fr S' => fr 0 = vl ∧ fr 3 = .int .i64 (total (rs.take j) : Nat) ∧ fr 4 = .int .i64 (j : Int) ∧ S' = S) ?_ ?_ 0 (Nat.zero_le _) _ _ ⟨by simp, by simp [total], by simp, rfl⟩
 ·rintro j fr S' hj ⟨f0, f3, f4, rfl⟩ k
  have hw : IntKind.i64.wrap ((j : Int) + 1) = ((j + 1 : Nat) : Int) := by rw [wrap_i64 (by omega) (by omega)]; omega
  have hlt : (j : Int) < (rs.length : Int) := by omega
  have g1 := serE_get h hj (k := .i64)
  obtain ⟨x, hx⟩ : ∃ x, x = rs[j] := ⟨_, rfl⟩
  have hxo := ho x (by rw [hx]; exact List.getElem_mem hj)
  rw [← hx] at g1
  have hs := hxo.slen
  have htk : total (rs.take (j + 1)) = total (rs.take j) + x.sm.length := by
   rw [List.take_add_one, List.getElem?_eq_getElem hj, Option.toList_some, total_app, ← hx]
   simp [total]
  have htl : total (rs.take (j + 1)) ≤ total rs := by
   have : total rs = total (rs.take (j + 1)) + total (rs.drop (j + 1)) := by rw [← total_app, List.take_append_drop]
   omega
  rw [htk] at htl
  obtain ⟨n, hn⟩ : ∃ n, n = total (rs.take j) := ⟨_, rfl⟩
  rw [← hn] at f3 htk htl
  have hn2 : (n : Int) ≤ 65536 := by omega
  have hn3 : n ≤ 65536 := by omega
  have hw2 : IntKind.i64.wrap ((n : Int) + (x.sm.length : Int)) = ((n + x.sm.length : Nat) : Int) := by rw [wrap_i64 (by omega) (by omega)]; omega
  have hL := fun fr' => k fr' S'
  clear k
  rw [gval_lp]
  simp -implicitDefEqProofs [f0, f3, f4, hlen, hlt, hj, hn2, hn3, g1, part1, hs, hw2]
  exact hL _ ⟨by simp [f0], by simp [htk, hw2], by simp [hw], rfl⟩
 ·rintro fr S' ⟨f0, f3, f4, rfl⟩
  rw [List.take_length] at f3
  rw [gval_lp]
  simp -implicitDefEqProofs [f0, f3, f4, hlen]

theorem rid_val {vl : PV} {rs : List Sr} (h : Reads1 2 vl (rs.map serE)) (ho : ∀ x ∈ rs, SeOk x) (hl : rs.length ≤ 100000) {ll : PV} {l : List Lab} (hv : Reads1 2 ll (l.map labV)) (S : St) :
  cval T 184 [vl, ll] S = some (.int .i64 (match rs.findIdx? (fun x => cmpL x.lb l == 0) with | some i => (i : Int) | none => -1), S) := by
 have hlen := h.len
 rw [List.length_map] at hlen
 refine cval_ok' fn_184 rfl ?_
 simp -implicitDefEqProofs [z90]
 refine lp_up rs.length (fun j fr S' => fr 0 = vl ∧ fr 1 = ll ∧ fr 5 = .int .i64 (j : Int) ∧ (∀ q ∈ rs.take j, (cmpL q.lb l == 0) = false) ∧ S' = S) ?_ ?_ 0 (Nat.zero_le _) _ _ ⟨by simp, by simp, by simp, by simp, rfl⟩
 ·rintro j fr S' hj ⟨f0, f1, f5, hn, rfl⟩ k
  have hw : IntKind.i64.wrap ((j : Int) + 1) = ((j + 1 : Nat) : Int) := by rw [wrap_i64 (by omega) (by omega)]; omega
  have hlt : (j : Int) < (rs.length : Int) := by omega
  have g1 := serE_get h hj (k := .i64)
  obtain ⟨x, hx⟩ : ∃ x, x = rs[j] := ⟨_, rfl⟩
  have hxo := ho x (by rw [hx]; exact List.getElem_mem hj)
  rw [← hx] at g1
  have hs := same_val hxo.lab.1.reads hv (by have := hxo.lab.2.1; unfold maxLen; omega) S'
  have hL := fun fr' => k fr' S'
  clear k
  cases hc : (cmpL x.lb l == 0) with
  | true =>
   have hR : rs.findIdx? (fun x => cmpL x.lb l == 0) = some j := by
    rw [List.findIdx?_eq_some_iff_getElem]
    refine ⟨hj, by rw [← hx]; exact hc, fun i hi => ?_⟩
    have := hn rs[i] (by rw [List.mem_take_iff_getElem]; exact ⟨i, by omega, rfl⟩)
    simp [this]
   rw [hc] at hs
   rw [hR]
   rw [gval_lp]
   simp -implicitDefEqProofs [f0, f1, f5, hlen, hlt, hj, g1, part1, hs]
  | false =>
   rw [hc] at hs
   rw [gval_lp]
   simp -implicitDefEqProofs [f0, f1, f5, hlen, hlt, hj, g1, part1, hs]
   refine hL _ ⟨by simp [f0], by simp [f1], by simp [hw], fun q hq => ?_, rfl⟩
   rw [List.take_add_one, List.getElem?_eq_getElem hj, Option.toList_some, ← hx] at hq
   rcases List.mem_append.1 hq with hq | hq
   ·exact hn q hq
   ·simp only [List.mem_singleton] at hq; rw [hq]; exact hc
 ·rintro fr S' ⟨f0, f1, f5, hn, rfl⟩
  rw [List.take_length] at hn
  have hR : rs.findIdx? (fun x => cmpL x.lb l == 0) = none := by
   rw [List.findIdx?_eq_none_iff]; exact hn
  rw [hR]
  rw [gval_lp]
  simp -implicitDefEqProofs [f0, f1, f5, hlen]

theorem rwithout_val {sv : PV} {l : List (Int × Int)} (hr : Reads1 2 sv (l.map smE)) (hl : l.length ≤ 1048576) (low high : Int) (S : St) :
  ∃ v, cval T 186 [sv, .int .i64 low, .int .i64 high] S = some (v, S) ∧ Sl0 2 v ((kept low high l).map smE) := by
 have hlen := hr.len
 rw [List.length_map] at hlen
 obtain ⟨v, S2, hc, h2, h3⟩ := cval_ex (T := T) fn_186 (args := [sv, .int .i64 low, .int .i64 high]) (S := S) rfl (R := fun v S2 => S2 = S ∧ Sl0 2 v ((kept low high l).map smE)) (by
  simp -implicitDefEqProofs [z49]
  refine lp_up l.length (fun j fr S' => fr 0 = sv ∧ fr 1 = .int .i64 low ∧ fr 2 = .int .i64 high ∧ fr 8 = .int .i64 (j : Int) ∧ AccG S 2 S' (fr 7) ((kept low high (l.take j)).map smE)) ?_ ?_ 0 (Nat.zero_le _) _ _ ⟨by simp, by simp, by simp, by simp, by simpa [kept] using accg_nil 2 (Grows.refl S)⟩
  ·rintro j fr S' hj ⟨f0, f1, f2, f8, ha⟩ k
   have hw : IntKind.i64.wrap ((j : Int) + 1) = ((j + 1 : Nat) : Int) := by rw [wrap_i64 (by omega) (by omega)]; omega
   have hlt : (j : Int) < (l.length : Int) := by omega
   have hg := smE_get hr hj (k := .i64)
   obtain ⟨q, hq⟩ : ∃ q, q = l[j] := ⟨_, rfl⟩
   rw [← hq] at hg
   have ht : l.take (j + 1) = l.take j ++ [q] := by rw [List.take_add_one, List.getElem?_eq_getElem hj, hq]; rfl
   have hL := fun fr' S2 => k fr' S2
   rw [ht] at hL
   clear k
   have hkl : ((kept low high (l.take j)).map smE).length ≤ 1048576 := by
    have := kept_len low high (l.take j)
    rw [List.length_take] at this
    rw [List.length_map]; omega
   have hk : ∀ b, inTm low high q = b → kept low high (l.take j ++ [q]) = kept low high (l.take j) ++ (if b then [] else [q]) := fun b hb => by
    unfold kept; rw [List.filter_append]; subst hb
    cases h : inTm low high q <;> simp [h]
   obtain ⟨v', S2, a1, a2, a3⟩ := ha.push (bytes := 16) (smE q) (by omega)
   simp only [smE] at a1
   by_cases c1 : q.1 < low
   ·have c1' : ¬ low ≤ q.1 := by omega
    have hin : inTm low high q = false := by simp [inTm, c1']
    rw [hk _ hin] at hL
    rw [gval_lp]
    simp -implicitDefEqProofs [f0, f1, f2, f8, hlen, hlt, hj, hg, part1, part2, c1, c1', pstep, elems, setParts, a1]
    refine hL _ S2 ⟨by simp [f0], by simp [f1], by simp [f2], by simp [hw], ?_⟩
    simpa [smE] using a2
   ·by_cases c2 : high < q.1
    ·have c2' : ¬ q.1 ≤ high := by omega
     have hin : inTm low high q = false := by simp [inTm, c2']
     rw [hk _ hin] at hL
     rw [gval_lp]
     simp -implicitDefEqProofs [f0, f1, f2, f8, hlen, hlt, hj, hg, part1, part2, c1, c2, c2', pstep, elems, setParts, a1]
     refine hL _ S2 ⟨by simp [f0], by simp [f1], by simp [f2], by simp [hw], ?_⟩
     simpa [smE] using a2
    ·have hin : inTm low high q = true := by simp [inTm]; omega
     rw [hk _ hin] at hL
     rw [gval_lp]
     simp -implicitDefEqProofs [f0, f1, f2, f8, hlen, hlt, hj, hg, part1, part2, c1, c2, pstep]
     refine hL _ S' ⟨by simp [f0], by simp [f1], by simp [f2], by simp [hw], ?_⟩
     simpa using ha
  ·rintro fr S' ⟨f0, f1, f2, f8, ha⟩
   rw [List.take_length] at ha
   have h4 := ha.sl0 (smE_cells _) (smE_free _) (smE_frz _)
   rw [gval_lp]
   simp -implicitDefEqProofs [f0, f1, f2, f8, hlen, h4.1]
   exact h4.2)
 subst h2
 exact ⟨v, hc, h3⟩

theorem rbetween_val {sv : PV} {l : List (Int × Int)} (hr : Reads1 2 sv (l.map smE)) (hl : l.length ≤ 1048576) (low high : Int) (S : St) :
  ∃ v, cval T 178 [sv, .int .i64 low, .int .i64 high] S = some (v, S) ∧ Sl0 2 v ((l.filter (inTm low high)).map smE) := by
 have hlen := hr.len
 rw [List.length_map] at hlen
 obtain ⟨v, S2, hc, h2, h3⟩ := cval_ex (T := T) fn_178 (args := [sv, .int .i64 low, .int .i64 high]) (S := S) rfl (R := fun v S2 => S2 = S ∧ Sl0 2 v ((l.filter (inTm low high)).map smE)) (by
  simp -implicitDefEqProofs [z48]
  refine lp_up l.length (fun j fr S' => fr 0 = sv ∧ fr 1 = .int .i64 low ∧ fr 2 = .int .i64 high ∧ fr 8 = .int .i64 (j : Int) ∧ AccG S 2 S' (fr 7) (((l.take j).filter (inTm low high)).map smE)) ?_ ?_ 0 (Nat.zero_le _) _ _ ⟨by simp, by simp, by simp, by simp, by simpa using accg_nil 2 (Grows.refl S)⟩
  ·rintro j fr S' hj ⟨f0, f1, f2, f8, ha⟩ k
   have hw : IntKind.i64.wrap ((j : Int) + 1) = ((j + 1 : Nat) : Int) := by rw [wrap_i64 (by omega) (by omega)]; omega
   have hlt : (j : Int) < (l.length : Int) := by omega
   have hg := smE_get hr hj (k := .i64)
   obtain ⟨q, hq⟩ : ∃ q, q = l[j] := ⟨_, rfl⟩
   rw [← hq] at hg
   have ht : l.take (j + 1) = l.take j ++ [q] := by rw [List.take_add_one, List.getElem?_eq_getElem hj, hq]; rfl
   have hL := fun fr' S2 => k fr' S2
   rw [ht] at hL
   clear k
   have hkl : (((l.take j).filter (inTm low high)).map smE).length ≤ 1048576 := by
    have := List.length_filter_le (inTm low high) (l.take j)
    rw [List.length_take] at this
    rw [List.length_map]; omega
   have hk : ∀ b, inTm low high q = b → (l.take j ++ [q]).filter (inTm low high) = (l.take j).filter (inTm low high) ++ (if b then [q] else []) := fun b hb => by
    rw [List.filter_append]; subst hb
    cases h : inTm low high q <;> simp [h]
   obtain ⟨v', S2, a1, a2, a3⟩ := ha.push (bytes := 16) (smE q) (by omega)
   simp only [smE] at a1
   by_cases c1 : low ≤ q.1
   ·by_cases c2 : q.1 ≤ high
    ·have hin : inTm low high q = true := by simp [inTm, c1, c2]
     rw [hk _ hin] at hL
     rw [gval_lp]
     simp -implicitDefEqProofs [f0, f1, f2, f8, hlen, hlt, hj, hg, part1, part2, c1, c2, pstep, elems, setParts, a1]
     refine hL _ S2 ⟨by simp [f0], by simp [f1], by simp [f2], by simp [hw], ?_⟩
     simpa [smE] using a2
    ·have hin : inTm low high q = false := by simp [inTm, c2]
     rw [hk _ hin] at hL
     rw [gval_lp]
     simp -implicitDefEqProofs [f0, f1, f2, f8, hlen, hlt, hj, hg, part1, part2, c1, c2, pstep]
     refine hL _ S' ⟨by simp [f0], by simp [f1], by simp [f2], by simp [hw], ?_⟩
     simpa using ha
   ·have hin : inTm low high q = false := by simp [inTm, c1]
    rw [hk _ hin] at hL
    rw [gval_lp]
    simp -implicitDefEqProofs [f0, f1, f2, f8, hlen, hlt, hj, hg, part1, part2, c1, pstep]
    refine hL _ S' ⟨by simp [f0], by simp [f1], by simp [f2], by simp [hw], ?_⟩
    simpa using ha
  ·rintro fr S' ⟨f0, f1, f2, f8, ha⟩
   rw [List.take_length] at ha
   have h4 := ha.sl0 (smE_cells _) (smE_free _) (smE_frz _)
   rw [gval_lp]
   simp -implicitDefEqProofs [f0, f1, f2, f8, hlen, h4.1]
   exact h4.2)
 subst h2
 exact ⟨v, hc, h3⟩
end Ps
namespace Ps
set_option linter.unusedSimpArgs false
set_option linter.unusedVariables false
open Go
structure RL (vl : PV) (rs : List Sr) : Prop where
 sl : Sl0 2 vl (rs.map serE)
 ok : ∀ x ∈ rs, SeF x
structure SeW (x : Sr) : Prop where
 l1 : IsSl 2 x.lv (x.lb.map labV)
 l2 : x.lv.free = true
 l3 : SlL x.lv.frz x.lb
 rt : Right x.lb
 s1 : IsSl 2 x.sv (x.sm.map smE)
 s2 : x.sv.free = true
 s3 : Sl0 2 x.sv.frz (x.sm.map smE)
 len : x.sm.length ≤ 65536
def frS (x : Sr) : Sr := ⟨x.lv.frz, x.sv.frz, x.sm, x.lb⟩
theorem abs_fr (l : List Sr) : abs (l.map frS) = abs l := by simp [abs, frS]
theorem SeF.w {x : Sr} (h : SeF x) : SeW x := ⟨h.ok.lab.1.isl, h.ok.lab.1.free, by rw [h.ok.lab.1.frz]; exact h.ok.lab.1, h.ok.lab.2, h.sam.isl, h.sam.free, by rw [h.sam.frz]; exact h.sam, h.ok.len⟩
theorem SeW.f {x : Sr} (h : SeW x) : SeF (frS x) := by
 refine ⟨⟨⟨h.l3, h.rt⟩, ?_, h.s3.one.1, h.len⟩, h.s3⟩
 have := h.s3.len
 rw [List.length_map] at this
 exact this
theorem SeW.one {x : Sr} (h : SeW x) : x.lv.one = true ∧ x.sv.one = true := ⟨isl_one h.l1, isl_one h.s1⟩
theorem SeW.slen {x : Sr} (h : SeW x) : lenP false x.sv = some (.int .i64 x.sm.length) := by
 have := h.s1.len
 rw [List.length_map] at this
 exact this
theorem one_cells {v : PV} (h : v.one = true) : v.cells = [v] := by cases v <;> first | rfl | (simp [PV.one] at h)

theorem Grows.set {S S' : St} (h : Grows S S') {id : Nat} (hi : S.objs.length ≤ id) (c : List PV) : Grows S ⟨S'.objs.set id c, S'.tips⟩ := by
 obtain ⟨o, t, rfl⟩ := h
 exact ⟨o.set (id - S.objs.length) c, t, by simp only [St.mk.injEq, and_true]; rw [List.set_append_right _ _ hi]⟩

structure RO (S S' : St) (v : PV) (cs : List Sr) : Prop where
 g : Grows S S'
 acc : (v = .emp ∧ cs = []) ∨ ∃ id, S.objs.length ≤ id ∧ v = .osl id 0 cs.length 2 ∧ S'.objs[id]? = some (serC cs) ∧ cs ≠ []
 ok : ∀ x ∈ cs, SeW x
theorem RO.ext {S S' S2 : St} {v : PV} {cs : List Sr} (h : RO S S' v cs) (hg : Grows S S2) (hk : ∀ (i : Nat) (x : List PV), S'.objs[i]? = some x → S2.objs[i]? = some x) : RO S S2 v cs := by
 refine ⟨hg, ?_, h.ok⟩
 rcases h.acc with w | ⟨id, a, b, c, d⟩
 ·exact .inl w
 ·exact .inr ⟨id, a, b, hk _ _ c, d⟩
theorem RO.at {S S' : St} {v : PV} {cs : List Sr} (h : RO S S' v cs) {i : Nat} (hi : i < cs.length) : ∃ id, S.objs.length ≤ id ∧ v = .osl id 0 cs.length 2 ∧ S'.objs[id]? = some (serC cs) := by
 rcases h.acc with ⟨_, e⟩ | ⟨id, a, b, c, _⟩
 ·rw [e] at hi; exact absurd hi (by simp)
 ·exact ⟨id, a, b, c⟩
theorem serW_one {l : List Sr} (h : ∀ x ∈ l, SeW x) : (serC l).all PV.one = true ∧ PV.freeL (serC l) = true := by
 constructor
 ·rw [List.all_eq_true]
  intro v hv
  obtain ⟨x, hx, hv⟩ := List.mem_flatMap.1 hv
  simp only [List.mem_cons, List.not_mem_nil, or_false] at hv
  rcases hv with rfl | rfl
  ·exact (h x hx).one.1
  ·exact (h x hx).one.2
 ·refine freeL_of_mem fun v hv => ?_
  obtain ⟨x, hx, hv⟩ := List.mem_flatMap.1 hv
  simp only [List.mem_cons, List.not_mem_nil, or_false] at hv
  rcases hv with rfl | rfl
  ·exact (h x hx).l2
  ·exact (h x hx).s2
theorem serE_fr (l : List Sr) : PV.frzL (l.map serE) = (l.map frS).map serE := by
 induction l with
 | nil => rfl
 | cons x l ih => simp only [List.map_cons, PV.frzL, ih]; rfl

theorem RO.fin {S S' : St} {v : PV} {cs : List Sr} (h : RO S S' v cs) (e : Int) : ∃ v', finish false S S' (.tup [v, .int .i64 e]) = (.tup [v', .int .i64 e], S) ∧ RL v' (cs.map frS) := by
 have hfs : ∀ x ∈ cs.map frS, SeF x := fun y hy => by
  obtain ⟨x, hx, rfl⟩ := List.mem_map.1 hy
  exact (h.ok x hx).f
 have tup : ∀ w : PV, v.free = false → sol S'.objs S.objs.length 39 v = some w → sol S'.objs S.objs.length solFuel (.tup [v, .int .i64 e]) = some (.tup [w, .int .i64 e]) := fun w hf hs => by
  have hi : sol S'.objs S.objs.length 39 (.int .i64 e) = some (.int .i64 e) := sol_id rfl
  show sol S'.objs S.objs.length (39 + 1) _ = _
  unfold sol
  simp only [PV.free, PV.freeL, hf, Bool.false_and, Bool.false_eq_true, if_false, mapO, hs, hi]
 rcases h.acc with ⟨rfl, rfl⟩ | ⟨id, h1, rfl, h2, _⟩
 ·refine ⟨.sl none [] [], ?_, ⟨sl0_sl (by simp) rfl rfl, by simp⟩⟩
  rw [fin_grows h.g (tup (.sl none [] []) rfl sol_emp)]
  rfl
 ·obtain ⟨o1, o2⟩ := serW_one h.ok
  have hlen := serC_len cs
  have htk : (serC cs).take (cs.length * 2) = serC cs := List.take_of_length_le (by omega)
  have hs : sol S'.objs S.objs.length 39 (.osl id 0 cs.length 2) = some (.sl none (cs.map serE) []) := by
   show sol S'.objs S.objs.length (38 + 1) _ = _
   unfold sol
   have hm : mapO (sol S'.objs S.objs.length 38) (serC cs) = some (serC cs) := mapO_free' (k := 37) o2
   have hch := chunk_ser [] cs
   rw [List.append_nil] at hch
   simp only [PV.free, Bool.false_eq_true, if_false, h1, h2, List.drop_zero, htk, o1, hm, hch]
   simp [hlen]
   omega
  refine ⟨.sl none ((cs.map frS).map serE) [], ?_, ⟨sl0_sl (fun e he => by obtain ⟨x, _, rfl⟩ := List.mem_map.1 he; rfl) (serF_free hfs) (serF_frz hfs), hfs⟩⟩
  rw [fin_grows h.g (tup _ rfl hs)]
  simp only [PV.frz, PV.frzL, serE_fr]

theorem RO.start {S : St} {vl : PV} {rs : List Sr} (h : RL vl rs) (hl : rs.length ≤ 100000) : ∃ v S', gappTo 2 48 S .emp (rs.map serE) = some (v, S') ∧ RO S S' v rs := by
 obtain ⟨v, S', p1, p2, p3, _⟩ := (⟨.inl ⟨.inl rfl, rfl⟩, by simp⟩ : GAcc S 2 S .emp []).app (Grows.refl S) (by decide) (new := rs.map serE) (bytes := 48) (fun e he => by
  obtain ⟨x, hx, rfl⟩ := List.mem_map.1 he
  have := (h.ok x hx).ok.one
  exact ⟨rfl, by simp [serE, PV.cells, this]⟩) (by simp; omega)
 refine ⟨v, S', p1, p3, ?_, fun x hx => (h.ok x hx).w⟩
 rw [List.nil_append] at p2
 rcases p2.acc with ⟨w | w, e⟩ | ⟨id, a, b, c, d⟩
 ·exact .inl ⟨w, by simpa using e⟩
 ·exfalso
  cases rs with
  | nil => rw [w] at p1; cases p1
  | cons x l =>
   rw [w] at p1
   unfold gappTo at p1
   simp only [List.map_cons, List.isEmpty_cons, Bool.false_eq_true, if_false] at p1
   split at p1
   ·cases p1
   ·cases p1
 ·rw [serC_flat] at c
  rw [List.length_map] at b
  exact .inr ⟨id, a, b, c, by simpa using d⟩
theorem RO.put {S S' : St} {id : Nat} {a b : List Sr} {x : Sr} {sv : PV} {sm : List (Int × Int)} (h : RO S S' (.osl id 0 (a ++ x :: b).length 2) (a ++ x :: b)) (hid : S.objs.length ≤ id)
  (hs : S'.objs[id]? = some (serC (a ++ x :: b))) (hw : SeW ⟨x.lv, sv, sm, x.lb⟩) : RO S ⟨S'.objs.set id (serC (a ++ ⟨x.lv, sv, sm, x.lb⟩ :: b)), S'.tips⟩ (.osl id 0 (a ++ x :: b).length 2) (a ++ ⟨x.lv, sv, sm, x.lb⟩ :: b) := by
 refine ⟨h.g.set hid _, .inr ⟨id, hid, by simp, get_set hs, by simp⟩, fun y hy => ?_⟩
 rcases List.mem_append.1 hy with q | q
 ·exact h.ok y (by simp [q])
 ·rcases List.mem_cons.1 q with rfl | q
  ·exact hw
  ·exact h.ok y (by simp [q])

theorem RO.push {S S' : St} {v : PV} {cs : List Sr} (h : RO S S' v cs) {x : Sr} (hx : SeW x) (hl : cs.length ≤ 100000) : ∃ v' S2, gappTo 2 48 S' v [serE x] = some (v', S2) ∧ RO S S2 v' (cs ++ [x]) := by
 have ga : GAcc S 2 S' v (cs.map serE) := by
  refine ⟨?_, fun e he => ?_⟩
  ·rcases h.acc with ⟨a, b⟩ | ⟨id, a, b, c, d⟩
   ·exact .inl ⟨.inl a, by rw [b]; rfl⟩
   ·exact .inr ⟨id, a, by rw [List.length_map]; exact b, by rw [serC_flat]; exact c, by simpa using d⟩
  ·obtain ⟨y, hy, rfl⟩ := List.mem_map.1 he
   have := (h.ok y hy).one
   exact ⟨rfl, by simp [serE, PV.cells, this]⟩
 obtain ⟨v', S2, p1, p2, p3, p4, p5, p6, p7, p8⟩ := ga.app h.g (by decide) (new := [serE x]) (bytes := 48) (fun e he => by
  simp only [List.mem_singleton] at he; subst he
  have := hx.one
  exact ⟨rfl, by simp [serE, PV.cells, this]⟩) (by simp; omega)
 refine ⟨v', S2, p1, p3, ?_, fun y hy => ?_⟩
 ·have e : cs.map serE ++ [serE x] = (cs ++ [x]).map serE := by simp
  rw [e] at p2
  rcases p2.acc with ⟨_, e⟩ | ⟨id, a, b, c, d⟩
  ·simp at e
  ·rw [List.length_map] at b
   rw [serC_flat] at c
   exact .inr ⟨id, a, b, c, by simp⟩
 ·rcases List.mem_append.1 hy with q | q
  ·exact h.ok y q
  ·simp only [List.mem_singleton] at q; rw [q]; exact hx
end Ps
namespace Ps
set_option linter.unusedSimpArgs false
set_option linter.unusedVariables false
open Go
theorem fn_71 : T.fn 71 = some (.code z88) := rfl

theorem serC_ldA {a b : List Sr} {r : Sr} {S : St} {id : Nat} (h : S.objs[id]? = some (serC (a ++ r :: b))) : loadP S true 2 (.ptr id (a.length * 2)) = some (.agg [r.lv, r.sv]) := by
 rw [loadP_ptr h, serC_dropA]; exact part2
theorem serC_ldB {a b : List Sr} {r : Sr} {S : St} {id : Nat} (h : S.objs[id]? = some (serC (a ++ r :: b))) : loadP S false 1 (.ptr id (a.length * 2 + 1)) = some r.sv := by
 rw [loadP_ptr h, serC_dropB]; exact part1
theorem ser_parts {cs : List Sr} {q : Nat} (hq : q < cs.length) : ∃ a r b, cs = a ++ r :: b ∧ a.length = q := by
 refine ⟨cs.take q, cs[q], cs.drop (q + 1), ?_, by rw [List.length_take]; omega⟩
 rw [← List.drop_eq_getElem_cons hq, List.take_append_drop]
theorem lastA_at {a b : List Sr} {r : Sr} {q : Nat} (h : a.length = q) : lastA (abs (a ++ r :: b)) q = lastT r.sm := by
 rw [lastA, abs_app, abs_cons, List.getElem?_append_right (by rw [abs_len]; omega), abs_len, h]
 simp
theorem pushA_at {a b : List Sr} {r : Sr} {x : RowM} {sv lv : PV} (h : (a.length : Int) = x.1) : abs (a ++ ⟨lv, sv, r.sm ++ [(x.2.1, x.2.2)], r.lb⟩ :: b) = pushA x (abs (a ++ r :: b)) := by
 have e : x.1.toNat = (abs a).length := by rw [abs_len]; omega
 rw [abs_app, abs_cons, abs_app, abs_cons, pushA, e, modify_mid]

theorem rrow_round {S S' : St} {vl v : PV} {rs cs : List Sr} {k l h' : PV} {vr vi : PV} {lo : PV} {rows : List RowM} (hvl : lenP false vl = some (.int .i64 rs.length)) (hro : RO S S' v cs) (hcl : cs.length = rs.length) (hrl : rs.length ≤ 256) (htot : total cs ≤ 65536)
  (hv : Reads1 3 vr (rows.map rowV)) (hrows : rows.length ≤ 64) {j : Nat} (hj : j < rows.length) (hx0 : 0 ≤ rows[j].1)
  {K : List Kt} {Q : Fr → St → Prop} {fr : Fr} (f0 : fr 0 = vl) (f3 : fr 3 = .ref [k, l, vr, vi, lo, h']) (f7 : fr 7 = v) (f8 : fr 8 = .int .i64 (total cs : Nat)) (f9 : fr 9 = .int .i64 (j : Int))
  (kE : ∀ (e : Nat) fr' S2, rowStep rows[j] (abs cs) = some e → Grows S S2 → fr' 4 = vl → fr' 5 = .int .i64 (e : Int) → Q fr' S2)
  (kN : ∀ fr' S2 cs2, rowStep rows[j] (abs cs) = none → RO S S2 v cs2 → cs2.length = rs.length → abs cs2 = pushA rows[j] (abs cs) → total cs2 ≤ 65536 →
   fr' 0 = vl → fr' 3 = .ref [k, l, vr, vi, lo, h'] → fr' 7 = v → fr' 8 = .int .i64 (total cs2 : Nat) → fr' 9 = .int .i64 ((j : Int) + 1) → Ok (gval T (.lp z88_l0 :: .blk 1 :: K) fr' S2) Q) :
  Ok (gval T (.lp z88_l0 :: .blk 1 :: K) fr S') Q := by
 have hvlen := hv.len
 rw [List.length_map] at hvlen
 have hlt : (j : Int) < (rows.length : Int) := by omega
 have hg := rowG hv hj (k := .i64)
 obtain ⟨x, hx⟩ : ∃ x, x = rows[j] := ⟨_, rfl⟩
 rw [← hx] at hg hx0 kE kN
 have hw : IntKind.i64.wrap ((j : Int) + 1) = (j : Int) + 1 := wrap_i64 (by omega) (by omega)
 have hp3 : ∀ (a b c : PV) (m : List PV), partOf true 3 (a :: b :: c :: m) = some (.agg [a, b, c]) := pt3
 obtain ⟨S1, hS1⟩ : ∃ S1 : St, S1 = ⟨S'.objs ++ [[.int .i64 x.1, .int .i64 x.2.1, .int .i64 x.2.2]], S'.tips⟩ := ⟨_, rfl⟩
 obtain ⟨n7, hn7⟩ : ∃ n7, n7 = S'.objs.length := ⟨_, rfl⟩
 have hk1 : ∀ (i : Nat) (y : List PV), S'.objs[i]? = some y → S1.objs[i]? = some y := fun i y hy => by
  rw [hS1]; simp only; rw [List.getElem?_append_left (List.getElem?_eq_some_iff.1 hy).1]; exact hy
 have hg1 : Grows S S1 := by rw [hS1]; exact hro.g.objs _
 have h1 := hro.ext hg1 hk1
 have ho7 : S1.objs[n7]? = some [.int .i64 x.1, .int .i64 x.2.1, .int .i64 x.2.2] := by rw [hS1, hn7]; simp
 have l70 : loadP S1 false 1 (.ptr n7 0) = some (.int .i64 x.1) := by rw [loadP_ptr ho7]; exact part1
 have l71 : loadP S1 false 1 (.ptr n7 1) = some (.int .i64 x.2.1) := by rw [loadP_ptr ho7]; exact part1
 have l712 : loadP S1 true 2 (.ptr n7 1) = some (.agg [.int .i64 x.2.1, .int .i64 x.2.2]) := by rw [loadP_ptr ho7]; exact part2
 have hA := abs_len cs
 by_cases c9 : (rs.length : Int) ≤ x.1
 ·have hst : rowStep x (abs cs) = some 9 := by unfold rowStep; rw [hA, hcl, if_pos c9]
  have hq := kE 9
  clear kE kN
  rw [gval_lp]
  simp -implicitDefEqProofs [-z88_r18_go, f0, f3, f7, f8, f9, hvlen, hlt, hj, hg, pstep, putCells, hp3, part1]
  rw [← hS1, ← hn7]
  simp -implicitDefEqProofs [f0, f3, f7, f8, f9, l70, hvl, c9]
  exact hq _ _ hst hg1 (by simp [f0]) (by simp)
 by_cases c3 : 65536 ≤ total cs
 ·have hst : rowStep x (abs cs) = some 3 := by unfold rowStep; rw [hA, hcl, if_neg c9, totA_abs, if_pos c3]
  have c3' : (65536 : Int) ≤ (total cs : Int) := by omega
  have hq := kE 3
  clear kE kN
  rw [gval_lp]
  simp -implicitDefEqProofs [-z88_r18_go, f0, f3, f7, f8, f9, hvlen, hlt, hj, hg, pstep, putCells, hp3, part1]
  rw [← hS1, ← hn7]
  simp -implicitDefEqProofs [f0, f3, f7, f8, f9, l70, hvl, c9, c3, c3']
  exact hq _ _ hst hg1 (by simp [f0]) (by simp)
 have c3' : ¬ (65536 : Int) ≤ (total cs : Int) := by omega
 obtain ⟨q, hq⟩ : ∃ q : Nat, x.1 = (q : Int) := ⟨x.1.toNat, by omega⟩
 have hql0 : q < cs.length := by omega
 have hql : q < rs.length := by omega
 have hqi : (q : Int) < (rs.length : Int) := by omega
 obtain ⟨id, hid, hve, hs⟩ := h1.at hql0
 obtain ⟨a, r, b, hsp, hal⟩ := ser_parts hql0
 have hve2 := hve
 rw [hcl] at hve2
 have f7' := f7
 rw [hve2] at f7'
 have hxq : x.1.toNat = q := by omega
 have hcl2 := hcl
 subst hsp
 have hr0 := h1.ok r (by simp)
 have lA := serC_ldA hs
 rw [hal] at lA
 have lB := serC_ldB hs
 rw [hal] at lB
 have hlast := rlast_val hr0.one.1 hr0.one.2 hr0.s1.reads (by have := hr0.len; omega) S1
 have hlk := aCall_keep hlast
 have hlA : lastA (abs (a ++ r :: b)) x.1.toNat = lastT r.sm := by rw [hxq]; exact lastA_at hal
 by_cases c13 : x.2.1 ≤ lastT r.sm
 ·have hst : rowStep x (abs (a ++ r :: b)) = some 13 := by
   unfold rowStep; rw [hA, hcl, if_neg c9, totA_abs, if_neg c3, hlA, if_pos c13]
  have hq' := kE 13
  clear kE kN
  rw [hq] at c9
  rw [gval_lp]
  simp -implicitDefEqProofs [-z88_r18_go, f0, f3, f7', f8, f9, hvlen, hlt, hj, hg, pstep, putCells, hp3, part1]
  rw [← hS1, ← hn7]
  simp -implicitDefEqProofs [f0, f3, f7', f8, f9, l70, l71, hvl, hq, c9, c3, c3', hql, hqi, lA, hlk, c13]
  exact hq' _ _ hst hg1 (by simp [f0]) (by simp)
 have hst : rowStep x (abs (a ++ r :: b)) = none := by
  unfold rowStep; rw [hA, hcl, if_neg c9, totA_abs, if_neg c3, hlA, if_neg c13]
 have hkN := fun fr' S2 cs2 => kN fr' S2 cs2 hst
 clear kE kN
 have htl : r.sm.length ≤ total (a ++ r :: b) := by rw [total_app, total_cons]; omega
 -- the new samples
 have hap : ∀ S, appendedS S 2 r.sv = some (r.sm.map smE) := fun S => hr0.s1.appdS
 obtain ⟨w1, S2, e1, a1, o1⟩ := (accg_new 2 [] (Grows.refl S1)).app (bytes := 16) (r.sm.map smE) (by simp; omega)
 obtain ⟨w2, S3, e2, a2, o2⟩ := a1.app (bytes := 16) [smE (x.2.1, x.2.2)] (by simp; omega)
 simp only [List.length_nil, List.nil_append] at e1 a1 a2
 rw [show r.sm.map smE ++ [smE (x.2.1, x.2.2)] = (r.sm ++ [(x.2.1, x.2.2)]).map smE by simp] at a2
 have ob3 : S3.objs = S1.objs := by rw [o2, o1]
 have g3 : Grows S S3 := hg1.trans a2.grows
 have h3 := h1.ext g3 (fun i y hy => by rw [ob3]; exact hy)
 have hs3 : S3.objs[id]? = some (serC (a ++ r :: b)) := by rw [ob3]; exact hs
 have hw2 : SeW ⟨r.lv, w2, r.sm ++ [(x.2.1, x.2.2)], r.lb⟩ := by
  have f := a2.sl0 (smE_cells _) (smE_free _) (smE_frz _)
  have hfz : w2.frz = slF w2 ((r.sm ++ [(x.2.1, x.2.2)]).map smE) := by
   rcases a2.acc with ⟨p, p2⟩ | ⟨id, _, p, _⟩
   ·simp at p2
   ·rw [p]; simp only [PV.frz, slF, smE_frz, PV.frzL]
  refine ⟨hr0.l1, hr0.l2, hr0.l3, hr0.rt, a2.isSl (smE_cells _), ?_, by rw [hfz]; exact f.2, by simp only [List.length_append, List.length_singleton]; omega⟩
  rcases a2.acc with ⟨p, p2⟩ | ⟨id, _, p, _⟩
  ·simp at p2
  ·rw [p]; simp only [PV.free, smE_free, PV.freeL, Bool.and_self]
 rw [hve] at h3
 have h4 := h3.put hid hs3 hw2
 rw [← hve] at h4
 obtain ⟨S4, hS4⟩ : ∃ S4 : St, S4 = ⟨S3.objs.set id (serC (a ++ ⟨r.lv, w2, r.sm ++ [(x.2.1, x.2.2)], r.lb⟩ :: b)), S3.tips⟩ := ⟨_, rfl⟩
 rw [← hS4] at h4
 have hput := serC_put a r b w2 (r.sm ++ [(x.2.1, x.2.2)])
 rw [hal] at hput
 have hle1 : q * 2 + 1 + 1 ≤ (serC (a ++ r :: b)).length := by rw [serC_len]; omega
 have hwone := hw2.one.2
 have hwc := one_cells hwone
 have htt : total (a ++ ⟨r.lv, w2, r.sm ++ [(x.2.1, x.2.2)], r.lb⟩ :: b) = total (a ++ r :: b) + 1 := by
  rw [total_app, total_cons, total_app, total_cons]; simp; omega
 have hw1 : IntKind.i64.wrap ((total (a ++ r :: b) : Int) + 1) = ((total (a ++ r :: b) + 1 : Nat) : Int) := by rw [wrap_i64 (by omega) (by omega)]; omega
 have hfin := hkN
 rw [hq] at c9
 simp only [smE] at e2
 rw [gval_lp]
 simp -implicitDefEqProofs [-z88_r18_go, f0, f3, f7', f8, f9, hvlen, hlt, hj, hg, pstep, putCells, hp3, part1]
 rw [← hS1, ← hn7]
 simp -implicitDefEqProofs [-z88_r25_go, f0, f3, f7', f8, f9, l70, l71, l712, hvl, hq, c9, c3, c3', hql, hqi, lA, lB, hlk, c13, pstep, elems, setParts, newArr, appP, hap, e1, e2, szOk, hs3, hle1, hwone, hwc]
 rw [hput, ← hS4]
 simp -implicitDefEqProofs [f0, f3, f7', f8, f9, hw1, hw]
 exact hkN _ S4 _ h4 (by rw [← hcl]; simp) (by rw [pushA_at (by omega)]) (by rw [htt]; omega) (by simp [f0]) (by simp [f3]) (by simp [f7', hve2]) (by rw [htt]; simp [hw1]) (by simp [hw])
end Ps
