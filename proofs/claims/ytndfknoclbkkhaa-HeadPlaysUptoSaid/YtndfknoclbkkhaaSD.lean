/- Series sorted: the pivot; a range the other way round. -/
import Derived.Test.YtndfknoclbkkhaaSB
namespace Ps
set_option linter.unusedSimpArgs false
set_option linter.unusedVariables false
open Go
theorem fn_407 : T.fn 407 = some (.code z8) := rfl
theorem fn_382 : T.fn 382 = some (.code z9) := rfl

theorem sift_go {S : St} {id n : Nat} {t : List PV} {hi first : Nat} (hn : first + hi ≤ n) (hn256 : n ≤ 256) {K : List Kt} {Q : Fr → St → Prop} : ∀ (m root : Nat) (d : Array Sr) (fr : Fr) (S' : St), hi - root ≤ m → root ≤ hi → Srt S id n t S' d →
  fr 0 = .osl id 0 n 2 → fr 2 = .int .i64 (hi : Int) → fr 3 = .int .i64 (first : Int) → fr 4 = .fn 287 [] → fr 10 = .int .i64 (root : Int) →
  (∀ fr' S2, Srt S id n t S2 (Sort.siftDown ltS hi first root d) → Q fr' S2) → (∀ fr' S2, Srt S id n t S2 (Sort.siftDown ltS hi first root d) → Ok (gval T K fr' S2) Q) →
  Ok (gval T (.lp z8_l0 :: .blk 0 :: K) fr S') Q := by
 intro m
 induction m with
 | zero =>
  intro root d fr S' hm hr h f0 f2 f3 f4 f10 k1 k2
  have hc : 2 * root + 1 ≥ hi := by omega
  have hs : Sort.siftDown ltS hi first root d = d := by rw [Sort.siftDown, dif_pos hc]
  rw [hs] at k2
  have w1 : IntKind.i64.wrap (2 * (root : Int)) = 2 * (root : Int) := wrap_i64 (by omega) (by omega)
  have w2 : IntKind.i64.wrap (2 * (root : Int) + 1) = 2 * (root : Int) + 1 := wrap_i64 (by omega) (by omega)
  have hc' : (hi : Int) ≤ 2 * (root : Int) + 1 := by omega
  rw [gval_lp]
  simp -implicitDefEqProofs [f0, f2, f3, f4, f10, w1, w2, hc']
  exact k2 _ S' h
 | succ m ih =>
  intro root d fr S' hm hr h f0 f2 f3 f4 f10 k1 k2
  have w1 : IntKind.i64.wrap (2 * (root : Int)) = 2 * (root : Int) := wrap_i64 (by omega) (by omega)
  have w2 : IntKind.i64.wrap (2 * (root : Int) + 1) = 2 * (root : Int) + 1 := wrap_i64 (by omega) (by omega)
  by_cases hc : 2 * root + 1 ≥ hi
  ·have hs : Sort.siftDown ltS hi first root d = d := by rw [Sort.siftDown, dif_pos hc]
   rw [hs] at k2
   have hc' : (hi : Int) ≤ 2 * (root : Int) + 1 := by omega
   rw [gval_lp]
   simp -implicitDefEqProofs [f0, f2, f3, f4, f10, w1, w2, hc']
   exact k2 _ S' h
  obtain ⟨c, hcd⟩ : ∃ c, c = 2 * root + 1 := ⟨_, rfl⟩
  obtain ⟨fc, hfc⟩ : ∃ fc, fc = first + c := ⟨_, rfl⟩
  obtain ⟨fr', hfr⟩ : ∃ fr', fr' = first + root := ⟨_, rfl⟩
  have ec : 2 * (root : Int) + 1 = (c : Int) := by omega
  have efc : (first : Int) + (c : Int) = (fc : Int) := by omega
  have efr : (first : Int) + (root : Int) = (fr' : Int) := by omega
  have hcn : fc < n := by omega
  have hrn : fr' < n := by omega
  have hc' : ¬ hi ≤ c := by omega
  have wc : IntKind.i64.wrap (c : Int) = (c : Int) := wrap_i64 (by omega) (by omega)
  have wc1 : IntKind.i64.wrap ((c : Int) + 1) = (c : Int) + 1 := wrap_i64 (by omega) (by omega)
  have wfc : IntKind.i64.wrap (fc : Int) = (fc : Int) := wrap_i64 (by omega) (by omega)
  have wfc1 : IntKind.i64.wrap ((fc : Int) + 1) = (fc : Int) + 1 := wrap_i64 (by omega) (by omega)
  have wfr : IntKind.i64.wrap (fr' : Int) = (fr' : Int) := wrap_i64 (by omega) (by omega)
  have lc := h.load hcn
  have lr := h.load hrn
  obtain ⟨xr, hxr⟩ : ∃ x, x = d[fr']! := ⟨_, rfl⟩
  obtain ⟨xc, hxc⟩ : ∃ x, x = d[fc]! := ⟨_, rfl⟩
  have oc := h.okAt hcn
  have orr := h.okAt hrn
  rw [← hxr] at lr orr
  rw [← hxc] at lc oc
  -- the rest of the round, the child being known
  have tail : ∀ (e fe : Nat) (xe : Sr), fe = first + e → (e = c ∨ e = c + 1) → fe < n → e < hi → xe = d[fe]! →
    (Sort.siftDown ltS hi first root d = if ltS xr xe then Sort.siftDown ltS hi first e (Sort.swp d fr' fe) else d) →
    ∀ fr2 : Fr, fr2 0 = .osl id 0 n 2 → fr2 2 = .int .i64 (hi : Int) → fr2 3 = .int .i64 (first : Int) → fr2 4 = .fn 287 [] → fr2 10 = .int .i64 (root : Int) → fr2 11 = .int .i64 (e : Int) →
    Ok (gval T (.ops z8_r5 :: .clr [(43, 58)] :: .code (.cond (.tmp 58) .ret .skip) :: .code (.seq (.clr [(59, 81)] (.region z8_r6)) (.clr [(81, 82)] (.region z8_r7))) :: .blk 1 :: .lp z8_l0 :: .blk 0 :: K) fr2 S') Q := by
   intro e fe xe hfe hce hfn hehi hxe hs fr2 g0 g2 g3 g4 g10 g11
   have efe : (first : Int) + (e : Int) = (fe : Int) := by omega
   have wfe : IntKind.i64.wrap (fe : Int) = (fe : Int) := wrap_i64 (by omega) (by omega)
   have le := h.load hfn
   have oe := h.okAt hfn
   rw [← hxe] at le oe
   have hcv := cmpC_val orr oe S'
   by_cases hl : cmpL xr.lb xe.lb < 0
   ·have hl' : ltS xr xe = true := by simp [ltS, hl]
    rw [if_pos hl'] at hs
    obtain ⟨cs, S2, m1, m2, m3, m4, hS2, hsw⟩ := h.swap hrn hfn hxr hxe
    have hL := fun fr' => ih e (Sort.swp d (first + root) (first + e)) fr' S2 (by omega) (by omega) (by rw [← hfr, ← hfe]; exact hsw)
    rw [hs, hfr, hfe] at k1 k2
    clear ih
    simp -implicitDefEqProofs [g0, g2, g3, g4, g10, g11, efr, wfr, efe, wfe, hrn, hfn, lr, le, hcv, hl, pstep, m1, m2, m3, m4, orr.one, oe.one]
    rw [← hS2]
    exact hL _ (by simp [g0]) (by simp [g2]) (by simp [g3]) (by simp [g4]) (by simp [g11]) k1 k2
   ·have hl' : ltS xr xe = false := by simp [ltS, hl]
    rw [hl'] at hs
    simp only [Bool.false_eq_true, if_false] at hs
    rw [hs] at k1
    simp -implicitDefEqProofs [g0, g2, g3, g4, g10, g11, efr, wfr, efe, wfe, hrn, hfn, lr, le, hcv, hl, pstep]
    exact k1 _ S' h
  have hnc : ¬ 2 * root + 1 ≥ hi := hc
  by_cases hc1 : c + 1 < hi
  ·have hc1' : (c : Int) + 1 < (hi : Int) := by omega
   have hcn1 : fc + 1 < n := by omega
   have hcn1' : (fc : Int) + 1 < (n : Int) := by omega
   have hcn0 : (0 : Int) ≤ (fc : Int) + 1 := by omega
   have lc1 := h.load hcn1
   have oc1 := h.okAt hcn1
   obtain ⟨xd, hxd⟩ : ∃ x, x = d[fc + 1]! := ⟨_, rfl⟩
   rw [← hxd] at lc1 oc1
   have hcv := cmpC_val oc oc1 S'
   by_cases hl : cmpL xc.lb xd.lb < 0
   ·have hs : Sort.siftDown ltS hi first root d = if ltS xr xd then Sort.siftDown ltS hi first (c + 1) (Sort.swp d fr' (fc + 1)) else d := by
     rw [Sort.siftDown, dif_neg hnc]
     have e1 : first + (2 * root + 1) = fc := by omega
     have e2 : first + (2 * root + 2) = fc + 1 := by omega
     have e3 : first + root = fr' := by omega
     have e4 : 2 * root + 2 = c + 1 := by omega
     have e4' : 2 * root + 1 + 1 = c + 1 := by omega
     have e5 : first + (c + 1) = fc + 1 := by omega
     have hl' : ltS xc xd = true := by simp [ltS, hl]
     simp only [e1, e3, e4, e4', e5, ← hxr, ← hxc, ← hxd, hl', hc1, decide_true, Bool.and_self, if_true, dif_pos]
     cases ltS xr xd <;> simp
    have hT := tail (c + 1) (fc + 1) xd (by omega) (.inr rfl) hcn1 hc1 hxd hs
    clear tail ih k1 k2
    rw [gval_lp]
    simp -implicitDefEqProofs [-z8_r5_go, f0, f2, f3, f4, f10, w1, ec, wc, hc', wc1, hc1', hc1, efc, wfc, wfc1, hcn, hcn1', hcn1, hcn0, lc, lc1, hcv, hl]
    exact hT _ (by simp [f0]) (by simp [f2]) (by simp [f3]) (by simp [f4]) (by simp [f10]) (by simp [wc1])
   ·have hs : Sort.siftDown ltS hi first root d = if ltS xr xc then Sort.siftDown ltS hi first c (Sort.swp d fr' fc) else d := by
     rw [Sort.siftDown, dif_neg hnc]
     have e1 : first + (2 * root + 1) = fc := by omega
     have e3 : first + root = fr' := by omega
     have hl' : ltS xc xd = false := by simp [ltS, hl]
     simp only [← hcd, ← hfc, e3, ← hxr, ← hxc, ← hxd, hl', Bool.and_false, Bool.false_eq_true, if_false]
     cases ltS xr xc <;> simp
    have hT := tail c fc xc hfc (.inl rfl) hcn (by omega) hxc hs
    clear tail ih k1 k2
    rw [gval_lp]
    simp -implicitDefEqProofs [-z8_r5_go, f0, f2, f3, f4, f10, w1, ec, wc, hc', wc1, hc1', hc1, efc, wfc, wfc1, hcn, hcn1', hcn1, hcn0, lc, lc1, hcv, hl]
    exact hT _ (by simp [f0]) (by simp [f2]) (by simp [f3]) (by simp [f4]) (by simp [f10]) (by simp)
  ·have hc1' : ¬ (c : Int) + 1 < (hi : Int) := by omega
   have hs : Sort.siftDown ltS hi first root d = if ltS xr xc then Sort.siftDown ltS hi first c (Sort.swp d fr' fc) else d := by
    rw [Sort.siftDown, dif_neg hnc]
    have e1 : first + (2 * root + 1) = fc := by omega
    have e3 : first + root = fr' := by omega
    have hb : ¬ (2 * root + 1 + 1 < hi) := by omega
    simp only [← hcd, hc1, decide_false, Bool.false_and, Bool.false_eq_true, if_false, ← hfc, e3, ← hxr, ← hxc]
    cases ltS xr xc <;> simp
   have hT := tail c fc xc hfc (.inl rfl) hcn (by omega) hxc hs
   clear tail ih k1 k2
   rw [gval_lp]
   simp -implicitDefEqProofs [-z8_r5_go, f0, f2, f3, f4, f10, w1, ec, wc, hc', wc1, hc1', hc1]
   exact hT _ (by simp [f0]) (by simp [f2]) (by simp [f3]) (by simp [f4]) (by simp [f10]) (by simp)

theorem sift_val {S S1 : St} {id n : Nat} {t : List PV} {d : Array Sr} (h : Srt S id n t S1 d) {hi first root : Nat} (hr : root ≤ hi) (hn : first + hi ≤ n) :
  ∃ S2, cval T 407 [.osl id 0 n 2, .int .i64 (root : Int), .int .i64 (hi : Int), .int .i64 (first : Int), .fn 287 []] S1 = some (.tup [], S2) ∧ Srt S id n t S2 (Sort.siftDown ltS hi first root d) := by
 obtain ⟨v, S2, hc, h2⟩ := cval_ex (T := T) fn_407 (args := [.osl id 0 n 2, .int .i64 (root : Int), .int .i64 (hi : Int), .int .i64 (first : Int), .fn 287 []]) (S := S1) rfl (R := fun v S2 => v = .tup [] ∧ Srt S id n t S2 (Sort.siftDown ltS hi first root d)) (by
  simp -implicitDefEqProofs [z8, resAll]
  refine sift_go hn h.le (hi - root) root d _ S1 (Nat.le_refl _) hr h (by simp) (by simp) (by simp) (by simp) (by simp) (fun fr' S2 x => ?_) (fun fr' S2 x => ?_)
  ·rw [fin_raw]; exact ⟨rfl, x⟩
  ·simp -implicitDefEqProofs
   rw [fin_raw]; exact ⟨rfl, x⟩)
 exact ⟨S2, by rw [hc, h2.1], h2.2⟩

theorem heap_val {S S1 : St} {id n : Nat} {t : List PV} {d : Array Sr} (h : Srt S id n t S1 d) {a b : Nat} (hab : a < b) (hb : b ≤ n) :
  ∃ S2, cval T 382 [.osl id 0 n 2, .int .i64 (a : Int), .int .i64 (b : Int), .fn 287 []] S1 = some (.tup [], S2) ∧ Srt S id n t S2 (Sort.heapSort ltS d a b) := by
 have hle := h.le
 obtain ⟨hi, hhi⟩ : ∃ hi, hi = b - a := ⟨_, rfl⟩
 have hsum : a + hi ≤ n := by omega
 have hw : IntKind.i64.wrap ((b : Int) - (a : Int)) = (hi : Int) := by rw [wrap_i64 (by omega) (by omega)]; omega
 have hw1 : IntKind.i64.wrap ((hi : Int) - 1) = (hi : Int) - 1 := wrap_i64 (by omega) (by omega)
 have hq : ((hi : Int) - 1).tdiv 2 = (((hi - 1) / 2 : Nat) : Int) := by
  rw [Int.tdiv_eq_ediv_of_nonneg (by omega)]; omega
 have hw2 : IntKind.i64.wrap (((hi - 1) / 2 : Nat) : Int) = (((hi - 1) / 2 : Nat) : Int) := wrap_i64 (by omega) (by omega)
 obtain ⟨k, hk⟩ : ∃ k, k = (hi - 1) / 2 := ⟨_, rfl⟩
 rw [← hk] at hq hw2
 have hheap : Sort.heapSort ltS d a b = Sort.heapPop ltS a hi (Sort.heapBuild ltS hi a (k + 1) d) := by rw [Sort.heapSort, ← hhi, ← hk]
 obtain ⟨v, S2, hc, h2⟩ := cval_ex (T := T) fn_382 (args := [.osl id 0 n 2, .int .i64 (a : Int), .int .i64 (b : Int), .fn 287 []]) (S := S1) rfl (R := fun v S2 => v = .tup [] ∧ Srt S id n t S2 (Sort.heapSort ltS d a b)) (by
  simp -implicitDefEqProofs [z9, resAll, hw, hw1, hq, hw2]
  refine lp_up (k + 1) (fun j fr S' => fr 0 = .osl id 0 n 2 ∧ fr 3 = .fn 287 [] ∧ fr 8 = .int .i64 (a : Int) ∧ fr 9 = .int .i64 0 ∧ fr 10 = .int .i64 (hi : Int) ∧ fr 11 = .int .i64 ((k : Int) - (j : Int)) ∧
   ∃ d', Srt S id n t S' d' ∧ Sort.heapBuild ltS hi a (k + 1 - j) d' = Sort.heapBuild ltS hi a (k + 1) d) ?_ ?_ 0 (Nat.zero_le _) _ _ ⟨by simp, by simp, by simp, by simp, by simp, by simp, d, h, rfl⟩
  ·rintro j fr S' hj ⟨f0, f3, f8, f9, f10, f11, d', x1, x2⟩ kk
   obtain ⟨m, hm⟩ : ∃ m, m = k - j := ⟨_, rfl⟩
   have em : (k : Int) - (j : Int) = (m : Int) := by omega
   rw [em] at f11
   have hk1 : k + 1 - j = m + 1 := by omega
   have hk2 : k + 1 - (j + 1) = m := by omega
   rw [hk1, Sort.heapBuild] at x2
   obtain ⟨S3, c1, c2⟩ := sift_val x1 (hi := hi) (first := a) (root := m) (by omega) hsum
   have hwm : IntKind.i64.wrap ((m : Int) - 1) = (m : Int) - 1 := wrap_i64 (by omega) (by omega)
   have hL := fun fr' => kk fr' S3
   clear kk
   rw [gval_lp]
   simp -implicitDefEqProofs [f0, f3, f8, f9, f10, f11, c1]
   refine hL _ ⟨by simp [f0], by simp [f3], by simp [f8], by simp [f9], by simp [f10], ?_, _, c2, by rw [hk2]; exact x2⟩
   simp [hwm]; omega
  ·rintro fr S' ⟨f0, f3, f8, f9, f10, f11, d', x1, x2⟩
   have e11 : (k : Int) - ((k + 1 : Nat) : Int) = -1 := by omega
   rw [e11] at f11
   rw [Nat.sub_self, Sort.heapBuild] at x2
   rw [gval_lp]
   simp -implicitDefEqProofs [f0, f3, f8, f9, f10, f11, hw1]
   refine lp_up hi (fun j fr S' => fr 0 = .osl id 0 n 2 ∧ fr 3 = .fn 287 [] ∧ fr 8 = .int .i64 (a : Int) ∧ fr 9 = .int .i64 0 ∧ fr 12 = .int .i64 ((hi : Int) - 1 - (j : Int)) ∧
    ∃ d2, Srt S id n t S' d2 ∧ Sort.heapPop ltS a (hi - j) d2 = Sort.heapPop ltS a hi d') ?_ ?_ 0 (Nat.zero_le _) _ _ ⟨by simp [f0], by simp [f3], by simp [f8], by simp [f9], by simp, d', x1, rfl⟩
   ·rintro j fr S' hj ⟨f0, f3, f8, f9, f12, d2, y1, y2⟩ kk
    obtain ⟨m, hm⟩ : ∃ m, m = hi - 1 - j := ⟨_, rfl⟩
    have em : (hi : Int) - 1 - (j : Int) = (m : Int) := by omega
    rw [em] at f12
    have hk1 : hi - j = m + 1 := by omega
    have hk2 : hi - (j + 1) = m := by omega
    rw [hk1, Sort.heapPop] at y2
    obtain ⟨fm, hfm⟩ : ∃ fm, fm = a + m := ⟨_, rfl⟩
    have efm : (a : Int) + (m : Int) = (fm : Int) := by omega
    have wfm : IntKind.i64.wrap (fm : Int) = (fm : Int) := wrap_i64 (by omega) (by omega)
    have han : a < n := by omega
    have hfn : fm < n := by omega
    obtain ⟨xa, hxa⟩ : ∃ x, x = d2[a]! := ⟨_, rfl⟩
    obtain ⟨xm, hxm⟩ : ∃ x, x = d2[fm]! := ⟨_, rfl⟩
    have oa := y1.okAt han
    have om := y1.okAt hfn
    have la := y1.load han
    have lm := y1.load hfn
    rw [← hxa] at oa la
    rw [← hxm] at om lm
    obtain ⟨cs, S3, m1, m2, m3, m4, hS3, hsw⟩ := y1.swap han hfn hxa hxm
    rw [← hfm] at y2
    obtain ⟨S4, c1, c2⟩ := sift_val hsw (hi := m) (first := a) (root := 0) (by omega) (by omega)
    have hwm : IntKind.i64.wrap ((m : Int) - 1) = (m : Int) - 1 := wrap_i64 (by omega) (by omega)
    have hL := fun fr' => kk fr' S4
    clear kk
    simp only [Int.natCast_zero] at c1
    rw [gval_lp]
    simp -implicitDefEqProofs [-z9_r11_go, f0, f3, f8, f9, f12, efm, wfm, han, hfn, la, lm, pstep, m1, m2, m3, m4, oa.one, om.one]
    rw [← hS3]
    simp -implicitDefEqProofs [f0, f3, f8, f9, f12, c1]
    refine hL _ ⟨by simp [f0], by simp [f3], by simp [f8], by simp [f9], ?_, _, c2, by rw [hk2]; exact y2⟩
    simp [hwm]; omega
   ·rintro fr S' ⟨f0, f3, f8, f9, f12, d2, y1, y2⟩
    have e12 : (hi : Int) - 1 - (hi : Int) = -1 := by omega
    rw [e12] at f12
    rw [Nat.sub_self, Sort.heapPop] at y2
    rw [gval_lp]
    simp -implicitDefEqProofs [f12]
    rw [fin_raw]
    refine ⟨rfl, ?_⟩
    rw [hheap, ← x2, ← y2]
    exact y1)
 exact ⟨S2, by rw [hc, h2.1], h2.2⟩
end Ps
namespace Ps
set_option linter.unusedSimpArgs false
set_option linter.unusedVariables false
open Go
theorem fn_416 : T.fn 416 = some (.code z13) := rfl
theorem fn_409 : T.fn 409 = some (.code z11) := rfl
theorem fn_408 : T.fn 408 = some (.code z1) := rfl
theorem fn_384 : T.fn 384 = some (.code z6) := rfl
theorem fn_385 : T.fn 385 = some (.code z5) := rfl

theorem Srt.box {S S' : St} {id n w : Nat} {t : List PV} {d : Array Sr} (h : Srt S id n t S' d) (hw : S.objs.length ≤ w) (hne : w ≠ id) (c : List PV) : Srt S id n t ⟨S'.objs.set w c, S'.tips⟩ d where
 mem := by simp only; rw [List.getElem?_set_ne hne]; exact h.mem
 oth := fun i x hi hx => by
  have := (List.getElem?_eq_some_iff.1 hx).1
  simp only; rw [List.getElem?_set_ne (by omega)]; exact h.oth i x hi hx
 len := by simpa using h.len
 ok := h.ok
 sz := h.sz
 le := h.le
theorem Srt.grow {S S' : St} {id n : Nat} {t : List PV} {d : Array Sr} (h : Srt S id n t S' d) (x : List (List PV)) (y : List (Nat × Nat)) : Srt S id n t ⟨S'.objs ++ x, y⟩ d where
 mem := by simp only; rw [List.getElem?_append_left (List.getElem?_eq_some_iff.1 h.mem).1]; exact h.mem
 oth := fun i z hi hz => by
  have := h.oth i z hi hz
  simp only; rw [List.getElem?_append_left (List.getElem?_eq_some_iff.1 this).1]; exact this
 len := by have := h.len; simp; omega
 ok := h.ok
 sz := h.sz
 le := h.le

theorem order2_val {S S1 : St} {id n w : Nat} {t : List PV} {d : Array Sr} (h : Srt S id n t S1 d) {a b c : Nat} (ha : a < n) (hb : b < n) (hc : c ≤ 1000) (hw : S1.objs[w]? = some [.int .i64 (c : Int)]) (hwS : S.objs.length ≤ w) (hwi : w ≠ id) {r : Nat × Nat × Nat} (hr : r = Sort.order2 ltS d a b c) :
  ∃ S2, cval T 416 [.osl id 0 n 2, .int .i64 (a : Int), .int .i64 (b : Int), .ptr w 0, .fn 287 []] S1 = some (.tup [.int .i64 (r.1 : Int), .int .i64 (r.2.1 : Int)], S2) ∧ Srt S id n t S2 d ∧ S2.objs[w]? = some [.int .i64 (r.2.2 : Int)] ∧ r.1 < n ∧ r.2.1 < n ∧ r.2.2 ≤ c + 1 := by
 obtain ⟨xa, hxa⟩ : ∃ x, x = d[a]! := ⟨_, rfl⟩
 obtain ⟨xb, hxb⟩ : ∃ x, x = d[b]! := ⟨_, rfl⟩
 have oa := h.okAt ha
 have ob := h.okAt hb
 have la := h.load ha
 have lb := h.load hb
 rw [← hxa] at oa la
 rw [← hxb] at ob lb
 have hcv := cmpC_val ob oa S1
 have lw : loadP S1 false 1 (.ptr w 0) = some (.int .i64 (c : Int)) := by rw [loadP_ptr hw]; exact part1
 have hw1 : IntKind.i64.wrap ((c : Int) + 1) = (c : Int) + 1 := wrap_i64 (by omega) (by omega)
 by_cases hl : cmpL xb.lb xa.lb < 0
 ·have hr' : r = (b, a, c + 1) := by rw [hr, Sort.order2, if_pos (by simp [ltS, ← hxa, ← hxb, hl])]
  subst hr'
  obtain ⟨S2, hS2⟩ : ∃ S2 : St, S2 = ⟨S1.objs.set w [.int .i64 ((c : Int) + 1)], S1.tips⟩ := ⟨_, rfl⟩
  refine ⟨S2, cval_ok' fn_416 rfl ?_, by rw [hS2]; exact h.box hwS hwi _, by rw [hS2]; exact get_set hw, hb, ha, Nat.le_refl _⟩
  simp -implicitDefEqProofs [z13, ha, hb, la, lb, hcv, hl, lw, hw1, pstep, hw, putCells]
  rw [← hS2]; rfl
 ·have hr' : r = (a, b, c) := by rw [hr, Sort.order2, if_neg (by simp [ltS, ← hxa, ← hxb, hl])]
  subst hr'
  refine ⟨S1, cval_ok' fn_416 rfl ?_, h, hw, ha, hb, Nat.le_succ _⟩
  simp -implicitDefEqProofs [z13, ha, hb, la, lb, hcv, hl]
  rfl

theorem median_val {S S1 : St} {id n w : Nat} {t : List PV} {d : Array Sr} (h : Srt S id n t S1 d) {a b c k : Nat} (ha : a < n) (hb : b < n) (hc : c < n) (hk : k ≤ 100) (hw : S1.objs[w]? = some [.int .i64 (k : Int)]) (hwS : S.objs.length ≤ w) (hwi : w ≠ id) {r : Nat × Nat} (hr : r = Sort.median ltS d a b c k) :
  ∃ S2, cval T 409 [.osl id 0 n 2, .int .i64 (a : Int), .int .i64 (b : Int), .int .i64 (c : Int), .ptr w 0, .fn 287 []] S1 = some (.int .i64 (r.1 : Int), S2) ∧ Srt S id n t S2 d ∧ S2.objs[w]? = some [.int .i64 (r.2 : Int)] ∧ r.1 < n ∧ r.2 ≤ k + 3 := by
 obtain ⟨r1, hr1⟩ : ∃ r1, r1 = Sort.order2 ltS d a b k := ⟨_, rfl⟩
 obtain ⟨S2, c1, x1, w1, p1', q1, s1⟩ := order2_val h ha hb (by omega) hw hwS hwi hr1
 obtain ⟨r2, hr2⟩ : ∃ r2, r2 = Sort.order2 ltS d r1.2.1 c r1.2.2 := ⟨_, rfl⟩
 obtain ⟨S3, c2, x2, w2, p2', q2, s2⟩ := order2_val x1 q1 hc (by omega) w1 hwS hwi hr2
 obtain ⟨r3, hr3⟩ : ∃ r3, r3 = Sort.order2 ltS d r1.1 r2.1 r2.2.2 := ⟨_, rfl⟩
 obtain ⟨S4, c3, x3, w3, p3', q3, s3⟩ := order2_val x2 p1' p2' (by omega) w2 hwS hwi hr3
 have hrr : r = (r3.2.1, r3.2.2) := by
  rw [hr, Sort.median]
  simp only [← hr1, ← hr2, ← hr3]
 subst hrr
 refine ⟨S4, cval_ok' fn_409 rfl ?_, x3, w3, q3, by simp only; omega⟩
 simp -implicitDefEqProofs [z11, c1, c2, c3]
 rfl

theorem medadj_val {S S1 : St} {id n w : Nat} {t : List PV} {d : Array Sr} (h : Srt S id n t S1 d) {a k : Nat} (h1 : 1 ≤ a) (ha : a + 1 < n) (hk : k ≤ 100) (hw : S1.objs[w]? = some [.int .i64 (k : Int)]) (hwS : S.objs.length ≤ w) (hwi : w ≠ id) {r : Nat × Nat} (hr : r = Sort.medianAdjacent ltS d a k) :
  ∃ S2, cval T 408 [.osl id 0 n 2, .int .i64 (a : Int), .ptr w 0, .fn 287 []] S1 = some (.int .i64 (r.1 : Int), S2) ∧ Srt S id n t S2 d ∧ S2.objs[w]? = some [.int .i64 (r.2 : Int)] ∧ r.1 < n ∧ r.2 ≤ k + 3 := by
 have hle := h.le
 obtain ⟨S2, c1, x1, w1, p1', s1⟩ := median_val h (a := a - 1) (b := a) (c := a + 1) (by omega) (by omega) ha hk hw hwS hwi hr
 refine ⟨S2, cval_ok' fn_408 rfl ?_, x1, w1, p1', s1⟩
 have e1 : IntKind.i64.wrap ((a : Int) - 1) = ((a - 1 : Nat) : Int) := by rw [wrap_i64 (by omega) (by omega)]; omega
 have e2 : IntKind.i64.wrap ((a : Int) + 1) = ((a + 1 : Nat) : Int) := by rw [wrap_i64 (by omega) (by omega)]; omega
 rw [← e2] at c1
 simp -implicitDefEqProofs [z1, e1, c1]
 rfl

def hintI : Sort.Hint → Int
 | .unknown => 0
 | .increasing => 1
 | .decreasing => 2

set_option maxHeartbeats 1000000 in
theorem pivot_val {S S1 : St} {id n : Nat} {t : List PV} {d : Array Sr} (h : Srt S id n t S1 d) (hid : id < S.objs.length) {a b : Nat} (hab : a + 12 < b) (hb : b ≤ n) {r : Nat × Sort.Hint} (hr : r = Sort.choosePivot ltS d a b) :
  ∃ S2, cval T 384 [.osl id 0 n 2, .int .i64 (a : Int), .int .i64 (b : Int), .fn 287 []] S1 = some (.tup [.int .i64 (r.1 : Int), .int .i64 (hintI r.2)], S2) ∧ Srt S id n t S2 d := by
 have hle := h.le
 have hlen := h.len
 obtain ⟨l, hl⟩ : ∃ l, l = b - a := ⟨_, rfl⟩
 obtain ⟨q, hq⟩ : ∃ q, q = l / 4 := ⟨_, rfl⟩
 obtain ⟨i, hi⟩ : ∃ i, i = a + q := ⟨_, rfl⟩
 obtain ⟨j, hj⟩ : ∃ j, j = a + q * 2 := ⟨_, rfl⟩
 obtain ⟨k, hk⟩ : ∃ k, k = a + q * 3 := ⟨_, rfl⟩
 have el : IntKind.i64.wrap ((b : Int) - (a : Int)) = (l : Int) := by rw [wrap_i64 (by omega) (by omega)]; omega
 have eq : ((l : Int)).tdiv 4 = (q : Int) := by rw [Int.tdiv_eq_ediv_of_nonneg (by omega)]; omega
 have wq : IntKind.i64.wrap (q : Int) = (q : Int) := wrap_i64 (by omega) (by omega)
 have wq2 : IntKind.i64.wrap ((q : Int) * 2) = (q : Int) * 2 := wrap_i64 (by omega) (by omega)
 have wq3 : IntKind.i64.wrap ((q : Int) * 3) = (q : Int) * 3 := wrap_i64 (by omega) (by omega)
 have ei : IntKind.i64.wrap ((a : Int) + (q : Int)) = (i : Int) := by rw [wrap_i64 (by omega) (by omega)]; omega
 have ej : IntKind.i64.wrap ((a : Int) + (q : Int) * 2) = (j : Int) := by rw [wrap_i64 (by omega) (by omega)]; omega
 have ek : IntKind.i64.wrap ((a : Int) + (q : Int) * 3) = (k : Int) := by rw [wrap_i64 (by omega) (by omega)]; omega
 have h8 : (8 : Int) ≤ (l : Int) := by omega
 have h8' : l ≥ 8 := by omega
 obtain ⟨w, hw⟩ : ∃ w, w = S1.objs.length := ⟨_, rfl⟩
 have hg := h.grow [[.int .i64 0]] S1.tips
 obtain ⟨S2, hS2⟩ : ∃ S2 : St, S2 = ⟨S1.objs ++ [[.int .i64 0]], S1.tips⟩ := ⟨_, rfl⟩
 rw [← hS2] at hg
 have hw0 : S2.objs[w]? = some [.int .i64 ((0 : Nat) : Int)] := by rw [hS2, hw]; simp
 have hwS : S.objs.length ≤ w := by omega
 have hwi : w ≠ id := by omega
 have hi4 : a + l / 4 * 1 = i := by omega
 have hj4 : a + l / 4 * 2 = j := by omega
 have hk4 : a + l / 4 * 3 = k := by omega
 -- what is found
 have fin : ∀ {Q : Fr → St → Prop} (hQ : ∀ fr S', fr 8 = .int .i64 (r.1 : Int) → fr 9 = .int .i64 (hintI r.2) → Srt S id n t S' d → Q fr S') (p c : Nat) (S3 : St), Srt S id n t S3 d → S3.objs[w]? = some [.int .i64 (c : Int)] → r = (p, if c = 0 then .increasing else if c = 12 then .decreasing else .unknown) →
   ∀ fr : Fr, fr 11 = .ptr w 0 → fr 13 = .int .i64 (p : Int) →
   Ok (gval T [.ops z6_r12, .code (.block 0 (.seq (.clr [(58, 59)] (.region z6_r14)) (.cond (.tmp 57) (.seq (.clr [(59, 60)] (.region z6_r15)) .ret) (.seq (.clr [(61, 62)] (.region z6_r16)) (.cond (.tmp 60) (.seq (.clr [(62, 63)] (.region z6_r17)) .ret) (.seq (.clr [(56, 57)] (.region z6_r13)) .ret))))))] fr S3)
    Q := by
  intro Q hQ p c S3 x hc hr fr g11 g13
  have lw : loadP S3 false 1 (.ptr w 0) = some (.int .i64 (c : Int)) := by rw [loadP_ptr hc]; exact part1
  by_cases c0 : c = 0
  ·subst c0
   rw [if_pos rfl] at hr
   simp -implicitDefEqProofs [g11, g13, lw]
   exact hQ _ S3 (by rw [hr]; simp) (by rw [hr]; simp [hintI]) x
  ·have c0' : ((c : Int) == 0) = false := by rw [beq_eq_false_iff_ne]; omega
   rw [if_neg c0] at hr
   by_cases c12 : c = 12
   ·subst c12
    rw [if_pos rfl] at hr
    simp -implicitDefEqProofs [g11, g13, lw]
    exact hQ _ S3 (by rw [hr]; simp) (by rw [hr]; simp [hintI]) x
   ·have c12' : ((c : Int) == 12) = false := by rw [beq_eq_false_iff_ne]; omega
    rw [if_neg c12] at hr
    simp -implicitDefEqProofs [g11, g13, lw, c0, c0', c12, c12']
    exact hQ _ S3 (by rw [hr]; simp) (by rw [hr]; simp [hintI]) x
 obtain ⟨v, S4, hc, h4⟩ := cval_ex (T := T) fn_384 (args := [.osl id 0 n 2, .int .i64 (a : Int), .int .i64 (b : Int), .fn 287 []]) (S := S1) rfl (R := fun v S4 => v = .tup [.int .i64 (r.1 : Int), .int .i64 (hintI r.2)] ∧ Srt S id n t S4 d) (by
  by_cases h50 : l ≥ 50
  ·have h50' : (50 : Int) ≤ (l : Int) := by omega
   obtain ⟨ri, hri⟩ : ∃ r, r = Sort.medianAdjacent ltS d i 0 := ⟨_, rfl⟩
   obtain ⟨S3, c1, x1, w1, p1', s1⟩ := medadj_val hg (a := i) (k := 0) (by omega) (by omega) (by omega) hw0 hwS hwi hri
   obtain ⟨rj, hrj⟩ : ∃ r, r = Sort.medianAdjacent ltS d j ri.2 := ⟨_, rfl⟩
   obtain ⟨S4, c2, x2, w2, p2', s2⟩ := medadj_val x1 (a := j) (by omega) (by omega) (by omega) w1 hwS hwi hrj
   obtain ⟨rk, hrk⟩ : ∃ r, r = Sort.medianAdjacent ltS d k rj.2 := ⟨_, rfl⟩
   obtain ⟨S5, c3, x3, w3, p3', s3⟩ := medadj_val x2 (a := k) (by omega) (by omega) (by omega) w2 hwS hwi hrk
   obtain ⟨rm, hrm⟩ : ∃ r, r = Sort.median ltS d ri.1 rj.1 rk.1 rk.2 := ⟨_, rfl⟩
   obtain ⟨S6, c4, x4, w4, p4', s4⟩ := median_val x3 p1' p2' p3' (by omega) w3 hwS hwi hrm
   have hrr : r = (rm.1, if rm.2 = 0 then .increasing else if rm.2 = 12 then .decreasing else .unknown) := by
    rw [hr, Sort.choosePivot]
    simp only [← hl, hi4, hj4, hk4, if_pos h8', if_pos h50, ← hri, ← hrj, ← hrk, ← hrm]
   have hF := fun {Q} hQ => fin (Q := Q) hQ rm.1 rm.2 S6 x4 w4 hrr
   clear fin
   simp -implicitDefEqProofs [-z6_r3_go, z6, el, pstep, newObj]
   rw [← hS2, ← hw]
   simp -implicitDefEqProofs [-z6_r12_go, eq, wq, wq2, wq3, ei, ej, ek, h8, h8', h50, h50', c1, c2, c3, c4]
   refine hF (fun fr S' g8 g9 x => ?_) _ (by simp) (by simp)
   rw [fin_raw]; exact ⟨by rw [g8, g9], x⟩
  ·have h50' : ¬ (50 : Int) ≤ (l : Int) := by omega
   obtain ⟨rm, hrm⟩ : ∃ r, r = Sort.median ltS d i j k 0 := ⟨_, rfl⟩
   obtain ⟨S6, c4, x4, w4, p4', s4⟩ := median_val hg (a := i) (b := j) (c := k) (k := 0) (by omega) (by omega) (by omega) (by omega) hw0 hwS hwi hrm
   have hrr : r = (rm.1, if rm.2 = 0 then .increasing else if rm.2 = 12 then .decreasing else .unknown) := by
    rw [hr, Sort.choosePivot]
    simp only [← hl, hi4, hj4, hk4, if_pos h8', if_neg h50, ← hrm]
   have hF := fun {Q} hQ => fin (Q := Q) hQ rm.1 rm.2 S6 x4 w4 hrr
   clear fin
   simp -implicitDefEqProofs [-z6_r3_go, z6, el, pstep, newObj]
   rw [← hS2, ← hw]
   simp -implicitDefEqProofs [-z6_r12_go, eq, wq, wq2, wq3, ei, ej, ek, h8, h8', h50, h50', c4]
   refine hF (fun fr S' g8 g9 x => ?_) _ (by simp) (by simp)
   rw [fin_raw]; exact ⟨by rw [g8, g9], x⟩)
 exact ⟨S4, by rw [hc, h4.1], h4.2⟩

theorem rev_go {S : St} {id n : Nat} {t : List PV} (hn256 : n ≤ 256) {K : List Kt} {Q : Fr → St → Prop} : ∀ (m i j : Nat) (d : Array Sr) (fr : Fr) (S' : St), j - i ≤ m → j < n → Srt S id n t S' d →
  fr 0 = .osl id 0 n 2 → fr 8 = .int .i64 (i : Int) → fr 9 = .int .i64 (j : Int) →
  (∀ fr' S2, Srt S id n t S2 (Sort.reverseLoop i j d) → Ok (gval T K fr' S2) Q) →
  Ok (gval T (.lp z5_l0 :: .blk 0 :: K) fr S') Q := by
 intro m
 induction m with
 | zero =>
  intro i j d fr S' hm hj h f0 f8 f9 k
  have hij : ¬ i < j := by omega
  have hs : Sort.reverseLoop i j d = d := by rw [Sort.reverseLoop, if_neg hij]
  rw [hs] at k
  rw [gval_lp]
  simp -implicitDefEqProofs [f0, f8, f9, hij]
  exact k _ S' h
 | succ m ih =>
  intro i j d fr S' hm hj h f0 f8 f9 k
  by_cases hij : i < j
  ·have hs : Sort.reverseLoop i j d = Sort.reverseLoop (i + 1) (j - 1) (Sort.swp d i j) := by rw [Sort.reverseLoop, if_pos hij]
   rw [hs] at k
   have hin : i < n := by omega
   obtain ⟨xi, hxi⟩ : ∃ x, x = d[i]! := ⟨_, rfl⟩
   obtain ⟨xj, hxj⟩ : ∃ x, x = d[j]! := ⟨_, rfl⟩
   have oi := h.okAt hin
   have oj := h.okAt hj
   have li := h.load hin
   have lj := h.load hj
   rw [← hxi] at oi li
   rw [← hxj] at oj lj
   obtain ⟨cs, S2, m1, m2, m3, m4, hS2, hsw⟩ := h.swap hin hj hxi hxj
   have w1 : IntKind.i64.wrap ((i : Int) + 1) = ((i + 1 : Nat) : Int) := by rw [wrap_i64 (by omega) (by omega)]; omega
   have w2 : IntKind.i64.wrap ((j : Int) - 1) = ((j - 1 : Nat) : Int) := by rw [wrap_i64 (by omega) (by omega)]; omega
   have hL := fun fr' => ih (i + 1) (j - 1) (Sort.swp d i j) fr' S2 (by omega) (by omega) hsw
   clear ih
   rw [gval_lp]
   simp -implicitDefEqProofs [f0, f8, f9, hij, hin, hj, li, lj, pstep, m1, m2, m3, m4, oi.one, oj.one]
   rw [← hS2]
   exact hL _ (by simp [f0]) (by simp [w1]) (by simp [w2]) k
  ·have hs : Sort.reverseLoop i j d = d := by rw [Sort.reverseLoop, if_neg hij]
   rw [hs] at k
   rw [gval_lp]
   simp -implicitDefEqProofs [f0, f8, f9, hij]
   exact k _ S' h

theorem rev_val {S S1 : St} {id n : Nat} {t : List PV} {d : Array Sr} (h : Srt S id n t S1 d) {a b : Nat} (hab : a < b) (hb : b ≤ n) :
  ∃ S2, cval T 385 [.osl id 0 n 2, .int .i64 (a : Int), .int .i64 (b : Int), .fn 287 []] S1 = some (.tup [], S2) ∧ Srt S id n t S2 (Sort.reverseRange d a b) := by
 have hle := h.le
 have w2 : IntKind.i64.wrap ((b : Int) - 1) = ((b - 1 : Nat) : Int) := by rw [wrap_i64 (by omega) (by omega)]; omega
 obtain ⟨v, S2, hc, h2⟩ := cval_ex (T := T) fn_385 (args := [.osl id 0 n 2, .int .i64 (a : Int), .int .i64 (b : Int), .fn 287 []]) (S := S1) rfl (R := fun v S2 => v = .tup [] ∧ Srt S id n t S2 (Sort.reverseRange d a b)) (by
  simp -implicitDefEqProofs [z5, resAll, w2]
  refine rev_go hle (b - 1 - a) a (b - 1) d _ S1 (Nat.le_refl _) (by omega) h (by simp) (by simp) (by simp) (fun fr' S2 x => ?_)
  simp -implicitDefEqProofs
  rw [fin_raw]; exact ⟨rfl, x⟩)
 exact ⟨S2, by rw [hc, h2.1], h2.2⟩
end Ps
