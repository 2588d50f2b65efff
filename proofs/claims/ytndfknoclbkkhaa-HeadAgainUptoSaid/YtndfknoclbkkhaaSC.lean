/- Series sorted: a heap. -/
import Derived.Test.YtndfknoclbkkhaaSB
namespace Ps
set_option linter.unusedSimpArgs false
set_option linter.unusedVariables false
open Go
theorem fn_407 : T.fn 407 = some (.code slices_siftDownCmpFunc_Series) := rfl
theorem fn_382 : T.fn 382 = some (.code slices_heapSortCmpFunc_Series) := rfl

theorem sift_go {S : St} {id n : Nat} {t : List PV} {hi first : Nat} (hn : first + hi ≤ n) (hn256 : n ≤ 256) {K : List Kt} {Q : Fr → St → Prop} : ∀ (m root : Nat) (d : Array Sr) (fr : Fr) (S' : St), hi - root ≤ m → root ≤ hi → Srt S id n t S' d →
    fr 0 = .osl id 0 n 2 → fr 2 = .int .i64 (hi : Int) → fr 3 = .int .i64 (first : Int) → fr 4 = .fn 287 [] → fr 10 = .int .i64 (root : Int) →
    (∀ fr' S2, Srt S id n t S2 (Sort.siftDown ltS hi first root d) → Q fr' S2) → (∀ fr' S2, Srt S id n t S2 (Sort.siftDown ltS hi first root d) → Ok (gval T K fr' S2) Q) →
    Ok (gval T (.lp slices_siftDownCmpFunc_Series_l0 :: .blk 0 :: K) fr S') Q := by
  intro m
  induction m with
  | zero =>
    intro root d fr S' hm hr h f0 f2 f3 f4 f10 k1 k2
    have hc : 2 * root + 1 ≥ hi := by omega
    have hs : Sort.siftDown ltS hi first root d = d := by rw [Sort.siftDown, dif_pos hc]
    rw [hs] at k2
    have w1 : IntKind.i64.wrap (2 * (root : Int)) = 2 * (root : Int) := wrap_i64 (by omega) (by omega)
    have w2 : IntKind.i64.wrap (2 * (root : Int) + 1) = 2 * (root : Int) + 1 := wrap_i64 (by omega) (by omega)
    have hc' : (hi : Int) ≤ 2 * (root : Int) + 1 := by omega
    rw [gval_lp]
    simp -implicitDefEqProofs [f0, f2, f3, f4, f10, w1, w2, hc']
    exact k2 _ S' h
  | succ m ih =>
    intro root d fr S' hm hr h f0 f2 f3 f4 f10 k1 k2
    have w1 : IntKind.i64.wrap (2 * (root : Int)) = 2 * (root : Int) := wrap_i64 (by omega) (by omega)
    have w2 : IntKind.i64.wrap (2 * (root : Int) + 1) = 2 * (root : Int) + 1 := wrap_i64 (by omega) (by omega)
    by_cases hc : 2 * root + 1 ≥ hi
    · have hs : Sort.siftDown ltS hi first root d = d := by rw [Sort.siftDown, dif_pos hc]
      rw [hs] at k2
      have hc' : (hi : Int) ≤ 2 * (root : Int) + 1 := by omega
      rw [gval_lp]
      simp -implicitDefEqProofs [f0, f2, f3, f4, f10, w1, w2, hc']
      exact k2 _ S' h
    obtain ⟨c, hcd⟩ : ∃ c, c = 2 * root + 1 := ⟨_, rfl⟩
    obtain ⟨fc, hfc⟩ : ∃ fc, fc = first + c := ⟨_, rfl⟩
    obtain ⟨fr', hfr⟩ : ∃ fr', fr' = first + root := ⟨_, rfl⟩
    have ec : 2 * (root : Int) + 1 = (c : Int) := by omega
    have efc : (first : Int) + (c : Int) = (fc : Int) := by omega
    have efr : (first : Int) + (root : Int) = (fr' : Int) := by omega
    have hcn : fc < n := by omega
    have hrn : fr' < n := by omega
    have hc' : ¬ hi ≤ c := by omega
    have wc : IntKind.i64.wrap (c : Int) = (c : Int) := wrap_i64 (by omega) (by omega)
    have wc1 : IntKind.i64.wrap ((c : Int) + 1) = (c : Int) + 1 := wrap_i64 (by omega) (by omega)
    have wfc : IntKind.i64.wrap (fc : Int) = (fc : Int) := wrap_i64 (by omega) (by omega)
    have wfc1 : IntKind.i64.wrap ((fc : Int) + 1) = (fc : Int) + 1 := wrap_i64 (by omega) (by omega)
    have wfr : IntKind.i64.wrap (fr' : Int) = (fr' : Int) := wrap_i64 (by omega) (by omega)
    have lc := h.load hcn
    have lr := h.load hrn
    obtain ⟨xr, hxr⟩ : ∃ x, x = d[fr']! := ⟨_, rfl⟩
    obtain ⟨xc, hxc⟩ : ∃ x, x = d[fc]! := ⟨_, rfl⟩
    have oc := h.okAt hcn
    have orr := h.okAt hrn
    rw [← hxr] at lr orr
    rw [← hxc] at lc oc
    -- the rest of the round, the child being known
    have tail : ∀ (e fe : Nat) (xe : Sr), fe = first + e → (e = c ∨ e = c + 1) → fe < n → e < hi → xe = d[fe]! →
        (Sort.siftDown ltS hi first root d = if ltS xr xe then Sort.siftDown ltS hi first e (Sort.swp d fr' fe) else d) →
        ∀ fr2 : Fr, fr2 0 = .osl id 0 n 2 → fr2 2 = .int .i64 (hi : Int) → fr2 3 = .int .i64 (first : Int) → fr2 4 = .fn 287 [] → fr2 10 = .int .i64 (root : Int) → fr2 11 = .int .i64 (e : Int) →
        Ok (gval T (.ops slices_siftDownCmpFunc_Series_r5 :: .clr [(43, 58)] :: .code (.cond (.tmp 58) .ret .skip) :: .code (.seq (.clr [(59, 81)] (.region slices_siftDownCmpFunc_Series_r6)) (.clr [(81, 82)] (.region slices_siftDownCmpFunc_Series_r7))) :: .blk 1 :: .lp slices_siftDownCmpFunc_Series_l0 :: .blk 0 :: K) fr2 S') Q := by
      intro e fe xe hfe hce hfn hehi hxe hs fr2 g0 g2 g3 g4 g10 g11
      have efe : (first : Int) + (e : Int) = (fe : Int) := by omega
      have wfe : IntKind.i64.wrap (fe : Int) = (fe : Int) := wrap_i64 (by omega) (by omega)
      have le := h.load hfn
      have oe := h.okAt hfn
      rw [← hxe] at le oe
      have hcv := cmpC_val orr oe S'
      by_cases hl : cmpL xr.lb xe.lb < 0
      · have hl' : ltS xr xe = true := by simp [ltS, hl]
        rw [if_pos hl'] at hs
        obtain ⟨cs, S2, m1, m2, m3, m4, hS2, hsw⟩ := h.swap hrn hfn hxr hxe
        have hL := fun fr' => ih e (Sort.swp d (first + root) (first + e)) fr' S2 (by omega) (by omega) (by rw [← hfr, ← hfe]; exact hsw)
        rw [hs, hfr, hfe] at k1 k2
        clear ih
        simp -implicitDefEqProofs [g0, g2, g3, g4, g10, g11, efr, wfr, efe, wfe, hrn, hfn, lr, le, hcv, hl, pstep, m1, m2, m3, m4, orr.one, oe.one]
        rw [← hS2]
        exact hL _ (by simp [g0]) (by simp [g2]) (by simp [g3]) (by simp [g4]) (by simp [g11]) k1 k2
      · have hl' : ltS xr xe = false := by simp [ltS, hl]
        rw [hl'] at hs
        simp only [Bool.false_eq_true, if_false] at hs
        rw [hs] at k1
        simp -implicitDefEqProofs [g0, g2, g3, g4, g10, g11, efr, wfr, efe, wfe, hrn, hfn, lr, le, hcv, hl, pstep]
        exact k1 _ S' h
    have hnc : ¬ 2 * root + 1 ≥ hi := hc
    by_cases hc1 : c + 1 < hi
    · have hc1' : (c : Int) + 1 < (hi : Int) := by omega
      have hcn1 : fc + 1 < n := by omega
      have hcn1' : (fc : Int) + 1 < (n : Int) := by omega
      have hcn0 : (0 : Int) ≤ (fc : Int) + 1 := by omega
      have lc1 := h.load hcn1
      have oc1 := h.okAt hcn1
      obtain ⟨xd, hxd⟩ : ∃ x, x = d[fc + 1]! := ⟨_, rfl⟩
      rw [← hxd] at lc1 oc1
      have hcv := cmpC_val oc oc1 S'
      by_cases hl : cmpL xc.lb xd.lb < 0
      · have hs : Sort.siftDown ltS hi first root d = if ltS xr xd then Sort.siftDown ltS hi first (c + 1) (Sort.swp d fr' (fc + 1)) else d := by
          rw [Sort.siftDown, dif_neg hnc]
          have e1 : first + (2 * root + 1) = fc := by omega
          have e2 : first + (2 * root + 2) = fc + 1 := by omega
          have e3 : first + root = fr' := by omega
          have e4 : 2 * root + 2 = c + 1 := by omega
          have e4' : 2 * root + 1 + 1 = c + 1 := by omega
          have e5 : first + (c + 1) = fc + 1 := by omega
          have hl' : ltS xc xd = true := by simp [ltS, hl]
          simp only [e1, e3, e4, e4', e5, ← hxr, ← hxc, ← hxd, hl', hc1, decide_true, Bool.and_self, if_true, dif_pos]
          cases ltS xr xd <;> simp
        have hT := tail (c + 1) (fc + 1) xd (by omega) (.inr rfl) hcn1 hc1 hxd hs
        clear tail ih k1 k2
        rw [gval_lp]
        simp -implicitDefEqProofs [-slices_siftDownCmpFunc_Series_r5_go, f0, f2, f3, f4, f10, w1, ec, wc, hc', wc1, hc1', hc1, efc, wfc, wfc1, hcn, hcn1', hcn1, hcn0, lc, lc1, hcv, hl]
        exact hT _ (by simp [f0]) (by simp [f2]) (by simp [f3]) (by simp [f4]) (by simp [f10]) (by simp [wc1])
      · have hs : Sort.siftDown ltS hi first root d = if ltS xr xc then Sort.siftDown ltS hi first c (Sort.swp d fr' fc) else d := by
          rw [Sort.siftDown, dif_neg hnc]
          have e1 : first + (2 * root + 1) = fc := by omega
          have e3 : first + root = fr' := by omega
          have hl' : ltS xc xd = false := by simp [ltS, hl]
          simp only [← hcd, ← hfc, e3, ← hxr, ← hxc, ← hxd, hl', Bool.and_false, Bool.false_eq_true, if_false]
          cases ltS xr xc <;> simp
        have hT := tail c fc xc hfc (.inl rfl) hcn (by omega) hxc hs
        clear tail ih k1 k2
        rw [gval_lp]
        simp -implicitDefEqProofs [-slices_siftDownCmpFunc_Series_r5_go, f0, f2, f3, f4, f10, w1, ec, wc, hc', wc1, hc1', hc1, efc, wfc, wfc1, hcn, hcn1', hcn1, hcn0, lc, lc1, hcv, hl]
        exact hT _ (by simp [f0]) (by simp [f2]) (by simp [f3]) (by simp [f4]) (by simp [f10]) (by simp)
    · have hc1' : ¬ (c : Int) + 1 < (hi : Int) := by omega
      have hs : Sort.siftDown ltS hi first root d = if ltS xr xc then Sort.siftDown ltS hi first c (Sort.swp d fr' fc) else d := by
        rw [Sort.siftDown, dif_neg hnc]
        have e1 : first + (2 * root + 1) = fc := by omega
        have e3 : first + root = fr' := by omega
        have hb : ¬ (2 * root + 1 + 1 < hi) := by omega
        simp only [← hcd, hc1, decide_false, Bool.false_and, Bool.false_eq_true, if_false, ← hfc, e3, ← hxr, ← hxc]
        cases ltS xr xc <;> simp
      have hT := tail c fc xc hfc (.inl rfl) hcn (by omega) hxc hs
      clear tail ih k1 k2
      rw [gval_lp]
      simp -implicitDefEqProofs [-slices_siftDownCmpFunc_Series_r5_go, f0, f2, f3, f4, f10, w1, ec, wc, hc', wc1, hc1', hc1]
      exact hT _ (by simp [f0]) (by simp [f2]) (by simp [f3]) (by simp [f4]) (by simp [f10]) (by simp)

theorem sift_val {S S1 : St} {id n : Nat} {t : List PV} {d : Array Sr} (h : Srt S id n t S1 d) {hi first root : Nat} (hr : root ≤ hi) (hn : first + hi ≤ n) :
    ∃ S2, cval T 407 [.osl id 0 n 2, .int .i64 (root : Int), .int .i64 (hi : Int), .int .i64 (first : Int), .fn 287 []] S1 = some (.tup [], S2) ∧ Srt S id n t S2 (Sort.siftDown ltS hi first root d) := by
  obtain ⟨v, S2, hc, h2⟩ := cval_ex (T := T) fn_407 (args := [.osl id 0 n 2, .int .i64 (root : Int), .int .i64 (hi : Int), .int .i64 (first : Int), .fn 287 []]) (S := S1) rfl (R := fun v S2 => v = .tup [] ∧ Srt S id n t S2 (Sort.siftDown ltS hi first root d)) (by
    simp -implicitDefEqProofs [slices_siftDownCmpFunc_Series, resAll]
    refine sift_go hn h.le (hi - root) root d _ S1 (Nat.le_refl _) hr h (by simp) (by simp) (by simp) (by simp) (by simp) (fun fr' S2 x => ?_) (fun fr' S2 x => ?_)
    · rw [fin_raw]; exact ⟨rfl, x⟩
    · simp -implicitDefEqProofs
      rw [fin_raw]; exact ⟨rfl, x⟩)
  exact ⟨S2, by rw [hc, h2.1], h2.2⟩

theorem heap_val {S S1 : St} {id n : Nat} {t : List PV} {d : Array Sr} (h : Srt S id n t S1 d) {a b : Nat} (hab : a < b) (hb : b ≤ n) :
    ∃ S2, cval T 382 [.osl id 0 n 2, .int .i64 (a : Int), .int .i64 (b : Int), .fn 287 []] S1 = some (.tup [], S2) ∧ Srt S id n t S2 (Sort.heapSort ltS d a b) := by
  have hle := h.le
  obtain ⟨hi, hhi⟩ : ∃ hi, hi = b - a := ⟨_, rfl⟩
  have hsum : a + hi ≤ n := by omega
  have hw : IntKind.i64.wrap ((b : Int) - (a : Int)) = (hi : Int) := by rw [wrap_i64 (by omega) (by omega)]; omega
  have hw1 : IntKind.i64.wrap ((hi : Int) - 1) = (hi : Int) - 1 := wrap_i64 (by omega) (by omega)
  have hq : ((hi : Int) - 1).tdiv 2 = (((hi - 1) / 2 : Nat) : Int) := by
    rw [Int.tdiv_eq_ediv_of_nonneg (by omega)]; omega
  have hw2 : IntKind.i64.wrap (((hi - 1) / 2 : Nat) : Int) = (((hi - 1) / 2 : Nat) : Int) := wrap_i64 (by omega) (by omega)
  obtain ⟨k, hk⟩ : ∃ k, k = (hi - 1) / 2 := ⟨_, rfl⟩
  rw [← hk] at hq hw2
  have hheap : Sort.heapSort ltS d a b = Sort.heapPop ltS a hi (Sort.heapBuild ltS hi a (k + 1) d) := by rw [Sort.heapSort, ← hhi, ← hk]
  obtain ⟨v, S2, hc, h2⟩ := cval_ex (T := T) fn_382 (args := [.osl id 0 n 2, .int .i64 (a : Int), .int .i64 (b : Int), .fn 287 []]) (S := S1) rfl (R := fun v S2 => v = .tup [] ∧ Srt S id n t S2 (Sort.heapSort ltS d a b)) (by
    simp -implicitDefEqProofs [slices_heapSortCmpFunc_Series, resAll, hw, hw1, hq, hw2]
    refine lp_up (k + 1) (fun j fr S' => fr 0 = .osl id 0 n 2 ∧ fr 3 = .fn 287 [] ∧ fr 8 = .int .i64 (a : Int) ∧ fr 9 = .int .i64 0 ∧ fr 10 = .int .i64 (hi : Int) ∧ fr 11 = .int .i64 ((k : Int) - (j : Int)) ∧
      ∃ d', Srt S id n t S' d' ∧ Sort.heapBuild ltS hi a (k + 1 - j) d' = Sort.heapBuild ltS hi a (k + 1) d) ?_ ?_ 0 (Nat.zero_le _) _ _ ⟨by simp, by simp, by simp, by simp, by simp, by simp, d, h, rfl⟩
    · rintro j fr S' hj ⟨f0, f3, f8, f9, f10, f11, d', x1, x2⟩ kk
      obtain ⟨m, hm⟩ : ∃ m, m = k - j := ⟨_, rfl⟩
      have em : (k : Int) - (j : Int) = (m : Int) := by omega
      rw [em] at f11
      have hk1 : k + 1 - j = m + 1 := by omega
      have hk2 : k + 1 - (j + 1) = m := by omega
      rw [hk1, Sort.heapBuild] at x2
      obtain ⟨S3, c1, c2⟩ := sift_val x1 (hi := hi) (first := a) (root := m) (by omega) hsum
      have hwm : IntKind.i64.wrap ((m : Int) - 1) = (m : Int) - 1 := wrap_i64 (by omega) (by omega)
      have hL := fun fr' => kk fr' S3
      clear kk
      rw [gval_lp]
      simp -implicitDefEqProofs [f0, f3, f8, f9, f10, f11, c1]
      refine hL _ ⟨by simp [f0], by simp [f3], by simp [f8], by simp [f9], by simp [f10], ?_, _, c2, by rw [hk2]; exact x2⟩
      simp [hwm]; omega
    · rintro fr S' ⟨f0, f3, f8, f9, f10, f11, d', x1, x2⟩
      have e11 : (k : Int) - ((k + 1 : Nat) : Int) = -1 := by omega
      rw [e11] at f11
      rw [Nat.sub_self, Sort.heapBuild] at x2
      rw [gval_lp]
      simp -implicitDefEqProofs [f0, f3, f8, f9, f10, f11, hw1]
      refine lp_up hi (fun j fr S' => fr 0 = .osl id 0 n 2 ∧ fr 3 = .fn 287 [] ∧ fr 8 = .int .i64 (a : Int) ∧ fr 9 = .int .i64 0 ∧ fr 12 = .int .i64 ((hi : Int) - 1 - (j : Int)) ∧
        ∃ d2, Srt S id n t S' d2 ∧ Sort.heapPop ltS a (hi - j) d2 = Sort.heapPop ltS a hi d') ?_ ?_ 0 (Nat.zero_le _) _ _ ⟨by simp [f0], by simp [f3], by simp [f8], by simp [f9], by simp, d', x1, rfl⟩
      · rintro j fr S' hj ⟨f0, f3, f8, f9, f12, d2, y1, y2⟩ kk
        obtain ⟨m, hm⟩ : ∃ m, m = hi - 1 - j := ⟨_, rfl⟩
        have em : (hi : Int) - 1 - (j : Int) = (m : Int) := by omega
        rw [em] at f12
        have hk1 : hi - j = m + 1 := by omega
        have hk2 : hi - (j + 1) = m := by omega
        rw [hk1, Sort.heapPop] at y2
        obtain ⟨fm, hfm⟩ : ∃ fm, fm = a + m := ⟨_, rfl⟩
        have efm : (a : Int) + (m : Int) = (fm : Int) := by omega
        have wfm : IntKind.i64.wrap (fm : Int) = (fm : Int) := wrap_i64 (by omega) (by omega)
        have han : a < n := by omega
        have hfn : fm < n := by omega
        obtain ⟨xa, hxa⟩ : ∃ x, x = d2[a]! := ⟨_, rfl⟩
        obtain ⟨xm, hxm⟩ : ∃ x, x = d2[fm]! := ⟨_, rfl⟩
        have oa := y1.okAt han
        have om := y1.okAt hfn
        have la := y1.load han
        have lm := y1.load hfn
        rw [← hxa] at oa la
        rw [← hxm] at om lm
        obtain ⟨cs, S3, m1, m2, m3, m4, hS3, hsw⟩ := y1.swap han hfn hxa hxm
        rw [← hfm] at y2
        obtain ⟨S4, c1, c2⟩ := sift_val hsw (hi := m) (first := a) (root := 0) (by omega) (by omega)
        have hwm : IntKind.i64.wrap ((m : Int) - 1) = (m : Int) - 1 := wrap_i64 (by omega) (by omega)
        have hL := fun fr' => kk fr' S4
        clear kk
        simp only [Int.natCast_zero] at c1
        rw [gval_lp]
        simp -implicitDefEqProofs [-slices_heapSortCmpFunc_Series_r11_go, f0, f3, f8, f9, f12, efm, wfm, han, hfn, la, lm, pstep, m1, m2, m3, m4, oa.one, om.one]
        rw [← hS3]
        simp -implicitDefEqProofs [f0, f3, f8, f9, f12, c1]
        refine hL _ ⟨by simp [f0], by simp [f3], by simp [f8], by simp [f9], ?_, _, c2, by rw [hk2]; exact y2⟩
        simp [hwm]; omega
      · rintro fr S' ⟨f0, f3, f8, f9, f12, d2, y1, y2⟩
        have e12 : (hi : Int) - 1 - (hi : Int) = -1 := by omega
        rw [e12] at f12
        rw [Nat.sub_self, Sort.heapPop] at y2
        rw [gval_lp]
        simp -implicitDefEqProofs [f12]
        rw [fin_raw]
        refine ⟨rfl, ?_⟩
        rw [hheap, ← x2, ← y2]
        exact y1)
  exact ⟨S2, by rw [hc, h2.1], h2.2⟩
end Ps
