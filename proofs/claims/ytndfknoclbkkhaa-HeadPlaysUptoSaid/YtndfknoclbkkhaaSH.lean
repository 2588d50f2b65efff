/- Series sorted: partitions. -/
import Derived.Test.YtndfknoclbkkhaaSF
namespace Ps
set_option linter.unusedSimpArgs false
set_option linter.unusedVariables false
open Go
structure QF (id n a si sj : Nat) (i j : Int) (fr : Fr) : Prop where
 f0 : fr 0 = .osl id 0 n 2
 f1 : fr 1 = .int .i64 (a : Int)
 f4 : fr 4 = .fn 287 []
 fi : fr si = .int .i64 i
 fj : fr sj = .int .i64 j

theorem pa_up0 {S S1 : St} {id n a : Nat} {t : List PV} {d : Array Sr} (h : Srt S id n t S1 d) (ha : a < n) {j : Nat} (hj : j < n) {K : List Kt} {Q : Fr → St → Prop} : ∀ (m i : Nat) (fr : Fr), j + 1 - i ≤ m → i ≤ 1000 → QF id n a 12 13 (i : Int) (j : Int) fr →
  (∀ fr' r, r = Sort.scanUp (fun x => ltS x d[a]!) d j i → i ≤ r → (r = i ∨ r ≤ j + 1) → QF id n a 12 13 (r : Int) (j : Int) fr' → Ok (gval T K fr' S1) Q) →
  Ok (gval T (.lp z7_l0 :: .blk 0 :: K) fr S1) Q := by
 have hle := h.le
 intro m
 induction m with
 | zero =>
  intro i fr hm hi f k
  obtain ⟨f0, f1, f4, fi, fj⟩ := f
  have hc : ¬ i ≤ j := by omega
  have hs : Sort.scanUp (fun x => ltS x d[a]!) d j i = i := by rw [Sort.scanUp, if_neg (by simp [hc])]
  rw [gval_lp]
  simp -implicitDefEqProofs [f0, f1, f4, fi, fj, hc]
  exact k _ i hs.symm (Nat.le_refl _) (.inl rfl) ⟨by simp [f0], by simp [f1], by simp [f4], by simp [fi], by simp [fj]⟩
 | succ m ih =>
  intro i fr hm hi f k
  obtain ⟨f0, f1, f4, fi, fj⟩ := f
  by_cases hc : i ≤ j
  ·have e2 : IntKind.i64.wrap ((i : Int) + 1) = ((i + 1 : Nat) : Int) := by rw [wrap_i64 (by omega) (by omega)]; omega
   have hin : i < n := by omega
   obtain ⟨x, hx⟩ : ∃ x, x = d[i]! := ⟨_, rfl⟩
   obtain ⟨y, hy⟩ : ∃ y, y = d[a]! := ⟨_, rfl⟩
   have ox := h.okAt hin
   have oy := h.okAt ha
   have lx := h.load hin
   have ly := h.load ha
   rw [← hx] at ox lx
   rw [← hy] at oy ly
   have hcv := cmpC_val ox oy S1
   by_cases hl : cmpL x.lb y.lb < 0
   ·have hs : Sort.scanUp (fun x => ltS x d[a]!) d j i = Sort.scanUp (fun x => ltS x d[a]!) d j (i + 1) := by rw [Sort.scanUp.eq_1 _ d j i, if_pos]; simp [hc, ← hx, ← hy, ltS, hl]
    have hL := fun fr' => ih (i + 1) fr' (by omega) (by omega)
    clear ih
    rw [gval_lp]
    simp -implicitDefEqProofs [f0, f1, f4, fi, fj, hc, hin, ha, lx, ly, hcv, hl]
    exact hL _ ⟨by simp [f0], by simp [f1], by simp [f4], by simp [e2], by simp [fj]⟩ (fun fr' r hr q1 q2 q3 => k fr' r (by rw [hs]; exact hr) (by omega) (by omega) q3)
   ·have hs : Sort.scanUp (fun x => ltS x d[a]!) d j i = i := by rw [Sort.scanUp, if_neg]; simp [← hx, ← hy, ltS, hl]
    rw [gval_lp]
    simp -implicitDefEqProofs [f0, f1, f4, fi, fj, hc, hin, ha, lx, ly, hcv, hl]
    exact k _ i hs.symm (Nat.le_refl _) (.inl rfl) ⟨by simp [f0], by simp [f1], by simp [f4], by simp [fi], by simp [fj]⟩
  ·have hs : Sort.scanUp (fun x => ltS x d[a]!) d j i = i := by rw [Sort.scanUp, if_neg (by simp [hc])]
   rw [gval_lp]
   simp -implicitDefEqProofs [f0, f1, f4, fi, fj, hc]
   exact k _ i hs.symm (Nat.le_refl _) (.inl rfl) ⟨by simp [f0], by simp [f1], by simp [f4], by simp [fi], by simp [fj]⟩

theorem pa_dn1 {S S1 : St} {id n a : Nat} {t : List PV} {d : Array Sr} (h : Srt S id n t S1 d) (ha : a < n) {i : Nat} (hi : 1 ≤ i) (hi2 : i ≤ 1000) {K : List Kt} {Q : Fr → St → Prop} : ∀ (j : Nat) (fr : Fr), j < n → QF id n a 12 13 (i : Int) (j : Int) fr →
  (∀ fr' r, r = Sort.scanDown (fun x => !ltS x d[a]!) d i j → r ≤ j → (r = j ∨ i ≤ r + 1) → QF id n a 12 13 (i : Int) (r : Int) fr' → Ok (gval T K fr' S1) Q) →
  Ok (gval T (.lp z7_l1 :: .blk 2 :: K) fr S1) Q := by
 have hle := h.le
 intro j
 induction j with
 | zero =>
  intro fr hj f k
  obtain ⟨f0, f1, f4, fi, fj⟩ := f
  obtain ⟨q, hq⟩ : ∃ q, q = 0 := ⟨_, rfl⟩
  rw [← hq] at fj
  have hc : ¬ i ≤ q := by omega
  rw [gval_lp]
  simp -implicitDefEqProofs [f0, f1, f4, fi, fj, hc]
  exact k _ q (by rw [hq]; rfl) (by omega) (.inl hq) ⟨by simp [f0], by simp [f1], by simp [f4], by simp [fi], by simp [fj]⟩
 | succ j ih =>
  intro fr hj f k
  obtain ⟨f0, f1, f4, fi, fj⟩ := f
  obtain ⟨q, hq⟩ : ∃ q, q = j + 1 := ⟨_, rfl⟩
  rw [← hq] at fj hj
  by_cases hc : i ≤ q
  ·have e2 : IntKind.i64.wrap ((q : Int) - 1) = (j : Int) := by rw [wrap_i64 (by omega) (by omega)]; omega
   obtain ⟨x, hx⟩ : ∃ x, x = d[q]! := ⟨_, rfl⟩
   obtain ⟨y, hy⟩ : ∃ y, y = d[a]! := ⟨_, rfl⟩
   have ox := h.okAt hj
   have oy := h.okAt ha
   have lx := h.load hj
   have ly := h.load ha
   rw [← hx] at ox lx
   rw [← hy] at oy ly
   have hcv := cmpC_val ox oy S1
   have hcq : i ≤ j + 1 := by omega
   have hx' : x = d[j + 1]! := by rw [hx, hq]
   by_cases hl : cmpL x.lb y.lb < 0
   ·have hs : Sort.scanDown (fun x => !ltS x d[a]!) d i (j + 1) = q := by rw [Sort.scanDown, if_neg, hq]; simp [← hx', ← hy, ltS, hl]
    rw [gval_lp]
    simp -implicitDefEqProofs [f0, f1, f4, fi, fj, hc, hj, ha, lx, ly, hcv, hl]
    exact k _ q hs.symm (by omega) (.inl (by omega)) ⟨by simp [f0], by simp [f1], by simp [f4], by simp [fi], by simp [fj]⟩
   ·have hs : Sort.scanDown (fun x => !ltS x d[a]!) d i (j + 1) = Sort.scanDown (fun x => !ltS x d[a]!) d i j := by rw [Sort.scanDown, if_pos]; simp [hcq, ← hx', ← hy, ltS, hl]
    have hL := fun fr' => ih fr' (by omega)
    clear ih
    rw [gval_lp]
    simp -implicitDefEqProofs [f0, f1, f4, fi, fj, hc, hj, ha, lx, ly, hcv, hl]
    exact hL _ ⟨by simp [f0], by simp [f1], by simp [f4], by simp [fi], by simp [e2]⟩ (fun fr' r hr q1 q2 q3 => k fr' r (by rw [hs]; exact hr) (by omega) (by omega) q3)
  ·have hcq : ¬ i ≤ j + 1 := by omega
   have hs : Sort.scanDown (fun x => !ltS x d[a]!) d i (j + 1) = q := by rw [Sort.scanDown, if_neg (by simp [hcq]), hq]
   rw [gval_lp]
   simp -implicitDefEqProofs [f0, f1, f4, fi, fj, hc]
   exact k _ q hs.symm (by omega) (.inl (by omega)) ⟨by simp [f0], by simp [f1], by simp [f4], by simp [fi], by simp [fj]⟩

theorem pa_up3 {S S1 : St} {id n a : Nat} {t : List PV} {d : Array Sr} (h : Srt S id n t S1 d) (ha : a < n) {j : Nat} (hj : j < n) {K : List Kt} {Q : Fr → St → Prop} : ∀ (m i : Nat) (fr : Fr), j + 1 - i ≤ m → i ≤ 1000 → QF id n a 12 13 (i : Int) (j : Int) fr →
  (∀ fr' r, r = Sort.scanUp (fun x => ltS x d[a]!) d j i → i ≤ r → (r = i ∨ r ≤ j + 1) → QF id n a 12 13 (r : Int) (j : Int) fr' → Ok (gval T K fr' S1) Q) →
  Ok (gval T (.lp z7_l3 :: .blk 6 :: K) fr S1) Q := by
 have hle := h.le
 intro m
 induction m with
 | zero =>
  intro i fr hm hi f k
  obtain ⟨f0, f1, f4, fi, fj⟩ := f
  have hc : ¬ i ≤ j := by omega
  have hs : Sort.scanUp (fun x => ltS x d[a]!) d j i = i := by rw [Sort.scanUp, if_neg (by simp [hc])]
  rw [gval_lp]
  simp -implicitDefEqProofs [f0, f1, f4, fi, fj, hc]
  exact k _ i hs.symm (Nat.le_refl _) (.inl rfl) ⟨by simp [f0], by simp [f1], by simp [f4], by simp [fi], by simp [fj]⟩
 | succ m ih =>
  intro i fr hm hi f k
  obtain ⟨f0, f1, f4, fi, fj⟩ := f
  by_cases hc : i ≤ j
  ·have e2 : IntKind.i64.wrap ((i : Int) + 1) = ((i + 1 : Nat) : Int) := by rw [wrap_i64 (by omega) (by omega)]; omega
   have hin : i < n := by omega
   obtain ⟨x, hx⟩ : ∃ x, x = d[i]! := ⟨_, rfl⟩
   obtain ⟨y, hy⟩ : ∃ y, y = d[a]! := ⟨_, rfl⟩
   have ox := h.okAt hin
   have oy := h.okAt ha
   have lx := h.load hin
   have ly := h.load ha
   rw [← hx] at ox lx
   rw [← hy] at oy ly
   have hcv := cmpC_val ox oy S1
   by_cases hl : cmpL x.lb y.lb < 0
   ·have hs : Sort.scanUp (fun x => ltS x d[a]!) d j i = Sort.scanUp (fun x => ltS x d[a]!) d j (i + 1) := by rw [Sort.scanUp.eq_1 _ d j i, if_pos]; simp [hc, ← hx, ← hy, ltS, hl]
    have hL := fun fr' => ih (i + 1) fr' (by omega) (by omega)
    clear ih
    rw [gval_lp]
    simp -implicitDefEqProofs [f0, f1, f4, fi, fj, hc, hin, ha, lx, ly, hcv, hl]
    exact hL _ ⟨by simp [f0], by simp [f1], by simp [f4], by simp [e2], by simp [fj]⟩ (fun fr' r hr q1 q2 q3 => k fr' r (by rw [hs]; exact hr) (by omega) (by omega) q3)
   ·have hs : Sort.scanUp (fun x => ltS x d[a]!) d j i = i := by rw [Sort.scanUp, if_neg]; simp [← hx, ← hy, ltS, hl]
    rw [gval_lp]
    simp -implicitDefEqProofs [f0, f1, f4, fi, fj, hc, hin, ha, lx, ly, hcv, hl]
    exact k _ i hs.symm (Nat.le_refl _) (.inl rfl) ⟨by simp [f0], by simp [f1], by simp [f4], by simp [fi], by simp [fj]⟩
  ·have hs : Sort.scanUp (fun x => ltS x d[a]!) d j i = i := by rw [Sort.scanUp, if_neg (by simp [hc])]
   rw [gval_lp]
   simp -implicitDefEqProofs [f0, f1, f4, fi, fj, hc]
   exact k _ i hs.symm (Nat.le_refl _) (.inl rfl) ⟨by simp [f0], by simp [f1], by simp [f4], by simp [fi], by simp [fj]⟩

theorem pa_dn4 {S S1 : St} {id n a : Nat} {t : List PV} {d : Array Sr} (h : Srt S id n t S1 d) (ha : a < n) {i : Nat} (hi : 1 ≤ i) (hi2 : i ≤ 1000) {K : List Kt} {Q : Fr → St → Prop} : ∀ (j : Nat) (fr : Fr), j < n → QF id n a 12 13 (i : Int) (j : Int) fr →
  (∀ fr' r, r = Sort.scanDown (fun x => !ltS x d[a]!) d i j → r ≤ j → (r = j ∨ i ≤ r + 1) → QF id n a 12 13 (i : Int) (r : Int) fr' → Ok (gval T K fr' S1) Q) →
  Ok (gval T (.lp z7_l4 :: .blk 8 :: K) fr S1) Q := by
 have hle := h.le
 intro j
 induction j with
 | zero =>
  intro fr hj f k
  obtain ⟨f0, f1, f4, fi, fj⟩ := f
  obtain ⟨q, hq⟩ : ∃ q, q = 0 := ⟨_, rfl⟩
  rw [← hq] at fj
  have hc : ¬ i ≤ q := by omega
  rw [gval_lp]
  simp -implicitDefEqProofs [f0, f1, f4, fi, fj, hc]
  exact k _ q (by rw [hq]; rfl) (by omega) (.inl hq) ⟨by simp [f0], by simp [f1], by simp [f4], by simp [fi], by simp [fj]⟩
 | succ j ih =>
  intro fr hj f k
  obtain ⟨f0, f1, f4, fi, fj⟩ := f
  obtain ⟨q, hq⟩ : ∃ q, q = j + 1 := ⟨_, rfl⟩
  rw [← hq] at fj hj
  by_cases hc : i ≤ q
  ·have e2 : IntKind.i64.wrap ((q : Int) - 1) = (j : Int) := by rw [wrap_i64 (by omega) (by omega)]; omega
   obtain ⟨x, hx⟩ : ∃ x, x = d[q]! := ⟨_, rfl⟩
   obtain ⟨y, hy⟩ : ∃ y, y = d[a]! := ⟨_, rfl⟩
   have ox := h.okAt hj
   have oy := h.okAt ha
   have lx := h.load hj
   have ly := h.load ha
   rw [← hx] at ox lx
   rw [← hy] at oy ly
   have hcv := cmpC_val ox oy S1
   have hcq : i ≤ j + 1 := by omega
   have hx' : x = d[j + 1]! := by rw [hx, hq]
   by_cases hl : cmpL x.lb y.lb < 0
   ·have hs : Sort.scanDown (fun x => !ltS x d[a]!) d i (j + 1) = q := by rw [Sort.scanDown, if_neg, hq]; simp [← hx', ← hy, ltS, hl]
    rw [gval_lp]
    simp -implicitDefEqProofs [f0, f1, f4, fi, fj, hc, hj, ha, lx, ly, hcv, hl]
    exact k _ q hs.symm (by omega) (.inl (by omega)) ⟨by simp [f0], by simp [f1], by simp [f4], by simp [fi], by simp [fj]⟩
   ·have hs : Sort.scanDown (fun x => !ltS x d[a]!) d i (j + 1) = Sort.scanDown (fun x => !ltS x d[a]!) d i j := by rw [Sort.scanDown, if_pos]; simp [hcq, ← hx', ← hy, ltS, hl]
    have hL := fun fr' => ih fr' (by omega)
    clear ih
    rw [gval_lp]
    simp -implicitDefEqProofs [f0, f1, f4, fi, fj, hc, hj, ha, lx, ly, hcv, hl]
    exact hL _ ⟨by simp [f0], by simp [f1], by simp [f4], by simp [fi], by simp [e2]⟩ (fun fr' r hr q1 q2 q3 => k fr' r (by rw [hs]; exact hr) (by omega) (by omega) q3)
  ·have hcq : ¬ i ≤ j + 1 := by omega
   have hs : Sort.scanDown (fun x => !ltS x d[a]!) d i (j + 1) = q := by rw [Sort.scanDown, if_neg (by simp [hcq]), hq]
   rw [gval_lp]
   simp -implicitDefEqProofs [f0, f1, f4, fi, fj, hc]
   exact k _ q hs.symm (by omega) (.inl (by omega)) ⟨by simp [f0], by simp [f1], by simp [f4], by simp [fi], by simp [fj]⟩

theorem pe_up1 {S S1 : St} {id n a : Nat} {t : List PV} {d : Array Sr} (h : Srt S id n t S1 d) (ha : a < n) {j : Nat} (hj : j < n) {K : List Kt} {Q : Fr → St → Prop} : ∀ (m i : Nat) (fr : Fr), j + 1 - i ≤ m → i ≤ 1000 → QF id n a 11 12 (i : Int) (j : Int) fr →
  (∀ fr' r, r = Sort.scanUp (fun x => !ltS d[a]! x) d j i → i ≤ r → (r = i ∨ r ≤ j + 1) → QF id n a 11 12 (r : Int) (j : Int) fr' → Ok (gval T K fr' S1) Q) →
  Ok (gval T (.lp z2_l1 :: .blk 2 :: K) fr S1) Q := by
 have hle := h.le
 intro m
 induction m with
 | zero =>
  intro i fr hm hi f k
  obtain ⟨f0, f1, f4, fi, fj⟩ := f
  have hc : ¬ i ≤ j := by omega
  have hs : Sort.scanUp (fun x => !ltS d[a]! x) d j i = i := by rw [Sort.scanUp, if_neg (by simp [hc])]
  rw [gval_lp]
  simp -implicitDefEqProofs [f0, f1, f4, fi, fj, hc]
  exact k _ i hs.symm (Nat.le_refl _) (.inl rfl) ⟨by simp [f0], by simp [f1], by simp [f4], by simp [fi], by simp [fj]⟩
 | succ m ih =>
  intro i fr hm hi f k
  obtain ⟨f0, f1, f4, fi, fj⟩ := f
  by_cases hc : i ≤ j
  ·have e2 : IntKind.i64.wrap ((i : Int) + 1) = ((i + 1 : Nat) : Int) := by rw [wrap_i64 (by omega) (by omega)]; omega
   have hin : i < n := by omega
   obtain ⟨x, hx⟩ : ∃ x, x = d[i]! := ⟨_, rfl⟩
   obtain ⟨y, hy⟩ : ∃ y, y = d[a]! := ⟨_, rfl⟩
   have ox := h.okAt hin
   have oy := h.okAt ha
   have lx := h.load hin
   have ly := h.load ha
   rw [← hx] at ox lx
   rw [← hy] at oy ly
   have hcv := cmpC_val oy ox S1
   by_cases hl : cmpL y.lb x.lb < 0
   ·have hs : Sort.scanUp (fun x => !ltS d[a]! x) d j i = i := by rw [Sort.scanUp, if_neg]; simp [← hx, ← hy, ltS, hl]
    rw [gval_lp]
    simp -implicitDefEqProofs [f0, f1, f4, fi, fj, hc, hin, ha, lx, ly, hcv, hl]
    exact k _ i hs.symm (Nat.le_refl _) (.inl rfl) ⟨by simp [f0], by simp [f1], by simp [f4], by simp [fi], by simp [fj]⟩
   ·have hs : Sort.scanUp (fun x => !ltS d[a]! x) d j i = Sort.scanUp (fun x => !ltS d[a]! x) d j (i + 1) := by rw [Sort.scanUp.eq_1 _ d j i, if_pos]; simp [hc, ← hx, ← hy, ltS, hl]
    have hL := fun fr' => ih (i + 1) fr' (by omega) (by omega)
    clear ih
    rw [gval_lp]
    simp -implicitDefEqProofs [f0, f1, f4, fi, fj, hc, hin, ha, lx, ly, hcv, hl]
    exact hL _ ⟨by simp [f0], by simp [f1], by simp [f4], by simp [e2], by simp [fj]⟩ (fun fr' r hr q1 q2 q3 => k fr' r (by rw [hs]; exact hr) (by omega) (by omega) q3)
  ·have hs : Sort.scanUp (fun x => !ltS d[a]! x) d j i = i := by rw [Sort.scanUp, if_neg (by simp [hc])]
   rw [gval_lp]
   simp -implicitDefEqProofs [f0, f1, f4, fi, fj, hc]
   exact k _ i hs.symm (Nat.le_refl _) (.inl rfl) ⟨by simp [f0], by simp [f1], by simp [f4], by simp [fi], by simp [fj]⟩

theorem pe_dn2 {S S1 : St} {id n a : Nat} {t : List PV} {d : Array Sr} (h : Srt S id n t S1 d) (ha : a < n) {i : Nat} (hi : 1 ≤ i) (hi2 : i ≤ 1000) {K : List Kt} {Q : Fr → St → Prop} : ∀ (j : Nat) (fr : Fr), j < n → QF id n a 11 12 (i : Int) (j : Int) fr →
  (∀ fr' r, r = Sort.scanDown (fun x => ltS d[a]! x) d i j → r ≤ j → (r = j ∨ i ≤ r + 1) → QF id n a 11 12 (i : Int) (r : Int) fr' → Ok (gval T K fr' S1) Q) →
  Ok (gval T (.lp z2_l2 :: .blk 4 :: K) fr S1) Q := by
 have hle := h.le
 intro j
 induction j with
 | zero =>
  intro fr hj f k
  obtain ⟨f0, f1, f4, fi, fj⟩ := f
  obtain ⟨q, hq⟩ : ∃ q, q = 0 := ⟨_, rfl⟩
  rw [← hq] at fj
  have hc : ¬ i ≤ q := by omega
  rw [gval_lp]
  simp -implicitDefEqProofs [f0, f1, f4, fi, fj, hc]
  exact k _ q (by rw [hq]; rfl) (by omega) (.inl hq) ⟨by simp [f0], by simp [f1], by simp [f4], by simp [fi], by simp [fj]⟩
 | succ j ih =>
  intro fr hj f k
  obtain ⟨f0, f1, f4, fi, fj⟩ := f
  obtain ⟨q, hq⟩ : ∃ q, q = j + 1 := ⟨_, rfl⟩
  rw [← hq] at fj hj
  by_cases hc : i ≤ q
  ·have e2 : IntKind.i64.wrap ((q : Int) - 1) = (j : Int) := by rw [wrap_i64 (by omega) (by omega)]; omega
   obtain ⟨x, hx⟩ : ∃ x, x = d[q]! := ⟨_, rfl⟩
   obtain ⟨y, hy⟩ : ∃ y, y = d[a]! := ⟨_, rfl⟩
   have ox := h.okAt hj
   have oy := h.okAt ha
   have lx := h.load hj
   have ly := h.load ha
   rw [← hx] at ox lx
   rw [← hy] at oy ly
   have hcv := cmpC_val oy ox S1
   have hcq : i ≤ j + 1 := by omega
   have hx' : x = d[j + 1]! := by rw [hx, hq]
   by_cases hl : cmpL y.lb x.lb < 0
   ·have hs : Sort.scanDown (fun x => ltS d[a]! x) d i (j + 1) = Sort.scanDown (fun x => ltS d[a]! x) d i j := by rw [Sort.scanDown, if_pos]; simp [hcq, ← hx', ← hy, ltS, hl]
    have hL := fun fr' => ih fr' (by omega)
    clear ih
    rw [gval_lp]
    simp -implicitDefEqProofs [f0, f1, f4, fi, fj, hc, hj, ha, lx, ly, hcv, hl]
    exact hL _ ⟨by simp [f0], by simp [f1], by simp [f4], by simp [fi], by simp [e2]⟩ (fun fr' r hr q1 q2 q3 => k fr' r (by rw [hs]; exact hr) (by omega) (by omega) q3)
   ·have hs : Sort.scanDown (fun x => ltS d[a]! x) d i (j + 1) = q := by rw [Sort.scanDown, if_neg, hq]; simp [← hx', ← hy, ltS, hl]
    rw [gval_lp]
    simp -implicitDefEqProofs [f0, f1, f4, fi, fj, hc, hj, ha, lx, ly, hcv, hl]
    exact k _ q hs.symm (by omega) (.inl (by omega)) ⟨by simp [f0], by simp [f1], by simp [f4], by simp [fi], by simp [fj]⟩
  ·have hcq : ¬ i ≤ j + 1 := by omega
   have hs : Sort.scanDown (fun x => ltS d[a]! x) d i (j + 1) = q := by rw [Sort.scanDown, if_neg (by simp [hcq]), hq]
   rw [gval_lp]
   simp -implicitDefEqProofs [f0, f1, f4, fi, fj, hc]
   exact k _ q hs.symm (by omega) (.inl (by omega)) ⟨by simp [f0], by simp [f1], by simp [f4], by simp [fi], by simp [fj]⟩
end Ps
namespace Ps
set_option linter.unusedSimpArgs false
set_option linter.unusedVariables false
open Go
theorem fn_388 : T.fn 388 = some (.code z7) := rfl
theorem fn_387 : T.fn 387 = some (.code z2) := rfl

theorem pa_go {S : St} {id n a : Nat} {t : List PV} (hn : n ≤ 256) (ha : a < n) {K : List Kt} {Q : Fr → St → Prop} : ∀ (m i j : Nat) (d : Array Sr) (fr : Fr) (S1 : St), j + 1 - i ≤ m → 1 ≤ i → i ≤ j + 2 → j < n → Srt S id n t S1 d → QF id n a 12 13 (i : Int) (j : Int) fr →
  (∀ fr' S2 (i' : Int), Srt S id n t S2 (Sort.partLoop ltS a i j d).2 → (Sort.partLoop ltS a i j d).1 < n → QF id n a 12 13 i' ((Sort.partLoop ltS a i j d).1 : Int) fr' → Ok (gval T K fr' S2) Q) →
  Ok (gval T (.lp z7_l2 :: .blk 4 :: K) fr S1) Q := by
 intro m
 induction m using Nat.strongRecOn with
 | ind m ih =>
  intro i j d fr S1 hm h1 hij hj h f k
  obtain ⟨f0, f1, f4, fi, fj⟩ := f
  rw [gval_lp]
  simp -implicitDefEqProofs
  refine pa_up3 h ha hj (j + 1 - i) i _ (Nat.le_refl _) (by omega) ⟨by simp [f0], by simp [f1], by simp [f4], by simp [fi], by simp [fj]⟩ (fun fr2 i2 hi2 q1 q2 F => ?_)
  obtain ⟨f0, f1, f4, fi, fj⟩ := F
  simp -implicitDefEqProofs
  refine pa_dn4 h ha (by omega : 1 ≤ i2) (by omega) j _ hj ⟨by simp [f0], by simp [f1], by simp [f4], by simp [fi], by simp [fj]⟩ (fun fr3 j2 hj2 p1' p2' F => ?_)
  obtain ⟨f0, f1, f4, fi, fj⟩ := F
  have hpl : Sort.partLoop ltS a i j d = if i2 > j2 then (j2, d) else Sort.partLoop ltS a (i2 + 1) (j2 - 1) (Sort.swp d i2 j2) := by
   rw [Sort.partLoop]
   simp only [← hi2, ← hj2]
   split
   ·rfl
   ·rename_i hc
    rw [dif_pos (by omega)]
  by_cases hc : i2 > j2
  ·rw [if_pos hc] at hpl
   rw [hpl] at k
   clear ih
   have hc' : (j2 : Int) < (i2 : Int) := by omega
   have hc2 : j2 < i2 := hc
   simp -implicitDefEqProofs [f0, f1, f4, fi, fj, hc', hc2]
   exact k _ S1 (i2 : Int) h (by simp only; omega) ⟨by simp [f0], by simp [f1], by simp [f4], by simp [fi], by simp [fj]⟩
  ·rw [if_neg hc] at hpl
   rw [hpl] at k
   have hc2 : ¬ j2 < i2 := hc
   have e1 : IntKind.i64.wrap ((i2 : Int) + 1) = ((i2 + 1 : Nat) : Int) := by rw [wrap_i64 (by omega) (by omega)]; omega
   have e2 : IntKind.i64.wrap ((j2 : Int) - 1) = ((j2 - 1 : Nat) : Int) := by rw [wrap_i64 (by omega) (by omega)]; omega
   have hi2n : i2 < n := by omega
   have hj2n : j2 < n := by omega
   obtain ⟨x, hx⟩ : ∃ x, x = d[i2]! := ⟨_, rfl⟩
   obtain ⟨y, hy⟩ : ∃ y, y = d[j2]! := ⟨_, rfl⟩
   have ox := h.okAt hi2n
   have oy := h.okAt hj2n
   have lx := h.load hi2n
   have ly := h.load hj2n
   rw [← hx] at ox lx
   rw [← hy] at oy ly
   obtain ⟨cs, S2, m1, m2, m3, m4, hS2, hsw⟩ := h.swap hi2n hj2n hx hy
   have hL := fun fr' => ih (j + 1 - i - 1) (by omega) (i2 + 1) (j2 - 1) (Sort.swp d i2 j2) fr' S2 (by omega) (by omega) (by omega) (by omega) hsw
   clear ih
   simp -implicitDefEqProofs [f0, f1, f4, fi, fj, hc2, hi2n, hj2n, lx, ly, pstep, m1, m2, m3, m4, ox.one, oy.one]
   rw [← hS2]
   exact hL _ ⟨by simp [f0], by simp [f1], by simp [f4], by simp [e1], by simp [e2]⟩ k

theorem part_val {S S1 : St} {id n : Nat} {t : List PV} {d : Array Sr} (h : Srt S id n t S1 d) {a b p : Nat} (hab : a < b) (hb : b ≤ n) (hp : p < n) :
  ∃ S2, cval T 388 [.osl id 0 n 2, .int .i64 (a : Int), .int .i64 (b : Int), .int .i64 (p : Int), .fn 287 []] S1 = some (.tup [.int .i64 ((Sort.partition ltS d a b p).1 : Int), .bool (Sort.partition ltS d a b p).2.1], S2) ∧ Srt S id n t S2 (Sort.partition ltS d a b p).2.2 := by
 have hle := h.le
 have ha : a < n := by omega
 obtain ⟨r, hr⟩ : ∃ r, r = Sort.partition ltS d a b p := ⟨_, rfl⟩
 rw [← hr]
 obtain ⟨b1, hb1⟩ : ∃ b1, b1 = b - 1 := ⟨_, rfl⟩
 have e1 : IntKind.i64.wrap ((a : Int) + 1) = ((a + 1 : Nat) : Int) := by rw [wrap_i64 (by omega) (by omega)]; omega
 have e2 : IntKind.i64.wrap ((b : Int) - 1) = (b1 : Int) := by rw [wrap_i64 (by omega) (by omega)]; omega
 obtain ⟨x, hx⟩ : ∃ x, x = d[a]! := ⟨_, rfl⟩
 obtain ⟨y, hy⟩ : ∃ y, y = d[p]! := ⟨_, rfl⟩
 have ox := h.okAt ha
 have oy := h.okAt hp
 have lx := h.load ha
 have ly := h.load hp
 rw [← hx] at ox lx
 rw [← hy] at oy ly
 obtain ⟨cs, S2, m1, m2, m3, m4, hS2, hsw⟩ := h.swap ha hp hx hy
 obtain ⟨d1, hd1⟩ : ∃ d1, d1 = Sort.swp d a p := ⟨_, rfl⟩
 rw [← hd1] at hsw
 obtain ⟨v, S3, hc, h3⟩ := cval_ex (T := T) fn_388 (args := [.osl id 0 n 2, .int .i64 (a : Int), .int .i64 (b : Int), .int .i64 (p : Int), .fn 287 []]) (S := S1) rfl (R := fun v S3 => v = .tup [.int .i64 (r.1 : Int), .bool r.2.1] ∧ Srt S id n t S3 r.2.2) (by
  simp -implicitDefEqProofs [-z7_r2_go, z7, ha, hp, lx, ly, pstep, m1, m2, m3, m4, ox.one, oy.one]
  rw [← hS2]
  simp -implicitDefEqProofs [e1, e2]
  refine pa_up0 (a := a) hsw ha (j := b1) (by omega) (b1 + 1 - (a + 1)) (a + 1) _ (Nat.le_refl _) (by omega) ⟨by simp, by simp, by simp, by simp, by simp⟩ (fun fr2 i2 hi2 q1 q2 F => ?_)
  obtain ⟨f0, f1, f4, fi, fj⟩ := F
  simp -implicitDefEqProofs
  refine pa_dn1 (a := a) hsw ha (i := i2) (by omega) (by omega) b1 _ (by omega) ⟨by simp [f0], by simp [f1], by simp [f4], by simp [fi], by simp [fj]⟩ (fun fr3 j2 hj2 p1' p2' F => ?_)
  obtain ⟨f0, f1, f4, fi, fj⟩ := F
  have hi2n : i2 ≤ n := by omega
  have hj2n : j2 < n := by omega
  obtain ⟨xj, hxj⟩ : ∃ x, x = d1[j2]! := ⟨_, rfl⟩
  have oj := hsw.okAt hj2n
  have lj := hsw.load hj2n
  rw [← hxj] at oj lj
  by_cases hc : i2 > j2
  ·have hrr : r = (j2, true, Sort.swp d1 j2 a) := by
    rw [hr, Sort.partition]
    simp only [← hd1, ← hb1, ← hi2, ← hj2, if_pos hc]
   have hc2 : j2 < i2 := hc
   obtain ⟨xa, hxa⟩ : ∃ x, x = d1[a]! := ⟨_, rfl⟩
   have oa := hsw.okAt ha
   have la := hsw.load ha
   rw [← hxa] at oa la
   obtain ⟨cs2, S4, n1, n2, n3, n4, hS4, hsw2⟩ := hsw.swap hj2n ha hxj hxa
   simp -implicitDefEqProofs [f0, f1, f4, fi, fj, hc2, hj2n, ha, lj, la, pstep, n1, n2, n3, n4, oj.one, oa.one]
   rw [← hS4, fin_raw, hrr]
   exact ⟨rfl, hsw2⟩
  ·have hc2 : ¬ j2 < i2 := hc
   have hi2n' : i2 < n := by omega
   obtain ⟨xi, hxi⟩ : ∃ x, x = d1[i2]! := ⟨_, rfl⟩
   have oi := hsw.okAt hi2n'
   have li := hsw.load hi2n'
   rw [← hxi] at oi li
   obtain ⟨cs2, S4, n1, n2, n3, n4, hS4, hsw2⟩ := hsw.swap hi2n' hj2n hxi hxj
   obtain ⟨pl, hpl⟩ : ∃ pl, pl = Sort.partLoop ltS a (i2 + 1) (j2 - 1) (Sort.swp d1 i2 j2) := ⟨_, rfl⟩
   have hrr : r = (pl.1, false, Sort.swp pl.2 pl.1 a) := by
    rw [hr, Sort.partition]
    simp only [← hd1, ← hb1, ← hi2, ← hj2, if_neg hc, ← hpl]
   have e3 : IntKind.i64.wrap ((i2 : Int) + 1) = ((i2 + 1 : Nat) : Int) := by rw [wrap_i64 (by omega) (by omega)]; omega
   have e4 : IntKind.i64.wrap ((j2 : Int) - 1) = ((j2 - 1 : Nat) : Int) := by rw [wrap_i64 (by omega) (by omega)]; omega
   simp -implicitDefEqProofs [f0, f1, f4, fi, fj, hc2, hj2n, hi2n', lj, li, pstep, n1, n2, n3, n4, oj.one, oi.one]
   rw [← hS4]
   refine pa_go (a := a) hle ha _ (i2 + 1) (j2 - 1) (Sort.swp d1 i2 j2) _ S4 (Nat.le_refl _) (by omega) (by omega) (by omega) hsw2 ⟨by simp [f0], by simp [f1], by simp [f4], by simp [e3], by simp [e4]⟩ (fun fr4 S5 i' x5 hl5 F => ?_)
   obtain ⟨f0, f1, f4, fi, fj⟩ := F
   rw [← hpl] at x5 hl5 fj
   obtain ⟨xp, hxp⟩ : ∃ x, x = pl.2[pl.1]! := ⟨_, rfl⟩
   obtain ⟨xa, hxa⟩ : ∃ x, x = pl.2[a]! := ⟨_, rfl⟩
   have op := x5.okAt hl5
   have lp := x5.load hl5
   have oa := x5.okAt ha
   have la := x5.load ha
   rw [← hxp] at op lp
   rw [← hxa] at oa la
   obtain ⟨cs5, S6, k1, k2, k3, k4, hS6, hsw5⟩ := x5.swap hl5 ha hxp hxa
   simp -implicitDefEqProofs [f0, f1, f4, fi, fj, hl5, ha, lp, la, pstep, k1, k2, k3, k4, op.one, oa.one]
   rw [← hS6, fin_raw, hrr]
   exact ⟨rfl, hsw5⟩)
 exact ⟨S3, by rw [hc, h3.1], h3.2⟩
end Ps
