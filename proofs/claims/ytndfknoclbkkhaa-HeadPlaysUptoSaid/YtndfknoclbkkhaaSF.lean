/- Series sorted: insertion, in part. -/
import Derived.Test.YtndfknoclbkkhaaSE
namespace Ps
set_option linter.unusedSimpArgs false
set_option linter.unusedVariables false
open Go
theorem fn_386 : T.fn 386 = some (.code z0) := rfl

structure PF (id n a b : Nat) (i j : Int) (fr : Fr) : Prop where
 f0 : fr 0 = .osl id 0 n 2
 f1 : fr 1 = .int .i64 (a : Int)
 f2 : fr 2 = .int .i64 (b : Int)
 f3 : fr 3 = .fn 287 []
 f9 : fr 9 = .int .i64 i
 f10 : fr 10 = .int .i64 j

theorem pis_scan {S : St} {id n a b : Nat} {t : List PV} {j : Int} {d : Array Sr} {S1 : St} (h : Srt S id n t S1 d) (hb : b ≤ n) {K : List Kt} {Q : Fr → St → Prop} : ∀ (m i : Nat) (fr : Fr), b - i ≤ m → 1 ≤ i → i ≤ b → PF id n a b (i : Int) j fr →
  (∀ fr' r, r = Sort.scanSorted ltS d b i → i ≤ r → r ≤ b → PF id n a b (r : Int) j fr' → Ok (gval T K fr' S1) Q) →
  Ok (gval T (.lp z0_l1 :: .blk 2 :: K) fr S1) Q := by
 have hle := h.le
 intro m
 induction m with
 | zero =>
  intro i fr hm h1 hi f k
  obtain ⟨f0, f1, f2, f3, f9, f10⟩ := f
  have hc : ¬ i < b := by omega
  have hs : Sort.scanSorted ltS d b i = i := by rw [Sort.scanSorted, if_neg (by simp [hc])]
  rw [gval_lp]
  simp -implicitDefEqProofs [f0, f1, f2, f3, f9, f10, hc]
  exact k _ i hs.symm (Nat.le_refl _) hi ⟨by simp [f0], by simp [f1], by simp [f2], by simp [f3], by simp [f9], by simp [f10]⟩
 | succ m ih =>
  intro i fr hm h1 hi f k
  obtain ⟨f0, f1, f2, f3, f9, f10⟩ := f
  by_cases hc : i < b
  ·obtain ⟨i1, hi1⟩ : ∃ i1, i1 = i - 1 := ⟨_, rfl⟩
   have e1 : IntKind.i64.wrap ((i : Int) - 1) = (i1 : Int) := by rw [wrap_i64 (by omega) (by omega)]; omega
   have e2 : IntKind.i64.wrap ((i : Int) + 1) = ((i + 1 : Nat) : Int) := by rw [wrap_i64 (by omega) (by omega)]; omega
   have hin : i < n := by omega
   have hin1 : i1 < n := by omega
   obtain ⟨x, hx⟩ : ∃ x, x = d[i]! := ⟨_, rfl⟩
   obtain ⟨y, hy⟩ : ∃ y, y = d[i1]! := ⟨_, rfl⟩
   have ox := h.okAt hin
   have oy := h.okAt hin1
   have lx := h.load hin
   have ly := h.load hin1
   rw [← hx] at ox lx
   rw [← hy] at oy ly
   have hcv := cmpC_val ox oy S1
   by_cases hl : cmpL x.lb y.lb < 0
   ·have hs : Sort.scanSorted ltS d b i = i := by rw [Sort.scanSorted, if_neg]; simp [← hi1, ← hx, ← hy, ltS, hl]
    rw [gval_lp]
    simp -implicitDefEqProofs [f0, f1, f2, f3, f9, f10, hc, e1, hin, hin1, lx, ly, hcv, hl]
    exact k _ i hs.symm (Nat.le_refl _) hi ⟨by simp [f0], by simp [f1], by simp [f2], by simp [f3], by simp [f9], by simp [f10]⟩
   ·have hs : Sort.scanSorted ltS d b i = Sort.scanSorted ltS d b (i + 1) := by rw [Sort.scanSorted.eq_1 ltS d b i, if_pos]; simp [hc, ← hi1, ← hx, ← hy, ltS, hl]
    have hL := fun fr' => ih (i + 1) fr' (by omega) (by omega) (by omega)
    clear ih
    rw [gval_lp]
    simp -implicitDefEqProofs [f0, f1, f2, f3, f9, f10, hc, e1, hin, hin1, lx, ly, hcv, hl]
    exact hL _ ⟨by simp [f0], by simp [f1], by simp [f2], by simp [f3], by simp [e2], by simp [f10]⟩ (fun fr' r hr q1 q2 q3 => k fr' r (by rw [hs]; exact hr) (by omega) q2 q3)
  ·have hs : Sort.scanSorted ltS d b i = i := by rw [Sort.scanSorted, if_neg (by simp [hc])]
   rw [gval_lp]
   simp -implicitDefEqProofs [f0, f1, f2, f3, f9, f10, hc]
   exact k _ i hs.symm (Nat.le_refl _) hi ⟨by simp [f0], by simp [f1], by simp [f2], by simp [f3], by simp [f9], by simp [f10]⟩

theorem pis_down {S : St} {id n a b : Nat} {t : List PV} {i jj : Int} (hn : n ≤ 256) {K : List Kt} {Q : Fr → St → Prop} : ∀ (j : Nat) (d : Array Sr) (fr : Fr) (S1 : St), Srt S id n t S1 d → j < n → PF id n a b i jj fr → fr 11 = .int .i64 (j : Int) →
  (∀ fr' S2, Srt S id n t S2 (Sort.shiftDown ltS j d) → PF id n a b i jj fr' → Ok (gval T K fr' S2) Q) →
  Ok (gval T (.lp z0_l2 :: .blk 4 :: K) fr S1) Q := by
 intro j
 induction j with
 | zero =>
  intro d fr S1 h hj f f11 k
  obtain ⟨f0, f1, f2, f3, f9, f10⟩ := f
  rw [gval_lp]
  simp -implicitDefEqProofs [f0, f1, f2, f3, f9, f10, f11]
  exact k _ S1 h ⟨by simp [f0], by simp [f1], by simp [f2], by simp [f3], by simp [f9], by simp [f10]⟩
 | succ j ih =>
  intro d fr S1 h hj f f11 k
  obtain ⟨f0, f1, f2, f3, f9, f10⟩ := f
  obtain ⟨q, hq⟩ : ∃ q, q = j + 1 := ⟨_, rfl⟩
  rw [← hq] at f11 hj
  have e1 : IntKind.i64.wrap ((q : Int) - 1) = (j : Int) := by rw [wrap_i64 (by omega) (by omega)]; omega
  have hq1 : (1 : Int) ≤ (q : Int) := by omega
  have hjn : j < n := by omega
  obtain ⟨x, hx⟩ : ∃ x, x = d[q]! := ⟨_, rfl⟩
  obtain ⟨y, hy⟩ : ∃ y, y = d[j]! := ⟨_, rfl⟩
  have ox := h.okAt hj
  have oy := h.okAt hjn
  have lx := h.load hj
  have ly := h.load hjn
  rw [← hx] at ox lx
  rw [← hy] at oy ly
  have hcv := cmpC_val ox oy S1
  by_cases hl : cmpL x.lb y.lb < 0
  ·have hs : Sort.shiftDown ltS (j + 1) d = Sort.shiftDown ltS j (Sort.swp d q j) := by
    rw [Sort.shiftDown, if_neg, ← hq]
    simp [← hq, ← hx, ← hy, ltS, hl]
   rw [hs] at k
   obtain ⟨cs, S2, m1, m2, m3, m4, hS2, hsw⟩ := h.swap hj hjn hx hy
   have hL := fun fr' => ih (Sort.swp d q j) fr' S2 hsw hjn
   clear ih
   rw [gval_lp]
   simp -implicitDefEqProofs [f0, f1, f2, f3, f9, f10, f11, hq1, e1, hj, hjn, lx, ly, hcv, hl, pstep, m1, m2, m3, m4, ox.one, oy.one]
   rw [← hS2]
   exact hL _ ⟨by simp [f0], by simp [f1], by simp [f2], by simp [f3], by simp [f9], by simp [f10]⟩ (by simp [e1]) k
  ·have hs : Sort.shiftDown ltS (j + 1) d = d := by
    rw [Sort.shiftDown, if_pos]
    simp [← hq, ← hx, ← hy, ltS, hl]
   rw [hs] at k
   rw [gval_lp]
   simp -implicitDefEqProofs [f0, f1, f2, f3, f9, f10, f11, hq1, e1, hj, hjn, lx, ly, hcv, hl]
   exact k _ S1 h ⟨by simp [f0], by simp [f1], by simp [f2], by simp [f3], by simp [f9], by simp [f10]⟩

theorem pis_up {S : St} {id n a b : Nat} {t : List PV} {i jj : Int} (hn : n ≤ 256) (hb : b ≤ n) {K : List Kt} {Q : Fr → St → Prop} : ∀ (m j : Nat) (d : Array Sr) (fr : Fr) (S1 : St), b - j ≤ m → 1 ≤ j → j ≤ b + 1 → Srt S id n t S1 d → PF id n a b i jj fr → fr 12 = .int .i64 (j : Int) →
  (∀ fr' S2, Srt S id n t S2 (Sort.shiftUp ltS b j d) → PF id n a b i jj fr' → Ok (gval T K fr' S2) Q) →
  Ok (gval T (.lp z0_l3 :: .blk 6 :: K) fr S1) Q := by
 intro m
 induction m with
 | zero =>
  intro j d fr S1 hm h1 hjb h f f12 k
  obtain ⟨f0, f1, f2, f3, f9, f10⟩ := f
  have hc : ¬ j < b := by omega
  have hs : Sort.shiftUp ltS b j d = d := by rw [Sort.shiftUp, if_neg hc]
  rw [hs] at k
  rw [gval_lp]
  simp -implicitDefEqProofs [f0, f1, f2, f3, f9, f10, f12, hc]
  exact k _ S1 h ⟨by simp [f0], by simp [f1], by simp [f2], by simp [f3], by simp [f9], by simp [f10]⟩
 | succ m ih =>
  intro j d fr S1 hm h1 hjb h f f12 k
  obtain ⟨f0, f1, f2, f3, f9, f10⟩ := f
  by_cases hc : j < b
  ·obtain ⟨q, hq⟩ : ∃ q, q = j - 1 := ⟨_, rfl⟩
   have e1 : IntKind.i64.wrap ((j : Int) - 1) = (q : Int) := by rw [wrap_i64 (by omega) (by omega)]; omega
   have e2 : IntKind.i64.wrap ((j : Int) + 1) = ((j + 1 : Nat) : Int) := by rw [wrap_i64 (by omega) (by omega)]; omega
   have hj : j < n := by omega
   have hqn : q < n := by omega
   obtain ⟨x, hx⟩ : ∃ x, x = d[j]! := ⟨_, rfl⟩
   obtain ⟨y, hy⟩ : ∃ y, y = d[q]! := ⟨_, rfl⟩
   have ox := h.okAt hj
   have oy := h.okAt hqn
   have lx := h.load hj
   have ly := h.load hqn
   rw [← hx] at ox lx
   rw [← hy] at oy ly
   have hcv := cmpC_val ox oy S1
   by_cases hl : cmpL x.lb y.lb < 0
   ·have hs : Sort.shiftUp ltS b j d = Sort.shiftUp ltS b (j + 1) (Sort.swp d j q) := by
     rw [Sort.shiftUp.eq_1 ltS b j d, if_pos hc, if_neg, ← hq]
     simp [← hq, ← hx, ← hy, ltS, hl]
    rw [hs] at k
    obtain ⟨cs, S2, m1, m2, m3, m4, hS2, hsw⟩ := h.swap hj hqn hx hy
    have hL := fun fr' => ih (j + 1) (Sort.swp d j q) fr' S2 (by omega) (by omega) (by omega) hsw
    clear ih
    rw [gval_lp]
    simp -implicitDefEqProofs [f0, f1, f2, f3, f9, f10, f12, hc, e1, hj, hqn, lx, ly, hcv, hl, pstep, m1, m2, m3, m4, ox.one, oy.one]
    rw [← hS2]
    exact hL _ ⟨by simp [f0], by simp [f1], by simp [f2], by simp [f3], by simp [f9], by simp [f10]⟩ (by simp [e2]) k
   ·have hs : Sort.shiftUp ltS b j d = d := by
     rw [Sort.shiftUp, if_pos hc, if_pos]
     simp [← hq, ← hx, ← hy, ltS, hl]
    rw [hs] at k
    rw [gval_lp]
    simp -implicitDefEqProofs [f0, f1, f2, f3, f9, f10, f12, hc, e1, hj, hqn, lx, ly, hcv, hl]
    exact k _ S1 h ⟨by simp [f0], by simp [f1], by simp [f2], by simp [f3], by simp [f9], by simp [f10]⟩
  ·have hs : Sort.shiftUp ltS b j d = d := by rw [Sort.shiftUp, if_neg hc]
   rw [hs] at k
   rw [gval_lp]
   simp -implicitDefEqProofs [f0, f1, f2, f3, f9, f10, f12, hc]
   exact k _ S1 h ⟨by simp [f0], by simp [f1], by simp [f2], by simp [f3], by simp [f9], by simp [f10]⟩

theorem pis_go {S : St} {id n a b : Nat} {t : List PV} (hn : n ≤ 256) (hb : b ≤ n) (hab : a < b) {K : List Kt} {Q : Fr → St → Prop} : ∀ (s i : Nat) (d : Array Sr) (fr : Fr) (S1 : St), s ≤ 5 → a + 1 ≤ i → i ≤ b → Srt S id n t S1 d → PF id n a b (i : Int) ((5 - s : Nat) : Int) fr →
  (∀ fr' S2, Srt S id n t S2 (Sort.partialIns ltS a b s i d).1 → fr' 8 = .bool (Sort.partialIns ltS a b s i d).2 → Q fr' S2) →
  (∀ fr' S2, Srt S id n t S2 (Sort.partialIns ltS a b s i d).1 → (Sort.partialIns ltS a b s i d).2 = false → Ok (gval T K fr' S2) Q) →
  Ok (gval T (.lp z0_l0 :: .blk 0 :: K) fr S1) Q := by
 intro s
 induction s with
 | zero =>
  intro i d fr S1 hs5 ha hi h f k1 k2
  obtain ⟨f0, f1, f2, f3, f9, f10⟩ := f
  rw [gval_lp]
  simp -implicitDefEqProofs [f0, f1, f2, f3, f9, f10]
  exact k2 _ S1 h rfl
 | succ s ih =>
  intro i d fr S1 hs5 ha hi h f k1 k2
  obtain ⟨f0, f1, f2, f3, f9, f10⟩ := f
  obtain ⟨j, hj⟩ : ∃ j, j = 5 - (s + 1) := ⟨_, rfl⟩
  rw [← hj] at f10
  have hj5 : (j : Int) < 5 := by omega
  have hj5' : j < 5 := by omega
  have ej : IntKind.i64.wrap ((j : Int) + 1) = ((5 - s : Nat) : Int) := by rw [wrap_i64 (by omega) (by omega)]; omega
  rw [gval_lp]
  simp -implicitDefEqProofs [f0, f1, f2, f3, f9, f10, hj5, hj5']
  refine pis_scan (a := a) (j := (j : Int)) h hb (b - i) i _ (Nat.le_refl _) (by omega) hi ⟨by simp [f0], by simp [f1], by simp [f2], by simp [f3], by simp [f9], by simp [f10]⟩ (fun fr' r hr q1 q2 F => ?_)
  obtain ⟨g0, g1, g2, g3, g9, g10⟩ := F
  by_cases hrb : r = b
  ·have hp : Sort.partialIns ltS a b (s + 1) i d = (d, true) := by
    rw [Sort.partialIns]
    simp only [← hr, if_pos hrb]
   rw [hp] at k1
   subst hrb
   clear ih k2
   simp -implicitDefEqProofs [g0, g1, g2, g3, g9, g10]
   exact k1 _ S1 h (by simp)
  have hrb' : ((r : Int) == (b : Int)) = false := by rw [beq_eq_false_iff_ne]; omega
  have eba : IntKind.i64.wrap ((b : Int) - (a : Int)) = ((b - a : Nat) : Int) := by rw [wrap_i64 (by omega) (by omega)]; omega
  by_cases h50 : b - a < 50
  ·have h50' : ((b - a : Nat) : Int) < 50 := by omega
   have hp : Sort.partialIns ltS a b (s + 1) i d = (d, false) := by
    rw [Sort.partialIns]
    simp only [← hr, if_neg hrb, if_pos h50]
   rw [hp] at k1
   obtain ⟨bb, hbb⟩ : ∃ bb, bb = b - a := ⟨_, rfl⟩
   rw [← hbb] at eba h50'
   clear ih k2
   simp -implicitDefEqProofs [g0, g1, g2, g3, g9, g10, hrb, hrb', eba, h50']
   exact k1 _ S1 h (by simp)
  have h50' : ¬ ((b - a : Nat) : Int) < 50 := by omega
  obtain ⟨bb, hbb⟩ : ∃ bb, bb = b - a := ⟨_, rfl⟩
  rw [← hbb] at eba h50'
  obtain ⟨r1, hr1⟩ : ∃ r1, r1 = r - 1 := ⟨_, rfl⟩
  have e1 : IntKind.i64.wrap ((r : Int) - 1) = (r1 : Int) := by rw [wrap_i64 (by omega) (by omega)]; omega
  have hrn : r < n := by omega
  have hrn1 : r1 < n := by omega
  obtain ⟨x, hx⟩ : ∃ x, x = d[r]! := ⟨_, rfl⟩
  obtain ⟨y, hy⟩ : ∃ y, y = d[r1]! := ⟨_, rfl⟩
  have ox := h.okAt hrn
  have oy := h.okAt hrn1
  have lx := h.load hrn
  have ly := h.load hrn1
  rw [← hx] at ox lx
  rw [← hy] at oy ly
  obtain ⟨cs, S2, m1, m2, m3, m4, hS2, hsw⟩ := h.swap hrn hrn1 hx hy
  obtain ⟨dd, hdd⟩ : ∃ dd, dd = if r - a ≥ 2 then Sort.shiftDown ltS (r - 1) (Sort.swp d r (r - 1)) else Sort.swp d r (r - 1) := ⟨_, rfl⟩
  obtain ⟨du, hdu⟩ : ∃ du, du = if b - r ≥ 2 then Sort.shiftUp ltS b (r + 1) dd else dd := ⟨_, rfl⟩
  have hp : Sort.partialIns ltS a b (s + 1) i d = Sort.partialIns ltS a b s r du := by
   rw [Sort.partialIns]
   simp only [← hr, if_neg hrb, if_neg h50, ← hdd, ← hdu]
  rw [hp] at k1 k2
  have era : IntKind.i64.wrap ((r : Int) - (a : Int)) = ((r - a : Nat) : Int) := by rw [wrap_i64 (by omega) (by omega)]; omega
  have ebr : IntKind.i64.wrap ((b : Int) - (r : Int)) = ((b - r : Nat) : Int) := by rw [wrap_i64 (by omega) (by omega)]; omega
  have er1 : IntKind.i64.wrap ((r : Int) + 1) = ((r + 1 : Nat) : Int) := by rw [wrap_i64 (by omega) (by omega)]; omega
  -- behind the shift up
  have tailU : ∀ (fr2 : Fr) (S3 : St), Srt S id n t S3 du → PF id n a b (r : Int) (j : Int) fr2 →
    Ok (gval T (.blk 1 :: .code (.clr [(17, 19)] (.region z0_r4)) :: .lp z0_l0 :: .blk 0 :: K) fr2 S3) Q := by
   intro fr2 S3 x2 F
   obtain ⟨g0, g1, g2, g3, g9, g10⟩ := F
   have hL := fun fr' => ih r du fr' S3 (by omega) (by omega) q2 x2
   clear ih
   simp -implicitDefEqProofs [g0, g1, g2, g3, g9, g10]
   exact hL _ ⟨by simp [g0], by simp [g1], by simp [g2], by simp [g3], by simp [g9], by simp [ej]⟩ k1 k2
  -- behind the shift down
  have tailD : ∀ (fr2 : Fr) (S3 : St), Srt S id n t S3 dd → PF id n a b (r : Int) (j : Int) fr2 →
    Ok (gval T (.code (.seq (.clr [(101, 104)] (.region z0_r18)) (.cond (.tmp 104) (.seq (.clr [(105, 107)] (.region z0_r19)) (.block 6 (.loop z0_l3))) .skip)) :: .blk 1 :: .code (.clr [(17, 19)] (.region z0_r4)) :: .lp z0_l0 :: .blk 0 :: K) fr2 S3) Q := by
   intro fr2 S3 x2 F
   obtain ⟨g0, g1, g2, g3, g9, g10⟩ := F
   by_cases c2 : b - r ≥ 2
   ·have c2' : (2 : Int) ≤ ((b - r : Nat) : Int) := by omega
    rw [if_pos c2] at hdu
    obtain ⟨br, hbr⟩ : ∃ br, br = b - r := ⟨_, rfl⟩
    rw [← hbr] at ebr c2'
    simp -implicitDefEqProofs [g0, g1, g2, g3, g9, g10, ebr, c2']
    refine pis_up (a := a) (i := (r : Int)) (jj := (j : Int)) hn hb (b - (r + 1)) (r + 1) dd _ S3 (Nat.le_refl _) (by omega) (by omega) x2 ⟨by simp [g0], by simp [g1], by simp [g2], by simp [g3], by simp [g9], by simp [g10]⟩ (by simp [er1]) (fun fr' S4 y1 F => ?_)
    exact tailU fr' S4 (by rw [hdu]; exact y1) F
   ·have c2' : ¬ (2 : Int) ≤ ((b - r : Nat) : Int) := by omega
    rw [if_neg c2] at hdu
    obtain ⟨br, hbr⟩ : ∃ br, br = b - r := ⟨_, rfl⟩
    rw [← hbr] at ebr c2'
    have hL := fun fr' => tailU fr' S3 (by rw [hdu]; exact x2)
    clear tailU
    simp -implicitDefEqProofs [-z0_r4_go, g0, g1, g2, g3, g9, g10, ebr, c2'] at hL ⊢
    exact hL _ ⟨by simp [g0], by simp [g1], by simp [g2], by simp [g3], by simp [g9], by simp [g10]⟩
  clear ih k1 k2 tailU
  have tailD' := fun fr2 (x2 : Srt S id n t S2 dd) => tailD fr2 S2 x2
  by_cases c2 : r - a ≥ 2
  ·have c2' : (2 : Int) ≤ ((r - a : Nat) : Int) := by omega
   rw [if_pos c2, ← hr1] at hdd
   obtain ⟨ra, hra⟩ : ∃ ra, ra = r - a := ⟨_, rfl⟩
   rw [← hra] at era c2'
   simp -implicitDefEqProofs [-z0_r12_go, g0, g1, g2, g3, g9, g10, hrb, hrb', eba, h50', e1, hrn, hrn1, lx, ly, pstep, m1, m2, m3, m4, ox.one, oy.one]
   rw [← hS2]
   simp -implicitDefEqProofs [g0, g1, g2, g3, g9, g10, era, c2', e1]
   refine pis_down (a := a) (b := b) (i := (r : Int)) (jj := (j : Int)) hn r1 (Sort.swp d r r1) _ S2 hsw hrn1 ⟨by simp [g0], by simp [g1], by simp [g2], by simp [g3], by simp [g9], by simp [g10]⟩ (by simp [e1]) (fun fr2 S3 y1 F => ?_)
   exact tailD fr2 S3 (by rw [hdd]; exact y1) F
  ·have c2' : ¬ (2 : Int) ≤ ((r - a : Nat) : Int) := by omega
   rw [if_neg c2, ← hr1] at hdd
   obtain ⟨ra, hra⟩ : ∃ ra, ra = r - a := ⟨_, rfl⟩
   rw [← hra] at era c2'
   have hL := fun fr2 => tailD fr2 S2 (by rw [hdd]; exact hsw)
   clear tailD tailD'
   simp -implicitDefEqProofs [-z0_r12_go, g0, g1, g2, g3, g9, g10, hrb, hrb', eba, h50', e1, hrn, hrn1, lx, ly, pstep, m1, m2, m3, m4, ox.one, oy.one]
   rw [← hS2]
   simp -implicitDefEqProofs [-z0_r18_go, g0, g1, g2, g3, g9, g10, era, c2'] at hL ⊢
   exact hL _ ⟨by simp [g0], by simp [g1], by simp [g2], by simp [g3], by simp [g9], by simp [g10]⟩

theorem pis_val {S S1 : St} {id n : Nat} {t : List PV} {d : Array Sr} (h : Srt S id n t S1 d) {a b : Nat} (hab : a < b) (hb : b ≤ n) :
  ∃ S2, cval T 386 [.osl id 0 n 2, .int .i64 (a : Int), .int .i64 (b : Int), .fn 287 []] S1 = some (.bool (Sort.partialInsertionSort ltS d a b).2, S2) ∧ Srt S id n t S2 (Sort.partialInsertionSort ltS d a b).1 := by
 have hle := h.le
 have e1 : IntKind.i64.wrap ((a : Int) + 1) = ((a + 1 : Nat) : Int) := by rw [wrap_i64 (by omega) (by omega)]; omega
 obtain ⟨v, S2, hc, h2⟩ := cval_ex (T := T) fn_386 (args := [.osl id 0 n 2, .int .i64 (a : Int), .int .i64 (b : Int), .fn 287 []]) (S := S1) rfl (R := fun v S2 => v = .bool (Sort.partialInsertionSort ltS d a b).2 ∧ Srt S id n t S2 (Sort.partialInsertionSort ltS d a b).1) (by
  simp -implicitDefEqProofs [z0, e1]
  refine pis_go hle hb hab 5 (a + 1) d _ S1 (Nat.le_refl _) (Nat.le_refl _) (by omega) h ⟨by simp, by simp, by simp, by simp, by simp, by simp⟩ (fun fr' S2 x g8 => ?_) (fun fr' S2 x hf => ?_)
  ·rw [fin_raw]; exact ⟨g8, x⟩
  ·simp -implicitDefEqProofs
   rw [fin_raw]; exact ⟨by rw [Sort.partialInsertionSort, hf], x⟩)
 exact ⟨S2, by rw [hc, h2.1], h2.2⟩
end Ps
