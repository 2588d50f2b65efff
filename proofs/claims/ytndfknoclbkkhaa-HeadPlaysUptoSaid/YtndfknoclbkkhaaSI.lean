/- Series sorted: the whole sort. -/
import Derived.Test.YtndfknoclbkkhaaSH
namespace Ps
set_option linter.unusedSimpArgs false
set_option linter.unusedVariables false
open Go
theorem fn_346 : T.fn 346 = some (.code z10) := rfl

theorem pe_go {S : St} {id n a : Nat} {t : List PV} (hn : n ≤ 256) (ha : a < n) {K : List Kt} {Q : Fr → St → Prop} : ∀ (m i j : Nat) (d : Array Sr) (fr : Fr) (S1 : St), j + 1 - i ≤ m → 1 ≤ i → i ≤ j + 2 → j < n → Srt S id n t S1 d → QF id n a 11 12 (i : Int) (j : Int) fr →
  (∀ fr' S2 (j' : Int), Srt S id n t S2 (Sort.partEqLoop ltS a i j d).2 → QF id n a 11 12 ((Sort.partEqLoop ltS a i j d).1 : Int) j' fr' → Ok (gval T K fr' S2) Q) →
  Ok (gval T (.lp z2_l0 :: .blk 0 :: K) fr S1) Q := by
 intro m
 induction m using Nat.strongRecOn with
 | ind m ih =>
  intro i j d fr S1 hm h1 hij hj h f k
  obtain ⟨f0, f1, f4, fi, fj⟩ := f
  rw [gval_lp]
  simp -implicitDefEqProofs
  refine pe_up1 h ha hj (j + 1 - i) i _ (Nat.le_refl _) (by omega) ⟨by simp [f0], by simp [f1], by simp [f4], by simp [fi], by simp [fj]⟩ (fun fr2 i2 hi2 q1 q2 F => ?_)
  obtain ⟨f0, f1, f4, fi, fj⟩ := F
  simp -implicitDefEqProofs
  refine pe_dn2 h ha (by omega : 1 ≤ i2) (by omega) j _ hj ⟨by simp [f0], by simp [f1], by simp [f4], by simp [fi], by simp [fj]⟩ (fun fr3 j2 hj2 p1' p2' F => ?_)
  obtain ⟨f0, f1, f4, fi, fj⟩ := F
  have hpl : Sort.partEqLoop ltS a i j d = if i2 > j2 then (i2, d) else Sort.partEqLoop ltS a (i2 + 1) (j2 - 1) (Sort.swp d i2 j2) := by
   rw [Sort.partEqLoop]
   simp only [← hi2, ← hj2]
   split
   ·rfl
   ·rename_i hc
    rw [dif_pos (by omega)]
  by_cases hc : i2 > j2
  ·rw [if_pos hc] at hpl
   rw [hpl] at k
   clear ih
   have hc2 : j2 < i2 := hc
   simp -implicitDefEqProofs [f0, f1, f4, fi, fj, hc2]
   exact k _ S1 (j2 : Int) h ⟨by simp [f0], by simp [f1], by simp [f4], by simp [fi], by simp [fj]⟩
  ·rw [if_neg hc] at hpl
   rw [hpl] at k
   have hc2 : ¬ j2 < i2 := hc
   have e1 : IntKind.i64.wrap ((i2 : Int) + 1) = ((i2 + 1 : Nat) : Int) := by rw [wrap_i64 (by omega) (by omega)]; omega
   have e2 : IntKind.i64.wrap ((j2 : Int) - 1) = ((j2 - 1 : Nat) : Int) := by rw [wrap_i64 (by omega) (by omega)]; omega
   have hi2n : i2 < n := by omega
   have hj2n : j2 < n := by omega
   obtain ⟨x, hx⟩ : ∃ x, x = d[i2]! := ⟨_, rfl⟩
   obtain ⟨y, hy⟩ : ∃ y, y = d[j2]! := ⟨_, rfl⟩
   have ox := h.okAt hi2n
   have oy := h.okAt hj2n
   have lx := h.load hi2n
   have ly := h.load hj2n
   rw [← hx] at ox lx
   rw [← hy] at oy ly
   obtain ⟨cs, S2, m1, m2, m3, m4, hS2, hsw⟩ := h.swap hi2n hj2n hx hy
   have hL := fun fr' => ih (j + 1 - i - 1) (by omega) (i2 + 1) (j2 - 1) (Sort.swp d i2 j2) fr' S2 (by omega) (by omega) (by omega) (by omega) hsw
   clear ih
   simp -implicitDefEqProofs [f0, f1, f4, fi, fj, hc2, hi2n, hj2n, lx, ly, pstep, m1, m2, m3, m4, ox.one, oy.one]
   rw [← hS2]
   exact hL _ ⟨by simp [f0], by simp [f1], by simp [f4], by simp [e1], by simp [e2]⟩ k

theorem parteq_val {S S1 : St} {id n : Nat} {t : List PV} {d : Array Sr} (h : Srt S id n t S1 d) {a b p : Nat} (hab : a + 1 < b) (hb : b ≤ n) (hp : p < n) :
  ∃ S2, cval T 387 [.osl id 0 n 2, .int .i64 (a : Int), .int .i64 (b : Int), .int .i64 (p : Int), .fn 287 []] S1 = some (.int .i64 ((Sort.partitionEqual ltS d a b p).1 : Int), S2) ∧ Srt S id n t S2 (Sort.partitionEqual ltS d a b p).2 := by
 have hle := h.le
 have ha : a < n := by omega
 obtain ⟨b1, hb1⟩ : ∃ b1, b1 = b - 1 := ⟨_, rfl⟩
 have e1 : IntKind.i64.wrap ((a : Int) + 1) = ((a + 1 : Nat) : Int) := by rw [wrap_i64 (by omega) (by omega)]; omega
 have e2 : IntKind.i64.wrap ((b : Int) - 1) = (b1 : Int) := by rw [wrap_i64 (by omega) (by omega)]; omega
 obtain ⟨x, hx⟩ : ∃ x, x = d[a]! := ⟨_, rfl⟩
 obtain ⟨y, hy⟩ : ∃ y, y = d[p]! := ⟨_, rfl⟩
 have ox := h.okAt ha
 have oy := h.okAt hp
 have lx := h.load ha
 have ly := h.load hp
 rw [← hx] at ox lx
 rw [← hy] at oy ly
 obtain ⟨cs, S2, m1, m2, m3, m4, hS2, hsw⟩ := h.swap ha hp hx hy
 obtain ⟨r, hr⟩ : ∃ r, r = Sort.partitionEqual ltS d a b p := ⟨_, rfl⟩
 have hrr : r = Sort.partEqLoop ltS a (a + 1) b1 (Sort.swp d a p) := by rw [hr, Sort.partitionEqual, hb1]
 rw [← hr]
 obtain ⟨v, S3, hc, h3⟩ := cval_ex (T := T) fn_387 (args := [.osl id 0 n 2, .int .i64 (a : Int), .int .i64 (b : Int), .int .i64 (p : Int), .fn 287 []]) (S := S1) rfl (R := fun v S3 => v = .int .i64 (r.1 : Int) ∧ Srt S id n t S3 r.2) (by
  simp -implicitDefEqProofs [-z2_r2_go, z2, ha, hp, lx, ly, pstep, m1, m2, m3, m4, ox.one, oy.one]
  rw [← hS2]
  simp -implicitDefEqProofs [e1, e2]
  refine pe_go (a := a) hle ha _ (a + 1) b1 (Sort.swp d a p) _ S2 (Nat.le_refl _) (by omega) (by omega) (by omega) hsw ⟨by simp, by simp, by simp, by simp, by simp⟩ (fun fr4 S5 j' x5 F => ?_)
  obtain ⟨f0, f1, f4, fi, fj⟩ := F
  rw [← hrr] at x5 fi
  simp -implicitDefEqProofs [f0, f1, f4, fi, fj]
  rw [fin_raw]; exact ⟨rfl, x5⟩)
 exact ⟨S3, by rw [hc, h3.1], h3.2⟩

def pdC : PCode := (.seq (.clr [(47, 55)] (.region z10_r10)) (.seq (.seq (.clr [(55, 56)] (.region z10_r11)) (.cond (V 56) (.seq (.clr [(57, 62)] (.region z10_r12)) (.seq (.clr [(62, 68)] (.region z10_r13)) (.region z10_r14))) .skip)) (.seq (.seq (.clr [(68, 75)] (.region z10_r15)) (.cond (V 75) (.seq (.clr [(76, 80)] (.region z10_r16)) (.cond (V 80) .ret .skip)) .skip)) (.seq (.seq (.clr [(81, 97)] (.region z10_r17)) (.cond (V 97) (.seq (.clr [(98, 104)] (.region z10_r18)) (.seq (.clr [(104, 105)] (.region z10_r19)) (.exit 1))) .skip)) (.seq (.clr [(105, 114)] (.region z10_r20)) (.seq (.clr [(114, 115)] (.region z10_r21)) (.seq (.clr [(115, 121)] (.region z10_r22)) (.seq (.clr [(121, 123)] (.region z10_r23)) (.seq (.clr [(123, 125)] (.region z10_r24)) (.cond (V 125) (.seq (.clr [(126, 129)] (.region z10_r25)) (.seq (.clr [(129, 135)] (.region z10_r26)) (.clr [(135, 137)] (.region z10_r27)))) (.seq (.clr [(137, 140)] (.region z10_r28)) (.seq (.clr [(140, 147)] (.region z10_r29)) (.clr [(147, 148)] (.region z10_r30))))))))))))))
def pdD : PCode := (.seq (.seq (.clr [(68, 75)] (.region z10_r15)) (.cond (V 75) (.seq (.clr [(76, 80)] (.region z10_r16)) (.cond (V 80) .ret .skip)) .skip)) (.seq (.seq (.clr [(81, 97)] (.region z10_r17)) (.cond (V 97) (.seq (.clr [(98, 104)] (.region z10_r18)) (.seq (.clr [(104, 105)] (.region z10_r19)) (.exit 1))) .skip)) (.seq (.clr [(105, 114)] (.region z10_r20)) (.seq (.clr [(114, 115)] (.region z10_r21)) (.seq (.clr [(115, 121)] (.region z10_r22)) (.seq (.clr [(121, 123)] (.region z10_r23)) (.seq (.clr [(123, 125)] (.region z10_r24)) (.cond (V 125) (.seq (.clr [(126, 129)] (.region z10_r25)) (.seq (.clr [(129, 135)] (.region z10_r26)) (.clr [(135, 137)] (.region z10_r27)))) (.seq (.clr [(137, 140)] (.region z10_r28)) (.seq (.clr [(140, 147)] (.region z10_r29)) (.clr [(147, 148)] (.region z10_r30))))))))))))
def pdE : PCode := (.seq (.seq (.clr [(81, 97)] (.region z10_r17)) (.cond (V 97) (.seq (.clr [(98, 104)] (.region z10_r18)) (.seq (.clr [(104, 105)] (.region z10_r19)) (.exit 1))) .skip)) (.seq (.clr [(105, 114)] (.region z10_r20)) (.seq (.clr [(114, 115)] (.region z10_r21)) (.seq (.clr [(115, 121)] (.region z10_r22)) (.seq (.clr [(121, 123)] (.region z10_r23)) (.seq (.clr [(123, 125)] (.region z10_r24)) (.cond (V 125) (.seq (.clr [(126, 129)] (.region z10_r25)) (.seq (.clr [(129, 135)] (.region z10_r26)) (.clr [(135, 137)] (.region z10_r27)))) (.seq (.clr [(137, 140)] (.region z10_r28)) (.seq (.clr [(140, 147)] (.region z10_r29)) (.clr [(147, 148)] (.region z10_r30)))))))))))

structure PQ (id n a b lim : Nat) (wb wp : Bool) (fr : Fr) : Prop where
 f0 : fr 0 = .osl id 0 n 2
 f1 : fr 1 = .int .i64 (a : Int)
 f2 : fr 2 = .int .i64 (b : Int)
 f3 : fr 3 = .int .i64 (lim : Int)
 f4 : fr 4 = .fn 287 []
 f10 : fr 10 = .bool wb
 f11 : fr 11 = .bool wp

def IHL (S : St) (id n : Nat) (t : List PV) (m : Nat) (K : List Kt) (Q : Fr → St → Prop) : Prop :=
 ∀ (a b lim : Nat) (wb wp : Bool) (d : Array Sr) (fr : Fr) (S1 : St), b - a < m → a ≤ b → b ≤ n → lim ≤ 100 → Srt S id n t S1 d → PQ id n a b lim wb wp fr →
  (∀ fr2 S2, Srt S id n t S2 (Sort.pdq ltS d a b lim wb wp) → Q fr2 S2) → Ok (gval T (.lp z10_l0 :: .blk 0 :: K) fr S1) Q
def IHC (S : St) (id n : Nat) (t : List PV) (m : Nat) : Prop :=
 ∀ (a b lim : Nat) (d : Array Sr) (S1 : St), b - a < m → a ≤ b → b ≤ n → lim ≤ 100 → Srt S id n t S1 d →
  ∃ S2, cval T 346 [.osl id 0 n 2, .int .i64 (a : Int), .int .i64 (b : Int), .int .i64 (lim : Int), .fn 287 []] S1 = some (.tup [], S2) ∧ Srt S id n t S2 (Sort.pdq ltS d a b lim true true)

def pdqE' (lim : Nat) (wb wp : Bool) (d3 : Array Sr) (a b pv : Nat) : Array Sr :=
 if (decide (a > 0) && !ltS d3[a - 1]! d3[pv]!) = true then Sort.pdq ltS (Sort.partitionEqual ltS d3 a b pv).2 (Sort.partitionEqual ltS d3 a b pv).1 b lim wb wp
 else if (Sort.partition ltS d3 a b pv).1 - a < b - (Sort.partition ltS d3 a b pv).1 then
  Sort.pdq ltS (Sort.pdq ltS (Sort.partition ltS d3 a b pv).2.2 a (Sort.partition ltS d3 a b pv).1 lim true true) ((Sort.partition ltS d3 a b pv).1 + 1) b lim (decide ((Sort.partition ltS d3 a b pv).1 - a ≥ (b - a) / 8)) (Sort.partition ltS d3 a b pv).2.1
 else
  Sort.pdq ltS (Sort.pdq ltS (Sort.partition ltS d3 a b pv).2.2 ((Sort.partition ltS d3 a b pv).1 + 1) b lim true true) a (Sort.partition ltS d3 a b pv).1 lim (decide (b - (Sort.partition ltS d3 a b pv).1 ≥ (b - a) / 8)) (Sort.partition ltS d3 a b pv).2.1

def pdqE (lim : Nat) (wb wp : Bool) (d3 : Array Sr) (a b pv : Nat) : Array Sr :=
 if (decide (a > 0) && !ltS d3[a - 1]! d3[pv]!) = true then
  match Sort.partitionEqual ltS d3 a b pv with
  | (mid, d4) => if _h : a < mid ∧ mid ≤ b then Sort.pdq ltS d4 mid b lim wb wp else d4
 else
  match Sort.partition ltS d3 a b pv with
  | (mid, alreadyPartitioned, d4) =>
   if _h : a ≤ mid ∧ mid < b then
    if mid - a < b - mid then Sort.pdq ltS (Sort.pdq ltS d4 a mid lim true true) (mid + 1) b lim (decide (mid - a ≥ (b - a) / 8)) alreadyPartitioned
    else Sort.pdq ltS (Sort.pdq ltS d4 (mid + 1) b lim true true) a mid lim (decide (b - mid ≥ (b - a) / 8)) alreadyPartitioned
   else d4

theorem parteq_range {d : Array Sr} {a b p : Nat} (hab : a + 1 < b) (hb : b ≤ d.size) : a < (Sort.partitionEqual ltS d a b p).1 ∧ (Sort.partitionEqual ltS d a b p).1 ≤ b := by
 have h := Sort.partEqLoop_spec (lt := ltS) a b (b - 1 + 1 - (a + 1)) (a + 1) (b - 1) (Sort.swp d a p) (Nat.le_refl _) (by omega) (by omega) (by omega) (by rw [Sort.size_swp]; exact hb) (fun t h1 h2 => by omega) (fun t h1 h2 => by omega)
 exact ⟨h.1, h.2.1⟩

theorem pdqE_eq {lim : Nat} {wb wp : Bool} {d3 : Array Sr} {a b pv : Nat} (hab : a + 1 < b) (hs : b ≤ d3.size) (h1 : a ≤ pv) (h2 : pv < b) : pdqE lim wb wp d3 a b pv = pdqE' lim wb wp d3 a b pv := by
 unfold pdqE pdqE'
 obtain ⟨r1, r2⟩ := parteq_range (d := d3) (a := a) (b := b) (p := pv) (by omega) (by omega)
 obtain ⟨q1, q2, _⟩ := Sort.partition_holds ltS swo_ltS d3 a b pv h1 h2 (by omega)
 generalize Sort.partitionEqual ltS d3 a b pv = P at r1 r2 ⊢
 generalize Sort.partition ltS d3 a b pv = R at q1 q2 ⊢
 obtain ⟨mid, d4⟩ := P
 obtain ⟨mid2, ap, d5⟩ := R
 simp only at r1 r2 q1 q2 ⊢
 rw [dif_pos ⟨r1, r2⟩, dif_pos ⟨q1, q2⟩]

theorem pdE_go {S : St} {id n : Nat} {t : List PV} {m : Nat} {K : List Kt} {Q : Fr → St → Prop} (ihl : IHL S id n t m K Q) (ihc : IHC S id n t m) {a b lim pv : Nat} {wb wp : Bool} {d : Array Sr} {fr : Fr} {S1 : St} (hm : b - a ≤ m) (hab : a + 12 < b) (hb : b ≤ n) (hlim : lim ≤ 100)
  (h : Srt S id n t S1 d) (f : PQ id n a b lim wb wp fr) (f12 : fr 12 = .int .i64 ((b - a : Nat) : Int)) (f13 : fr 13 = .int .i64 (pv : Int)) (hpa : a ≤ pv) (hpb : pv < b)
  (k : ∀ fr2 S2, Srt S id n t S2 (pdqE lim wb wp d a b pv) → Q fr2 S2) :
  Ok (gval T (.code pdE :: .blk 1 :: .lp z10_l0 :: .blk 0 :: K) fr S1) Q := by
 have hle := h.le
 have hsz := h.sz
 obtain ⟨f0, f1, f2, f3, f4, f10, f11⟩ := f
 have hpn : pv < n := by omega
 rw [pdqE_eq (by omega) (by omega) hpa hpb] at k
 obtain ⟨y, hy⟩ : ∃ y, y = d[pv]! := ⟨_, rfl⟩
 have oy := h.okAt hpn
 have ly := h.load hpn
 rw [← hy] at oy ly
 -- a partition
 have branchP : (decide (a > 0) && !ltS d[a - 1]! d[pv]!) = false → ∀ fr2 : Fr, PQ id n a b lim wb wp fr2 → fr2 12 = .int .i64 ((b - a : Nat) : Int) → fr2 13 = .int .i64 (pv : Int) →
   Ok (gval T (.code (.seq (.clr [(105, 114)] (.region z10_r20)) (.seq (.clr [(114, 115)] (.region z10_r21)) (.seq (.clr [(115, 121)] (.region z10_r22)) (.seq (.clr [(121, 123)] (.region z10_r23)) (.seq (.clr [(123, 125)] (.region z10_r24)) (.cond (V 125) (.seq (.clr [(126, 129)] (.region z10_r25)) (.seq (.clr [(129, 135)] (.region z10_r26)) (.clr [(135, 137)] (.region z10_r27)))) (.seq (.clr [(137, 140)] (.region z10_r28)) (.seq (.clr [(140, 147)] (.region z10_r29)) (.clr [(147, 148)] (.region z10_r30)))))))))) :: .blk 1 :: .lp z10_l0 :: .blk 0 :: K) fr2 S1) Q := by
  intro hcond fr2 F g12 g13
  obtain ⟨g0, g1, g2, g3, g4, g10, g11⟩ := F
  rw [pdqE', if_neg (by rw [hcond]; simp)] at k
  obtain ⟨S2, c1, x1⟩ := part_val h (a := a) (b := b) (p := pv) (by omega) hb hpn
  obtain ⟨r1, r2, _⟩ := Sort.partition_holds ltS swo_ltS d a b pv hpa hpb (by omega)
  obtain ⟨P, hP⟩ : ∃ P, P = Sort.partition ltS d a b pv := ⟨_, rfl⟩
  rw [← hP] at c1 x1 r1 r2 k
  obtain ⟨mid, ap, d4⟩ := P
  simp only at c1 x1 r1 r2 k
  have e1 : IntKind.i64.wrap ((mid : Int) - (a : Int)) = ((mid - a : Nat) : Int) := by rw [wrap_i64 (by omega) (by omega)]; omega
  have e2 : IntKind.i64.wrap ((b : Int) - (mid : Int)) = ((b - mid : Nat) : Int) := by rw [wrap_i64 (by omega) (by omega)]; omega
  have e3 : IntKind.i64.wrap ((mid : Int) + 1) = ((mid + 1 : Nat) : Int) := by rw [wrap_i64 (by omega) (by omega)]; omega
  obtain ⟨ll, hll⟩ : ∃ ll, ll = mid - a := ⟨_, rfl⟩
  obtain ⟨rl, hrl⟩ : ∃ rl, rl = b - mid := ⟨_, rfl⟩
  obtain ⟨len, hlen⟩ : ∃ len, len = b - a := ⟨_, rfl⟩
  obtain ⟨th, hth⟩ : ∃ th, th = len / 8 := ⟨_, rfl⟩
  have e4 : ((len : Int)).tdiv 8 = (th : Int) := by rw [Int.tdiv_eq_ediv_of_nonneg (by omega)]; omega
  have e5 : IntKind.i64.wrap (th : Int) = (th : Int) := wrap_i64 (by omega) (by omega)
  rw [← hll] at e1
  rw [← hrl] at e2
  rw [← hlen] at g12
  rw [← hll, ← hrl, ← hlen, ← hth] at k
  by_cases hlr : ll < rl
  ·rw [if_pos hlr] at k
   obtain ⟨S3, c2, x2⟩ := ihc a mid lim d4 S2 (by omega) r1 (by omega) hlim x1
   have hL := fun fr' => ihl (mid + 1) b lim (decide (ll ≥ th)) ap (Sort.pdq ltS d4 a mid lim true true) fr' S3 (by omega) (by omega) hb hlim x2
   clear ihl ihc
   simp -implicitDefEqProofs [g0, g1, g2, g3, g4, g10, g11, g12, g13, c1, e1, e2, e4, e5, hlr, c2]
   exact hL _ ⟨by simp [g0], by simp [e3], by simp [g2], by simp [g3], by simp [g4], by simp, by simp⟩ k
  ·rw [if_neg hlr] at k
   obtain ⟨S3, c2, x2⟩ := ihc (mid + 1) b lim d4 S2 (by omega) (by omega) hb hlim x1
   have hL := fun fr' => ihl a mid lim (decide (rl ≥ th)) ap (Sort.pdq ltS d4 (mid + 1) b lim true true) fr' S3 (by omega) r1 (by omega) hlim x2
   clear ihl ihc
   rw [← e3] at c2
   simp -implicitDefEqProofs [g0, g1, g2, g3, g4, g10, g11, g12, g13, c1, e1, e2, e4, e5, hlr, c2]
   exact hL _ ⟨by simp [g0], by simp [g1], by simp, by simp [g3], by simp [g4], by simp, by simp⟩ k
 by_cases ha0 : a > 0
 ·obtain ⟨a1, ha1⟩ : ∃ a1, a1 = a - 1 := ⟨_, rfl⟩
  have ea : IntKind.i64.wrap ((a : Int) - 1) = (a1 : Int) := by rw [wrap_i64 (by omega) (by omega)]; omega
  have ha0' : (0 : Int) < (a : Int) := by omega
  have han : a1 < n := by omega
  obtain ⟨x, hx⟩ : ∃ x, x = d[a1]! := ⟨_, rfl⟩
  have ox := h.okAt han
  have lx := h.load han
  rw [← hx] at ox lx
  have hcv := cmpC_val ox oy S1
  by_cases hl : cmpL x.lb y.lb < 0
  ·have hB := branchP (by simp [ha0, ← ha1, ← hx, ← hy, ltS, hl])
   clear branchP ihl ihc k
   simp -implicitDefEqProofs [-z10_r20_go] at hB
   simp -implicitDefEqProofs [-z10_r20_go, pdE, f0, f1, f2, f3, f4, f10, f11, f12, f13, ha0, ha0', ea, han, hpn, lx, ly, hcv, hl]
   exact hB _ ⟨by simp [f0], by simp [f1], by simp [f2], by simp [f3], by simp [f4], by simp [f10], by simp [f11]⟩ (by simp [f12]) (by simp [f13])
  ·have hcond : (decide (a > 0) && !ltS d[a - 1]! d[pv]!) = true := by simp [ha0, ← ha1, ← hx, ← hy, ltS, hl]
   rw [pdqE', if_pos hcond] at k
   obtain ⟨r1, r2⟩ := parteq_range (d := d) (a := a) (b := b) (p := pv) (by omega) (by omega)
   obtain ⟨S2, c1, x1⟩ := parteq_val h (a := a) (b := b) (p := pv) (by omega) hb hpn
   obtain ⟨P, hP⟩ : ∃ P, P = Sort.partitionEqual ltS d a b pv := ⟨_, rfl⟩
   rw [← hP] at c1 x1 r1 r2 k
   obtain ⟨mid, d4⟩ := P
   simp only at c1 x1 r1 r2 k
   have hL := fun fr' => ihl mid b lim wb wp d4 fr' S2 (by omega) r2 hb hlim x1
   clear branchP ihl ihc
   simp -implicitDefEqProofs [-z10_r20_go, pdE, f0, f1, f2, f3, f4, f10, f11, f12, f13, ha0, ha0', ea, han, hpn, lx, ly, hcv, hl, c1]
   exact hL _ ⟨by simp [f0], by simp, by simp [f2], by simp [f3], by simp [f4], by simp [f10], by simp [f11]⟩ k
 ·have ha0' : ¬ (0 : Int) < (a : Int) := by omega
  have haz : a = 0 := by omega
  have hB := branchP (by simp [ha0])
  clear branchP ihl ihc k
  simp -implicitDefEqProofs [-z10_r20_go] at hB
  simp -implicitDefEqProofs [-z10_r20_go, pdE, f0, f1, f2, f3, f4, f10, f11, f12, f13, ha0, ha0']
  exact hB _ ⟨by simp [f0], by simp [f1], by simp [f2], by simp [f3], by simp [f4], by simp [f10], by simp [f11]⟩ (by simp [f12]) (by simp [f13])
end Ps
