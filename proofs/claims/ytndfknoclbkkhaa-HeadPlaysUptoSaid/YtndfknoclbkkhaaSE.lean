/- Series sorted: patterns broken. -/
import Derived.Test.YtndfknoclbkkhaaSD
namespace Ps
set_option linter.unusedSimpArgs false
set_option linter.unusedVariables false
open Go
theorem fn_396 : T.fn 396 = some (.code z24) := rfl
theorem fn_395 : T.fn 395 = some (.code z22) := rfl
theorem fn_317 : T.fn 317 = some (.code z46) := rfl
theorem fn_373 : T.fn 373 = some (.code z39) := rfl
theorem fn_383 : T.fn 383 = some (.code z3) := rfl

theorem wrap_u64e (x : Int) : IntKind.u64.wrap x = x % 18446744073709551616 := by
 simp [IntKind.wrap, IntKind.bits, IntKind.signed]
theorem u64_lt (r : UInt64) : r.toNat < 18446744073709551616 := r.toNat_lt
theorem shl13 (r : UInt64) : arith .shl (.int .u64 (r.toNat : Int)) (.int .u64 13) = some (.int .u64 ((r <<< 13).toNat : Int)) := by
 have e : arith .shl (.int .u64 (r.toNat : Int)) (.int .u64 13) = some (.int .u64 (IntKind.u64.wrap ((r.toNat : Int) * 8192))) := rfl
 rw [e, wrap_u64e, UInt64.toNat_shiftLeft]
 have : (13 : UInt64).toNat % 64 = 13 := rfl
 rw [this, Nat.shiftLeft_eq]
 congr 2
theorem shl17 (r : UInt64) : arith .shl (.int .u64 (r.toNat : Int)) (.int .u64 17) = some (.int .u64 ((r <<< 17).toNat : Int)) := by
 have e : arith .shl (.int .u64 (r.toNat : Int)) (.int .u64 17) = some (.int .u64 (IntKind.u64.wrap ((r.toNat : Int) * 131072))) := rfl
 rw [e, wrap_u64e, UInt64.toNat_shiftLeft]
 have : (17 : UInt64).toNat % 64 = 17 := rfl
 rw [this, Nat.shiftLeft_eq]
 congr 2
theorem shr7 (r : UInt64) : arith .shr (.int .u64 (r.toNat : Int)) (.int .u64 7) = some (.int .u64 ((r >>> 7).toNat : Int)) := by
 have e : arith .shr (.int .u64 (r.toNat : Int)) (.int .u64 7) = some (.int .u64 ((r.toNat : Int).fdiv 128)) := rfl
 rw [e, UInt64.toNat_shiftRight]
 have : (7 : UInt64).toNat % 64 = 7 := rfl
 rw [this, Nat.shiftRight_eq_div_pow, Int.fdiv_eq_ediv_of_nonneg _ (by decide)]
 congr 2
theorem xor64 (a b : UInt64) : arith .xor (.int .u64 (a.toNat : Int)) (.int .u64 (b.toNat : Int)) = some (.int .u64 ((a ^^^ b).toNat : Int)) := by
 have e : arith .xor (.int .u64 (a.toNat : Int)) (.int .u64 (b.toNat : Int)) = some (.int .u64 (IntKind.u64.wrap (BitVec.ofInt 64 (a.toNat : Int) ^^^ BitVec.ofInt 64 (b.toNat : Int)).toNat)) := rfl
 have h1 : BitVec.ofInt 64 (a.toNat : Int) = a.toBitVec := by
  apply BitVec.eq_of_toNat_eq
  simp [BitVec.toNat_ofInt]
 have h2 : BitVec.ofInt 64 (b.toNat : Int) = b.toBitVec := by
  apply BitVec.eq_of_toNat_eq
  simp [BitVec.toNat_ofInt]
 rw [e, h1, h2]
 have h3 : (a.toBitVec ^^^ b.toBitVec).toNat = (a ^^^ b).toNat := rfl
 rw [h3, wrap_u64e]
 have := u64_lt (a ^^^ b)
 congr 2
 omega
theorem and64 (a b : Nat) (ha : a < 18446744073709551616) (hb : b < 18446744073709551616) : arith .and (.int .u64 (a : Int)) (.int .u64 (b : Int)) = some (.int .u64 ((a &&& b : Nat) : Int)) := by
 have e : arith .and (.int .u64 (a : Int)) (.int .u64 (b : Int)) = some (.int .u64 (IntKind.u64.wrap (BitVec.ofInt 64 (a : Int) &&& BitVec.ofInt 64 (b : Int)).toNat)) := rfl
 have h1 : (BitVec.ofInt 64 (a : Int)).toNat = a := by rw [BitVec.toNat_ofInt]; omega
 have h2 : (BitVec.ofInt 64 (b : Int)).toNat = b := by rw [BitVec.toNat_ofInt]; omega
 rw [e, BitVec.toNat_and, h1, h2, wrap_u64e]
 have : a &&& b ≤ b := Nat.and_le_right
 congr 2
 omega

theorem xor_val {S : St} {w : Nat} {r : UInt64} (h : S.objs[w]? = some [.int .u64 (r.toNat : Int)]) :
  cval T 396 [.ptr w 0] S = some (.int .u64 ((Sort.xorNext r).toNat : Int), ⟨S.objs.set w [.int .u64 ((Sort.xorNext r).toNat : Int)], S.tips⟩) := by
 obtain ⟨r1, hr1⟩ : ∃ r1, r1 = r ^^^ (r <<< 13) := ⟨_, rfl⟩
 obtain ⟨r2, hr2⟩ : ∃ r2, r2 = r1 ^^^ (r1 >>> 7) := ⟨_, rfl⟩
 obtain ⟨r3, hr3⟩ : ∃ r3, r3 = r2 ^^^ (r2 <<< 17) := ⟨_, rfl⟩
 have hx : Sort.xorNext r = r3 := by rw [hr3, hr2, hr1]; rfl
 rw [hx]
 have l0 : loadP S false 1 (.ptr w 0) = some (.int .u64 (r.toNat : Int)) := by rw [loadP_ptr h]; exact part1
 have x1 := xor64 r (r <<< 13)
 have x2 := xor64 r1 (r1 >>> 7)
 have x3 := xor64 r2 (r2 <<< 17)
 rw [← hr1] at x1
 rw [← hr2] at x2
 rw [← hr3] at x3
 have s1 := shl13 r
 have s2 := shr7 r1
 have s3 := shl17 r2
 generalize ((r <<< 13).toNat : Int) = q1 at x1 s1
 generalize ((r1 >>> 7).toNat : Int) = q2 at x2 s2
 generalize ((r2 <<< 17).toNat : Int) = q3 at x3 s3
 generalize (r.toNat : Int) = v0 at *
 generalize (r1.toNat : Int) = v1 at *
 generalize (r2.toNat : Int) = v2 at *
 generalize (r3.toNat : Int) = v3 at *
 have ms : ∀ c : List PV, (S.objs.set w c)[w]? = some c := fun c => get_set h
 have ls : ∀ (c : PV), loadP ⟨S.objs.set w [c], S.tips⟩ false 1 (.ptr w 0) = some c := fun c => by
  rw [loadP_ptr (cs := [c]) (ms [c])]; exact part1
 refine cval_ok' fn_396 rfl ?_
 simp -implicitDefEqProofs [z24, l0, s1, s2, s3, x1, x2, x3, pstep, h, ms, ls, putCells]
 rfl

def len8 : List UInt8 := (List.range 256).map fun n => UInt8.ofNat (Sort.bitsLen n)
theorem len8_fin : ∀ m : Fin 256, len8[m.val]? = some (UInt8.ofNat (Sort.bitsLen m.val)) := by decide +kernel
theorem bits_small : ∀ m : Fin 257, Sort.bitsLen m.val ≤ 9 := by decide +kernel

set_option maxRecDepth 20000 in
theorem len64_val {n : Nat} (hn : n ≤ 256) : cval T 373 [.int .u64 (n : Int)] St0 = some (.int .i64 (Sort.bitsLen n : Nat), St0) := by
 have h1 : ¬ (4294967296 : Int) ≤ (n : Int) := by omega
 have h2 : ¬ (65536 : Int) ≤ (n : Int) := by omega
 have hb := bits_small ⟨n, by omega⟩
 simp only at hb
 by_cases hz : n = 256
 ·subst hz
  have e : Sort.bitsLen 256 = 9 := by decide +kernel
  rw [e]
  exact cval_of 100 (by kernel_rfl)
 ·refine cval_ok' fn_373 rfl ?_
  have h3 : ¬ (256 : Int) ≤ (n : Int) := by omega
  have hw8 : IntKind.u8.wrap (n : Int) = (n : Int) := by
   have e : IntKind.u8.wrap (n : Int) = (n : Int) % 256 := by simp [IntKind.wrap, IntKind.bits, IntKind.signed]
   rw [e]; omega
  have hl := len8_fin ⟨n, by omega⟩
  simp only at hl
  have hi : idxsP (.str len8) (.int .u8 (n : Int)) = some (.int .u8 (Sort.bitsLen n : Nat)) := by
   rw [idxsP_str, if_pos (by omega), Int.toNat_natCast, hl]
   simp
   omega
  have hwb : IntKind.i64.wrap ((Sort.bitsLen n : Nat) : Int) = ((Sort.bitsLen n : Nat) : Int) := wrap_i64 (by omega) (by omega)
  have htab : ([0, 1, 2, 2, 3, 3, 3, 3, 4, 4, 4, 4, 4, 4, 4, 4, 5, 5, 5, 5, 5, 5, 5, 5, 5, 5, 5, 5, 5, 5, 5, 5, 6, 6, 6, 6, 6, 6, 6, 6, 6, 6, 6, 6, 6, 6, 6, 6, 6, 6, 6, 6, 6, 6, 6, 6, 6, 6, 6, 6, 6, 6, 6, 6, 7, 7, 7, 7, 7, 7, 7, 7, 7, 7, 7, 7, 7, 7, 7, 7, 7, 7, 7, 7, 7, 7, 7, 7, 7, 7, 7, 7, 7, 7, 7, 7, 7, 7, 7, 7, 7, 7, 7, 7, 7, 7, 7, 7, 7, 7, 7, 7, 7, 7, 7, 7, 7, 7, 7, 7, 7, 7, 7, 7, 7, 7, 7, 7, 8, 8, 8, 8, 8, 8, 8, 8, 8, 8, 8, 8, 8, 8, 8, 8, 8, 8, 8, 8, 8, 8, 8, 8, 8, 8, 8, 8, 8, 8, 8, 8, 8, 8, 8, 8, 8, 8, 8, 8, 8, 8, 8, 8, 8, 8, 8, 8, 8, 8, 8, 8, 8, 8, 8, 8, 8, 8, 8, 8, 8, 8, 8, 8, 8, 8, 8, 8, 8, 8, 8, 8, 8, 8, 8, 8, 8, 8, 8, 8, 8, 8, 8, 8, 8, 8, 8, 8, 8, 8, 8, 8, 8, 8, 8, 8, 8, 8, 8, 8, 8, 8, 8, 8, 8, 8, 8, 8, 8, 8, 8, 8, 8, 8, 8, 8, 8, 8, 8, 8, 8, 8, 8, 8, 8, 8, 8, 8] : List UInt8) = len8 := by decide +kernel
  simp -implicitDefEqProofs [z39, h1, h2, h3, hw8, htab, hi, hwb]
theorem len_pval {n : Nat} (hn : n ≤ 256) : pval T 317 [.int .u64 (n : Int)] = some (.int .i64 (Sort.bitsLen n : Nat)) := by
 have hp : pval T 373 [.int .u64 (n : Int)] = some (.int .i64 (Sort.bitsLen n : Nat)) := pval_st (len64_val hn) rfl rfl
 refine pval_st ?_ rfl rfl
 refine cval_ok' fn_317 rfl ?_
 simp -implicitDefEqProofs [z46, hp]
theorem pow2_pval {n : Nat} (hn : n ≤ 256) : pval T 395 [.int .i64 (n : Int)] = some (.int .u64 ((1 <<< Sort.bitsLen n : Nat) : Int)) := by
 have hp := len_pval hn
 have hb := bits_small ⟨n, by omega⟩
 simp only at hb
 have hw : IntKind.u64.wrap (n : Int) = (n : Int) := by rw [wrap_u64e]; omega
 obtain ⟨L, hL⟩ : ∃ L, L = Sort.bitsLen n := ⟨_, rfl⟩
 rw [← hL] at hp hb ⊢
 have hs : arith .shl (.int .u64 1) (.int .i64 (L : Int)) = some (.int .u64 ((1 <<< L : Nat) : Int)) := by
  have e : arith .shl (.int .u64 1) (.int .i64 (L : Int)) = shiftOp .shl .u64 1 (L : Int) := rfl
  have hk : IntKind.u64.bits = 64 := rfl
  rw [e, shiftOp, if_neg (by omega)]
  simp only [Int.toNat_natCast, hk, Nat.min_eq_left (by omega : L ≤ 64), wrap_u64e, Nat.one_shiftLeft, Int.one_mul]
  have : (2 : Nat) ^ L ≤ 2 ^ 9 := Nat.pow_le_pow_right (by decide) hb
  have e2 : ((2 : Int) ^ L) = ((2 ^ L : Nat) : Int) := by simp
  rw [e2]
  generalize (2 : Nat) ^ L = M at this
  have hM : M ≤ 512 := this
  congr 2
  omega
 refine pval_st ?_ rfl rfl
 refine cval_ok' fn_395 rfl ?_
 simp -implicitDefEqProofs [z22, hw, hp, hs]

theorem bitsLen_pow {n : Nat} (h : 0 < n) : 1 <<< Sort.bitsLen n ≤ 2 * n := by
 rw [Nat.one_shiftLeft, Sort.bitsLen, if_neg (by omega), Nat.pow_succ]
 have := Nat.log2_self_le (n := n) (by omega)
 omega

theorem brk_round {S : St} {id n w : Nat} {t : List PV} {a l q j0 : Nat} (hl8 : 8 ≤ l) (hl : l ≤ 256) (hal : a + l ≤ n) (hwS : S.objs.length ≤ w) (hwi : w ≠ id) (hq : q = l / 4) (hj0 : j0 = a + q * 2) {K : List Kt} {Q : Fr → St → Prop}
  {x : UInt64} {d : Array Sr} {S1 : St} (h : Srt S id n t S1 d) (hw : S1.objs[w]? = some [.int .u64 (x.toNat : Int)]) {idx : Nat} (hi0 : j0 - 1 ≤ idx) (hi1 : idx ≤ j0 + 1) {fr : Fr}
  (f0 : fr 0 = .osl id 0 n 2) (f1 : fr 1 = .int .i64 (a : Int)) (f8 : fr 8 = .int .i64 (l : Int)) (f9 : fr 9 = .ptr w 0) (f10 : fr 10 = .int .u64 ((1 <<< Sort.bitsLen l : Nat) : Int)) (f11 : fr 11 = .int .i64 (idx : Int))
  (k : ∀ fr' S2, Srt S id n t S2 (Sort.breakStep a l (1 <<< Sort.bitsLen l) (x, d) idx).2 → S2.objs[w]? = some [.int .u64 ((Sort.breakStep a l (1 <<< Sort.bitsLen l) (x, d) idx).1.toNat : Int)] →
   fr' 0 = .osl id 0 n 2 → fr' 1 = .int .i64 (a : Int) → fr' 8 = .int .i64 (l : Int) → fr' 9 = .ptr w 0 → fr' 10 = .int .u64 ((1 <<< Sort.bitsLen l : Nat) : Int) → fr' 11 = .int .i64 ((idx + 1 : Nat) : Int) →
   Ok (gval T (.lp z3_l0 :: .blk 0 :: K) fr' S2) Q) :
  Ok (gval T (.lp z3_l0 :: .blk 0 :: K) fr S1) Q := by
 have hle := h.le
 have eq : ((l : Int)).tdiv 4 = (q : Int) := by rw [Int.tdiv_eq_ediv_of_nonneg (by omega)]; omega
 have wq : IntKind.i64.wrap (q : Int) = (q : Int) := wrap_i64 (by omega) (by omega)
 have wq2 : IntKind.i64.wrap ((q : Int) * 2) = (q : Int) * 2 := wrap_i64 (by omega) (by omega)
 have ej : IntKind.i64.wrap ((a : Int) + (q : Int) * 2) = (j0 : Int) := by rw [wrap_i64 (by omega) (by omega)]; omega
 have ej1 : IntKind.i64.wrap ((j0 : Int) + 1) = (j0 : Int) + 1 := wrap_i64 (by omega) (by omega)
 have hc : (idx : Int) ≤ (j0 : Int) + 1 := by omega
 obtain ⟨M, hM⟩ : ∃ M, M = 1 <<< Sort.bitsLen l := ⟨_, rfl⟩
 have hM2 := bitsLen_pow (n := l) (by omega)
 have hMp : 0 < M := by rw [hM, Nat.one_shiftLeft]; exact Nat.pow_pos (by decide)
 rw [← hM] at hM2
 have hw1 : IntKind.u64.wrap ((M : Int) - 1) = ((M - 1 : Nat) : Int) := by rw [wrap_u64e]; omega
 obtain ⟨r, hr⟩ : ∃ r, r = Sort.xorNext x := ⟨_, rfl⟩
 have hx := xor_val hw
 rw [← hr] at hx
 have hand := and64 r.toNat (M - 1) (u64_lt r) (by omega)
 obtain ⟨o1, ho1⟩ : ∃ o1, o1 = r.toNat &&& (M - 1) := ⟨_, rfl⟩
 have ho1l : o1 ≤ M - 1 := by rw [ho1]; exact Nat.and_le_right
 rw [← ho1] at hand
 have hwo : IntKind.i64.wrap (o1 : Int) = (o1 : Int) := wrap_i64 (by omega) (by omega)
 obtain ⟨o2, ho2⟩ : ∃ o2, o2 = if o1 ≥ l then o1 - l else o1 := ⟨_, rfl⟩
 have ho2l : o2 < l := by rw [ho2]; split <;> omega
 have hst : Sort.breakStep a l (1 <<< Sort.bitsLen l) (x, d) idx = (r, Sort.swp d idx (a + o2)) := by
  rw [← hM, Sort.breakStep]
  simp only [← hr, ← ho1, ← ho2]
 rw [hst] at k
 simp only at k
 obtain ⟨S2, hS2⟩ : ∃ S2 : St, S2 = ⟨S1.objs.set w [.int .u64 (r.toNat : Int)], S1.tips⟩ := ⟨_, rfl⟩
 rw [← hS2] at hx
 have h2 : Srt S id n t S2 d := by rw [hS2]; exact h.box hwS hwi _
 have hw2 : S2.objs[w]? = some [.int .u64 (r.toNat : Int)] := by rw [hS2]; exact get_set hw
 obtain ⟨ao, hao⟩ : ∃ ao, ao = a + o2 := ⟨_, rfl⟩
 rw [← hao] at k
 have hin : idx < n := by omega
 have haon : ao < n := by omega
 obtain ⟨xi, hxi⟩ : ∃ x, x = d[idx]! := ⟨_, rfl⟩
 obtain ⟨xo, hxo⟩ : ∃ x, x = d[ao]! := ⟨_, rfl⟩
 have oi := h2.okAt hin
 have oo := h2.okAt haon
 have li := h2.load hin
 have lo := h2.load haon
 rw [← hxi] at oi li
 rw [← hxo] at oo lo
 obtain ⟨cs, S3, m1, m2, m3, m4, hS3, hsw⟩ := h2.swap hin haon hxi hxo
 have hw3 : S3.objs[w]? = some [.int .u64 (r.toNat : Int)] := by rw [hS3]; simp only; rw [List.getElem?_set_ne (Ne.symm hwi)]; exact hw2
 have hwi1 : IntKind.i64.wrap ((idx : Int) + 1) = ((idx + 1 : Nat) : Int) := by rw [wrap_i64 (by omega) (by omega)]; omega
 have hL := fun fr' => k fr' S3 hsw hw3
 rw [← hM] at hL f10
 clear k
 by_cases hge : l ≤ o1
 ·have ho2' : o2 = o1 - l := by rw [ho2, if_pos hge]
  have e2 : IntKind.i64.wrap ((o1 : Int) - (l : Int)) = (o2 : Int) := by rw [wrap_i64 (by omega) (by omega)]; omega
  have e3 : IntKind.i64.wrap ((a : Int) + (o2 : Int)) = (ao : Int) := by rw [wrap_i64 (by omega) (by omega)]; omega
  rw [gval_lp]
  simp -implicitDefEqProofs [-z3_r10_go, f0, f1, f8, f9, f10, f11, eq, wq, wq2, ej, ej1, hc, hx, hw1, hand, hwo, hge, e2]
  simp -implicitDefEqProofs [f0, f1, f8, f9, f10, f11, e3, hin, haon, li, lo, pstep, m1, m2, m3, m4, oi.one, oo.one]
  rw [← hS3]
  exact hL _ (by simp [f0]) (by simp [f1]) (by simp [f8]) (by simp [f9]) (by simp [f10]) (by simp [hwi1])
 ·have ho2' : o2 = o1 := by rw [ho2, if_neg hge]
  rw [ho2'] at hao
  have e3 : IntKind.i64.wrap ((a : Int) + (o1 : Int)) = (ao : Int) := by rw [wrap_i64 (by omega) (by omega)]; omega
  rw [gval_lp]
  simp -implicitDefEqProofs [-z3_r10_go, f0, f1, f8, f9, f10, f11, eq, wq, wq2, ej, ej1, hc, hx, hw1, hand, hwo, hge]
  simp -implicitDefEqProofs [f0, f1, f8, f9, f10, f11, e3, hin, haon, li, lo, pstep, m1, m2, m3, m4, oi.one, oo.one]
  rw [← hS3]
  exact hL _ (by simp [f0]) (by simp [f1]) (by simp [f8]) (by simp [f9]) (by simp [f10]) (by simp [hwi1])

theorem brk_val {S S1 : St} {id n : Nat} {t : List PV} {d : Array Sr} (h : Srt S id n t S1 d) (hid : id < S.objs.length) {a b : Nat} (hab : a + 12 < b) (hb : b ≤ n) :
  ∃ S2, cval T 383 [.osl id 0 n 2, .int .i64 (a : Int), .int .i64 (b : Int), .fn 287 []] S1 = some (.tup [], S2) ∧ Srt S id n t S2 (Sort.breakPatterns d a b) := by
 have hle := h.le
 have hlen := h.len
 obtain ⟨l, hl⟩ : ∃ l, l = b - a := ⟨_, rfl⟩
 obtain ⟨q, hq⟩ : ∃ q, q = l / 4 := ⟨_, rfl⟩
 obtain ⟨j0, hj0⟩ : ∃ j0, j0 = a + q * 2 := ⟨_, rfl⟩
 have el : IntKind.i64.wrap ((b : Int) - (a : Int)) = (l : Int) := by rw [wrap_i64 (by omega) (by omega)]; omega
 have eq : ((l : Int)).tdiv 4 = (q : Int) := by rw [Int.tdiv_eq_ediv_of_nonneg (by omega)]; omega
 have wq : IntKind.i64.wrap (q : Int) = (q : Int) := wrap_i64 (by omega) (by omega)
 have wq2 : IntKind.i64.wrap ((q : Int) * 2) = (q : Int) * 2 := wrap_i64 (by omega) (by omega)
 have ej : IntKind.i64.wrap ((a : Int) + (q : Int) * 2) = (j0 : Int) := by rw [wrap_i64 (by omega) (by omega)]; omega
 have ejm : IntKind.i64.wrap ((j0 : Int) - 1) = ((j0 - 1 : Nat) : Int) := by rw [wrap_i64 (by omega) (by omega)]; omega
 have ej1 : IntKind.i64.wrap ((j0 : Int) + 1) = (j0 : Int) + 1 := wrap_i64 (by omega) (by omega)
 have hwu : IntKind.u64.wrap (l : Int) = (l : Int) := by rw [wrap_u64e]; omega
 have h8 : (8 : Int) ≤ (l : Int) := by omega
 have h8' : 8 ≤ l := by omega
 have hp := pow2_pval (n := l) (by omega)
 have hx0 : ((UInt64.ofNat l).toNat : Int) = (l : Int) := by
  rw [UInt64.toNat_ofNat']; omega
 obtain ⟨w, hw⟩ : ∃ w, w = S1.objs.length := ⟨_, rfl⟩
 have hg := h.grow [[.int .u64 (l : Int)]] S1.tips
 obtain ⟨S2, hS2⟩ : ∃ S2 : St, S2 = ⟨S1.objs ++ [[.int .u64 (l : Int)]], S1.tips⟩ := ⟨_, rfl⟩
 rw [← hS2] at hg
 have hw0 : S2.objs[w]? = some [.int .u64 ((UInt64.ofNat l).toNat : Int)] := by rw [hx0, hS2, hw]; simp
 have hbp : Sort.breakPatterns d a b = (Sort.breakStep a l (1 <<< Sort.bitsLen l) (Sort.breakStep a l (1 <<< Sort.bitsLen l) (Sort.breakStep a l (1 <<< Sort.bitsLen l) (UInt64.ofNat l, d) (j0 - 1)) (j0 - 1 + 1)) (j0 - 1 + 2)).2 := by
  rw [Sort.breakPatterns]
  simp only [← hl, ← hq, ← hj0, if_pos h8', ge_iff_le]
 obtain ⟨v, S4, hc, h4⟩ := cval_ex (T := T) fn_383 (args := [.osl id 0 n 2, .int .i64 (a : Int), .int .i64 (b : Int), .fn 287 []]) (S := S1) rfl (R := fun v S4 => v = .tup [] ∧ Srt S id n t S4 (Sort.breakPatterns d a b)) (by
  simp -implicitDefEqProofs [-z3_r3_go, z3, resAll, el, h8, h8', hwu, pstep, newObj, putCells]
  rw [← hS2, ← hw]
  simp -implicitDefEqProofs [hp, eq, wq, wq2, ej, ejm]
  refine brk_round h8' (by omega) (by omega) (by omega) (by omega) hq hj0 hg hw0 (idx := j0 - 1) (Nat.le_refl _) (by omega) (by simp) (by simp) (by simp) (by simp) (by simp) (by simp) (fun fr3 S3 x3 w3 a0 a1 a8 a9 a10 a11 => ?_)
  refine brk_round h8' (by omega) (by omega) (by omega) (by omega) hq hj0 x3 w3 (idx := j0 - 1 + 1) (by omega) (by omega) a0 a1 a8 a9 a10 a11 (fun fr4 S4 x4 w4 b0 b1 b8 b9 b10 b11 => ?_)
  refine brk_round h8' (by omega) (by omega) (by omega) (by omega) hq hj0 x4 w4 (idx := j0 - 1 + 1 + 1) (by omega) (by omega) b0 b1 b8 b9 b10 b11 (fun fr5 S5 x5 w5 c0 c1 c8 c9 c10 c11 => ?_)
  have hstop : ¬ ((j0 - 1 + 1 + 1 + 1 : Nat) : Int) ≤ (j0 : Int) + 1 := by omega
  obtain ⟨e, he⟩ : ∃ e : Int, e = ((j0 - 1 + 1 + 1 + 1 : Nat) : Int) := ⟨_, rfl⟩
  rw [← he] at c11 hstop
  rw [gval_lp]
  simp -implicitDefEqProofs [c0, c1, c8, c9, c10, c11, eq, wq, wq2, ej, ej1, hstop]
  rw [fin_raw, hbp]
  exact ⟨rfl, x5⟩)
 exact ⟨S4, by rw [hc, h4.1], h4.2⟩
end Ps
