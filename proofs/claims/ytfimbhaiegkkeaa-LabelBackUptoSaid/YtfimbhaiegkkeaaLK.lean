/- Numbers and texts read from bytes. -/
import Derived.Test.YtfimbhaiegkkeaaLJ
namespace Ps
set_option linter.unusedSimpArgs false
open Go

theorem fn_110 : T.fn 110 = some (.code frame_GetUint) := rfl
theorem fn_111 : T.fn 111 = some (.code frame_GetText) := rfl
theorem fn_112 : T.fn 112 = some (.code ref02_GetUint) := rfl
theorem fn_113 : T.fn 113 = some (.code ref02_GetText) := rfl

def getR (at_ : Nat) : List UInt8 → Nat → Nat → Nat × Nat × Nat
  | [], _, _ => (0, 0, 4)
  | d :: r, k, acc => if (k = 8 ∧ 127 < d.toNat) ∨ (0 < k ∧ d.toNat = 0) then (0, 0, 5) else if d.toNat < 128 then (acc + d.toNat % 128 * 128 ^ k, at_ + k + 1, 0) else getR at_ r (k + 1) (acc + d.toNat % 128 * 128 ^ k)
def getU (s : List UInt8) (i : Int) : Nat × Nat × Nat := if i < 0 ∨ (s.length : Int) < i then (0, 0, 2) else getR i.toNat (s.drop i.toNat) 0 0
def res3 (x : Nat × Nat × Nat) : PV := .tup [.int .i64 x.1, .int .i64 x.2.1, .int .i64 x.2.2]

theorem pow_step (k : Nat) : 128 ^ (k + 1) = 128 ^ k * 128 := Nat.pow_succ ..
theorem pow_le8 {k : Nat} (h : k ≤ 8) : 128 ^ k ≤ 72057594037927936 := Nat.le_trans (Nat.pow_le_pow_right (by decide) h) (by decide)
theorem acc_step {acc d k : Nat} (h : acc < 128 ^ k) : acc + d % 128 * 128 ^ k < 128 ^ (k + 1) := by
  have h1 : d % 128 ≤ 127 := by omega
  have h2 : d % 128 * 128 ^ k ≤ 127 * 128 ^ k := Nat.mul_le_mul_right _ h1
  rw [pow_step]; omega

theorem getR_ok : ∀ (r : List UInt8) (at_ k acc : Nat), k ≤ 8 → acc < 128 ^ k → (getR at_ r k acc).2.2 = 0 → (getR at_ r k acc).2.1 ≤ at_ + k + r.length ∧ (getR at_ r k acc).1 < 9223372036854775808
  | [], at_, k, acc, _, _, h => by simp [getR] at h
  | d :: r, at_, k, acc, hk, ha, h => by
    rw [getR] at h ⊢
    split at h
    · simp at h
    · rename_i hn
      rw [if_neg hn]
      have hs := acc_step (d := d.toNat) ha
      have hp : 128 ^ (k + 1) ≤ 9223372036854775808 := Nat.le_trans (Nat.pow_le_pow_right (by decide) (show k + 1 ≤ 9 by omega)) (by decide)
      split at h
      · rename_i hd
        rw [if_pos hd]
        simp only [List.length_cons]
        exact ⟨by omega, by omega⟩
      · rename_i hd
        rw [if_neg hd]
        have hk8 : k + 1 ≤ 8 := by
          rcases Nat.lt_or_ge k 8 with h8 | h8
          · omega
          · exact absurd (.inl ⟨by omega, by omega⟩) hn
        have := getR_ok r at_ (k + 1) _ hk8 hs h
        simp only [List.length_cons]
        exact ⟨by omega, this.2⟩

theorem getU_ok {s : List UInt8} {i : Int} (h : (getU s i).2.2 = 0) : (getU s i).2.1 ≤ s.length ∧ (getU s i).1 < 9223372036854775808 := by
  unfold getU at h ⊢
  split at h
  · simp at h
  · rename_i hi
    rw [if_neg hi]
    have := getR_ok _ _ 0 0 (by omega) (by decide) h
    rw [List.length_drop] at this
    exact ⟨by omega, this.2⟩

theorem and127_fin : ∀ m : Fin 256, andI .u8 ((m.val : Nat) : Int) 127 = ((m.val % 128 : Nat) : Int) := by decide +kernel
theorem and127 (d : UInt8) : andI .u8 (d.toNat : Int) 127 = ((d.toNat % 128 : Nat) : Int) := and127_fin ⟨d.toNat, d.toNat_lt⟩
theorem wrap_u64n {n : Nat} (h : n < 18446744073709551616) : IntKind.u64.wrap (n : Int) = (n : Int) := by
  have e : IntKind.u64.wrap (n : Int) = (n : Int) % 18446744073709551616 := by
    simp [IntKind.wrap, IntKind.bits, IntKind.signed]
  rw [e]; omega
theorem pow7 (k : Nat) : (128 : Nat) ^ k = 2 ^ (7 * k) := by
  rw [show (128 : Nat) = 2 ^ 7 from rfl, ← Nat.pow_mul]
theorem shl7 {a k : Nat} (hk : k ≤ 8) (ha : a < 128) : arith .shl (.int .u64 (a : Int)) (.int .i64 ((7 * k : Nat) : Int)) = some (.int .u64 ((a * 128 ^ k : Nat) : Int)) := by
  have h1 : ¬ (((7 * k : Nat) : Int) < 0) := by omega
  have h2 : min ((7 * k : Nat) : Int).toNat IntKind.u64.bits = 7 * k := by
    rw [Int.toNat_natCast]
    show min (7 * k) 64 = 7 * k
    omega
  have h3 : a * 128 ^ k < 18446744073709551616 := by
    have := pow_le8 hk
    have h4 : a * 128 ^ k ≤ 127 * 72057594037927936 := Nat.mul_le_mul (by omega) this
    omega
  simp only [arith, isShift, if_true, shiftOp, h1, if_false, h2]
  have e : (a : Int) * 2 ^ (7 * k) = ((a * 128 ^ k : Nat) : Int) := by rw [pow7]; simp
  rw [e, wrap_u64n h3]
theorem or_u64 {a b : Nat} (ha : a < 18446744073709551616) (hb : b < 18446744073709551616) : orI .u64 (a : Int) (b : Int) = ((a ||| b : Nat) : Int) := by
  have hlt : a ||| b < 18446744073709551616 := Nat.or_lt_two_pow (n := 64) ha hb
  unfold orI
  have e : (BitVec.ofInt IntKind.u64.bits (a : Int) ||| BitVec.ofInt IntKind.u64.bits (b : Int)).toNat = a ||| b := by
    rw [BitVec.toNat_or, BitVec.ofInt_natCast, BitVec.ofInt_natCast, BitVec.toNat_ofNat, BitVec.toNat_ofNat]
    have h1 : a % 2 ^ IntKind.u64.bits = a := Nat.mod_eq_of_lt ha
    have h2 : b % 2 ^ IntKind.u64.bits = b := Nat.mod_eq_of_lt hb
    rw [h1, h2]
  rw [e, wrap_u64n hlt]
theorem or_acc {acc x k : Nat} (hk : k ≤ 8) (h : acc < 128 ^ k) (hx : x < 128) : orI .u64 (acc : Int) ((x * 128 ^ k : Nat) : Int) = ((acc + x * 128 ^ k : Nat) : Int) := by
  have hp := pow_le8 hk
  have h4 : x * 128 ^ k ≤ 127 * 72057594037927936 := Nat.mul_le_mul (by omega) hp
  rw [or_u64 (by omega) (by omega)]
  congr 1
  rw [Nat.or_comm]
  have := Nat.shiftLeft_add_eq_or_of_lt (i := 7 * k) (b := acc) (by rw [← pow7]; exact h) x
  rw [Nat.shiftLeft_eq, ← pow7] at this
  omega

theorem byt_get {s p r : List UInt8} {d : UInt8} {v : PV} (hv : Reads1 1 v (ofBytes s)) (hl : s = p ++ d :: r) : iaddrP 1 v (.int .i64 (p.length : Int)) = some (.ref [.int .u8 d.toNat]) := by
  have h : p.length < (ofBytes s).length := by rw [ofBytes_len, hl]; simp
  have := hv.get p.length h .i64
  have e : (ofBytes s)[p.length] = .int .u8 d.toNat := by simp [hl, ofBytes]
  rw [e] at this
  exact this

theorem gu_loop {s : List UInt8} {v : PV} (hv : Reads1 1 v (ofBytes s)) {a : Nat} (ha : a + s.length ≤ 134217728) {K : List Kt} {Q : Fr → St → Prop} {S : St} : ∀ (r p : List UInt8) (acc : Nat), s = p ++ r → p.length ≤ 8 → acc < 128 ^ p.length → ∀ (fr : Fr),
    fr 1 = .int .i64 (a : Int) → fr 7 = .int .u64 (acc : Int) → fr 20 = v → fr 21 = .int .i64 s.length → fr 22 = .int .i64 p.length →
    (getR a r p.length acc = (0, 0, 4) → ∀ fr', Ok (gval T K fr' S) Q) →
    (∀ fr', fr' 4 = .int .i64 (getR a r p.length acc).1 → fr' 5 = .int .i64 (getR a r p.length acc).2.1 → fr' 6 = .int .i64 (getR a r p.length acc).2.2 → Q fr' S) →
    Ok (gval T (.lp frame_GetUint_l0 :: .blk 0 :: K) fr S) Q := by
  intro r
  induction r with
  | nil =>
    intro p acc e hp hacc fr h1 h7 h20 h21 h22 k1 k2
    rw [List.append_nil] at e; subst e
    rw [gval_lp]
    simp -implicitDefEqProofs [h21, h22]
    exact k1 rfl _
  | cons d r ih =>
    intro p acc e hp hacc fr h1 h7 h20 h21 h22 k1 k2
    have hlt : p.length < s.length := by rw [e]; simp
    have hg := byt_get hv e
    have hw := wrap_len (a := p.length) (by omega)
    have hd := d.toNat_lt
    have h7k : IntKind.i64.wrap (7 * (p.length : Int)) = ((7 * p.length : Nat) : Int) := by rw [wrap_i64 (by omega) (by omega)]; omega
    have hx : d.toNat % 128 < 128 := by omega
    have hw64 := wrap_u64n (n := d.toNat % 128) (by omega)
    have hsh := shl7 (a := d.toNat % 128) hp hx
    have hor := or_acc hp hacc hx
    have hstep := acc_step (d := d.toNat) hacc
    have hpl : 128 ^ (p.length + 1) ≤ 9223372036854775808 := Nat.le_trans (Nat.pow_le_pow_right (by decide) (show p.length + 1 ≤ 9 by omega)) (by decide)
    have hA0 : acc + d.toNat % 128 * 128 ^ p.length < 9223372036854775808 := by omega
    generalize hX : d.toNat % 128 * 128 ^ p.length = X at *
    generalize hA : acc + X = A at *
    have hw64' : IntKind.u64.wrap ((d.toNat : Int) % 128) = (d.toNat : Int) % 128 := by simpa using hw64
    have h7k' : IntKind.i64.wrap (7 * (p.length : Int)) = 7 * (p.length : Int) := by simpa using h7k
    have hsh' : arith .shl (.int .u64 ((d.toNat : Int) % 128)) (.int .i64 (7 * (p.length : Int))) = some (.int .u64 (X : Int)) := by simpa using hsh
    have hwA : IntKind.i64.wrap (A : Int) = (A : Int) := by rw [wrap_i64] <;> omega
    have hn1 : IntKind.i64.wrap ((a : Int) + (p.length : Int)) = (a : Int) + (p.length : Int) := by rw [wrap_i64 (by omega) (by omega)]
    have hn2 : IntKind.i64.wrap ((a : Int) + (p.length : Int) + 1) = (a : Int) + (p.length : Int) + 1 := by rw [wrap_i64 (by omega) (by omega)]
    rw [gval_lp]
    simp -implicitDefEqProofs [h1, h7, h20, h21, h22, hlt, hg, p1]
    refine ok_br (fun c => ?_) (fun c => ?_)
    · have hc : (p.length = 8 ∧ 127 < d.toNat) ∨ (0 < p.length ∧ d.toNat = 0) := by simp at c; omega
      have hr : getR a (d :: r) p.length acc = (0, 0, 5) := by rw [getR, if_pos hc]
      rw [hr] at k2
      exact ok_ret (k2 _ (by simp) (by simp) (by simp))
    · have hc : ¬ ((p.length = 8 ∧ 127 < d.toNat) ∨ (0 < p.length ∧ d.toNat = 0)) := by simp at c; omega
      simp -implicitDefEqProofs [h1, h7, and127, hw64', h7k', hsh', hor, hwA, hn1, hn2]
      refine ok_br (fun q => ?_) (fun q => ?_)
      · have hq : d.toNat < 128 := by simp at q; omega
        have hr : getR a (d :: r) p.length acc = (A, a + p.length + 1, 0) := by rw [getR, if_neg hc, if_pos hq, hX, hA]
        rw [hr] at k2
        exact ok_ret (k2 _ (by simp) (by simp) (by simp))
      · have hq : ¬ d.toNat < 128 := by simp at q; omega
        have hr : getR a (d :: r) p.length acc = getR a r (p.length + 1) A := by rw [getR, if_neg hc, if_neg hq, hX, hA]
        rw [hr] at k1 k2
        have hlen : (p ++ [d]).length = p.length + 1 := by simp
        refine ih (p ++ [d]) A (by simp [e]) (by rw [hlen]; omega) (by rw [hlen]; exact hstep) _ (by simp [h1]) (by simp) (by simp [h20]) (by simp [h21]) (by simp [hw]) (by rw [hlen]; exact k1) (by rw [hlen]; exact k2)

theorem gu_val {s : List UInt8} {v : PV} (hv : IsSl 1 v (ofBytes s)) (hs : s.length ≤ 67108864) {i : Int} (S : St) : cval T 110 [v, .int .i64 i] S = some (res3 (getU s i), S) := by
  have hlen := hv.len
  rw [ofBytes_len] at hlen
  refine cval_ok' fn_110 rfl ?_
  simp -implicitDefEqProofs [frame_GetUint, hlen]
  refine ok_br (fun c => ?_) (fun c => ?_)
  · have hc : i < 0 ∨ (s.length : Int) < i := by simpa using c
    have hr : getU s i = (0, 0, 2) := by rw [getU, if_pos hc]
    simp [hr, res3]
    rw [fin_free (Grows.refl S) rfl]; rfl
  · have hc : ¬ (i < 0 ∨ (s.length : Int) < i) := by simpa using c
    obtain ⟨a, rfl⟩ := Int.eq_ofNat_of_zero_le (show 0 ≤ i by omega)
    have ha : a ≤ s.length := by omega
    obtain ⟨v2, e1, e2⟩ := hv.lo (lo := a) (k := .i64) (by rw [ofBytes_len]; exact ha)
    have e2' : IsSl 1 v2 (ofBytes (s.drop a)) := by simpa [ofBytes] using e2
    have hlen2 := e2'.len
    rw [ofBytes_len] at hlen2
    have hr : getU s (a : Int) = getR a (s.drop a) 0 0 := by rw [getU, if_neg hc]; rfl
    have hw0 : (((s.drop a).length : Nat) : Int) = ((s.length - a : Nat) : Int) := by simp
    simp -implicitDefEqProofs [hlen, e1, hlen2]
    rw [hr]
    refine gu_loop (s := s.drop a) e2'.reads (a := a) (by rw [List.length_drop]; omega) (s.drop a) [] 0 rfl (by simp) (by simp) _ (by simp) (by simp) (by simp) (by simp) (by simp) (fun hz fr' => ?_) (fun fr' g4 g5 g6 => ?_)
    · have hz' : getR a (s.drop a) 0 0 = (0, 0, 4) := hz
      simp [hz', res3]
      rw [fin_free (Grows.refl S) rfl]; rfl
    · simp [g4, g5, g6, res3]
      rw [fin_free (Grows.refl S) rfl]; rfl

theorem rgu_loop {s : List UInt8} {v : PV} (hv : Reads1 1 v (ofBytes s)) {a : Nat} (hs : s.length ≤ 67108864) {K : List Kt} {Q : Fr → St → Prop} {S : St} : ∀ (r p : List UInt8) (k acc : Nat), s = p ++ r → p.length = a + k → k ≤ 8 → acc < 128 ^ k → ∀ (fr : Fr),
    fr 0 = v → fr 1 = .int .i64 (a : Int) → fr 7 = .int .i64 (acc : Int) → fr 8 = .int .i64 ((128 ^ k : Nat) : Int) → fr 9 = .int .i64 (k : Int) →
    (getR a r k acc = (0, 0, 5) → ∀ fr', Ok (gval T K fr' S) Q) →
    (∀ fr', fr' 4 = .int .i64 (getR a r k acc).1 → fr' 5 = .int .i64 (getR a r k acc).2.1 → fr' 6 = .int .i64 (getR a r k acc).2.2 → Q fr' S) →
    Ok (gval T (.lp ref02_GetUint_l0 :: .blk 0 :: K) fr S) Q := by
  intro r
  induction r with
  | nil =>
    intro p k acc e hp hk hacc fr h0 h1 h7 h8 h9 k1 k2
    rw [List.append_nil] at e; subst e
    have hlen := hv.len
    rw [ofBytes_len] at hlen
    have hn1 : IntKind.i64.wrap ((a : Int) + (k : Int)) = (a : Int) + (k : Int) := by rw [wrap_i64 (by omega) (by omega)]
    have hc1 : (k : Int) < 9 := by omega
    have hc2 : (s.length : Int) ≤ (a : Int) + (k : Int) := by omega
    rw [gval_lp]
    simp -implicitDefEqProofs [h0, h1, h9, hlen, hn1, hc1, hc2]
    exact k2 _ (by simp [getR]) (by simp [getR]) (by simp [getR])
  | cons d r ih =>
    intro p k acc e hp hk hacc fr h0 h1 h7 h8 h9 k1 k2
    have hsl : s.length = p.length + (r.length + 1) := by rw [e]; simp
    have hlen := hv.len
    rw [ofBytes_len] at hlen
    have hg := byt_get hv e
    rw [hp] at hg
    have hg' : iaddrP 1 v (.int .i64 ((a : Int) + (k : Int))) = some (.ref [.int .u8 d.toNat]) := by simpa using hg
    have hd := d.toNat_lt
    have hn1 : IntKind.i64.wrap ((a : Int) + (k : Int)) = (a : Int) + (k : Int) := by rw [wrap_i64 (by omega) (by omega)]
    have hn2 : IntKind.i64.wrap ((a : Int) + (k : Int) + 1) = (a : Int) + (k : Int) + 1 := by rw [wrap_i64 (by omega) (by omega)]
    have hn3 : IntKind.i64.wrap ((k : Int) + 1) = (k : Int) + 1 := by rw [wrap_i64 (by omega) (by omega)]
    have hc1 : (k : Int) < 9 := by omega
    have hc2 : ¬ (s.length : Int) ≤ (a : Int) + (k : Int) := by omega
    have hx : d.toNat % 128 < 128 := by omega
    have hstep := acc_step (d := d.toNat) hacc
    have hpl : 128 ^ (k + 1) ≤ 9223372036854775808 := Nat.le_trans (Nat.pow_le_pow_right (by decide) (show k + 1 ≤ 9 by omega)) (by decide)
    have hwd : IntKind.i64.wrap (d.toNat : Int) = (d.toNat : Int) := by rw [wrap_i64] <;> omega
    have hmod : (d.toNat : Int).tmod 128 = ((d.toNat % 128 : Nat) : Int) := by rw [Int.tmod_eq_emod_of_nonneg (by omega)]; omega
    have hA0 : acc + d.toNat % 128 * 128 ^ k < 9223372036854775808 := by omega
    have hmul : ((d.toNat % 128 : Nat) : Int) * ((128 ^ k : Nat) : Int) = ((d.toNat % 128 * 128 ^ k : Nat) : Int) := by rw [← Int.natCast_mul]
    have hm8 : IntKind.i64.wrap (((128 ^ k : Nat) : Int) * 128) = ((128 ^ (k + 1) : Nat) : Int) ∨ k = 8 := by
      by_cases h8k : k = 8
      · exact .inr h8k
      · left
        have := pow_le8 (k := k + 1) (by omega)
        rw [pow_step] at this ⊢
        rw [wrap_i64 (by omega) (by omega)]; omega
    have hpk : 128 ^ (k + 1) = 128 ^ k * 128 := pow_step k
    generalize hM1 : 128 ^ (k + 1) = M1 at *
    generalize hM : 128 ^ k = M at *
    generalize hX : d.toNat % 128 * M = X at *
    generalize hA : acc + X = A at *
    have hmul' : (d.toNat : Int).tmod 128 * (M : Int) = (X : Int) := by rw [hmod, hmul]
    have hmul2 : (d.toNat : Int) % 128 * (M : Int) = (X : Int) := by rw [← hmul']; rw [Int.tmod_eq_emod_of_nonneg (by omega)]
    have hwX : IntKind.i64.wrap (X : Int) = (X : Int) := by rw [wrap_i64] <;> omega
    have hwA : IntKind.i64.wrap ((acc : Int) + (X : Int)) = (A : Int) := by rw [wrap_i64 (by omega) (by omega)]; omega
    rw [gval_lp]
    simp -implicitDefEqProofs [h0, h1, h7, h8, h9, hlen, hn1, hc1, hc2, hg', p1, hwd, hmul', hmul2, hwX, hwA]
    refine ok_br (fun q => ?_) (fun q => ?_)
    · have hq : d.toNat < 128 := by simp at q; omega
      refine ok_br (fun c => ?_) (fun c => ?_)
      · have hc : (k = 8 ∧ 127 < d.toNat) ∨ (0 < k ∧ d.toNat = 0) := by simp at c; omega
        have hr : getR a (d :: r) k acc = (0, 0, 5) := by rw [getR, if_pos hc]
        rw [hr] at k2
        exact ok_ret (k2 _ (by simp) (by simp) (by simp))
      · have hc : ¬ ((k = 8 ∧ 127 < d.toNat) ∨ (0 < k ∧ d.toNat = 0)) := by simp at c; omega
        have hr : getR a (d :: r) k acc = (A, a + k + 1, 0) := by rw [getR, if_neg hc, if_pos hq, hM, hX, hA]
        rw [hr] at k2
        simp -implicitDefEqProofs [h1, hn1, hn2]
        exact k2 _ (by simp) (by simp) (by simp)
    · have hq : ¬ d.toNat < 128 := by simp at q; omega
      by_cases h8k : k = 8
      · subst h8k
        have hr : getR a (d :: r) 8 acc = (0, 0, 5) := by rw [getR, if_pos (.inl ⟨rfl, by omega⟩)]
        have hn3' : IntKind.i64.wrap 9 = 9 := by decide
        simp -implicitDefEqProofs [h9, hn3']
        rw [gval_lp]
        simp -implicitDefEqProofs
        exact k1 hr _
      · have hc : ¬ ((k = 8 ∧ 127 < d.toNat) ∨ (0 < k ∧ d.toNat = 0)) := by omega
        have hr : getR a (d :: r) k acc = getR a r (k + 1) A := by rw [getR, if_neg hc, if_neg hq, hM, hX, hA]
        rw [hr] at k1 k2
        have hc3 : (k : Int) < 8 := by omega
        have hm8' := hm8.resolve_right h8k
        have hlenp : (p ++ [d]).length = a + (k + 1) := by simp [hp]; omega
        simp -implicitDefEqProofs [h8, h9, hc3, hm8', hn3]
        exact ih (p ++ [d]) (k + 1) A (by simp [e]) hlenp (by omega) (by rw [hM1]; exact hstep) _ (by simp [h0]) (by simp [h1]) (by simp) (by simp [hM1]) (by simp) k1 k2

theorem rgu_val {s : List UInt8} {v : PV} (hv : IsSl 1 v (ofBytes s)) (hs : s.length ≤ 67108864) {i : Int} (S : St) : cval T 112 [v, .int .i64 i] S = some (res3 (getU s i), S) := by
  have hlen := hv.len
  rw [ofBytes_len] at hlen
  refine cval_ok' fn_112 rfl ?_
  simp -implicitDefEqProofs [ref02_GetUint, hlen]
  refine ok_br (fun c => ?_) (fun c => ?_)
  · have hc : i < 0 ∨ (s.length : Int) < i := by simpa using c
    have hr : getU s i = (0, 0, 2) := by rw [getU, if_pos hc]
    simp [hr, res3]
    rw [fin_free (Grows.refl S) rfl]; rfl
  · have hc : ¬ (i < 0 ∨ (s.length : Int) < i) := by simpa using c
    obtain ⟨a, rfl⟩ := Int.eq_ofNat_of_zero_le (show 0 ≤ i by omega)
    have ha : a ≤ s.length := by omega
    have hr : getU s (a : Int) = getR a (s.drop a) 0 0 := by rw [getU, if_neg hc]; rfl
    rw [hr]
    refine rgu_loop (s := s) hv.reads (a := a) hs (s.drop a) (s.take a) 0 0 (List.take_append_drop a s).symm (by rw [List.length_take]; omega) (by omega) (by decide) _ (by simp) (by simp) (by simp) (by simp) (by simp) (fun hz fr' => ?_) (fun fr' g4 g5 g6 => ?_)
    · simp [hz, res3]
      rw [fin_free (Grows.refl S) rfl]; rfl
    · simp [g4, g5, g6, res3]
      rw [fin_free (Grows.refl S) rfl]; rfl

/-! Texts. -/
def getX (s : List UInt8) (i : Int) : List UInt8 × Nat × Nat :=
  if (getU s i).2.2 ≠ 0 then ([], 0, (getU s i).2.2) else if 65535 < (getU s i).1 then ([], 0, 3) else if s.length - (getU s i).2.1 < (getU s i).1 then ([], 0, 4) else
  ((s.drop (getU s i).2.1).take (getU s i).1, (getU s i).2.1 + (getU s i).1, 0)
def resT (x : List UInt8 × Nat × Nat) : PV := .tup [.str x.1, .int .i64 x.2.1, .int .i64 x.2.2]
end Ps
