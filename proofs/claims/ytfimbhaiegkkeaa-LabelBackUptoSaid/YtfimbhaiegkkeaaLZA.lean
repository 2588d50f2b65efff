/- A right set's bytes are read back: the plain law, and the law of LabelBack. -/
import Derived.Test.YtfimbhaiegkkeaaLZ
namespace Ps
set_option linter.unusedSimpArgs false
open Go

theorem getR_put (a : Nat) (w : List UInt8) : ∀ (n k acc : Nat), k ≤ 8 → n < 128 ^ (9 - k) → (k = 0 ∨ n ≠ 0) → getR a (uintB n ++ w) k acc = (acc + n * 128 ^ k, a + k + (uintB n).length, 0) := by
  intro n
  induction n using Nat.strongRecOn with
  | _ n ih =>
    intro k acc hk hn h0
    by_cases h : n < 128
    · have hu : uintB n = [UInt8.ofNat n] := by rw [uintB, if_pos h]
      have hd : (UInt8.ofNat n).toNat = n := by simp; omega
      rw [hu]
      simp only [List.cons_append, List.nil_append, getR, hd, List.length_cons, List.length_nil]
      rw [if_neg (by omega), if_pos h, Nat.mod_eq_of_lt h]
    · have hu : uintB n = UInt8.ofNat (n % 128 + 128) :: uintB (n / 128) := by rw [uintB, if_neg h]
      have hd : (UInt8.ofNat (n % 128 + 128)).toNat = n % 128 + 128 := by simp; omega
      have hk7 : k ≤ 7 := by
        rcases Nat.lt_or_ge k 8 with q | q
        · omega
        · have : k = 8 := by omega
          subst this
          simp at hn; omega
      have hn' : n / 128 < 128 ^ (9 - (k + 1)) := by
        rw [Nat.div_lt_iff_lt_mul (by decide), ← Nat.pow_succ, show (9 - (k + 1)).succ = 9 - k by omega]; exact hn
      have hr := ih (n / 128) (by omega) (k + 1) (acc + n % 128 * 128 ^ k) (by omega) hn' (.inr (by omega))
      rw [hu]
      simp only [List.cons_append, getR, hd, List.length_cons]
      rw [if_neg (by omega), if_neg (by omega), show (n % 128 + 128) % 128 = n % 128 by omega, hr]
      have e : acc + n % 128 * 128 ^ k + n / 128 * 128 ^ (k + 1) = acc + n * 128 ^ k := by
        rw [pow_step, Nat.mul_comm (128 ^ k) 128, ← Nat.mul_assoc, Nat.add_assoc, ← Nat.add_mul]
        congr 2
        omega
      rw [e]
      congr 2
      omega
theorem getU_put {p w : List UInt8} {n : Nat} (h : n < 9223372036854775808) : getU (p ++ (uintB n ++ w)) (p.length : Int) = (n, p.length + (uintB n).length, 0) := by
  unfold getU
  rw [if_neg (by simp; omega)]
  have e : (p ++ (uintB n ++ w)).drop ((p.length : Int).toNat) = uintB n ++ w := by simp
  rw [e, getR_put _ w n 0 0 (by omega) (by simpa using h) (.inl rfl)]
  simp
theorem getX_put {p w t : List UInt8} (h : t.length ≤ 65535) : getX (p ++ (textB t ++ w)) (p.length : Int) = (t, p.length + (textB t).length, 0) := by
  have hu := getU_put (p := p) (w := t ++ w) (n := t.length) (by omega)
  have e : p ++ (textB t ++ w) = p ++ (uintB t.length ++ (t ++ w)) := by simp [textB]
  have hl : (textB t).length = (uintB t.length).length + t.length := by simp [textB]
  unfold getX
  rw [e, hu]
  simp only
  rw [if_neg (by decide), if_neg (by omega), if_neg (by simp only [List.length_append]; omega)]
  have e2 : p ++ (uintB t.length ++ (t ++ w)) = (p ++ uintB t.length) ++ (t ++ w) := by simp
  rw [e2, show p.length + (uintB t.length).length = (p ++ uintB t.length).length by simp, List.drop_left, List.take_left]
  simp only [List.length_append]
  congr 2
  omega
theorem readR_put {w : List UInt8} : ∀ (l : List Lab) (p : List UInt8) (l0 : List Lab), (∀ x ∈ l, x.1.length ≤ 65535 ∧ x.2.1.length ≤ 65535) → readR (p ++ (l.flatMap lab1B ++ w)) l.length p.length l0 = (l0 ++ l, p.length + (l.flatMap lab1B).length, 0)
  | [], p, l0, _ => by simp [readR]
  | (a, b, ()) :: l, p, l0, h => by
    have h1 := (h (a, b, ()) (by simp)).1
    have h2 := (h (a, b, ()) (by simp)).2
    simp only at h1 h2
    have e1 : p ++ (((a, b, ()) :: l).flatMap lab1B ++ w) = p ++ (textB a ++ (textB b ++ (l.flatMap lab1B ++ w))) := by simp [lab1B]
    have e2 : p ++ (textB a ++ (textB b ++ (l.flatMap lab1B ++ w))) = (p ++ textB a) ++ (textB b ++ (l.flatMap lab1B ++ w)) := by simp
    have e3 : p ++ (textB a ++ (textB b ++ (l.flatMap lab1B ++ w))) = (p ++ textB a ++ textB b) ++ (l.flatMap lab1B ++ w) := by simp
    have g1 := getX_put (p := p) (w := textB b ++ (l.flatMap lab1B ++ w)) h1
    have g2 := getX_put (p := p ++ textB a) (w := l.flatMap lab1B ++ w) h2
    rw [← e2] at g2
    have ih := readR_put (w := w) l (p ++ textB a ++ textB b) (l0 ++ [(a, b, ())]) (fun x hx => h x (by simp [hx]))
    rw [← e3] at ih
    rw [e1, List.length_cons, readR, g1]
    simp only
    rw [if_neg (by decide)]
    rw [show p.length + (textB a).length = (p ++ textB a).length by simp, g2]
    simp only
    rw [if_neg (by decide), show (p ++ textB a).length + (textB b).length = (p ++ textB a ++ textB b).length by simp; omega, ih]
    simp [lab1B]
    omega
theorem readN_put {p w : List UInt8} {l : List Lab} (h : checkN l = 0) : readN (p ++ (labsB l ++ w)) (p.length : Int) = (l, (p ++ labsB l).length, 0) := by
  obtain ⟨h1, h2, _⟩ := checkN_zero.1 h
  have hu := getU_put (p := p) (w := l.flatMap lab1B ++ w) (n := l.length) (by omega)
  have e : p ++ (labsB l ++ w) = p ++ (uintB l.length ++ (l.flatMap lab1B ++ w)) := by simp [labsB]
  have e2 : p ++ (uintB l.length ++ (l.flatMap lab1B ++ w)) = (p ++ uintB l.length) ++ (l.flatMap lab1B ++ w) := by simp
  have hr := readR_put (w := w) l (p ++ uintB l.length) [] (fun x hx => by obtain ⟨a, b⟩ := okLab_len (h2 x hx); exact ⟨by omega, by omega⟩)
  rw [← e2, List.nil_append] at hr
  unfold readN
  rw [e, hu]
  simp only
  rw [if_neg (by decide), if_neg (by omega), show p.length + (uintB l.length).length = (p ++ uintB l.length).length by simp, hr]
  simp only
  rw [if_neg (by decide), if_neg (by rw [h]; decide)]
  simp [labsB]
  omega

theorem fn_9 : T.fn 9 = some (.code law06_LabelBack) := rfl
theorem wid_right {l : List Lab} (h : ∀ x ∈ l, okLab x) : wid l ≤ 300 * l.length := by
  induction l with
  | nil => simp [wid]
  | cons x l ih =>
    have a := ih (fun y hy => h y (by simp [hy]))
    obtain ⟨b, c⟩ := okLab_len (h x (by simp))
    simp only [wid, List.length_cons]; omega

theorem law_LabelBack (xs : denL [.sl tyLab, .sl (.int .u8), .sl (.int .u8)]) (h : wfL [.sl tyLab, .sl (.int .u8), .sl (.int .u8)] xs) (hb : bulkL [.sl tyLab, .sl (.int .u8), .sl (.int .u8)] xs ≤ 1048576) : ∃ S', cval T 9 (pvL [.sl tyLab, .sl (.int .u8), .sl (.int .u8)] xs) St0 = some (.bool true, S') := by
  obtain ⟨l, b, m, u⟩ := xs
  obtain ⟨wl, wb, wm, _⟩ := h
  obtain ⟨_, wn⟩ := inL_wf wl
  have hb' : (Ty.sl tyLab).bulk l + ((Ty.sl (.int .u8)).bulk b + ((Ty.sl (.int .u8)).bulk m + 0)) ≤ 1048576 := hb
  have b1 := inB_len b
  have b3 := inB_len m
  have b2 := inL_len l
  have hvb := inB_isl wb
  have hvm := inB_isl wm
  have hv := inL_reads l
  refine ⟨St0, ?_⟩
  show cval T 9 [(Ty.sl tyLab).pv l, (Ty.sl (.int .u8)).pv b, (Ty.sl (.int .u8)).pv m] St0 = _
  generalize (Ty.sl tyLab).pv l = v at hv
  generalize (Ty.sl (.int .u8)).pv b = v2 at hvb
  generalize (Ty.sl (.int .u8)).pv m = v3 at hvm
  generalize inL l = L at *
  generalize inB b = B at *
  generalize inB m = M at *
  have hL2 : L.length ≤ maxLen := by unfold maxLen; omega
  have hn : ∀ x ∈ L, x.1.length ≤ maxLen := fun x hx => (wn x hx).1
  have hcv := check_val hv hn hL2 St0
  refine cval_ok' fn_9 rfl ?_
  by_cases hr : checkN L = 0
  · have hR := checkN_zero.1 hr
    obtain ⟨p1', pe, pb⟩ := putL_ok hvb (by omega) hv hn hL2 hR St0
    have hfl := labs_flat_len hR.2.1
    have hul := uintB_le9 (n := L.length) (by have := hR.1; omega)
    have hll : (B ++ labsB L).length ≤ 1100000 := by have := hR.1; simp only [labsB, List.length_append]; omega
    obtain ⟨w1, S1, a1, a2, a3⟩ := (accg_new 1 [] (Grows.refl St0)).app (bytes := 1) (ofBytes (B ++ labsB L)) (by rw [ofBytes_len]; simp only [List.length_nil]; omega)
    simp only [List.length_nil, List.nil_append] at a1 a2
    obtain ⟨w2, S2, c1, c2, c3⟩ := a2.app (bytes := 1) (ofBytes M) (by rw [ofBytes_len, ofBytes_len]; omega)
    rw [← ofBytes_app] at c2
    obtain ⟨r, re, rs⟩ := read_val (c2.isSl (ofBytes_cells _)) (by rw [List.length_append]; omega) (i := (B.length : Int)) S2
    have hrn := readN_put (p := B) (w := M) hr
    rw [← List.append_assoc] at hrn
    rw [hrn] at rs
    obtain ⟨v4, rfl, s4⟩ := rs
    have hwid := wid_right hR.2.1
    have hpr := print_val hv (by have := hR.1; omega) St0
    have hpl := printT_len L
    obtain ⟨v5, q5, s5⟩ := parses_pv (parse_val (s := printT L) (by have := hR.1; omega) St0)
    rw [parL_print hr] at q5 s5
    have hs4 := same_val s4.reads hv (by unfold maxLen; have := hR.1; simp only; omega) S2
    have hs5 := same_val s5.reads hv (by unfold maxLen; have := hR.1; simp only [Option.getD]; omega) S2
    simp only [Option.getD] at hs5
    rw [cmpL_zero.2 rfl] at hs4 hs5
    have hs4' : cval T 26 [v4, v] S2 = some (.bool true, S2) := hs4
    have hs5' : cval T 26 [v5, v] S2 = some (.bool true, S2) := hs5
    have q5' : pval T 22 [.str (printT L)] = some (.tup [v5, .int .i64 0]) := q5
    have lb := hvb.len
    rw [ofBytes_len] at lb
    have lp := pb.isl.len
    rw [ofBytes_len] at lp
    have h0 : ((0 : Int) != 0) = false := rfl
    simp -implicitDefEqProofs [law06_LabelBack, pe, hpr, q5', pstep, elems, setParts, pb.isl.appd, a1, hvm.appd, c1, lb, lp, re, hs4', hs5', lives_pval]
    exact fin_gb c2.grows
  · have pe := putL_no (v := v2) hv hn hL2 hr St0
    have hne : ((checkN L : Int) != 0) = true := by simpa using hr
    simp -implicitDefEqProofs [law06_LabelBack, pe, hne, hcv, lives_pval]
end Ps
