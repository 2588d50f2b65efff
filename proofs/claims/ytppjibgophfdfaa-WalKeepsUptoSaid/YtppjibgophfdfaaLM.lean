/- Labels read; what is laid down is read back (out of the label seat's texts) -/
import Derived.Test.YtppjibgophfdfaaLK
namespace Ps
set_option linter.unusedSimpArgs false
open Go
theorem fn_31 : T.fn 31 = some (.code z52) := rfl
theorem cut_val {s : List UInt8} {v : PV} (hv : IsSl 1 v (ofBytes s)) {n nx : Nat} (h1 : nx ≤ s.length) (h2 : n ≤ s.length - nx) :
    ∃ v', slcP 1 (some (.int .i64 (nx : Int))) (some (.int .i64 ((nx : Int) + (n : Int)))) v = some v' ∧ toStrP v' = some (.str ((s.drop nx).take n)) := by
  obtain ⟨v', e1, e2⟩ := hv.lh (lo := nx) (hi := nx + n) (k := .i64) (j := .i64) (by omega) (by rw [ofBytes_len]; omega)
  refine ⟨v', by simpa using e1, toStr_of ?_⟩
  have : (List.drop nx (List.take (nx + n) (ofBytes s))) = ofBytes ((s.drop nx).take n) := by
    simp only [ofBytes, ← List.map_take, ← List.map_drop]
    rw [List.drop_take]
    congr 2
    omega
  rw [this] at e2; exact e2
theorem gt_val {s : List UInt8} {v : PV} (hv : IsSl 1 v (ofBytes s)) (hs : s.length ≤ 67108864) {i : Int} (S : St) : cval T 111 [v, .int .i64 i] S = some (resT (getX s i), S) := by
  have hlen := hv.len
  rw [ofBytes_len] at hlen
  have hg := gu_val hv hs (i := i) S
  have hok := getU_ok (s := s) (i := i)
  unfold getX
  obtain ⟨⟨n, nx, e⟩, hu⟩ : ∃ q, getU s i = q := ⟨_, rfl⟩
  rw [hu] at hg hok
  simp only [res3] at hg hok
  simp only [hu]
  generalize hR : (if e ≠ 0 then (([], 0, e) : List UInt8 × Nat × Nat) else _) = R
  refine cval_ok' fn_111 rfl ?_
  simp -implicitDefEqProofs [z31, hg]
  refine ok_br (fun c => ?_) (fun c => ?_)
  · have hc : e ≠ 0 := by simpa using c
    rw [if_pos hc] at hR
    subst hR
    simp [resT]
    rw [fin_free (Grows.refl S) rfl]; rfl
  · have hc : e = 0 := by simpa using c
    subst hc
    obtain ⟨o1, o2⟩ := hok rfl
    rw [if_neg (by decide)] at hR
    refine ok_br (fun c => ?_) (fun c => ?_)
    · have hc : 65535 < n := by simp at c; omega
      rw [if_pos hc] at hR
      subst hR
      simp [resT]
      rw [fin_free (Grows.refl S) rfl]; rfl
    · have hc : ¬ 65535 < n := by simp at c; omega
      rw [if_neg hc] at hR
      have hw : IntKind.i64.wrap ((s.length : Int) - (nx : Int)) = (s.length : Int) - (nx : Int) := by rw [wrap_i64 (by omega) (by omega)]
      simp -implicitDefEqProofs [hlen, hw]
      refine ok_br (fun c => ?_) (fun c => ?_)
      · have hc : s.length - nx < n := by simp at c; omega
        rw [if_pos hc] at hR
        subst hR
        simp [resT]
        rw [fin_free (Grows.refl S) rfl]; rfl
      · have hc : ¬ s.length - nx < n := by simp at c; omega
        rw [if_neg hc] at hR
        subst hR
        obtain ⟨v', e1, e2⟩ := cut_val hv (n := n) (nx := nx) o1 (by omega)
        have hw2 : IntKind.i64.wrap ((nx : Int) + (n : Int)) = (nx : Int) + (n : Int) := by rw [wrap_i64 (by omega) (by omega)]
        simp -implicitDefEqProofs [hw2, e1, e2, resT]
        rw [fin_free (Grows.refl S) rfl]; rfl
theorem getX_len {s : List UInt8} {i : Int} : (getX s i).1.length ≤ 65535 := by
  unfold getX
  split
  · simp
  · split
    · simp
    · split
      · simp
      · simp only [List.length_take]; omega
def readR (s : List UInt8) : Nat → Nat → List Lab → List Lab × Nat × Nat
  | 0, i, l => (l, i, 0)
  | m + 1, i, l => if (getX s (i : Int)).2.2 ≠ 0 then ([], 0, (getX s (i : Int)).2.2) else
    if (getX s ((getX s (i : Int)).2.1 : Nat)).2.2 ≠ 0 then ([], 0, (getX s ((getX s (i : Int)).2.1 : Nat)).2.2) else
    readR s m (getX s ((getX s (i : Int)).2.1 : Nat)).2.1 (l ++ [((getX s (i : Int)).1, (getX s ((getX s (i : Int)).2.1 : Nat)).1, ())])
def readN (s : List UInt8) (i : Int) : List Lab × Nat × Nat :=
  if (getU s i).2.2 ≠ 0 then ([], 0, (getU s i).2.2) else if 8 < (getU s i).1 then ([], 0, 3) else
  if (readR s (getU s i).1 (getU s i).2.1 []).2.2 ≠ 0 then ([], 0, (readR s (getU s i).1 (getU s i).2.1 []).2.2) else
  if checkN (readR s (getU s i).1 (getU s i).2.1 []).1 ≠ 0 then ([], 0, 5) else ((readR s (getU s i).1 (getU s i).2.1 []).1, (readR s (getU s i).1 (getU s i).2.1 []).2.1, 0)
theorem readL_loop {s : List UInt8} {v : PV} (hv : IsSl 1 v (ofBytes s)) (hs : s.length ≤ 67108864) {N : Nat} (hN : N ≤ 8) {S0 : St} {K : List Kt} {Q : Fr → St → Prop} : ∀ (m i : Nat) (l : List Lab), l.length + m = N → (∀ x ∈ l, x.1.length ≤ maxLen) → ∀ (fr : Fr) (S : St),
    fr 0 = v → fr 1 = .int .i64 (i : Int) → fr 7 = .int .i64 (N : Int) → fr 8 = .int .i64 0 → AccG S0 2 S (fr 9) (l.map labV) →
    ((readR s m i l).2.2 = 0 → ∀ fr' S', fr' 1 = .int .i64 ((readR s m i l).2.1 : Int) → fr' 8 = .int .i64 0 → AccG S0 2 S' (fr' 9) ((readR s m i l).1.map labV) → (∀ x ∈ (readR s m i l).1, x.1.length ≤ maxLen) → (readR s m i l).1.length = N → Ok (gval T K fr' S') Q) →
    ((readR s m i l).2.2 ≠ 0 → ∀ fr' S', Grows S0 S' → fr' 8 = .int .i64 ((readR s m i l).2.2 : Int) → Ok (gval T K fr' S') Q) →
    Ok (gval T (.lp z52_l0 :: .blk 0 :: K) fr S) Q := by
  intro m
  induction m with
  | zero =>
    intro i l hl hn fr S h0 h1 h7 h8 ha k1 k2
    have hlen := ha.len
    rw [List.length_map] at hlen
    have hlt : ¬ (l.length : Int) < (N : Int) := by omega
    rw [gval_lp]
    simp -implicitDefEqProofs [h7, h8, hlen, hlt]
    exact k1 rfl _ _ (by simp [h1, readR]) (by simp [h8]) (by simpa [readR] using ha) hn (by simpa [readR] using hl)
  | succ m ih =>
    intro i l hl hn fr S h0 h1 h7 h8 ha k1 k2
    have hlen := ha.len
    rw [List.length_map] at hlen
    have hlt : (l.length : Int) < (N : Int) := by omega
    have hx1 := fun S => gt_val hv hs (i := (i : Int)) S
    have hl1 := getX_len (s := s) (i := (i : Int))
    rw [readR] at k1 k2
    obtain ⟨⟨nm, nx, e⟩, hX⟩ : ∃ q, getX s (i : Int) = q := ⟨_, rfl⟩
    rw [hX] at k1 k2 hl1
    simp only [hX, resT] at hx1
    simp only at k1 k2 hl1
    have hp0 : putCells [PV.str [], PV.str []] 0 [.str nm] = [.str nm, .str []] := rfl
    rw [gval_lp]
    simp -implicitDefEqProofs [h0, h1, h7, h8, hlen, hlt, pstep, hx1, putCells]
    refine ok_br (fun c => ?_) (fun c => ?_)
    · have hc : e = 0 := by simpa using c
      subst hc
      have hx2 := fun S => gt_val hv hs (i := (nx : Int)) S
      have hl2 := getX_len (s := s) (i := (nx : Int))
      rw [if_neg (by decide)] at k1 k2
      obtain ⟨⟨vl, nx2, e2⟩, hX2⟩ : ∃ q, getX s (nx : Int) = q := ⟨_, rfl⟩
      rw [hX2] at k1 k2 hl2
      simp only [hX2, resT] at hx2
      simp only at k1 k2 hl2
      obtain ⟨v', S', f1, f2, f3⟩ := ((ha.objs [[.str nm, .str vl]]).arrs [(1, 2)]).app (bytes := 32) [labV (nm, vl, ())] (by simp; omega)
      simp only [labV] at f1
      simp -implicitDefEqProofs [h0, hx2, pstep, putCells, p2, elems, setParts, f1]
      by_cases hc2 : e2 = 0
      · subst hc2
        rw [if_neg (by decide)] at k1 k2
        exact ih nx2 (l ++ [(nm, vl, ())]) (by simp; omega) (fun x hx => by
          rcases List.mem_append.1 hx with hx | hx
          · exact hn x hx
          · simp at hx; subst hx; simp only; unfold maxLen; omega) _ S' (by simp [h0]) (by simp) (by simp [h7]) (by simp) (by simpa [labV] using f2) k1 k2
      · rw [if_pos hc2] at k1 k2
        have hne : ((e2 : Int) == 0) = false := by simpa using hc2
        rw [gval_lp]
        simp -implicitDefEqProofs [hne]
        refine k2 hc2 _ _ f2.grows ?_
        simp
    · have hc : e ≠ 0 := by simpa using c
      rw [if_pos hc] at k1 k2
      obtain ⟨v', S', f1, f2, f3⟩ := ((ha.objs [[.str nm, .str []]]).arrs [(1, 2)]).app (bytes := 32) [labV (nm, [], ())] (by simp; omega)
      simp only [labV] at f1
      simp -implicitDefEqProofs [p2, pstep, elems, setParts, f1]
      have hne : ((e : Int) == 0) = false := by simpa using hc
      rw [gval_lp]
      simp -implicitDefEqProofs [hne]
      refine k2 hc _ _ f2.grows ?_
      simp
theorem res_fin {S S' : St} {v : PV} {l : List Lab} {n e : Nat} (ha : AccG S 2 S' v (l.map labV)) : finish false S S' (.tup [v, .int .i64 (n : Int), .int .i64 (e : Int)]) = (.tup [slF v (l.map labV), .int .i64 (n : Int), .int .i64 (e : Int)], S) := by
  have hf : v.free = true ∧ v.frz = slF v (l.map labV) := by
    rcases ha.acc with ⟨h, _⟩ | ⟨id, _, h, _⟩
    · rw [h]; exact ⟨rfl, rfl⟩
    · rw [h]; exact ⟨by simp [PV.free, labs_free, PV.freeL], by simp [slF, PV.frz, labs_frz, PV.frzL]⟩
  rw [fin_free ha.grows (by simp [PV.free, PV.freeL, hf.1])]
  simp [PV.frz, PV.frzL, hf.2]
def ReadsTo (x : List Lab × Nat × Nat) (r : PV) : Prop := ∃ v', r = .tup [v', .int .i64 (x.2.1 : Int), .int .i64 (x.2.2 : Int)] ∧ SlL v' x.1
theorem nilL : SlL .nils [] := ⟨.inl ⟨rfl, rfl⟩, rfl, rfl⟩
theorem read_val {s : List UInt8} {v : PV} (hv : IsSl 1 v (ofBytes s)) (hs : s.length ≤ 67108864) {i : Int} (S : St) : ∃ r, cval T 31 [v, .int .i64 i] S = some (r, S) ∧ ReadsTo (readN s i) r := by
  have key := cval_ex (T := T) (f := 31) (c := z52) fn_31 (args := [v, .int .i64 i]) (S := S) rfl (R := fun r S2 => S2 = S ∧ ReadsTo (readN s i) r) ?_
  · obtain ⟨r, S2, h1, rfl, h2⟩ := key
    exact ⟨r, h1, h2⟩
  have hg := gu_val hv hs (i := i) S
  have hok := getU_ok (s := s) (i := i)
  generalize hR : readN s i = R
  unfold readN at hR
  obtain ⟨⟨n, nx, e⟩, hu⟩ : ∃ q, getU s i = q := ⟨_, rfl⟩
  rw [hu] at hg hok
  simp only [res3] at hg hok
  simp only [hu] at hR
  -- nothing
  have fin_no : ∀ (fr : Fr) (S' : St) (e : Nat), R = ([], 0, e) → Grows S S' → (finish false S S' (.tup [.nils, .int .i64 0, .int .i64 (e : Int)])).2 = S ∧ ReadsTo R (finish false S S' (.tup [.nils, .int .i64 0, .int .i64 (e : Int)])).1 := by
    intro fr S' e hR hg
    rw [fin_free hg rfl]
    exact ⟨rfl, .nils, by rw [hR]; rfl, by rw [hR]; exact nilL⟩
  simp -implicitDefEqProofs [z52, hg]
  refine ok_br (fun c => ?_) (fun c => ?_)
  · obtain ⟨h1, h2⟩ : e = 0 ∧ 8 < n := by simp at c; omega
    subst h1
    rw [if_neg (by decide), if_pos h2] at hR
    simp -implicitDefEqProofs
    rw [gval_lp]
    simp -implicitDefEqProofs
    exact fin_no Fr.bot S 3 hR.symm (Grows.refl S)
  · by_cases he : e = 0
    · subst he
      have hn : ¬ 8 < n := by simp at c; omega
      rw [if_neg (by decide), if_neg hn] at hR
      simp -implicitDefEqProofs
      refine readL_loop hv hs (N := n) (by omega) (S0 := S) n nx [] (by simp) (fun x hx => by simp at hx) _ S (by simp) (by simp) (by simp) (by simp) (by simpa using accg_nil 2 (Grows.refl S)) (fun hz fr' S' g1 g8 ha hnm hlen => ?_) (fun hz fr' S' hg g8 => ?_)
      · rw [if_neg (by rw [hz]; decide)] at hR
        have hck := check_val (ha.isSl (labs_cells _)).reads hnm (by rw [hlen]; unfold maxLen; omega) S'
        simp -implicitDefEqProofs [g8, hck]
        refine ok_br (fun d => ?_) (fun d => ?_)
        · have hd : checkN (readR s n nx []).1 ≠ 0 := by simpa using d
          rw [if_pos hd] at hR
          simp -implicitDefEqProofs
          exact fin_no Fr.bot S' 5 hR.symm ha.grows
        · have hd : ¬ checkN (readR s n nx []).1 ≠ 0 := by simpa using d
          rw [if_neg hd] at hR
          subst hR
          have hf := res_fin (n := (readR s n nx []).2.1) (e := 0) ha
          simp -implicitDefEqProofs [g1, g8]
          have hf' : finish false S S' (.tup [fr' 9, .int .i64 ((readR s n nx []).2.1 : Int), .int .i64 0]) = (.tup [slF (fr' 9) ((readR s n nx []).1.map labV), .int .i64 ((readR s n nx []).2.1 : Int), .int .i64 0], S) := hf
          rw [hf']
          exact ⟨rfl, _, rfl, slF_lab ha⟩
      · rw [if_pos hz] at hR
        have hne : ¬ (((readR s n nx []).2.2 : Int) = 0) := by omega
        have hne2 : (((readR s n nx []).2.2 : Int) != 0) = true := by simpa using hne
        have hneb : (((readR s n nx []).2.2 : Int) == 0) = false := by simpa using hne
        simp -implicitDefEqProofs [g8, hneb, hne2]
        exact fin_no Fr.bot S' _ hR.symm hg
    · have hne : ¬ ((e : Int) = 0) := by omega
      have hneb : ((e : Int) == 0) = false := by simpa using hne
      have hne2 : ((e : Int) != 0) = true := by simpa using hne
      rw [if_pos he] at hR
      rw [gval_lp]
      simp -implicitDefEqProofs [hneb, hne2]
      exact fin_no Fr.bot S _ hR.symm (Grows.refl S)
theorem getR_put (a : Nat) (w : List UInt8) : ∀ (n k acc : Nat), k ≤ 8 → n < 128 ^ (9 - k) → (k = 0 ∨ n ≠ 0) → getR a (uintB n ++ w) k acc = (acc + n * 128 ^ k, a + k + (uintB n).length, 0) := by
  intro n
  induction n using Nat.strongRecOn with
  | _ n ih =>
    intro k acc hk hn h0
    by_cases h : n < 128
    · have hu : uintB n = [UInt8.ofNat n] := by rw [uintB, if_pos h]
      have hd : (UInt8.ofNat n).toNat = n := by simp; omega
      rw [hu]
      simp only [List.cons_append, List.nil_append, getR, hd, List.length_cons, List.length_nil]
      rw [if_neg (by omega), if_pos h, Nat.mod_eq_of_lt h]
    · have hu : uintB n = UInt8.ofNat (n % 128 + 128) :: uintB (n / 128) := by rw [uintB, if_neg h]
      have hd : (UInt8.ofNat (n % 128 + 128)).toNat = n % 128 + 128 := by simp; omega
      have hk7 : k ≤ 7 := by
        rcases Nat.lt_or_ge k 8 with q | q
        · omega
        · have : k = 8 := by omega
          subst this
          simp at hn; omega
      have hn' : n / 128 < 128 ^ (9 - (k + 1)) := by
        rw [Nat.div_lt_iff_lt_mul (by decide), ← Nat.pow_succ, show (9 - (k + 1)).succ = 9 - k by omega]; exact hn
      have hr := ih (n / 128) (by omega) (k + 1) (acc + n % 128 * 128 ^ k) (by omega) hn' (.inr (by omega))
      rw [hu]
      simp only [List.cons_append, getR, hd, List.length_cons]
      rw [if_neg (by omega), if_neg (by omega), show (n % 128 + 128) % 128 = n % 128 by omega, hr]
      have e : acc + n % 128 * 128 ^ k + n / 128 * 128 ^ (k + 1) = acc + n * 128 ^ k := by
        rw [pow_step, Nat.mul_comm (128 ^ k) 128, ← Nat.mul_assoc, Nat.add_assoc, ← Nat.add_mul]
        congr 2
        omega
      rw [e]
      congr 2
      omega
theorem getU_put {p w : List UInt8} {n : Nat} (h : n < 9223372036854775808) : getU (p ++ (uintB n ++ w)) (p.length : Int) = (n, p.length + (uintB n).length, 0) := by
  unfold getU
  rw [if_neg (by simp; omega)]
  have e : (p ++ (uintB n ++ w)).drop ((p.length : Int).toNat) = uintB n ++ w := by simp
  rw [e, getR_put _ w n 0 0 (by omega) (by simpa using h) (.inl rfl)]
  simp
theorem getX_put {p w t : List UInt8} (h : t.length ≤ 65535) : getX (p ++ (textB t ++ w)) (p.length : Int) = (t, p.length + (textB t).length, 0) := by
  have hu := getU_put (p := p) (w := t ++ w) (n := t.length) (by omega)
  have e : p ++ (textB t ++ w) = p ++ (uintB t.length ++ (t ++ w)) := by simp [textB]
  have hl : (textB t).length = (uintB t.length).length + t.length := by simp [textB]
  unfold getX
  rw [e, hu]
  simp only
  rw [if_neg (by decide), if_neg (by omega), if_neg (by simp only [List.length_append]; omega)]
  have e2 : p ++ (uintB t.length ++ (t ++ w)) = (p ++ uintB t.length) ++ (t ++ w) := by simp
  rw [e2, show p.length + (uintB t.length).length = (p ++ uintB t.length).length by simp, List.drop_left, List.take_left]
  simp only [List.length_append]
  congr 2
  omega
theorem readR_put {w : List UInt8} : ∀ (l : List Lab) (p : List UInt8) (l0 : List Lab), (∀ x ∈ l, x.1.length ≤ 65535 ∧ x.2.1.length ≤ 65535) → readR (p ++ (l.flatMap lab1B ++ w)) l.length p.length l0 = (l0 ++ l, p.length + (l.flatMap lab1B).length, 0)
  | [], p, l0, _ => by simp [readR]
  | (a, b, ()) :: l, p, l0, h => by
    have h1 := (h (a, b, ()) (by simp)).1
    have h2 := (h (a, b, ()) (by simp)).2
    simp only at h1 h2
    have e1 : p ++ (((a, b, ()) :: l).flatMap lab1B ++ w) = p ++ (textB a ++ (textB b ++ (l.flatMap lab1B ++ w))) := by simp [lab1B]
    have e2 : p ++ (textB a ++ (textB b ++ (l.flatMap lab1B ++ w))) = (p ++ textB a) ++ (textB b ++ (l.flatMap lab1B ++ w)) := by simp
    have e3 : p ++ (textB a ++ (textB b ++ (l.flatMap lab1B ++ w))) = (p ++ textB a ++ textB b) ++ (l.flatMap lab1B ++ w) := by simp
    have g1 := getX_put (p := p) (w := textB b ++ (l.flatMap lab1B ++ w)) h1
    have g2 := getX_put (p := p ++ textB a) (w := l.flatMap lab1B ++ w) h2
    rw [← e2] at g2
    have ih := readR_put (w := w) l (p ++ textB a ++ textB b) (l0 ++ [(a, b, ())]) (fun x hx => h x (by simp [hx]))
    rw [← e3] at ih
    rw [e1, List.length_cons, readR, g1]
    simp only
    rw [if_neg (by decide)]
    rw [show p.length + (textB a).length = (p ++ textB a).length by simp, g2]
    simp only
    rw [if_neg (by decide), show (p ++ textB a).length + (textB b).length = (p ++ textB a ++ textB b).length by simp; omega, ih]
    simp [lab1B]
    omega
theorem readN_put {p w : List UInt8} {l : List Lab} (h : checkN l = 0) : readN (p ++ (labsB l ++ w)) (p.length : Int) = (l, (p ++ labsB l).length, 0) := by
  obtain ⟨h1, h2, _⟩ := checkN_zero.1 h
  have hu := getU_put (p := p) (w := l.flatMap lab1B ++ w) (n := l.length) (by omega)
  have e : p ++ (labsB l ++ w) = p ++ (uintB l.length ++ (l.flatMap lab1B ++ w)) := by simp [labsB]
  have e2 : p ++ (uintB l.length ++ (l.flatMap lab1B ++ w)) = (p ++ uintB l.length) ++ (l.flatMap lab1B ++ w) := by simp
  have hr := readR_put (w := w) l (p ++ uintB l.length) [] (fun x hx => by obtain ⟨a, b⟩ := okLab_len (h2 x hx); exact ⟨by omega, by omega⟩)
  rw [← e2, List.nil_append] at hr
  unfold readN
  rw [e, hu]
  simp only
  rw [if_neg (by decide), if_neg (by omega), show p.length + (uintB l.length).length = (p ++ uintB l.length).length by simp, hr]
  simp only
  rw [if_neg (by decide), if_neg (by rw [h]; decide)]
  simp [labsB]
  omega
end Ps
