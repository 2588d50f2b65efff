/- The laws of RegexOr, RegexThen, RegexAgain, RegexClass. -/
import Derived.Test.YtmhigcjhjmcpcaaRxP
import Derived.Test.YtmhigcjhjmcpcaaLives
import Derived.Test.YtmhigcjhjmcpcaaRow
namespace Ps
set_option linter.unusedSimpArgs false
set_option linter.unusedVariables false
open Go

theorem fn_478 : T.fn 478 = some (.code law07_fits) := rfl
theorem fn_481 : T.fn 481 = some (.code law07_RegexOr) := rfl
theorem fn_487 : T.fn 487 = some (.code law07_RegexThen) := rfl
theorem fn_477 : T.fn 477 = some (.code law07_RegexAgain) := rfl
theorem fn_480 : T.fn 480 = some (.code law07_RegexClass) := rfl

theorem lives_pval : pval T 44 [] = some (.bool true) := pval_st (cval_of 3000 lives_run) rfl rfl
theorem fits478 (p s : List UInt8) : pval T 478 [.str p, .str s] = some (.bool (fitsP p s)) := by
  refine pval_st ?_ rfl rfl
  refine cval_ok' fn_478 rfl ?_
  cases hf : fitsP p s with
  | false => simp -implicitDefEqProofs [law07_fits, fits_pval, hf]
  | true =>
    have he : fitsE p s = 0 := by
      simp only [fitsP, decide_eq_true_eq] at hf
      obtain ⟨h1, h2, _⟩ := hf
      unfold fitsE
      rw [if_neg (by simpa using h1), if_neg (by omega)]
    simp -implicitDefEqProofs [law07_fits, fits_pval, hf, he]

theorem check_purV (p : List UInt8) : purV T 125 [.str p] = some (.int .i64 (chkP p)) := (purV_free rfl).trans (check_pval p)
theorem fits_purV (p s : List UInt8) : purV T 478 [.str p, .str s] = some (.bool (fitsP p s)) := (purV_free rfl).trans (fits478 p s)

theorem core_Or (a b s : List UInt8) (ha : a.length + b.length + s.length ≤ 10000000) : cval T 481 [.str a, .str b, .str s] St0 = some (.bool true, St0) := by
  have p1 : arith .add (.str a) (.str [124]) = some (.str (a ++ [124])) := ar_sadd (by simp; omega)
  have p2 : arith .add (.str (a ++ [124])) (.str b) = some (.str (a ++ 124 :: b)) := by rw [ar_sadd (by simp; omega)]; simp
  refine cval_ok' fn_481 rfl ?_
  simp -implicitDefEqProofs [law07_RegexOr, p1, p2, check_pval, fits478, lives_pval, check_purV, fits_purV]
  refine ok_br (fun _ => ok_ret (by simp)) (fun h => ok_ret ?_)
  simp only [Bool.or_eq_false_iff, decide_eq_false_iff_not, bne_eq_false_iff_eq] at h
  obtain ⟨⟨⟨h1, h2⟩, h3⟩, h4⟩ := h
  obtain ⟨q1, q2⟩ := or_law (a := a) (b := b) (s := s) (by omega) (by omega) (by simp only [List.length_append, List.length_cons]; omega) (by omega)
  simp [q1, q2]
theorem law_RegexOr (xs : denL [.str, .str, .str]) (h : wfL [.str, .str, .str] xs) (hb : bulkL [.str, .str, .str] xs ≤ 1048576) : ∃ S', cval T 481 (pvL [.str, .str, .str] xs) St0 = some (.bool true, S') := by
  obtain ⟨a, b, s, u⟩ := xs
  have h1 : (a.length + 1) + ((b.length + 1) + ((s.length + 1) + 0)) ≤ 1048576 := hb
  exact ⟨St0, core_Or a b s (by omega)⟩

/-- Is one of some numbers, from one on, so? -/
def anyF (g : Nat → Bool) : Nat → Nat → Bool
  | 0, _ => false
  | m + 1, i => g i || anyF g m (i + 1)
theorem anyF_iff {g : Nat → Bool} : ∀ {m i : Nat}, anyF g m i = true ↔ ∃ j, i ≤ j ∧ j < i + m ∧ g j = true
  | 0, i => by simp [anyF]; intro x h1 h2; omega
  | m + 1, i => by
    rw [anyF, Bool.or_eq_true, anyF_iff]
    constructor
    · rintro (h | ⟨j, h1, h2, h3⟩)
      · exact ⟨i, by omega, by omega, h⟩
      · exact ⟨j, by omega, by omega, h3⟩
    · rintro ⟨j, h1, h2, h3⟩
      by_cases e : j = i
      · subst e; exact .inl h3
      · exact .inr ⟨j, by omega, by omega, h3⟩

theorem then_loop {a b s : List UInt8} (hs : s.length ≤ 64) {K : List Kt} {Q : Fr → St → Prop} {S : St} : ∀ (m i : Nat) (w : Bool) (fr : Fr), s.length + 1 - i = m →
    fr 0 = .str a → fr 1 = .str b → fr 2 = .str s → fr 8 = .bool w → fr 9 = .int .i64 i →
    (∀ fr', fr' 2 = fr 2 → fr' 7 = fr 7 → fr' 8 = .bool (w || anyF (fun j => fitsP a (s.take j) && fitsP b (s.drop j)) m i) → Ok (gval T K fr' S) Q) →
    Ok (gval T (.lp law07_RegexThen_l0 :: .blk 0 :: K) fr S) Q := by
  intro m
  induction m with
  | zero =>
    intro i w fr hm h0 h1 h2 h8 h9 kk
    have hlt : ¬ (i : Int) ≤ (s.length : Int) := by omega
    rw [gval_lp]
    simp -implicitDefEqProofs [h2, h9, hlt]
    exact kk _ (by simp [h2]) (by simp) (by simp [h8, anyF])
  | succ m ih =>
    intro i w fr hm h0 h1 h2 h8 h9 kk
    have hlt : (i : Int) ≤ (s.length : Int) := by omega
    have hw2 := wrap_len (a := i) (by omega)
    have b1 : bounds s.length s.length none (some (.int .i64 (i : Int))) = some (0, i) := bounds_hi (by omega)
    have b2 : bounds s.length s.length (some (.int .i64 (i : Int))) none = some (i, s.length) := bounds_lo (by omega)
    cases w with
    | true =>
      rw [gval_lp]
      simp -implicitDefEqProofs [h0, h1, h2, h8, h9, hlt, hw2]
      exact ih (i + 1) true _ (by omega) (by simp [h0]) (by simp [h1]) (by simp [h2]) (by simp) (by simp [hw2]) (fun fr' q1 q2 q3 => kk fr' (by rw [q1]; simp) (by rw [q2]; simp) (by rw [q3]; simp))
    | false =>
      rw [gval_lp]
      cases hf : fitsP a (s.take i) with
      | false =>
        simp -implicitDefEqProofs [h0, h1, h2, h8, h9, hlt, b1, b2, fits_purV, fits478, hw2, hf]
        exact ih (i + 1) false _ (by omega) (by simp [h0]) (by simp [h1]) (by simp [h2]) (by simp) (by simp [hw2]) (fun fr' q1 q2 q3 => kk fr' (by rw [q1]; simp) (by rw [q2]; simp) (by rw [q3, anyF, hf]; simp))
      | true =>
        simp -implicitDefEqProofs [h0, h1, h2, h8, h9, hlt, b1, b2, fits_purV, fits478, hw2, hf]
        exact ih (i + 1) (fitsP b (s.drop i)) _ (by omega) (by simp [h0]) (by simp [h1]) (by simp [h2]) (by simp) (by simp [hw2]) (fun fr' q1 q2 q3 => kk fr' (by rw [q1]; simp) (by rw [q2]; simp) (by rw [q3, anyF, hf]; simp))

theorem core_Then (a b s : List UInt8) (ha : a.length + b.length + s.length ≤ 10000000) : cval T 487 [.str a, .str b, .str s] St0 = some (.bool true, St0) := by
  have p1 : arith .add (.str [40]) (.str a) = some (.str (40 :: a)) := ar_sadd (by simp; omega)
  have p2 : arith .add (.str (40 :: a)) (.str [41, 40]) = some (.str (40 :: (a ++ [41, 40]))) := by rw [ar_sadd (by simp; omega)]; simp
  have p3 : arith .add (.str (40 :: (a ++ [41, 40]))) (.str b) = some (.str (40 :: (a ++ 41 :: 40 :: b))) := by rw [ar_sadd (by simp; omega)]; simp
  have p4 : arith .add (.str (40 :: (a ++ 41 :: 40 :: b))) (.str [41]) = some (.str (40 :: (a ++ 41 :: 40 :: (b ++ [41])))) := by rw [ar_sadd (by simp; omega)]; simp
  refine cval_ok' fn_487 rfl ?_
  simp -implicitDefEqProofs [law07_RegexThen, p1, p2, p3, p4, check_pval, fits478, lives_pval, check_purV, fits_purV]
  refine ok_br (fun _ => ok_ret (by simp)) (fun h => ?_)
  simp only [Bool.or_eq_false_iff, decide_eq_false_iff_not, bne_eq_false_iff_eq] at h
  obtain ⟨⟨⟨h1, h2⟩, h3⟩, h4⟩ := h
  have hl := then_law (a := a) (b := b) (s := s) (by omega) (by omega) (by omega) (by omega)
  have he : fitsP (40 :: (a ++ 41 :: 40 :: (b ++ [41]))) s = anyF (fun j => fitsP a (s.take j) && fitsP b (s.drop j)) (s.length + 1) 0 := by
    rw [Bool.eq_iff_iff, hl, anyF_iff]
    simp only [Bool.and_eq_true]
    exact ⟨fun ⟨i, q1, q2⟩ => ⟨i, by omega, by omega, q2⟩, fun ⟨i, q0, q1, q2⟩ => ⟨i, by omega, q2⟩⟩
  refine then_loop (a := a) (b := b) (s := s) (by omega) _ 0 false _ rfl (by simp) (by simp) (by simp) (by simp) (by simp) (fun fr' q1 q2 q3 => ?_)
  have q1' : fr' 2 = .str s := by rw [q1]; simp
  have q2' : fr' 7 = .str (40 :: (a ++ 41 :: 40 :: (b ++ [41]))) := by rw [q2]; simp
  rw [Bool.false_or] at q3
  simp -implicitDefEqProofs [q1', q2', q3, fits478, lives_pval, he]
theorem law_RegexThen (xs : denL [.str, .str, .str]) (h : wfL [.str, .str, .str] xs) (hb : bulkL [.str, .str, .str] xs ≤ 1048576) : ∃ S', cval T 487 (pvL [.str, .str, .str] xs) St0 = some (.bool true, S') := by
  obtain ⟨a, b, s, u⟩ := xs
  have h1 : (a.length + 1) + ((b.length + 1) + ((s.length + 1) + 0)) ≤ 1048576 := hb
  exact ⟨St0, core_Then a b s (by omega)⟩

theorem again_loop' {a st s : List UInt8} (hs : s.length ≤ 64) {K : List Kt} {Q : Fr → St → Prop} {S : St} : ∀ (m i : Nat) (w : Bool) (fr : Fr), s.length + 1 - i = m → i ≤ 65 →
    fr 0 = .str a → fr 1 = .str s → fr 5 = .str st → fr 8 = .bool w → fr 9 = .int .i64 i →
    (∀ fr', fr' 0 = fr 0 → fr' 1 = fr 1 → fr' 5 = fr 5 → fr' 6 = fr 6 → fr' 7 = fr 7 → fr' 8 = .bool (w || anyF (fun j => fitsP a (s.take j) && fitsP st (s.drop j)) m i) → Ok (gval T K fr' S) Q) →
    Ok (gval T (.lp law07_RegexAgain_l0 :: .blk 0 :: K) fr S) Q := by
  intro m
  induction m with
  | zero =>
    intro i w fr hm hi h0 h1 h5 h8 h9 kk
    have hlt : ¬ (i : Int) ≤ (s.length : Int) := by omega
    rw [gval_lp]
    simp -implicitDefEqProofs [h1, h9, hlt]
    exact kk _ (by simp [h0]) (by simp [h1]) (by simp [h5]) (by simp) (by simp) (by simp [h8, anyF])
  | succ m ih =>
    intro i w fr hm hi h0 h1 h5 h8 h9 kk
    have hlt : (i : Int) ≤ (s.length : Int) := by omega
    have hw2 := wrap_len (a := i) (by omega)
    have b1 : bounds s.length s.length none (some (.int .i64 (i : Int))) = some (0, i) := bounds_hi (by omega)
    have b2 : bounds s.length s.length (some (.int .i64 (i : Int))) none = some (i, s.length) := bounds_lo (by omega)
    cases w with
    | true =>
      rw [gval_lp]
      simp -implicitDefEqProofs [h0, h1, h5, h8, h9, hlt, hw2]
      exact ih (i + 1) true _ (by omega) (by omega) (by simp [h0]) (by simp [h1]) (by simp [h5]) (by simp) (by simp [hw2]) (fun fr' q0 q1 q2 q3 q4 q5 => kk fr' (by rw [q0]; simp) (by rw [q1]; simp) (by rw [q2]; simp) (by rw [q3]; simp) (by rw [q4]; simp) (by rw [q5]; simp))
    | false =>
      rw [gval_lp]
      cases hf : fitsP a (s.take i) with
      | false =>
        simp -implicitDefEqProofs [h0, h1, h5, h8, h9, hlt, b1, b2, fits_purV, fits478, hw2, hf]
        exact ih (i + 1) false _ (by omega) (by omega) (by simp [h0]) (by simp [h1]) (by simp [h5]) (by simp) (by simp [hw2]) (fun fr' q0 q1 q2 q3 q4 q5 => kk fr' (by rw [q0]; simp) (by rw [q1]; simp) (by rw [q2]; simp) (by rw [q3]; simp) (by rw [q4]; simp) (by rw [q5, anyF, hf]; simp))
      | true =>
        simp -implicitDefEqProofs [h0, h1, h5, h8, h9, hlt, b1, b2, fits_purV, fits478, hw2, hf]
        exact ih (i + 1) (fitsP st (s.drop i)) _ (by omega) (by omega) (by simp [h0]) (by simp [h1]) (by simp [h5]) (by simp) (by simp [hw2]) (fun fr' q0 q1 q2 q3 q4 q5 => kk fr' (by rw [q0]; simp) (by rw [q1]; simp) (by rw [q2]; simp) (by rw [q3]; simp) (by rw [q4]; simp) (by rw [q5, anyF, hf]; simp))

theorem again_law {a s : List UInt8} (ha : chkP a = 0) (hc : chkP (40 :: (a ++ [41, 42])) = 0) (hs : s.length ≤ 64) :
    fitsP (40 :: (a ++ [41, 42])) s = (s == [] || anyF (fun j => fitsP a (s.take j) && fitsP (40 :: (a ++ [41, 42])) (s.drop j)) s.length 1) ∧
    fitsP (40 :: (a ++ [41, 43])) s = (anyF (fun j => fitsP a (s.take j) && fitsP (40 :: (a ++ [41, 42])) (s.drop j)) s.length 1 || fitsP a s) ∧
    fitsP (40 :: (a ++ [41, 63])) s = (s == [] || fitsP a s) := by
  obtain ⟨_, x, d1, h1, _⟩ := chk_ok ha
  have p1 := again_pat (m := 42) (by simp) h1
  have p2 := again_pat (m := 43) (by simp) h1
  have p3 := again_pat (m := 63) (by simp) h1
  have c2 : chkP (40 :: (a ++ [41, 43])) = 0 := by rw [chk_iff p1] at hc; rw [chk_iff p2]; simpa using hc
  have c3 : chkP (40 :: (a ++ [41, 63])) = 0 := by rw [chk_iff p1] at hc; rw [chk_iff p3]; simpa using hc
  have ht : ∀ i, (s.take i).length ≤ 64 := fun i => by rw [List.length_take]; omega
  have hd : ∀ i, (s.drop i).length ≤ 64 := fun i => by rw [List.length_drop]; omega
  have e1 : ∀ u, u.length ≤ 64 → (fitsP (40 :: (a ++ [41, 42])) u = true ↔ Mt (.again x true true) u) := fun u hu => by rw [fitsP_iff p1 hc hu, mt_single]; rfl
  have hmore : anyF (fun j => fitsP a (s.take j) && fitsP (40 :: (a ++ [41, 42])) (s.drop j)) s.length 1 = true ↔ MoreT x s := by
    rw [anyF_iff]
    simp only [Bool.and_eq_true]
    constructor
    · rintro ⟨j, q1, q2, q3, q4⟩
      exact ⟨j, q1, by omega, (fitsP_iff h1 ha (ht _)).1 q3, (e1 _ (hd _)).1 q4⟩
    · rintro ⟨j, q1, q2, q3, q4⟩
      exact ⟨j, q1, by omega, (fitsP_iff h1 ha (ht _)).2 q3, (e1 _ (hd _)).2 q4⟩
  refine ⟨?_, ?_, ?_⟩
  · rw [Bool.eq_iff_iff, e1 s hs, star_iff, Bool.or_eq_true, hmore]; simp
  · rw [Bool.eq_iff_iff, fitsP_iff p2 c2 hs, mt_single, Bool.or_eq_true, hmore, fitsP_iff h1 ha hs]
    exact plus_iff
  · rw [Bool.eq_iff_iff, fitsP_iff p3 c3 hs, mt_single, Bool.or_eq_true, fitsP_iff h1 ha hs]
    have : (s == []) = true ↔ s = [] := by simp
    rw [this]
    exact maybe_iff

theorem core_Again (a s : List UInt8) (ha : a.length + s.length ≤ 10000000) : cval T 477 [.str a, .str s] St0 = some (.bool true, St0) := by
  have p1 : arith .add (.str [40]) (.str a) = some (.str (40 :: a)) := ar_sadd (by simp; omega)
  have p2 : arith .add (.str (40 :: a)) (.str [41, 42]) = some (.str (40 :: (a ++ [41, 42]))) := by rw [ar_sadd (by simp; omega)]; simp
  have p3 : arith .add (.str (40 :: a)) (.str [41, 43]) = some (.str (40 :: (a ++ [41, 43]))) := by rw [ar_sadd (by simp; omega)]; simp
  have p4 : arith .add (.str (40 :: a)) (.str [41, 63]) = some (.str (40 :: (a ++ [41, 63]))) := by rw [ar_sadd (by simp; omega)]; simp
  refine cval_ok' fn_477 rfl ?_
  simp -implicitDefEqProofs [law07_RegexAgain, p1, p2, p3, p4, check_pval, fits478, lives_pval, check_purV, fits_purV]
  refine ok_br (fun _ => ok_ret (by simp)) (fun h => ?_)
  simp only [Bool.or_eq_false_iff, decide_eq_false_iff_not, bne_eq_false_iff_eq] at h
  obtain ⟨⟨h1, h2⟩, h3⟩ := h
  obtain ⟨g1, g2, g3⟩ := again_law (a := a) (s := s) (by omega) (by omega) (by omega)
  refine again_loop' (a := a) (st := 40 :: (a ++ [41, 42])) (s := s) (by omega) _ 1 false _ rfl (by omega) (by simp) (by simp) (by simp) (by simp) (by simp) (fun fr' q0 q1 q2 q3 q4 q5 => ?_)
  have q0' : fr' 0 = .str a := by rw [q0]; simp
  have q1' : fr' 1 = .str s := by rw [q1]; simp
  have q2' : fr' 5 = .str (40 :: (a ++ [41, 42])) := by rw [q2]; simp
  have q3' : fr' 6 = .str (40 :: (a ++ [41, 43])) := by rw [q3]; simp
  have q4' : fr' 7 = .str (40 :: (a ++ [41, 63])) := by rw [q4]; simp
  rw [Bool.false_or, Nat.add_sub_cancel] at q5
  generalize anyF (fun j => fitsP a (s.take j) && fitsP (40 :: (a ++ [41, 42])) (s.drop j)) s.length 1 = M at *
  simp -implicitDefEqProofs [q0', q1', q2', q3', q4', q5, fits478, lives_pval, fits_purV, g1, g2, g3]
theorem law_RegexAgain (xs : denL [.str, .str]) (h : wfL [.str, .str] xs) (hb : bulkL [.str, .str] xs ≤ 1048576) : ∃ S', cval T 477 (pvL [.str, .str] xs) St0 = some (.bool true, S') := by
  obtain ⟨a, s, u⟩ := xs
  have h1 : (a.length + 1) + ((s.length + 1) + 0) ≤ 1048576 := hb
  exact ⟨St0, core_Again a s (by omega)⟩

/-- A class alone. -/
theorem class_pat {w : List UInt8} {f : Nat → Bool} (h : clsF w = some (f, [])) : patW (91 :: w) = some (.econs (.rcons (.one f) .rnil) .enil, 0, []) := by
  have a1 : atomW (91 :: w) = some (.one f, 0, []) := by
    rw [atomW_eq]
    simp only
    rw [if_neg (by decide), if_neg (by decide), if_neg (by decide), if_pos trivial, h]
  have r1 := row_cons (r := .rnil) (d2 := 0) (w2 := []) rfl a1 row_nil
  exact pat_row r1
theorem class_none {w : List UInt8} (h : clsF w = none) : patW (91 :: w) = none := by
  have a1 : atomW (91 :: w) = none := by
    rw [atomW_eq]
    simp only
    rw [if_neg (by decide), if_neg (by decide), if_neg (by decide), if_pos trivial, h]
  rw [patW_eq, rowW_eq]
  simp only
  rw [if_neg (by decide), a1]
theorem items_ab (a b : UInt8) : itemsF [a, 45, b, 93] = if a = 93 then some (fun _ => false, [45, b, 93]) else if itemBad a ∨ itemBad b ∨ b < a then none else some (fun i => decide (a.toNat ≤ i ∧ i ≤ b.toNat) || false, []) := by
  rw [itemsF.eq_def]
  simp only
  by_cases h1 : a = 93
  · rw [if_pos h1, if_pos h1]
  · rw [if_neg h1, if_neg h1]
    by_cases h2 : itemBad a = true
    · rw [if_pos h2, if_pos (.inl h2)]
    · rw [if_neg h2, if_pos trivial]
      by_cases h3 : itemBad b = true ∨ b < a
      · rw [if_pos h3, if_pos (.inr h3)]
      · rw [if_neg h3, if_neg (by rintro (q | q); exact h2 q; exact h3 q)]
        have : itemsF [93] = some (fun _ => false, []) := by rw [itemsF.eq_def]; simp only; rw [if_pos trivial]
        rw [this]
theorem bad93 {a : UInt8} (h : a = 93) : itemBad a = true := by subst h; decide
theorem bad94 {a : UInt8} (h : a = 94) : itemBad a = true := by subst h; decide
theorem class_in (a b : UInt8) : clsF [a, 45, b, 93] = if itemBad a ∨ itemBad b ∨ b < a then none else some (fun i => (decide (a.toNat ≤ i ∧ i ≤ b.toNat) || false) != false, []) := by
  rw [clsF.eq_def]
  simp only
  by_cases h1 : a = 94
  · rw [if_pos h1, if_neg (by decide), if_pos (.inl (bad94 h1))]
    have : itemsF [45, b, 93] = none := by rw [itemsF.eq_def]; simp only; rw [if_neg (by decide), if_pos (by decide)]
    rw [this]
  · rw [if_neg h1]
    by_cases h2 : a = 93
    · rw [if_pos h2, if_pos (.inl (bad93 h2))]
    · rw [if_neg h2, items_ab, if_neg h2]
      by_cases hq : itemBad a = true ∨ itemBad b = true ∨ b < a
      · rw [if_pos hq, if_pos hq]
      · rw [if_neg hq, if_neg hq]
theorem class_out (a b : UInt8) : clsF [94, a, 45, b, 93] = if itemBad a ∨ itemBad b ∨ b < a then none else some (fun i => (decide (a.toNat ≤ i ∧ i ≤ b.toNat) || false) != true, []) := by
  rw [clsF.eq_def]
  simp only
  rw [if_pos trivial]
  by_cases h2 : a = 93
  · rw [if_pos h2, if_pos (.inl (bad93 h2))]
  · rw [if_neg h2, items_ab, if_neg h2]
    by_cases hq : itemBad a = true ∨ itemBad b = true ∨ b < a
    · rw [if_pos hq, if_pos hq]
    · rw [if_neg hq, if_neg hq]
theorem class_fits {w : List UInt8} {f : Nat → Bool} (h : clsF w = some (f, [])) (hl : (91 :: w).length ≤ 64) : chkP (91 :: w) = 0 ∧ (∀ c : UInt8, fitsP (91 :: w) [c] = f c.toNat) ∧ fitsP (91 :: w) [] = false ∧ ∀ c : UInt8, fitsP (91 :: w) [c, c] = false := by
  have hp := class_pat h
  have hc : chkP (91 :: w) = 0 := by rw [chk_iff hp, if_neg (by omega), if_neg (by omega)]
  refine ⟨hc, fun c => ?_, ?_, fun c => ?_⟩
  · rw [Bool.eq_iff_iff, fitsP_iff hp hc (by simp), mt_single, mt_one]
    constructor
    · rintro ⟨c', e, h⟩; cases e; exact h
    · intro h; exact ⟨c, rfl, h⟩
  · rw [Bool.eq_false_iff]
    intro q
    rw [fitsP_iff hp hc (by simp), mt_single, mt_one] at q
    obtain ⟨c', e, _⟩ := q
    cases e
  · rw [Bool.eq_false_iff]
    intro q
    rw [fitsP_iff hp hc (by simp), mt_single, mt_one] at q
    obtain ⟨c', e, _⟩ := q
    cases e

theorem core_Class (a b c : UInt8) : cval T 480 [.int .u8 a.toNat, .int .u8 b.toNat, .int .u8 c.toNat] St0 = some (.bool true, St0) := by
  have s1 : ∀ (es : List PV) (l : List UInt8) (tip : Option (Nat × Nat)), bytesOf es = some l → toStrP (.sl tip es []) = some (.str l) := fun es l tip h => by simp only [toStrP, h]
  have b1 : bytesOf [.int .u8 a.toNat, .int .u8 45, .int .u8 b.toNat] = some [a, 45, b] := by simp [bytesOf]
  have b2 : bytesOf [.int .u8 c.toNat] = some [c] := by simp [bytesOf]
  have p1 : arith .add (.str [91]) (.str [a, 45, b]) = some (.str [91, a, 45, b]) := ar_sadd (by simp)
  have p2 : arith .add (.str [91, a, 45, b]) (.str [93]) = some (.str [91, a, 45, b, 93]) := ar_sadd (by simp)
  have p3 : arith .add (.str [91, 94]) (.str [a, 45, b]) = some (.str [91, 94, a, 45, b]) := ar_sadd (by simp)
  have p4 : arith .add (.str [91, 94, a, 45, b]) (.str [93]) = some (.str [91, 94, a, 45, b, 93]) := ar_sadd (by simp)
  have p5 : arith .add (.str [c]) (.str [c]) = some (.str [c, c]) := ar_sadd (by simp)
  have t1 := fun tip => s1 _ _ tip b1
  have t2 := fun tip => s1 _ _ tip b2
  refine cval_ok' fn_480 rfl ?_
  by_cases hb : itemBad a ∨ itemBad b ∨ b < a
  · have c1 : chkP [91, a, 45, b, 93] = 14 := by
      have := class_none (w := [a, 45, b, 93]) (by rw [class_in, if_pos hb])
      unfold chkP; rw [if_neg (by simp), this]
    have c2 : chkP [91, 94, a, 45, b, 93] = 14 := by
      have := class_none (w := [94, a, 45, b, 93]) (by rw [class_out, if_pos hb])
      unfold chkP; rw [if_neg (by simp), this]
    simp -implicitDefEqProofs [law07_RegexClass, pstep, elems, setParts, t1, t2, p1, p2, p3, p4, p5, check_pval, c1, c2, fits478, lives_pval, check_purV, fits_purV]
    exact fin_gb ((Grows.refl St0).arr _)
  · have hin := class_in a b
    have hout := class_out a b
    rw [if_neg hb] at hin hout
    obtain ⟨c1, f1, f2, f3⟩ := class_fits hin (by simp)
    obtain ⟨_, g1, g2, g3⟩ := class_fits hout (by simp)
    have hac : decide ((a.toNat : Int) ≤ (c.toNat : Int)) = decide (a.toNat ≤ c.toNat) := by simp
    have hcb : decide ((c.toNat : Int) ≤ (b.toNat : Int)) = decide (c.toNat ≤ b.toNat) := by simp
    have f1' := f1 c
    have g1' := g1 c
    have f3' := f3 c
    have g3' := g3 c
    simp only [Bool.or_false, Bool.decide_and, Bool.bne_false, Bool.bne_true] at f1' g1'
    simp -implicitDefEqProofs [law07_RegexClass, pstep, elems, setParts, t1, t2, p1, p2, p3, p4, p5, check_pval, c1, fits478, lives_pval, check_purV, fits_purV, f1', g1', f2, g2, f3']
    generalize decide (a.toNat ≤ c.toNat) = x
    generalize decide (c.toNat ≤ b.toNat) = y
    cases x <;> cases y <;> exact fin_gb ((Grows.refl St0).arrs _)

theorem u8_of {n : Int} (h : (Lit.int .u8 n).wf = true) : ∃ a : UInt8, n = (a.toNat : Int) := by
  simp only [Lit.wf, Bool.and_eq_true, decide_eq_true_eq] at h
  have h1 : 0 ≤ n ∧ n ≤ 255 := by simpa [IntKind.min, IntKind.max, IntKind.signed, IntKind.bits] using h
  refine ⟨UInt8.ofNat n.toNat, ?_⟩
  have : n.toNat < 256 := by omega
  simp [Nat.mod_eq_of_lt this]; omega
theorem law_RegexClass (xs : denL [.int .u8, .int .u8, .int .u8]) (h : wfL [.int .u8, .int .u8, .int .u8] xs) : ∃ S', cval T 480 (pvL [.int .u8, .int .u8, .int .u8] xs) St0 = some (.bool true, S') := by
  obtain ⟨a, b, c, u⟩ := xs
  obtain ⟨h1, h2, h3, _⟩ := h
  obtain ⟨a', e1⟩ := u8_of h1
  obtain ⟨b', e2⟩ := u8_of h2
  obtain ⟨c', e3⟩ := u8_of h3
  refine ⟨St0, ?_⟩
  show cval T 480 [.int .u8 a, .int .u8 b, .int .u8 c] St0 = _
  have := core_Class a' b' c'
  rw [← e1, ← e2, ← e3] at this
  exact this
end Ps
