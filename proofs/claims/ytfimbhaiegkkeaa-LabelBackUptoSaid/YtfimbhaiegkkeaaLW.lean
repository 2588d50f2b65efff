/- Labels, read of a text by the document. -/
import Derived.Test.YtfimbhaiegkkeaaLU
namespace Ps
set_option linter.unusedSimpArgs false
open Go

def unV (s : List UInt8) : PV := match unR s with
  | some (v, q) => .tup [.str v, .int .i64 ((s.length : Int) - (q.length : Int))]
  | none => .tup [.str [], .int .i64 0]

theorem unq_val {s : List UInt8} (hs : s.length ≤ 90000000) : pval T 97 [.str s] = some (unV s) := by
  have hV : (unV s).free = true ∧ (unV s).frz = unV s := by
    unfold unV; cases unR s <;> exact ⟨rfl, rfl⟩
  refine pval_st (cval_ok' fn_97 rfl ?_) hV.1 hV.2
  generalize hW : unV s = W
  unfold unV unR at hW
  cases s with
  | nil =>
    simp only [stripP] at hW
    subst hW
    simp -implicitDefEqProofs [ref06_Unquoted]
  | cons c r =>
    by_cases q34 : c = 34
    · subst q34
      simp only [stripP, if_true] at hW
      simp only [List.length_cons] at hs
      simp -implicitDefEqProofs [ref06_Unquoted]
      refine un_loop (s := 34 :: r) (by simp; omega) (S0 := St0) (r.length + 1) r [34] [] (by simp) (by omega) (by simp; omega) _ _ (by simp) (by simp) (by simpa [ofBytes] using accg_nil 1 (Grows.refl St0)) (fun v q g fr' S' pre' x0 xs x5 xl xa => ?_) (fun g fr' S' x0 x5 xg => ?_) (fun g fr' S' xg x2 x3 => ?_)
      · rw [g] at hW
        simp only at hW
        have hlen : (34 :: r : List UInt8).length = pre'.length + 1 + q.length := by rw [xs]; simp; omega
        simp only [List.length_cons] at hlen
        have ts := toStr_of (xa.isSl (ofBytes_cells _))
        have hq := rquoted_pv (s := v) (by omega)
        have hge : ¬ (r.length : Int) + 1 ≤ (pre'.length : Int) := by omega
        have hw : IntKind.i64.wrap ((pre'.length : Int) + 1) = (pre'.length : Int) + 1 := wrap_i64 (by omega) (by omega)
        have hb : bounds (r.length + 1) (r.length + 1) none (some (.int .i64 ((pre'.length : Int) + 1))) = some (0, pre'.length + 1) := by
          have := bounds_hi (len := r.length + 1) (cap := r.length + 1) (h := pre'.length + 1) (k := .i64) (by omega)
          simpa using this
        have ht : (34 :: r : List UInt8).take (pre'.length + 1) = pre' ++ [34] := by rw [xs, List.take_append]; simp; exact List.take_of_length_le (by omega)
        have ht' : (34 :: List.take pre'.length r : List UInt8) = pre' ++ [34] := by simpa using ht
        have hiff : quotT v ++ q = 34 :: r ↔ quotT v = pre' ++ [34] := by
          rw [xs]
          constructor
          · intro h
            have : quotT v ++ q = (pre' ++ [34]) ++ q := by rw [h]; simp
            exact List.append_cancel_right this
          · intro h; rw [h]; simp
        by_cases hE : quotT v = pre' ++ [34]
        · rw [if_pos (hiff.2 hE)] at hW
          have hE' : (quotT v == pre' ++ [34]) = true := by simpa using hE
          subst hW
          simp -implicitDefEqProofs [x0, x5, ts, hq, hge, hw, hb, ht, ht', hE', hE, purV]
          omega
        · rw [if_neg (fun h => hE (hiff.1 h))] at hW
          have hE' : (quotT v == pre' ++ [34]) = false := by simpa using hE
          subst hW
          simp -implicitDefEqProofs [x0, x5, ts, hq, hge, hw, hb, ht, ht', hE', hE, purV]
      · rw [g] at hW
        simp only at hW
        subst hW
        simp -implicitDefEqProofs [x0, x5]
      · rw [g] at hW
        simp only at hW
        subst hW
        simp -implicitDefEqProofs [x2, x3]
    · have hn : stripP [34] (c :: r) = none := by simp [stripP, show ¬ (34 = c) from fun e => q34 e.symm]
      rw [hn] at hW
      simp only at hW
      subst hW
      have f34 : ((c.toNat : Int) != 34) = true := by
        simp; intro e; exact q34 (UInt8.toNat_inj.1 (by show c.toNat = 34; omega))
      simp -implicitDefEqProofs [ref06_Unquoted, f34]

theorem fn_23 : T.fn 23 = some (.code ref06_Parse) := rfl

/-- How far the next byte 61 lies; the text's end, if there is none. -/
def far (u : List UInt8) : Nat := match cutT u with | some (a, _) => a.length | none => u.length
theorem far_cons {c : UInt8} {u : List UInt8} (h : c ≠ 61) : far (c :: u) = far u + 1 := by
  unfold far
  rw [cutT, if_neg h]
  cases cutT u with
  | none => rfl
  | some q => rfl
theorem far_61 (u : List UInt8) : far (61 :: u) = 0 := by simp [far, cutT]

theorem scan_loop {s : List UInt8} (hs : s.length ≤ 100000000) {S : St} {K : List Kt} {Q : Fr → St → Prop} : ∀ (u pre : List UInt8), s = pre ++ u → ∀ (fr : Fr),
    fr 0 = .str s → fr 5 = .int .i64 pre.length →
    (∀ fr', fr' 0 = .str s → fr' 4 = fr 4 → fr' 6 = fr 6 → fr' 5 = .int .i64 ((pre.length + far u : Nat) : Int) → Ok (gval T K fr' S) Q) →
    Ok (gval T (.lp ref06_Parse_l1 :: .blk 2 :: K) fr S) Q := by
  intro u
  induction u with
  | nil =>
    intro pre hp fr h0 h5 k
    rw [List.append_nil] at hp; subst hp
    rw [gval_lp]
    simp -implicitDefEqProofs [h0, h5]
    exact k _ (by simp [h0]) (by simp) (by simp) (by simp [h5, far, cutT])
  | cons c u ih =>
    intro pre hp fr h0 h5 k
    have hi : pre.length < s.length := by rw [hp]; simp
    have hc : s[pre.length] = c := by simp [hp]
    have w1 : IntKind.i64.wrap ((pre.length : Int) + 1) = (pre.length : Int) + 1 := wrap_i64 (by omega) (by omega)
    by_cases q : c = 61
    · subst q
      rw [far_61] at k
      rw [gval_lp]
      simp -implicitDefEqProofs [h0, h5, hi, hc]
      exact k _ (by simp [h0]) (by simp) (by simp) (by simp [h5])
    · have f61 : ((c.toNat : Int) != 61) = true := by
        simp; intro e; exact q (UInt8.toNat_inj.1 (by show c.toNat = 61; omega))
      rw [far_cons q] at k
      rw [gval_lp]
      simp -implicitDefEqProofs [h0, h5, hi, hc, f61, w1]
      refine ih (pre ++ [c]) (by simp [hp]) _ (by simp [h0]) (by simp) (fun fr' g0 g4 g6 g5 => k fr' g0 (by rw [g4]; simp) (by rw [g6]; simp) ?_)
      rw [g5]; simp; omega

/-- What lies behind a comma and the byte behind it. -/
def skipC : List UInt8 → List UInt8
  | 44 :: _ :: q => q
  | q => q
/-- What could be labels, by the document. -/
def rparA : Nat → List Lab → List UInt8 → Option (List Lab)
  | 0, _, _ => none
  | n + 1, l, u => if u = [] ∨ u.head? = some 125 ∨ 8 < l.length then some l else
    match cutT u with
    | none => none
    | some (a, b) => match unR b with
      | none => none
      | some (v, q) => rparA n (l ++ [(a, v, ())]) (skipC q)
def rparL (s : List UInt8) : Option (List Lab) := match (if s = [] then some [] else rparA (s.length + 1) [] (s.drop 1)) with
  | none => none
  | some l => if checkN l = 0 ∧ printT l = s then some l else none
theorem rparL_some {s : List UInt8} {l : List Lab} (h : rparL s = some l) : checkN l = 0 ∧ printT l = s := by
  unfold rparL at h
  split at h
  · cases h
  · split at h
    · rename_i q
      simp only [Option.some.injEq] at h
      subst h; exact q
    · cases h

theorem name_head {s : List UInt8} (h : nameB s = true) (w : List UInt8) : s ++ w ≠ [] ∧ (s ++ w).head? ≠ some 125 := by
  cases s with
  | nil => simp [nameB] at h
  | cons c l =>
    refine ⟨by simp, ?_⟩
    simp only [List.cons_append, List.head?_cons, ne_eq, Option.some.injEq]
    intro e
    subst e
    simp only [nameB, Bool.and_eq_true] at h
    exact absurd h.1.1 (by decide)
theorem skipC_tT (r : List Lab) : skipC (tT false r) = tT true r := by
  cases r with
  | nil => rfl
  | cons x r => simp [tT, skipC]

theorem rparA_tT : ∀ (r p : List Lab) (n : Nat), (∀ x ∈ r, nameB x.1 = true) → (p ++ r).length ≤ 8 → (tT true r).length < n → rparA n p (tT true r) = some (p ++ r) := by
  intro r
  induction r with
  | nil =>
    intro p n _ _ hn
    cases n with
    | zero => omega
    | succ n => simp [rparA, tT]
  | cons x r ih =>
    intro p n h1 h2 hn
    cases n with
    | zero => omega
    | succ n =>
      have hx := h1 x (by simp)
      have hq := quotT_ge x.2.1
      have hsk := skipC_tT r
      have hle : (tT true r).length ≤ (tT false r).length := by
        cases r with
        | nil => simp [tT]
        | cons y r => simp [tT]; omega
      have e : tT true (x :: r) = x.1 ++ 61 :: (quotT x.2.1 ++ tT false r) := by simp [tT]
      rw [e] at hn ⊢
      have hh := name_head hx (61 :: (quotT x.2.1 ++ tT false r))
      have hi := ih (p ++ [x]) n (fun y hy => h1 y (List.mem_cons_of_mem _ hy)) (by simpa using h2) (by simp at hn; omega)
      have h8 : ¬ 8 < p.length := by simp at h2; omega
      rw [rparA, if_neg (by
        intro o
        rcases o with o | o | o
        · exact hh.1 o
        · exact hh.2 o
        · exact h8 o), cutT_app (name61 hx)]
      simp only [unR_quot, hsk]
      simpa using hi

theorem rparL_print {l : List Lab} (h : checkN l = 0) : rparL (printT l) = some l := by
  obtain ⟨h1, h2, _⟩ := checkN_zero.1 h
  have hp := rparA_tT l [] ((printT l).length + 1) (fun x hx => (h2 x hx).1) (by simpa using h1) (by rw [printT_tT]; simp; omega)
  have hne : printT l ≠ [] := by rw [printT_tT]; simp
  have hd : (printT l).drop 1 = tT true l := by rw [printT_tT]; rfl
  unfold rparL
  rw [if_neg hne, hd, hp]
  simp [h]

/-- Both read the same of every text. -/
theorem par_same (s : List UInt8) : rparL s = parL s := by
  cases h : parL s with
  | some l =>
    obtain ⟨h1, h2⟩ := parL_some h
    rw [← h2]; exact rparL_print h1
  | none =>
    cases h2 : rparL s with
    | none => rfl
    | some l =>
      obtain ⟨q1, q2⟩ := rparL_some h2
      have := parL_print q1
      rw [q2, h] at this; cases this
end Ps
