/- Patterns put together: the plain laws. -/
import Derived.Test.YtmhigcjhjmcpcaaRxN
namespace Ps
set_option linter.unusedSimpArgs false
set_option linter.unusedVariables false
open Go

theorem fn_42 : T.fn 42 = some (.code regex_Fits) := rfl

/-- A tree is no wider than its text is long. -/
theorem wdW : ∀ k : Nat,
    (∀ w, w.length ≤ k → ∀ x d r, atomW w = some (x, d, r) → x.wd ≤ w.length) ∧
    (∀ w, w.length ≤ k → ∀ x d r, rowW w = some (x, d, r) → x.wd ≤ w.length) ∧
    (∀ w, w.length ≤ k → ∀ x d r, patW w = some (x, d, r) → x.wd ≤ w.length + 1) := by
  intro k
  induction k using Nat.strongRecOn with
  | _ k ih =>
    have hA : ∀ w, w.length ≤ k → ∀ x d r, atomW w = some (x, d, r) → x.wd ≤ w.length := by
      intro w hw x d r h
      rw [atomW_eq] at h
      cases w with
      | nil => cases h
      | cons c w0 =>
        simp only at h
        simp only [List.length_cons] at hw ⊢
        split at h
        · cases h; simp [Nd.wd]
        · split at h
          · cases h; simp [Nd.wd]
          · split at h
            · split at h
              · cases h
              · split at h
                · cases h
                · cases h; simp [Nd.wd]
            · split at h
              · split at h
                · cases h
                · cases h; simp [Nd.wd]
              · split at h
                · cases hp : patW w0 with
                  | none => rw [hp] at h; cases h
                  | some q =>
                    obtain ⟨p, d1, w1⟩ := q
                    rw [hp] at h
                    simp only at h
                    have := (ih (k - 1) (by omega)).2.2 w0 (by omega) _ _ _ hp
                    split at h
                    · cases h
                    · split at h
                      · cases h; omega
                      · cases h
                · cases h
    have hR : ∀ w, w.length ≤ k → ∀ x d r, rowW w = some (x, d, r) → x.wd ≤ w.length := by
      intro w hw x d r h
      rw [rowW_eq] at h
      cases w with
      | nil => cases h; simp [Nd.wd]
      | cons c w0 =>
        simp only at h
        split at h
        · cases h; simp [Nd.wd]
        · cases ha : atomW (c :: w0) with
          | none => rw [ha] at h; cases h
          | some q =>
            obtain ⟨p, d1, w1⟩ := q
            rw [ha] at h
            simp only at h
            have l1 := atomW_len ha
            have l2 := markF_len p w1
            have a1 := hA _ hw _ _ _ ha
            have hm : (markF p w1).1.wd = p.wd := by
              rcases markF_cut p w1 with ⟨_, hm⟩ | ⟨m, rm, _, _, hm⟩ <;> rw [hm] <;> rfl
            cases hr : rowW (markF p w1).2 with
            | none => rw [hr] at h; cases h
            | some q =>
              obtain ⟨r1, d2, w3⟩ := q
              rw [hr] at h; cases h
              have := (ih (k - 1) (by omega)).2.1 _ (by omega) _ _ _ hr
              simp only [Nd.wd, hm]
              omega
    refine ⟨hA, hR, ?_⟩
    intro w hw x d r h
    rw [patW_eq] at h
    cases hr : rowW w with
    | none => rw [hr] at h; cases h
    | some q =>
      obtain ⟨r1, d1, w1⟩ := q
      rw [hr] at h
      have a1 := hR w hw _ _ _ hr
      have hl := rowW_len hr
      cases w1 with
      | nil => cases h; simp only [Nd.wd]; omega
      | cons c w2 =>
        simp only at h
        split at h
        · cases hp : patW w2 with
          | none => rw [hp] at h; cases h
          | some q =>
            obtain ⟨e, d2, w3⟩ := q
            rw [hp] at h; cases h
            simp only [List.length_cons] at hl
            have := (ih (k - 1) (by omega)).2.2 w2 (by omega) _ _ _ hp
            simp only [Nd.wd]; omega
        · cases h; simp only [Nd.wd]; omega
theorem patW_wd {w : List UInt8} {x : Nd} {d : Nat} {r : List UInt8} (h : patW w = some (x, d, r)) : x.wd ≤ w.length + 1 := (wdW w.length).2.2 w (Nat.le_refl _) _ _ _ h

open Classical in
/-- Does a pattern fit a text? -/
noncomputable def fitsP (p s : List UInt8) : Bool := decide (chkP p = 0 ∧ s.length ≤ 64 ∧ ∃ x d, patW p = some (x, d, []) ∧ Mt x s)
/-- Why not. -/
def fitsE (p s : List UInt8) : Nat := if chkP p ≠ 0 then chkP p else if 64 < s.length then 3 else 0

theorem rch_start {x : Nd} {s : List UInt8} : Rch x s (fun i => decide (i = 0) = true) s.length ↔ Mt x s := by
  constructor
  · rintro ⟨i, h1, h2, h3, h4⟩
    have : i = 0 := by simpa using h1
    subst this
    simpa [seg] using h4
  · intro h
    exact ⟨0, by simp, by omega, Nat.le_refl _, by simpa [seg] using h⟩

theorem chk_ok {p : List UInt8} (h : chkP p = 0) : p.length ≤ 64 ∧ ∃ x d, patW p = some (x, d, []) ∧ d ≤ 8 := by
  unfold chkP at h
  split at h
  · cases h
  · rename_i hl
    refine ⟨by omega, ?_⟩
    split at h
    · rename_i x d hp
      split at h
      · cases h
      · exact ⟨x, d, hp, by omega⟩
    · cases h

theorem fits_pval (p s : List UInt8) : pval T 42 [.str p, .str s] = some (.tup [.bool (fitsP p s), .int .i64 (fitsE p s)]) := by
  refine pval_st ?_ rfl rfl
  obtain ⟨v, h1, h2, h3, h4⟩ := read_val p
  refine cval_ok' fn_42 rfl ?_
  have hne : ((chkP p : Int) != 0) = decide (chkP p ≠ 0) := by
    by_cases h : chkP p = 0
    · simp [h]
    · simp [h]
  have fin : ∀ (S1 : St) (b : Bool) (e : Nat), finish false St0 S1 (.tup [.bool b, .int .i64 (e : Int)]) = (.tup [.bool b, .int .i64 (e : Int)], St0) := fun S1 b e => finish_pur_free (S1 := S1) rfl
  by_cases hc : chkP p = 0
  · have hne' : ((chkP p : Int) != 0) = false := by rw [hne]; simp [hc]
    by_cases hs : 64 < s.length
    · have hs' : (64 : Int) < (s.length : Int) := by omega
      have hf : fitsP p s = false := by simp only [fitsP, decide_eq_false_iff_not]; rintro ⟨_, q, _⟩; omega
      have he : fitsE p s = 3 := by simp [fitsE, hc, hs]
      rw [hf, he]
      simp -implicitDefEqProofs [regex_Fits, h1, hne', hs']
    · have hs' : ¬ (64 : Int) < (s.length : Int) := by omega
      unfold ReadsV at h4
      rw [if_pos hc] at h4
      obtain ⟨x, d, hp, hn⟩ := h4
      obtain ⟨hl, _⟩ := chk_ok hc
      have hw := patW_wd hp
      have hE := (nd_ends x (by omega)).1 v hn
      rw [h3] at hE
      obtain ⟨_, _, tt, u, f, rfl, hm, hcall⟩ := hE
      have hcall' := hcall s (fun i => decide (i = 0)) St0 (by omega) (fun j h => by
        have : j = 0 := by simpa using h
        omega)
      have hput : putCells (plc (fun _ => false)) 0 [.bool true] = plc (fun i => decide (i = 0)) := by
        rw [plc_put _ _ (by omega)]
        exact plc_ext (fun i _ => by by_cases h : i = 0 <;> simp [h])
      have hpl := plc_len (fun _ => false)
      have h1le : 1 ≤ 65 := by omega
      have hg := partOf_plc (f := En x s (fun i => decide (i = 0))) (i := s.length) (by omega)
      have hsl : (s.length : Int) < 65 := by omega
      have hf : fitsP p s = En x s (fun i => decide (i = 0)) s.length := by
        rw [Bool.eq_iff_iff, en_iff, rch_start]
        simp only [fitsP, decide_eq_true_eq]
        constructor
        · rintro ⟨_, _, x', d', hp', hm⟩
          rw [hp] at hp'
          cases hp'
          exact hm
        · intro h
          exact ⟨hc, by omega, x, d, hp, h⟩
      have he : fitsE p s = 0 := by simp [fitsE, hc]; omega
      rw [hf, he]
      simp -implicitDefEqProofs [regex_Fits, h1, hne', hs', peval, fillParts, plc_zero, hpl, hput, invP, hm, hcall', hsl, hg]
  · have hne' : ((chkP p : Int) != 0) = true := by rw [hne]; simp [hc]
    have hf : fitsP p s = false := by simp [fitsP, hc]
    have he : fitsE p s = chkP p := by simp [fitsE, hc]
    rw [hf, he]
    simp -implicitDefEqProofs [regex_Fits, h1, hne']

/-- Alternatives behind alternatives. -/
def orN : Nd → Nd → Nd
  | .econs r e, y => .econs r (orN e y)
  | _, y => y
/-- A chain of alternatives. -/
inductive Chain : Nd → Prop where
  | nil : Chain .enil
  | cons {r e : Nd} (h : Chain e) : Chain (.econs r e)
theorem mt_orN {x y : Nd} {u : List UInt8} (h : Chain x) : Mt (orN x y) u ↔ Mt x u ∨ Mt y u := by
  induction h with
  | nil => simp only [orN]; exact ⟨.inr, fun h => h.elim (fun q => absurd q mt_enil) id⟩
  | cons h ih => simp only [orN, mt_econs, ih, or_assoc]

theorem pat_chain : ∀ (k : Nat) (w : List UInt8), w.length ≤ k → ∀ {x : Nd} {d : Nat} {r : List UInt8}, patW w = some (x, d, r) → Chain x := by
  intro k
  induction k with
  | zero =>
    intro w hw x d r h
    have : w = [] := by simpa using hw
    subst this
    rw [patW_eq, rowW_eq] at h
    cases h
    exact .cons .nil
  | succ k ih =>
    intro w hw x d r h
    rw [patW_eq] at h
    cases hr : rowW w with
    | none => rw [hr] at h; cases h
    | some q =>
      obtain ⟨r1, d1, w1⟩ := q
      rw [hr] at h
      have hl := rowW_len hr
      cases w1 with
      | nil => cases h; exact .cons .nil
      | cons c w2 =>
        simp only at h
        split at h
        · cases hp : patW w2 with
          | none => rw [hp] at h; cases h
          | some q =>
            obtain ⟨e, d2, w3⟩ := q
            rw [hp] at h; cases h
            simp only [List.length_cons] at hl
            exact .cons (ih w2 (by omega) hp)
        · cases h; exact .cons .nil

theorem pat_or : ∀ (k : Nat) (a : List UInt8), a.length ≤ k → ∀ {b : List UInt8} {x y : Nd} {da db : Nat}, patW a = some (x, da, []) → patW b = some (y, db, []) → patW (a ++ 124 :: b) = some (orN x y, max da db, []) := by
  intro k
  induction k with
  | zero =>
    intro a ha b x y da db h1 h2
    have : a = [] := by simpa using ha
    subst this
    rw [patW_eq, rowW_eq] at h1
    cases h1
    show patW (124 :: b) = _
    rw [patW_eq, rowW_eq]
    simp only
    rw [if_pos (.inl trivial)]
    simp only
    rw [if_pos trivial, h2]
    rfl
  | succ k ih =>
    intro a ha b x y da db h1 h2
    rw [patW_eq] at h1
    cases hr : rowW a with
    | none => rw [hr] at h1; cases h1
    | some q =>
      obtain ⟨r1, d1, w1⟩ := q
      rw [hr] at h1
      have hl := rowW_len hr
      obtain ⟨er, u, eu, ku⟩ := rowW_loc hr
      cases w1 with
      | nil =>
        cases h1
        rw [List.append_nil] at eu
        subst eu
        rw [patW_eq, ku (124 :: b) (.inl rfl)]
        simp only
        rw [if_pos trivial, h2]
        rfl
      | cons c w2 =>
        simp only at h1
        split at h1
        · rename_i hc
          subst hc
          cases hp : patW w2 with
          | none => rw [hp] at h1; cases h1
          | some q =>
            obtain ⟨e, d2, w3⟩ := q
            rw [hp] at h1; cases h1
            simp only [List.length_cons] at hl
            have := ih w2 (by omega) hp h2
            have e1 : a ++ 124 :: b = u ++ 124 :: (w2 ++ 124 :: b) := by rw [eu]; simp
            rw [e1, patW_eq, ku (124 :: (w2 ++ 124 :: b)) (.inl rfl)]
            simp only
            rw [if_pos trivial, this]
            simp only [orN]
            congr 3
            omega
        · cases h1

/-- A pattern in parentheses. -/
theorem atom_paren {a r : List UInt8} {x : Nd} {d : Nat} (h : patW a = some (x, d, [])) : atomW (40 :: (a ++ 41 :: r)) = some (x, d + 1, r) := by
  obtain ⟨_, u, eu, ku⟩ := patW_loc h
  rw [List.append_nil] at eu
  subst eu
  rw [atomW_eq]
  simp only
  rw [if_neg (by decide), if_neg (by decide), if_neg (by decide), if_neg (by decide), if_pos trivial, ku (41 :: r) rfl]
  simp only
  rw [if_pos trivial]
theorem row_nil : rowW [] = some (.rnil, 0, []) := by rw [rowW_eq]
theorem row_cons {w w1 w2 : List UInt8} {p : Nd} {r : Nd} {d d2 : Nat} {c : UInt8} {w0 : List UInt8} (hw : w = c :: w0) (h : atomW w = some (p, d, w1)) (h2 : rowW (markF p w1).2 = some (r, d2, w2)) : rowW w = some (.rcons (markF p w1).1 r, max d d2, w2) := by
  subst hw
  have hc : ¬ (c = 124 ∨ c = 41) := by
    rintro (rfl | rfl)
    · rw [atomW_eq] at h
      simp only at h
      rw [if_neg (by decide), if_neg (by decide), if_neg (by decide), if_neg (by decide), if_neg (by decide)] at h
      cases h
    · rw [atomW_eq] at h
      simp only at h
      rw [if_neg (by decide), if_neg (by decide), if_neg (by decide), if_neg (by decide), if_neg (by decide)] at h
      cases h
  rw [rowW_eq]
  simp only
  rw [if_neg hc, h]
  simp only
  rw [h2]
theorem pat_row {w : List UInt8} {r : Nd} {d : Nat} (h : rowW w = some (r, d, [])) : patW w = some (.econs r .enil, d, []) := by rw [patW_eq, h]

theorem chk_iff {p : List UInt8} {x : Nd} {d : Nat} (h : patW p = some (x, d, [])) : chkP p = if 64 < p.length then 3 else if 8 < d then 15 else 0 := by
  unfold chkP; rw [h]
theorem fitsP_iff {p s : List UInt8} {x : Nd} {d : Nat} (h : patW p = some (x, d, [])) (hc : chkP p = 0) (hs : s.length ≤ 64) : fitsP p s = true ↔ Mt x s := by
  simp only [fitsP, decide_eq_true_eq]
  constructor
  · rintro ⟨_, _, x', d', h', hm⟩
    rw [h] at h'; cases h'
    exact hm
  · intro hm
    exact ⟨hc, hs, x, d, h, hm⟩

/-! One or the other. -/
theorem or_law {a b s : List UInt8} (ha : chkP a = 0) (hb : chkP b = 0) (hl : (a ++ 124 :: b).length ≤ 64) (hs : s.length ≤ 64) : chkP (a ++ 124 :: b) = 0 ∧ fitsP (a ++ 124 :: b) s = (fitsP a s || fitsP b s) := by
  obtain ⟨_, x, d1, h1, q1⟩ := chk_ok ha
  obtain ⟨_, y, d2, h2, q2⟩ := chk_ok hb
  have h3 := pat_or _ a (Nat.le_refl _) h1 h2
  have hc : chkP (a ++ 124 :: b) = 0 := by rw [chk_iff h3, if_neg (by omega), if_neg (by omega)]
  refine ⟨hc, ?_⟩
  rw [Bool.eq_iff_iff, Bool.or_eq_true, fitsP_iff h3 hc hs, fitsP_iff h1 ha hs, fitsP_iff h2 hb hs, mt_orN (pat_chain _ a (Nat.le_refl _) h1)]

/-! One and then the other. -/
theorem then_pat {a b : List UInt8} {x y : Nd} {d1 d2 : Nat} (h1 : patW a = some (x, d1, [])) (h2 : patW b = some (y, d2, [])) :
    patW (40 :: (a ++ 41 :: 40 :: (b ++ [41]))) = some (.econs (.rcons x (.rcons y .rnil)) .enil, max (d1 + 1) (max (d2 + 1) 0), []) := by
  have a1 := atom_paren (r := 40 :: (b ++ [41])) h1
  have a2 := atom_paren (r := []) h2
  have m1 : markF x (40 :: (b ++ [41])) = (x, 40 :: (b ++ [41])) := by simp [markF]
  have m2 : markF y [] = (y, []) := rfl
  have r2 : rowW (40 :: (b ++ [41])) = some (.rcons y .rnil, max (d2 + 1) 0, []) := by
    have := row_cons (r := .rnil) (d2 := 0) (w2 := []) rfl a2 (by rw [m2]; exact row_nil)
    rwa [m2] at this
  have r1 := row_cons (r := .rcons y .rnil) (d2 := max (d2 + 1) 0) (w2 := []) rfl a1 (by rw [m1]; exact r2)
  rw [m1] at r1
  exact pat_row r1
theorem then_law {a b s : List UInt8} (ha : chkP a = 0) (hb : chkP b = 0) (hc : chkP (40 :: (a ++ 41 :: 40 :: (b ++ [41]))) = 0) (hs : s.length ≤ 64) :
    fitsP (40 :: (a ++ 41 :: 40 :: (b ++ [41]))) s = true ↔ ∃ i, i ≤ s.length ∧ fitsP a (s.take i) = true ∧ fitsP b (s.drop i) = true := by
  obtain ⟨_, x, d1, h1, _⟩ := chk_ok ha
  obtain ⟨_, y, d2, h2, _⟩ := chk_ok hb
  have ht : ∀ i, (s.take i).length ≤ 64 := fun i => by rw [List.length_take]; omega
  have hd : ∀ i, (s.drop i).length ≤ 64 := fun i => by rw [List.length_drop]; omega
  rw [fitsP_iff (then_pat h1 h2) hc hs, mt_econs, mt_rcons]
  constructor
  · rintro (⟨u, v, e, hu, hv⟩ | h)
    · obtain ⟨v1, v2, e2, hv1, hv2⟩ := mt_rcons.1 hv
      have := mt_rnil.1 hv2
      subst this
      rw [List.append_nil] at e2
      subst e2
      refine ⟨u.length, by rw [e]; simp, ?_, ?_⟩
      · rw [fitsP_iff h1 ha (ht _), e, List.take_left]; exact hu
      · rw [fitsP_iff h2 hb (hd _), e, List.drop_left]; exact hv1
    · exact absurd h mt_enil
  · rintro ⟨i, hi, q1, q2⟩
    rw [fitsP_iff h1 ha (ht _)] at q1
    rw [fitsP_iff h2 hb (hd _)] at q2
    exact .inl ⟨s.take i, s.drop i, (List.take_append_drop i s).symm, q1, mt_rcons.2 ⟨s.drop i, [], by simp, q2, .rnil⟩⟩

/-! Again and again. -/
theorem again_pat {a : List UInt8} {x : Nd} {d : Nat} {m : UInt8} (hm : m = 42 ∨ m = 43 ∨ m = 63) (h : patW a = some (x, d, [])) :
    patW (40 :: (a ++ [41, m])) = some (.econs (.rcons (.again x (m != 43) (m != 63)) .rnil) .enil, max (d + 1) 0, []) := by
  have a1 := atom_paren (r := [m]) h
  have m1 : markF x [m] = (.again x (m != 43) (m != 63), []) := by simp only [markF]; rw [if_pos hm]
  have r1 := row_cons (r := .rnil) (d2 := 0) (w2 := []) rfl a1 (by rw [m1]; exact row_nil)
  rw [m1] at r1
  exact pat_row r1
theorem mt_single {p : Nd} {u : List UInt8} : Mt (.econs (.rcons p .rnil) .enil) u ↔ Mt p u := by
  rw [mt_econs, mt_rcons]
  constructor
  · rintro (⟨a, b, e, h1, h2⟩ | h)
    · have := mt_rnil.1 h2
      subst this
      rw [List.append_nil] at e
      subst e
      exact h1
    · exact absurd h mt_enil
  · intro h
    exact .inl ⟨u, [], by simp, h, .rnil⟩
theorem mt_step {x : Nd} {n : Bool} {s : List UInt8} (h : Mt (.again x n true) s) : s = [] ∨ ∃ u v, u ≠ [] ∧ s = u ++ v ∧ Mt x u ∧ Mt (.again x true true) v := by
  generalize hx : Nd.again x n true = y at h
  induction h with
  | nil => exact .inl rfl
  | @once p n' m' u h =>
    cases hx
    by_cases hu : u = []
    · exact .inl hu
    · exact .inr ⟨u, [], hu, by simp, h, .nil⟩
  | @more p n' u v h1 h2 _ ih =>
    cases hx
    by_cases hu : u = []
    · subst hu
      exact ih rfl
    · exact .inr ⟨u, v, hu, rfl, h1, by
        rw [mt_none]
        cases n with
        | false => exact .inl h2
        | true => exact mt_none.1 h2⟩
  | _ => cases hx
theorem mt_plus_nil {x : Nd} (h : Mt (.again x false true) []) : Mt x [] := by
  generalize hx : Nd.again x false true = y at h
  generalize hs : ([] : List UInt8) = s at h
  induction h with
  | once h => cases hx; exact h
  | more h1 h2 _ ih =>
    cases hx
    have := List.append_eq_nil_iff.1 hs.symm
    rw [this.1] at h1
    rw [← hs]; exact h1
  | _ => cases hx
/-- What begins with a text that fits and goes on so. -/
def MoreT (x : Nd) (s : List UInt8) : Prop := ∃ i, 1 ≤ i ∧ i ≤ s.length ∧ Mt x (s.take i) ∧ Mt (.again x true true) (s.drop i)
theorem more_iff {x : Nd} {s : List UInt8} : MoreT x s ↔ ∃ u v, u ≠ [] ∧ s = u ++ v ∧ Mt x u ∧ Mt (.again x true true) v := by
  constructor
  · rintro ⟨i, h1, h2, h3, h4⟩
    refine ⟨s.take i, s.drop i, ?_, (List.take_append_drop i s).symm, h3, h4⟩
    intro h
    have := congrArg List.length h
    rw [List.length_take, List.length_nil] at this; omega
  · rintro ⟨u, v, h1, rfl, h3, h4⟩
    refine ⟨u.length, ?_, by simp, by rw [List.take_left]; exact h3, by rw [List.drop_left]; exact h4⟩
    cases u with
    | nil => exact absurd rfl h1
    | cons c u => simp
theorem star_iff {x : Nd} {s : List UInt8} : Mt (.again x true true) s ↔ s = [] ∨ MoreT x s := by
  rw [more_iff]
  constructor
  · exact mt_step
  · rintro (rfl | ⟨u, v, _, rfl, h3, h4⟩)
    · exact .nil
    · exact .more h3 h4
theorem plus_iff {x : Nd} {s : List UInt8} : Mt (.again x false true) s ↔ MoreT x s ∨ Mt x s := by
  rw [more_iff]
  constructor
  · intro h
    rcases mt_step h with rfl | h
    · exact .inr (mt_plus_nil h)
    · exact .inl h
  · rintro (⟨u, v, _, rfl, h3, h4⟩ | h)
    · rcases mt_none.1 h4 with h | rfl
      · exact .more h3 h
      · rw [List.append_nil]; exact .once h3
    · exact .once h
theorem maybe_iff {x : Nd} {s : List UInt8} : Mt (.again x true false) s ↔ s = [] ∨ Mt x s := by
  rw [mt_again1]
  exact ⟨fun h => h.elim .inr (fun h => .inl h.2), fun h => h.elim (fun h => .inr ⟨rfl, h⟩) .inl⟩
end Ps
