/- Fits: what it comes to. -/
import Derived.Test.YtmhigcjhjmcpcaaRxN
namespace Ps
set_option linter.unusedSimpArgs false
set_option linter.unusedVariables false
open Go

theorem fn_42 : T.fn 42 = some (.code regex_Fits) := rfl

/-- A tree is no wider than its text is long. -/
theorem wdW : ∀ k : Nat,
    (∀ w, w.length ≤ k → ∀ x d r, atomW w = some (x, d, r) → x.wd ≤ w.length) ∧
    (∀ w, w.length ≤ k → ∀ x d r, rowW w = some (x, d, r) → x.wd ≤ w.length) ∧
    (∀ w, w.length ≤ k → ∀ x d r, patW w = some (x, d, r) → x.wd ≤ w.length + 1) := by
  intro k
  induction k using Nat.strongRecOn with
  | _ k ih =>
    have hA : ∀ w, w.length ≤ k → ∀ x d r, atomW w = some (x, d, r) → x.wd ≤ w.length := by
      intro w hw x d r h
      rw [atomW_eq] at h
      cases w with
      | nil => cases h
      | cons c w0 =>
        simp only at h
        simp only [List.length_cons] at hw ⊢
        split at h
        · cases h; simp [Nd.wd]
        · split at h
          · cases h; simp [Nd.wd]
          · split at h
            · split at h
              · cases h
              · split at h
                · cases h
                · cases h; simp [Nd.wd]
            · split at h
              · split at h
                · cases h
                · cases h; simp [Nd.wd]
              · split at h
                · cases hp : patW w0 with
                  | none => rw [hp] at h; cases h
                  | some q =>
                    obtain ⟨p, d1, w1⟩ := q
                    rw [hp] at h
                    simp only at h
                    have := (ih (k - 1) (by omega)).2.2 w0 (by omega) _ _ _ hp
                    split at h
                    · cases h
                    · split at h
                      · cases h; omega
                      · cases h
                · cases h
    have hR : ∀ w, w.length ≤ k → ∀ x d r, rowW w = some (x, d, r) → x.wd ≤ w.length := by
      intro w hw x d r h
      rw [rowW_eq] at h
      cases w with
      | nil => cases h; simp [Nd.wd]
      | cons c w0 =>
        simp only at h
        split at h
        · cases h; simp [Nd.wd]
        · cases ha : atomW (c :: w0) with
          | none => rw [ha] at h; cases h
          | some q =>
            obtain ⟨p, d1, w1⟩ := q
            rw [ha] at h
            simp only at h
            have l1 := atomW_len ha
            have l2 := markF_len p w1
            have a1 := hA _ hw _ _ _ ha
            have hm : (markF p w1).1.wd = p.wd := by
              rcases markF_cut p w1 with ⟨_, hm⟩ | ⟨m, rm, _, _, hm⟩ <;> rw [hm] <;> rfl
            cases hr : rowW (markF p w1).2 with
            | none => rw [hr] at h; cases h
            | some q =>
              obtain ⟨r1, d2, w3⟩ := q
              rw [hr] at h; cases h
              have := (ih (k - 1) (by omega)).2.1 _ (by omega) _ _ _ hr
              simp only [Nd.wd, hm]
              omega
    refine ⟨hA, hR, ?_⟩
    intro w hw x d r h
    rw [patW_eq] at h
    cases hr : rowW w with
    | none => rw [hr] at h; cases h
    | some q =>
      obtain ⟨r1, d1, w1⟩ := q
      rw [hr] at h
      have a1 := hR w hw _ _ _ hr
      have hl := rowW_len hr
      cases w1 with
      | nil => cases h; simp only [Nd.wd]; omega
      | cons c w2 =>
        simp only at h
        split at h
        · cases hp : patW w2 with
          | none => rw [hp] at h; cases h
          | some q =>
            obtain ⟨e, d2, w3⟩ := q
            rw [hp] at h; cases h
            simp only [List.length_cons] at hl
            have := (ih (k - 1) (by omega)).2.2 w2 (by omega) _ _ _ hp
            simp only [Nd.wd]; omega
        · cases h; simp only [Nd.wd]; omega
theorem patW_wd {w : List UInt8} {x : Nd} {d : Nat} {r : List UInt8} (h : patW w = some (x, d, r)) : x.wd ≤ w.length + 1 := (wdW w.length).2.2 w (Nat.le_refl _) _ _ _ h

open Classical in
/-- Does a pattern fit a text? -/
noncomputable def fitsP (p s : List UInt8) : Bool := decide (chkP p = 0 ∧ s.length ≤ 64 ∧ ∃ x d, patW p = some (x, d, []) ∧ Mt x s)
/-- Why not. -/
def fitsE (p s : List UInt8) : Nat := if chkP p ≠ 0 then chkP p else if 64 < s.length then 3 else 0

theorem rch_start {x : Nd} {s : List UInt8} : Rch x s (fun i => decide (i = 0) = true) s.length ↔ Mt x s := by
  constructor
  · rintro ⟨i, h1, h2, h3, h4⟩
    have : i = 0 := by simpa using h1
    subst this
    simpa [seg] using h4
  · intro h
    exact ⟨0, by simp, by omega, Nat.le_refl _, by simpa [seg] using h⟩

theorem chk_ok {p : List UInt8} (h : chkP p = 0) : p.length ≤ 64 ∧ ∃ x d, patW p = some (x, d, []) ∧ d ≤ 8 := by
  unfold chkP at h
  split at h
  · cases h
  · rename_i hl
    refine ⟨by omega, ?_⟩
    split at h
    · rename_i x d hp
      split at h
      · cases h
      · exact ⟨x, d, hp, by omega⟩
    · cases h

theorem fits_pval (p s : List UInt8) : pval T 42 [.str p, .str s] = some (.tup [.bool (fitsP p s), .int .i64 (fitsE p s)]) := by
  refine pval_st ?_ rfl rfl
  obtain ⟨v, h1, h2, h3, h4⟩ := read_val p
  refine cval_ok' fn_42 rfl ?_
  have hne : ((chkP p : Int) != 0) = decide (chkP p ≠ 0) := by
    by_cases h : chkP p = 0
    · simp [h]
    · simp [h]
  have fin : ∀ (S1 : St) (b : Bool) (e : Nat), finish false St0 S1 (.tup [.bool b, .int .i64 (e : Int)]) = (.tup [.bool b, .int .i64 (e : Int)], St0) := fun S1 b e => finish_pur_free (S1 := S1) rfl
  by_cases hc : chkP p = 0
  · have hne' : ((chkP p : Int) != 0) = false := by rw [hne]; simp [hc]
    by_cases hs : 64 < s.length
    · have hs' : (64 : Int) < (s.length : Int) := by omega
      have hf : fitsP p s = false := by simp only [fitsP, decide_eq_false_iff_not]; rintro ⟨_, q, _⟩; omega
      have he : fitsE p s = 3 := by simp [fitsE, hc, hs]
      rw [hf, he]
      simp -implicitDefEqProofs [regex_Fits, h1, hne', hs']
    · have hs' : ¬ (64 : Int) < (s.length : Int) := by omega
      unfold ReadsV at h4
      rw [if_pos hc] at h4
      obtain ⟨x, d, hp, hn⟩ := h4
      obtain ⟨hl, _⟩ := chk_ok hc
      have hw := patW_wd hp
      have hE := (nd_ends x (by omega)).1 v hn
      rw [h3] at hE
      obtain ⟨_, _, tt, u, f, rfl, hm, hcall⟩ := hE
      have hcall' := hcall s (fun i => decide (i = 0)) St0 (by omega) (fun j h => by
        have : j = 0 := by simpa using h
        omega)
      have hput : putCells (plc (fun _ => false)) 0 [.bool true] = plc (fun i => decide (i = 0)) := by
        rw [plc_put _ _ (by omega)]
        exact plc_ext (fun i _ => by by_cases h : i = 0 <;> simp [h])
      have hpl := plc_len (fun _ => false)
      have h1le : 1 ≤ 65 := by omega
      have hg := partOf_plc (f := En x s (fun i => decide (i = 0))) (i := s.length) (by omega)
      have hsl : (s.length : Int) < 65 := by omega
      have hf : fitsP p s = En x s (fun i => decide (i = 0)) s.length := by
        rw [Bool.eq_iff_iff, en_iff, rch_start]
        simp only [fitsP, decide_eq_true_eq]
        constructor
        · rintro ⟨_, _, x', d', hp', hm⟩
          rw [hp] at hp'
          cases hp'
          exact hm
        · intro h
          exact ⟨hc, by omega, x, d, hp, h⟩
      have he : fitsE p s = 0 := by simp [fitsE, hc]; omega
      rw [hf, he]
      simp -implicitDefEqProofs [regex_Fits, h1, hne', hs', peval, fillParts, plc_zero, hpl, hput, invP, hm, hcall', hsl, hg]
  · have hne' : ((chkP p : Int) != 0) = true := by rw [hne]; simp [hc]
    have hf : fitsP p s = false := by simp [fitsP, hc]
    have he : fitsE p s = chkP p := by simp [fitsE, hc]
    rw [hf, he]
    simp -implicitDefEqProofs [regex_Fits, h1, hne']
end Ps
