/- A pattern's text by itself, and with something behind it. -/
import Derived.Test.YtmhigcjhjmcpcaaRxA
namespace Ps
set_option linter.unusedVariables false
open Go

theorem itemsF_loc : ∀ (w : List UInt8) {f : Nat → Bool} {r : List UInt8}, itemsF w = some (f, r) → ∃ u, w = u ++ r ∧ ∀ r', itemsF (u ++ r') = some (f, r')
  | [], f, r, h => by simp [itemsF] at h
  | a :: w, f, r, h => by
    rw [itemsF.eq_def] at h
    simp only at h
    by_cases ha : a = 93
    · rw [if_pos ha] at h
      cases h
      refine ⟨[a], rfl, fun r' => ?_⟩
      show itemsF (a :: r') = _
      rw [itemsF.eq_def]; simp only; rw [if_pos ha]
    · rw [if_neg ha] at h
      by_cases hb : itemBad a = true
      · rw [if_pos hb] at h; cases h
      · rw [if_neg hb] at h
        cases w with
        | nil => cases h
        | cons d w1 =>
          simp only at h
          by_cases hd : d = 45
          · rw [if_pos hd] at h
            cases w1 with
            | nil => cases h
            | cons b w2 =>
              simp only at h
              by_cases hq : itemBad b = true ∨ b < a
              · rw [if_pos hq] at h; cases h
              · rw [if_neg hq] at h
                cases hi : itemsF w2 with
                | none => rw [hi] at h; cases h
                | some x =>
                  obtain ⟨g, q⟩ := x
                  rw [hi] at h; cases h
                  obtain ⟨u, e, k⟩ := itemsF_loc w2 hi
                  refine ⟨a :: d :: b :: u, by simp [e], fun r' => ?_⟩
                  show itemsF (a :: d :: b :: (u ++ r')) = _
                  rw [itemsF.eq_def]; simp only; rw [if_neg ha, if_neg hb]
                  try simp only
                  rw [if_pos hd, if_neg hq, k r']
          · rw [if_neg hd] at h
            cases hi : itemsF (d :: w1) with
            | none => rw [hi] at h; cases h
            | some x =>
              obtain ⟨g, q⟩ := x
              rw [hi] at h; cases h
              obtain ⟨u, e, k⟩ := itemsF_loc (d :: w1) hi
              have hl := itemsF_len _ hi
              cases u with
              | nil => rw [e] at hl; simp at hl
              | cons d' u =>
                obtain ⟨rfl, e⟩ := List.cons.inj e
                refine ⟨a :: d :: u, by simp [e], fun r' => ?_⟩
                show itemsF (a :: d :: (u ++ r')) = _
                have := k r'
                rw [List.cons_append] at this
                rw [itemsF.eq_def]; simp only; rw [if_neg ha, if_neg hb]
                try simp only
                rw [if_neg hd, this]

theorem clsF_loc {w : List UInt8} {f : Nat → Bool} {r : List UInt8} (h : clsF w = some (f, r)) : ∃ u, w = u ++ r ∧ ∀ r', clsF (u ++ r') = some (f, r') := by
  cases w with
  | nil => cases h
  | cons a w1 =>
    simp only [clsF] at h
    by_cases ha : a = 94
    · rw [if_pos ha] at h
      cases w1 with
      | nil => cases h
      | cons b w2 =>
        simp only at h
        by_cases hb : b = 93
        · rw [if_pos hb] at h; cases h
        · rw [if_neg hb] at h
          cases hi : itemsF (b :: w2) with
          | none => rw [hi] at h; cases h
          | some x =>
            obtain ⟨g, q⟩ := x
            rw [hi] at h; cases h
            obtain ⟨u, e, k⟩ := itemsF_loc _ hi
            have hl := itemsF_len _ hi
            cases u with
            | nil => rw [e] at hl; simp at hl
            | cons d' u =>
              obtain ⟨rfl, e⟩ := List.cons.inj e
              refine ⟨a :: b :: u, by simp [e], fun r' => ?_⟩
              show clsF (a :: b :: (u ++ r')) = _
              have := k r'
              rw [List.cons_append] at this
              simp only [clsF]
              rw [if_pos ha, if_neg hb, this]
    · rw [if_neg ha] at h
      by_cases hb : a = 93
      · rw [if_pos hb] at h; cases h
      · rw [if_neg hb] at h
        cases hi : itemsF (a :: w1) with
        | none => rw [hi] at h; cases h
        | some x =>
          obtain ⟨g, q⟩ := x
          rw [hi] at h; cases h
          obtain ⟨u, e, k⟩ := itemsF_loc _ hi
          have hl := itemsF_len _ hi
          cases u with
          | nil => rw [e] at hl; simp at hl
          | cons d' u =>
            obtain ⟨rfl, e⟩ := List.cons.inj e
            refine ⟨a :: u, by simp [e], fun r' => ?_⟩
            show clsF (a :: (u ++ r')) = _
            have := k r'
            rw [List.cons_append] at this
            simp only [clsF]
            rw [if_neg ha, if_neg hb, this]

/-- What may stand behind a pattern, behind a row, and no mark. -/
def ePat : List UInt8 → Prop | [] => True | c :: _ => c = 41
def eRow : List UInt8 → Prop | [] => True | c :: _ => c = 124 ∨ c = 41
def noMark : List UInt8 → Prop | [] => True | c :: _ => ¬ (c = 42 ∨ c = 43 ∨ c = 63)
theorem ePat.row {w : List UInt8} (h : ePat w) : eRow w := by cases w with | nil => trivial | cons c w => exact .inr h
theorem eRow.noMark {w : List UInt8} (h : eRow w) : noMark w := by
  cases w with
  | nil => trivial
  | cons c w =>
    rcases h with rfl | rfl
    · exact (by decide : ¬ ((124 : UInt8) = 42 ∨ (124 : UInt8) = 43 ∨ (124 : UInt8) = 63))
    · exact (by decide : ¬ ((41 : UInt8) = 42 ∨ (41 : UInt8) = 43 ∨ (41 : UInt8) = 63))

theorem markF_no {p : Nd} {w : List UInt8} (h : noMark w) : markF p w = (p, w) := by
  cases w with
  | nil => rfl
  | cons c w => simp only [markF]; rw [if_neg h]
/-- A mark, and what is behind it. -/
theorem markF_cut (p : Nd) (w : List UInt8) : (noMark w ∧ markF p w = (p, w)) ∨ ∃ c r, w = c :: r ∧ (c = 42 ∨ c = 43 ∨ c = 63) ∧ markF p w = (.again p (c != 43) (c != 63), r) := by
  cases w with
  | nil => exact .inl ⟨trivial, rfl⟩
  | cons c w =>
    by_cases h : c = 42 ∨ c = 43 ∨ c = 63
    · exact .inr ⟨c, w, rfl, h, by simp only [markF]; rw [if_pos h]⟩
    · exact .inl ⟨h, markF_no h⟩

theorem localW : ∀ k : Nat,
    (∀ w, w.length ≤ k → ∀ x d r, atomW w = some (x, d, r) → ∃ u, w = u ++ r ∧ ∀ r', atomW (u ++ r') = some (x, d, r')) ∧
    (∀ w, w.length ≤ k → ∀ x d r, rowW w = some (x, d, r) → eRow r ∧ ∃ u, w = u ++ r ∧ ∀ r', eRow r' → rowW (u ++ r') = some (x, d, r')) ∧
    (∀ w, w.length ≤ k → ∀ x d r, patW w = some (x, d, r) → ePat r ∧ ∃ u, w = u ++ r ∧ ∀ r', ePat r' → patW (u ++ r') = some (x, d, r')) := by
  intro k
  induction k using Nat.strongRecOn with
  | _ k ih =>
    have hA : ∀ w, w.length ≤ k → ∀ x d r, atomW w = some (x, d, r) → ∃ u, w = u ++ r ∧ ∀ r', atomW (u ++ r') = some (x, d, r') := by
      intro w hw x d r h
      rw [atomW_eq] at h
      cases w with
      | nil => cases h
      | cons c w0 =>
        simp only at h
        simp only [List.length_cons] at hw
        by_cases h1 : plainB c = true
        · rw [if_pos h1] at h; cases h
          exact ⟨[c], rfl, fun r' => by show atomW (c :: r') = _; rw [atomW_eq]; simp only; rw [if_pos h1]⟩
        rw [if_neg h1] at h
        by_cases h2 : c = 46
        · rw [if_pos h2] at h; cases h
          exact ⟨[c], rfl, fun r' => by show atomW (c :: r') = _; rw [atomW_eq]; simp only; rw [if_neg h1, if_pos h2]⟩
        rw [if_neg h2] at h
        by_cases h3 : c = 92
        · rw [if_pos h3] at h
          cases w0 with
          | nil => cases h
          | cons e w1 =>
            simp only at h
            by_cases h4 : plainB e = true
            · rw [if_pos h4] at h; cases h
            · rw [if_neg h4] at h; cases h
              exact ⟨[c, e], rfl, fun r' => by show atomW (c :: e :: r') = _; rw [atomW_eq]; simp only; rw [if_neg h1, if_neg h2, if_pos h3, if_neg h4]⟩
        rw [if_neg h3] at h
        by_cases h4 : c = 91
        · rw [if_pos h4] at h
          cases hc : clsF w0 with
          | none => rw [hc] at h; cases h
          | some q =>
            obtain ⟨f, r1⟩ := q
            rw [hc] at h; cases h
            obtain ⟨u, e, kk⟩ := clsF_loc hc
            exact ⟨c :: u, by simp [e], fun r' => by show atomW (c :: (u ++ r')) = _; rw [atomW_eq]; simp only; rw [if_neg h1, if_neg h2, if_neg h3, if_pos h4, kk r']⟩
        rw [if_neg h4] at h
        by_cases h5 : c = 40
        · rw [if_pos h5] at h
          cases hp : patW w0 with
          | none => rw [hp] at h; cases h
          | some q =>
            obtain ⟨p, d1, w1⟩ := q
            rw [hp] at h
            simp only at h
            cases w1 with
            | nil => cases h
            | cons e w2 =>
              simp only at h
              by_cases h6 : e = 41
              · rw [if_pos h6] at h; cases h
                obtain ⟨_, u, e1, kk⟩ := (ih (k - 1) (by omega)).2.2 w0 (by omega) _ _ _ hp
                refine ⟨c :: u ++ [e], by simp [e1], fun r' => ?_⟩
                have e2 : c :: u ++ [e] ++ r' = c :: (u ++ e :: r') := by simp
                rw [e2, atomW_eq]
                simp only
                rw [if_neg h1, if_neg h2, if_neg h3, if_neg h4, if_pos h5, kk (e :: r') h6]
                simp only
                rw [if_pos h6]
              · rw [if_neg h6] at h; cases h
        · rw [if_neg h5] at h; cases h
    have hR : ∀ w, w.length ≤ k → ∀ x d r, rowW w = some (x, d, r) → eRow r ∧ ∃ u, w = u ++ r ∧ ∀ r', eRow r' → rowW (u ++ r') = some (x, d, r') := by
      intro w hw x d r h
      rw [rowW_eq] at h
      cases w with
      | nil =>
        cases h
        refine ⟨trivial, [], rfl, fun r' hr => ?_⟩
        show rowW r' = _
        rw [rowW_eq]
        cases r' with
        | nil => rfl
        | cons c r' => simp only; rw [if_pos (show c = 124 ∨ c = 41 from hr)]
      | cons c w0 =>
        simp only at h
        by_cases hc : c = 124 ∨ c = 41
        · rw [if_pos hc] at h
          cases h
          refine ⟨hc, [], rfl, fun r' hr => ?_⟩
          show rowW r' = _
          rw [rowW_eq]
          cases r' with
          | nil => rfl
          | cons c r' => simp only; rw [if_pos (show c = 124 ∨ c = 41 from hr)]
        · rw [if_neg hc] at h
          cases ha : atomW (c :: w0) with
          | none => rw [ha] at h; cases h
          | some q =>
            obtain ⟨p, d1, w1⟩ := q
            rw [ha] at h
            simp only at h
            have l1 := atomW_len ha
            have l2 := markF_len p w1
            obtain ⟨ua, ea, ka⟩ := hA _ hw _ _ _ ha
            cases hr : rowW (markF p w1).2 with
            | none => rw [hr] at h; cases h
            | some q =>
              obtain ⟨r1, d2, w3⟩ := q
              rw [hr] at h; cases h
              obtain ⟨er, ur, eu, kr⟩ := (ih (k - 1) (by omega)).2.1 (markF p w1).2 (by omega) _ _ _ hr
              have hua : ∃ ut, ua = c :: ut := by
                cases ua with
                | nil => rw [List.nil_append] at ea; rw [ea] at l1; omega
                | cons c' ut => rw [List.cons_append] at ea; exact ⟨ut, by rw [(List.cons.inj ea).1]⟩
              obtain ⟨ut, rfl⟩ := hua
              refine ⟨er, ?_⟩
              rcases markF_cut p w1 with ⟨hn, hm⟩ | ⟨m, rm, e1, hm1, hm⟩
              · rw [hm] at eu ⊢
                simp only at eu ⊢
                refine ⟨c :: ut ++ ur, by rw [ea, eu]; simp, fun r' hr' => ?_⟩
                have hn2 : noMark (ur ++ r') := by
                  cases ur with
                  | nil => exact hr'.noMark
                  | cons z zs => rw [eu] at hn; exact hn
                have e2 : c :: ut ++ ur ++ r' = c :: (ut ++ (ur ++ r')) := by simp
                have ka' := ka (ur ++ r')
                rw [List.cons_append] at ka'
                rw [e2, rowW_eq]
                simp only
                rw [if_neg hc, ka']
                simp only
                rw [markF_no hn2]
                simp only
                rw [kr r' hr']
              · rw [hm] at eu ⊢
                simp only at eu ⊢
                refine ⟨c :: ut ++ m :: ur, by rw [ea, e1, eu]; simp, fun r' hr' => ?_⟩
                have e2 : c :: ut ++ m :: ur ++ r' = c :: (ut ++ (m :: (ur ++ r'))) := by simp
                have ka' := ka (m :: (ur ++ r'))
                rw [List.cons_append] at ka'
                have hm' : markF p (m :: (ur ++ r')) = (.again p (m != 43) (m != 63), ur ++ r') := by simp only [markF]; rw [if_pos hm1]
                rw [e2, rowW_eq]
                simp only
                rw [if_neg hc, ka']
                simp only
                rw [hm']
                simp only
                rw [kr r' hr']
    refine ⟨hA, hR, ?_⟩
    intro w hw x d r h
    rw [patW_eq] at h
    cases hr : rowW w with
    | none => rw [hr] at h; cases h
    | some q =>
      obtain ⟨r1, d1, w1⟩ := q
      rw [hr] at h
      obtain ⟨er, ur, eu, kr⟩ := hR w hw _ _ _ hr
      have hl := rowW_len hr
      cases w1 with
      | nil =>
        cases h
        refine ⟨trivial, ur, eu, fun r' hr' => ?_⟩
        rw [patW_eq, kr r' hr'.row]
        cases r' with
        | nil => rfl
        | cons e r' =>
          have he : e = 41 := hr'
          subst he
          simp only
          rw [if_neg (by decide)]
      | cons c w2 =>
        simp only at h
        by_cases hc : c = 124
        · rw [if_pos hc] at h
          cases hp : patW w2 with
          | none => rw [hp] at h; cases h
          | some q =>
            obtain ⟨e, d2, w3⟩ := q
            rw [hp] at h; cases h
            simp only [List.length_cons] at hl
            obtain ⟨ep, up, eup, kp⟩ := (ih (k - 1) (by omega)).2.2 w2 (by omega) _ _ _ hp
            refine ⟨ep, ur ++ c :: up, by rw [eu, eup]; simp, fun r' hr' => ?_⟩
            have e2 : ur ++ c :: up ++ r' = ur ++ (c :: (up ++ r')) := by simp
            rw [e2, patW_eq, kr (c :: (up ++ r')) (.inl hc)]
            simp only
            rw [if_pos hc, kp r' hr']
        · rw [if_neg hc] at h
          cases h
          have hc2 : c = 41 := by rcases er with q | q; exact absurd q hc; exact q
          refine ⟨hc2, ur, eu, fun r' hr' => ?_⟩
          rw [patW_eq, kr r' hr'.row]
          cases r' with
          | nil => rfl
          | cons e r' =>
            have he : e = 41 := hr'
            subst he
            simp only
            rw [if_neg (by decide)]
theorem atomW_loc {w : List UInt8} {x : Nd} {d : Nat} {r : List UInt8} (h : atomW w = some (x, d, r)) : ∃ u, w = u ++ r ∧ ∀ r', atomW (u ++ r') = some (x, d, r') := (localW w.length).1 w (Nat.le_refl _) _ _ _ h
theorem rowW_loc {w : List UInt8} {x : Nd} {d : Nat} {r : List UInt8} (h : rowW w = some (x, d, r)) : eRow r ∧ ∃ u, w = u ++ r ∧ ∀ r', eRow r' → rowW (u ++ r') = some (x, d, r') := (localW w.length).2.1 w (Nat.le_refl _) _ _ _ h
theorem patW_loc {w : List UInt8} {x : Nd} {d : Nat} {r : List UInt8} (h : patW w = some (x, d, r)) : ePat r ∧ ∃ u, w = u ++ r ∧ ∀ r', ePat r' → patW (u ++ r') = some (x, d, r') := (localW w.length).2.2 w (Nat.le_refl _) _ _ _ h
end Ps
