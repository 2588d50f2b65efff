/- How the document takes a pattern apart: the same patterns, the same depth. -/
import Derived.Test.YtmhigcjhjmcpcaaRxB
namespace Ps
set_option linter.unusedVariables false
open Go

/-- Where the ) stands that closes, with so many open. -/
def cloF (o : Int) (w : List UInt8) : Option (List UInt8) :=
  match w with
  | [] => none
  | c :: w0 => if c = 92 then cloF o (w0.drop 1) else if c = 91 then (match h : clsF w0 with | none => none | some (f, r) => cloF o r) else
    if c = 40 then cloF (o + 1) w0 else if c = 41 then (if o - 1 = 0 then some (c :: w0) else cloF (o - 1) w0) else cloF o w0
termination_by w.length
decreasing_by
  · simp; omega
  · have := clsF_len h; simp; omega
  all_goals simp
theorem cloF_cons (o : Int) (c : UInt8) (w0 : List UInt8) : cloF o (c :: w0) = if c = 92 then cloF o (w0.drop 1) else if c = 91 then (match clsF w0 with | none => none | some (f, r) => cloF o r) else
    if c = 40 then cloF (o + 1) w0 else if c = 41 then (if o - 1 = 0 then some (c :: w0) else cloF (o - 1) w0) else cloF o w0 := by
  rw [cloF]
  split
  · rfl
  · split
    · split <;> rename_i h <;> simp [h]
    · rfl
theorem cloF_nil (o : Int) : cloF o [] = none := by rw [cloF]

theorem cloF_suf : ∀ (k : Nat) (o : Int) (w : List UInt8), w.length ≤ k → ∀ {r : List UInt8}, cloF o w = some r → ∃ u r2, w = u ++ r ∧ r = 41 :: r2 := by
  intro k
  induction k with
  | zero =>
    intro o w hw r h
    have : w = [] := by simpa using hw
    subst this
    rw [cloF_nil] at h; cases h
  | succ k ih =>
    intro o w hw r h
    cases w with
    | nil => rw [cloF_nil] at h; cases h
    | cons c w0 =>
      simp only [List.length_cons] at hw
      rw [cloF_cons] at h
      by_cases h1 : c = 92
      · rw [if_pos h1] at h
        obtain ⟨u, r2, e, e2⟩ := ih o (w0.drop 1) (by simp; omega) h
        cases w0 with
        | nil => simp at e; rw [e2] at e; simp at e
        | cons d w1 => simp only [List.drop_succ_cons, List.drop_zero] at e; exact ⟨c :: d :: u, r2, by simp [e], e2⟩
      rw [if_neg h1] at h
      by_cases h2 : c = 91
      · rw [if_pos h2] at h
        cases hc : clsF w0 with
        | none => rw [hc] at h; cases h
        | some q =>
          obtain ⟨f, q⟩ := q
          rw [hc] at h
          have hl := clsF_len hc
          obtain ⟨u, r2, e, e2⟩ := ih o q (by omega) h
          obtain ⟨u2, e3, _⟩ := clsF_loc hc
          exact ⟨c :: u2 ++ u, r2, by simp [e3, e], e2⟩
      rw [if_neg h2] at h
      by_cases h3 : c = 40
      · rw [if_pos h3] at h
        obtain ⟨u, r2, e, e2⟩ := ih _ w0 (by omega) h
        exact ⟨c :: u, r2, by simp [e], e2⟩
      rw [if_neg h3] at h
      by_cases h4 : c = 41
      · rw [if_pos h4] at h
        by_cases h5 : o - 1 = 0
        · rw [if_pos h5] at h; cases h
          exact ⟨[], w0, rfl, by rw [h4]⟩
        · rw [if_neg h5] at h
          obtain ⟨u, r2, e, e2⟩ := ih _ w0 (by omega) h
          exact ⟨c :: u, r2, by simp [e], e2⟩
      rw [if_neg h4] at h
      obtain ⟨u, r2, e, e2⟩ := ih _ w0 (by omega) h
      exact ⟨c :: u, r2, by simp [e], e2⟩

theorem plain_ne {c : UInt8} (h : plainB c = true) : c ≠ 92 ∧ c ≠ 91 ∧ c ≠ 40 ∧ c ≠ 41 := by
  refine ⟨?_, ?_, ?_, ?_⟩ <;> (rintro rfl; revert h; decide)

/-- How deep, with so many open and so deep till now. -/
def depF (o m : Int) (w : List UInt8) : Int :=
  match w with
  | [] => m
  | c :: w0 => if c = 92 then depF o m (w0.drop 1) else if c = 91 then (match h : clsF w0 with | none => m | some (f, r) => depF o m r) else
    if c = 40 then depF (o + 1) (max m (o + 1)) w0 else if c = 41 then depF (o - 1) m w0 else depF o m w0
termination_by w.length
decreasing_by
  · simp; omega
  · have := clsF_len h; simp; omega
  all_goals simp
theorem depF_cons (o m : Int) (c : UInt8) (w0 : List UInt8) : depF o m (c :: w0) = if c = 92 then depF o m (w0.drop 1) else if c = 91 then (match clsF w0 with | none => m | some (f, r) => depF o m r) else
    if c = 40 then depF (o + 1) (max m (o + 1)) w0 else if c = 41 then depF (o - 1) m w0 else depF o m w0 := by
  rw [depF]
  split
  · rfl
  · split
    · split <;> rename_i h <;> simp [h]
    · rfl
theorem depF_nil (o m : Int) : depF o m [] = m := by rw [depF]

/-- Both pass over what is read. -/
theorem passW : ∀ k : Nat,
    (∀ w, w.length ≤ k → ∀ x d r, atomW w = some (x, d, r) → (∀ o, 1 ≤ o → cloF o w = cloF o r) ∧ ∀ o m, o ≤ m → depF o m w = depF o (max m (o + d)) r) ∧
    (∀ w, w.length ≤ k → ∀ x d r, rowW w = some (x, d, r) → (∀ o, 1 ≤ o → cloF o w = cloF o r) ∧ ∀ o m, o ≤ m → depF o m w = depF o (max m (o + d)) r) ∧
    (∀ w, w.length ≤ k → ∀ x d r, patW w = some (x, d, r) → (∀ o, 1 ≤ o → cloF o w = cloF o r) ∧ ∀ o m, o ≤ m → depF o m w = depF o (max m (o + d)) r) := by
  intro k
  induction k using Nat.strongRecOn with
  | _ k ih =>
    have hA : ∀ w, w.length ≤ k → ∀ x d r, atomW w = some (x, d, r) → (∀ o, 1 ≤ o → cloF o w = cloF o r) ∧ ∀ o m, o ≤ m → depF o m w = depF o (max m (o + d)) r := by
      intro w hw x d r h
      rw [atomW_eq] at h
      cases w with
      | nil => cases h
      | cons c w0 =>
        simp only at h
        simp only [List.length_cons] at hw
        have h0 : ∀ (o m : Int), o ≤ m → max m (o + (0 : Nat)) = m := fun o m q => by omega
        by_cases h1 : plainB c = true
        · rw [if_pos h1] at h; cases h
          obtain ⟨a, b, e, f⟩ := plain_ne h1
          exact ⟨fun o ho => by rw [cloF_cons, if_neg a, if_neg b, if_neg e, if_neg f], fun o m q => by rw [depF_cons, if_neg a, if_neg b, if_neg e, if_neg f, h0 o m q]⟩
        rw [if_neg h1] at h
        by_cases h2 : c = 46
        · rw [if_pos h2] at h; cases h
          subst h2
          exact ⟨fun o ho => by rw [cloF_cons, if_neg (by decide), if_neg (by decide), if_neg (by decide), if_neg (by decide)], fun o m q => by rw [depF_cons, if_neg (by decide), if_neg (by decide), if_neg (by decide), if_neg (by decide), h0 o m q]⟩
        rw [if_neg h2] at h
        by_cases h3 : c = 92
        · rw [if_pos h3] at h
          cases w0 with
          | nil => cases h
          | cons e w1 =>
            simp only at h
            by_cases h4 : plainB e = true
            · rw [if_pos h4] at h; cases h
            · rw [if_neg h4] at h; cases h
              exact ⟨fun o ho => by rw [cloF_cons, if_pos h3]; rfl, fun o m q => by rw [depF_cons, if_pos h3, h0 o m q]; rfl⟩
        rw [if_neg h3] at h
        by_cases h4 : c = 91
        · rw [if_pos h4] at h
          cases hc : clsF w0 with
          | none => rw [hc] at h; cases h
          | some q =>
            obtain ⟨f, r1⟩ := q
            rw [hc] at h; cases h
            exact ⟨fun o ho => by rw [cloF_cons, if_neg h3, if_pos h4, hc], fun o m q => by rw [depF_cons, if_neg h3, if_pos h4, hc, h0 o m q]⟩
        rw [if_neg h4] at h
        by_cases h5 : c = 40
        · rw [if_pos h5] at h
          cases hp : patW w0 with
          | none => rw [hp] at h; cases h
          | some q =>
            obtain ⟨p, d1, w1⟩ := q
            rw [hp] at h
            simp only at h
            cases w1 with
            | nil => cases h
            | cons e w2 =>
              simp only at h
              by_cases h6 : e = 41
              · rw [if_pos h6] at h; cases h
                subst h6
                obtain ⟨k1, k2⟩ := (ih (k - 1) (by omega)).2.2 w0 (by omega) _ _ _ hp
                refine ⟨fun o ho => ?_, fun o m q => ?_⟩
                · rw [cloF_cons, if_neg h3, if_neg h4, if_pos h5, k1 (o + 1) (by omega), cloF_cons, if_neg (by decide), if_neg (by decide), if_neg (by decide), if_pos rfl, if_neg (by omega), Int.add_sub_cancel]
                · rw [depF_cons, if_neg h3, if_neg h4, if_pos h5, k2 (o + 1) _ (by omega), depF_cons, if_neg (by decide), if_neg (by decide), if_neg (by decide), if_pos rfl, Int.add_sub_cancel]
                  congr 1
                  omega
              · rw [if_neg h6] at h; cases h
        · rw [if_neg h5] at h; cases h
    have hR : ∀ w, w.length ≤ k → ∀ x d r, rowW w = some (x, d, r) → (∀ o, 1 ≤ o → cloF o w = cloF o r) ∧ ∀ o m, o ≤ m → depF o m w = depF o (max m (o + d)) r := by
      intro w hw x d r h
      rw [rowW_eq] at h
      have h0 : ∀ (o m : Int), o ≤ m → max m (o + (0 : Nat)) = m := fun o m q => by omega
      cases w with
      | nil => cases h; exact ⟨fun o ho => rfl, fun o m q => by rw [h0 o m q]⟩
      | cons c w0 =>
        simp only at h
        by_cases hc : c = 124 ∨ c = 41
        · rw [if_pos hc] at h
          cases h
          exact ⟨fun o ho => rfl, fun o m q => by rw [h0 o m q]⟩
        · rw [if_neg hc] at h
          cases ha : atomW (c :: w0) with
          | none => rw [ha] at h; cases h
          | some q =>
            obtain ⟨p, d1, w1⟩ := q
            rw [ha] at h
            simp only at h
            have l1 := atomW_len ha
            have l2 := markF_len p w1
            obtain ⟨a1, a2⟩ := hA _ hw _ _ _ ha
            have hm : (∀ o, cloF o w1 = cloF o (markF p w1).2) ∧ ∀ o m, depF o m w1 = depF o m (markF p w1).2 := by
              rcases markF_cut p w1 with ⟨hn, hm⟩ | ⟨m, rm, e1, hm1, hm⟩
              · rw [hm]; exact ⟨fun _ => rfl, fun _ _ => rfl⟩
              · rw [hm, e1]
                have : m ≠ 92 ∧ m ≠ 91 ∧ m ≠ 40 ∧ m ≠ 41 := by rcases hm1 with rfl | rfl | rfl <;> decide
                obtain ⟨a, b, e, f⟩ := this
                exact ⟨fun o => by rw [cloF_cons, if_neg a, if_neg b, if_neg e, if_neg f], fun o m => by rw [depF_cons, if_neg a, if_neg b, if_neg e, if_neg f]⟩
            cases hr : rowW (markF p w1).2 with
            | none => rw [hr] at h; cases h
            | some q =>
              obtain ⟨r1, d2, w3⟩ := q
              rw [hr] at h; cases h
              obtain ⟨b1, b2⟩ := (ih (k - 1) (by omega)).2.1 _ (by omega) _ _ _ hr
              refine ⟨fun o ho => by rw [a1 o ho, hm.1, b1 o ho], fun o m q => ?_⟩
              rw [a2 o m q, hm.2, b2 o _ (by omega)]
              congr 1
              omega
    refine ⟨hA, hR, ?_⟩
    intro w hw x d r h
    rw [patW_eq] at h
    cases hr : rowW w with
    | none => rw [hr] at h; cases h
    | some q =>
      obtain ⟨r1, d1, w1⟩ := q
      rw [hr] at h
      obtain ⟨a1, a2⟩ := hR w hw _ _ _ hr
      have hl := rowW_len hr
      cases w1 with
      | nil => cases h; exact ⟨a1, a2⟩
      | cons c w2 =>
        simp only at h
        by_cases hc : c = 124
        · rw [if_pos hc] at h
          cases hp : patW w2 with
          | none => rw [hp] at h; cases h
          | some q =>
            obtain ⟨e, d2, w3⟩ := q
            rw [hp] at h; cases h
            simp only [List.length_cons] at hl
            obtain ⟨b1, b2⟩ := (ih (k - 1) (by omega)).2.2 w2 (by omega) _ _ _ hp
            subst hc
            refine ⟨fun o ho => ?_, fun o m q => ?_⟩
            · rw [a1 o ho, cloF_cons, if_neg (by decide), if_neg (by decide), if_neg (by decide), if_neg (by decide), b1 o ho]
            · rw [a2 o m q, depF_cons, if_neg (by decide), if_neg (by decide), if_neg (by decide), if_neg (by decide), b2 o _ (by omega)]
              congr 1
              omega
        · rw [if_neg hc] at h
          cases h
          exact ⟨a1, a2⟩

/-- Is it a pattern, whole? -/
def okP (w : List UInt8) : Bool := match patW w with | some (_, _, []) => true | _ => false
theorem okP_iff {w : List UInt8} : okP w = true ↔ ∃ x d, patW w = some (x, d, []) := by
  unfold okP
  split
  · rename_i x d h; exact ⟨fun _ => ⟨x, d, h⟩, fun _ => rfl⟩
  · rename_i h
    refine Iff.intro (fun q => by cases q) ?_
    rintro ⟨x, d, q⟩
    exact absurd q (h x d)

theorem dep_ok {w : List UInt8} {x : Nd} {d : Nat} (h : patW w = some (x, d, [])) : depF 0 0 w = d := by
  rw [((passW w.length).2.2 w (Nat.le_refl _) _ _ _ h).2 0 0 (by omega), depF_nil]; omega

/-- What stands in parentheses, as the document takes it. -/
theorem paren_same (w0 : List UInt8) : (match cloF 1 w0 with | none => none | some r => if okP (w0.take (w0.length - r.length)) then some (r.drop 1) else none) =
    (match patW w0 with | none => none | some (p, d, w1) => match w1 with | [] => none | e :: w2 => if e = 41 then some w2 else none) := by
  apply Option.ext
  intro z
  constructor
  · intro h
    cases hc : cloF 1 w0 with
    | none => rw [hc] at h; cases h
    | some r =>
      rw [hc] at h
      simp only at h
      split at h
      · rename_i hk
        obtain ⟨u, r2, e, e2⟩ := cloF_suf _ 1 w0 (Nat.le_refl _) hc
        have hu : w0.take (w0.length - r.length) = u := by rw [e]; simp
        rw [hu] at hk
        obtain ⟨x, d, hp⟩ := okP_iff.1 hk
        obtain ⟨_, u', e3, kk⟩ := patW_loc hp
        rw [List.append_nil] at e3
        subst e3
        have := kk r (by rw [e2]; rfl)
        rw [e, this, e2]
        rw [e2] at h
        exact h
      · cases h
  · intro h
    cases hp : patW w0 with
    | none => rw [hp] at h; cases h
    | some q =>
      obtain ⟨p, d, w1⟩ := q
      rw [hp] at h
      simp only at h
      cases w1 with
      | nil => cases h
      | cons e w2 =>
        simp only at h
        split at h
        · rename_i he
          subst he
          cases h
          obtain ⟨_, u, e1, kk⟩ := patW_loc hp
          have h1 := ((passW w0.length).2.2 w0 (Nat.le_refl _) _ _ _ hp).1 1 (by omega)
          rw [cloF_cons, if_neg (by decide), if_neg (by decide), if_neg (by decide), if_pos rfl, if_pos (by omega)] at h1
          rw [h1]
          simp only
          have hu : w0.take (w0.length - (41 :: z).length) = u := by rw [e1]; simp
          have hk : okP u = true := okP_iff.2 ⟨p, d, by have := kk [] trivial; rw [List.append_nil] at this; exact this⟩
          rw [hu, if_pos hk]; rfl
        · cases h
end Ps
