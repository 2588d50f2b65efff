/- What a pattern fits; where it may end; a pattern's alternatives. -/
import Derived.Test.YtmhigcjhjmcpcaaDefs
namespace Ps
set_option linter.unusedSimpArgs false
set_option linter.unusedVariables false
open Go

/-- The bytes that are not plain. -/
def special : List UInt8 := [92, 40, 41, 91, 93, 124, 42, 43, 63, 46]
def plainB (c : UInt8) : Bool := !special.contains c
/-- A byte that may not stand in a class's item. -/
def itemBad (c : UInt8) : Bool := [92, 91, 93, 94, 45].contains c

/-- A pattern's tree. -/
inductive Nd where
  | one (f : Nat → Bool)
  | rnil
  | rcons (p l : Nd)
  | enil
  | econs (p l : Nd)
  | again (p : Nd) (none many : Bool)

/-- The items of a class, up to its end. -/
def itemsF : List UInt8 → Option ((Nat → Bool) × List UInt8)
  | [] => none
  | a :: w => if a = 93 then some (fun _ => false, w) else if itemBad a then none else
    match w with
    | [] => none
    | d :: w1 => if d = 45 then (match w1 with
        | [] => none
        | b :: w2 => if itemBad b ∨ b < a then none else match itemsF w2 with | none => none | some (f, r) => some (fun i => decide (a.toNat ≤ i ∧ i ≤ b.toNat) || f i, r))
      else match itemsF (d :: w1) with | none => none | some (f, r) => some (fun i => (i == a.toNat) || f i, r)

/-- A class, behind its [. -/
def clsF (w : List UInt8) : Option ((Nat → Bool) × List UInt8) :=
  match w with
  | [] => none
  | a :: w1 => if a = 94 then (match w1 with
      | [] => none
      | b :: _ => if b = 93 then none else match itemsF w1 with | none => none | some (f, r) => some (fun i => f i != true, r))
    else if a = 93 then none else match itemsF (a :: w1) with | none => none | some (f, r) => some (fun i => f i != false, r)

/-- A mark behind an atom. -/
def markF (p : Nd) (w : List UInt8) : Nd × List UInt8 :=
  match w with
  | [] => (p, [])
  | c :: r => if c = 42 ∨ c = 43 ∨ c = 63 then (.again p (c != 43) (c != 63), r) else (p, c :: r)

mutual
def patF : Nat → List UInt8 → Option (Nd × Nat × List UInt8)
  | 0, _ => none
  | n + 1, w => match rowF n w with
    | none => none
    | some (r, d, w1) => match w1 with
      | [] => some (.econs r .enil, d, [])
      | c :: w2 => if c = 124 then (match patF n w2 with | none => none | some (e, d2, w3) => some (.econs r e, max d d2, w3)) else some (.econs r .enil, d, c :: w2)
def rowF : Nat → List UInt8 → Option (Nd × Nat × List UInt8)
  | 0, _ => none
  | n + 1, w => match w with
    | [] => some (.rnil, 0, [])
    | c :: w0 => if c = 124 ∨ c = 41 then some (.rnil, 0, c :: w0) else match atomF n (c :: w0) with
      | none => none
      | some (p, d, w1) => match rowF n (markF p w1).2 with
        | none => none
        | some (r, d2, w3) => some (.rcons (markF p w1).1 r, max d d2, w3)
def atomF : Nat → List UInt8 → Option (Nd × Nat × List UInt8)
  | 0, _ => none
  | n + 1, w => match w with
    | [] => none
    | c :: w0 =>
      if plainB c then some (.one (fun i => i == c.toNat), 0, w0) else
      if c = 46 then some (.one (fun _ => true), 0, w0) else
      if c = 92 then (match w0 with | [] => none | d :: w1 => if plainB d then none else some (.one (fun i => i == d.toNat), 0, w1)) else
      if c = 91 then (match clsF w0 with | none => none | some (f, r) => some (.one f, 0, r)) else
      if c = 40 then (match patF n w0 with
        | none => none
        | some (p, d, w1) => match w1 with | [] => none | e :: w2 => if e = 41 then some (p, d + 1, w2) else none)
      else none
end

theorem itemsF_len : ∀ (w : List UInt8) {f : Nat → Bool} {r : List UInt8}, itemsF w = some (f, r) → r.length < w.length
  | [], f, r, h => by simp [itemsF] at h
  | [a], f, r, h => by
    rw [itemsF] at h
    split at h
    · cases h; simp
    · split at h <;> cases h
  | [a, d], f, r, h => by
    rw [itemsF] at h
    split at h
    · cases h; simp
    · split at h
      · cases h
      · split at h
        · cases h
        · cases hi : itemsF [d] with
          | none => rw [hi] at h; cases h
          | some x =>
            obtain ⟨g, q⟩ := x
            rw [hi] at h; cases h
            have := itemsF_len [d] hi
            simp only [List.length_cons, List.length_nil] at this ⊢; omega
  | a :: d :: b :: w, f, r, h => by
    rw [itemsF] at h
    split at h
    · cases h; simp
    · split at h
      · cases h
      · split at h
        · split at h
          · cases h
          · cases hi : itemsF w with
            | none => rw [hi] at h; cases h
            | some x =>
              obtain ⟨g, q⟩ := x
              rw [hi] at h; cases h
              have := itemsF_len w hi
              simp; omega
        · cases hi : itemsF (d :: b :: w) with
          | none => rw [hi] at h; cases h
          | some x =>
            obtain ⟨g, q⟩ := x
            rw [hi] at h; cases h
            have := itemsF_len (d :: b :: w) hi
            simp at this ⊢; omega

theorem clsF_len {w : List UInt8} {f : Nat → Bool} {r : List UInt8} (h : clsF w = some (f, r)) : r.length < w.length := by
  unfold clsF at h
  split at h
  · cases h
  · rename_i a w1
    split at h
    · split at h
      · cases h
      · rename_i b w2
        split at h
        · cases h
        · cases hi : itemsF (b :: w2) with
          | none => rw [hi] at h; cases h
          | some x =>
            obtain ⟨g, q⟩ := x
            rw [hi] at h; cases h
            have := itemsF_len _ hi
            simp at this ⊢; omega
    · split at h
      · cases h
      · cases hi : itemsF (a :: w1) with
        | none => rw [hi] at h; cases h
        | some x =>
          obtain ⟨g, q⟩ := x
          rw [hi] at h; cases h
          exact itemsF_len _ hi

theorem markF_len (p : Nd) (w : List UInt8) : (markF p w).2.length ≤ w.length := by
  unfold markF
  split
  · simp
  · split <;> simp

/-- What is left is shorter; and fuel enough is enough. -/
theorem fuelF : ∀ n : Nat,
    (∀ w x d r, patF n w = some (x, d, r) → r.length ≤ w.length ∧ ∀ m, 3 * w.length + 3 ≤ m → patF m w = some (x, d, r)) ∧
    (∀ w x d r, rowF n w = some (x, d, r) → r.length ≤ w.length ∧ ∀ m, 3 * w.length + 2 ≤ m → rowF m w = some (x, d, r)) ∧
    (∀ w x d r, atomF n w = some (x, d, r) → r.length < w.length ∧ ∀ m, 3 * w.length + 1 ≤ m → atomF m w = some (x, d, r)) := by
  intro n
  induction n with
  | zero => refine ⟨?_, ?_, ?_⟩ <;> intro w x d r h <;> simp [patF, rowF, atomF] at h
  | succ n ih =>
    obtain ⟨ihp, ihr, iha⟩ := ih
    refine ⟨?_, ?_, ?_⟩
    · intro w x d r h
      rw [patF] at h
      cases hr : rowF n w with
      | none => rw [hr] at h; cases h
      | some q =>
        obtain ⟨r1, d1, w1⟩ := q
        obtain ⟨l1, f1⟩ := ihr _ _ _ _ hr
        rw [hr] at h
        simp only at h
        cases w1 with
        | nil =>
          cases h
          refine ⟨by simp, fun m hm => ?_⟩
          obtain ⟨m, rfl⟩ : ∃ k, m = k + 1 := ⟨m - 1, by omega⟩
          rw [patF, f1 m (by omega)]
        | cons c w2 =>
          simp only [List.length_cons] at l1
          simp only at h
          split at h
          · rename_i hc
            cases hp : patF n w2 with
            | none => rw [hp] at h; cases h
            | some q =>
              obtain ⟨e, d2, w3⟩ := q
              obtain ⟨l2, f2⟩ := ihp _ _ _ _ hp
              rw [hp] at h
              cases h
              refine ⟨by omega, fun m hm => ?_⟩
              obtain ⟨m, rfl⟩ : ∃ k, m = k + 1 := ⟨m - 1, by omega⟩
              rw [patF, f1 m (by omega)]
              simp only
              rw [if_pos hc, f2 m (by omega)]
          · rename_i hc
            cases h
            refine ⟨by simp; omega, fun m hm => ?_⟩
            obtain ⟨m, rfl⟩ : ∃ k, m = k + 1 := ⟨m - 1, by omega⟩
            rw [patF, f1 m (by omega)]
            simp only
            rw [if_neg hc]
    · intro w x d r h
      rw [rowF.eq_def] at h
      simp only at h
      cases w with
      | nil =>
        cases h
        refine ⟨by simp, fun m hm => ?_⟩
        obtain ⟨m, rfl⟩ : ∃ k, m = k + 1 := ⟨m - 1, by omega⟩
        rw [rowF.eq_def]
      | cons c w0 =>
        simp only at h
        split at h
        · rename_i hc
          cases h
          refine ⟨by simp, fun m hm => ?_⟩
          obtain ⟨m, rfl⟩ : ∃ k, m = k + 1 := ⟨m - 1, by omega⟩
          rw [rowF.eq_def]
          simp only
          rw [if_pos hc]
        · rename_i hc
          cases ha : atomF n (c :: w0) with
          | none => rw [ha] at h; cases h
          | some q =>
            obtain ⟨p, d1, w1⟩ := q
            obtain ⟨l1, f1⟩ := iha _ _ _ _ ha
            rw [ha] at h
            simp only at h
            have lm := markF_len p w1
            cases hr : rowF n (markF p w1).2 with
            | none => rw [hr] at h; cases h
            | some q =>
              obtain ⟨r1, d2, w3⟩ := q
              obtain ⟨l2, f2⟩ := ihr _ _ _ _ hr
              rw [hr] at h
              cases h
              refine ⟨by omega, fun m hm => ?_⟩
              obtain ⟨m, rfl⟩ : ∃ k, m = k + 1 := ⟨m - 1, by omega⟩
              rw [rowF.eq_def]
              simp only
              rw [if_neg hc, f1 m (by omega)]
              simp only
              rw [f2 m (by omega)]
    · intro w x d r h
      rw [atomF.eq_def] at h
      simp only at h
      cases w with
      | nil => cases h
      | cons c w0 =>
        simp only at h
        refine ⟨?_, fun m hm => ?_⟩
        · split at h
          · cases h; simp
          · split at h
            · cases h; simp
            · split at h
              · split at h
                · cases h
                · split at h
                  · cases h
                  · cases h; simp; omega
              · split at h
                · cases hc : clsF w0 with
                  | none => rw [hc] at h; cases h
                  | some q =>
                    obtain ⟨f, r1⟩ := q
                    rw [hc] at h; cases h
                    have := clsF_len hc
                    simp; omega
                · split at h
                  · cases hp : patF n w0 with
                    | none => rw [hp] at h; cases h
                    | some q =>
                      obtain ⟨p, d1, w1⟩ := q
                      obtain ⟨l1, f1⟩ := ihp _ _ _ _ hp
                      rw [hp] at h
                      simp only at h
                      split at h
                      · cases h
                      · split at h
                        · cases h; simp at l1 ⊢; omega
                        · cases h
                  · cases h
        · obtain ⟨m, rfl⟩ : ∃ k, m = k + 1 := ⟨m - 1, by omega⟩
          rw [atomF.eq_def]
          simp only
          split at h
          · rename_i q; rw [if_pos q]; exact h
          · rename_i q; rw [if_neg q]
            split at h
            · rename_i q; rw [if_pos q]; exact h
            · rename_i q; rw [if_neg q]
              split at h
              · rename_i q; rw [if_pos q]; exact h
              · rename_i q; rw [if_neg q]
                split at h
                · rename_i q; rw [if_pos q]; exact h
                · rename_i q; rw [if_neg q]
                  split at h
                  · rename_i q; rw [if_pos q]
                    cases hp : patF n w0 with
                    | none => rw [hp] at h; cases h
                    | some q =>
                      obtain ⟨p, d1, w1⟩ := q
                      obtain ⟨l1, f1⟩ := ihp _ _ _ _ hp
                      rw [hp] at h
                      rw [f1 m (by simp only [List.length_cons] at hm; omega)]
                      exact h
                  · cases h

/-- A pattern, read. -/
def patW (w : List UInt8) : Option (Nd × Nat × List UInt8) := patF (3 * w.length + 3) w
def rowW (w : List UInt8) : Option (Nd × Nat × List UInt8) := rowF (3 * w.length + 2) w
def atomW (w : List UInt8) : Option (Nd × Nat × List UInt8) := atomF (3 * w.length + 1) w

theorem opt_ext {α : Type} {a b : Option α} (h : ∀ x, a = some x ↔ b = some x) : a = b := Option.ext h
theorem patF_eq {n : Nat} {w : List UInt8} (h : 3 * w.length + 3 ≤ n) : patF n w = patW w := by
  apply opt_ext
  rintro ⟨x, d, r⟩
  exact ⟨fun e => ((fuelF _).1 _ _ _ _ e).2 _ (Nat.le_refl _), fun e => ((fuelF _).1 _ _ _ _ e).2 _ h⟩
theorem rowF_eq {n : Nat} {w : List UInt8} (h : 3 * w.length + 2 ≤ n) : rowF n w = rowW w := by
  apply opt_ext
  rintro ⟨x, d, r⟩
  exact ⟨fun e => ((fuelF _).2.1 _ _ _ _ e).2 _ (Nat.le_refl _), fun e => ((fuelF _).2.1 _ _ _ _ e).2 _ h⟩
theorem atomF_eq {n : Nat} {w : List UInt8} (h : 3 * w.length + 1 ≤ n) : atomF n w = atomW w := by
  apply opt_ext
  rintro ⟨x, d, r⟩
  exact ⟨fun e => ((fuelF _).2.2 _ _ _ _ e).2 _ (Nat.le_refl _), fun e => ((fuelF _).2.2 _ _ _ _ e).2 _ h⟩
theorem patW_len {w : List UInt8} {x : Nd} {d : Nat} {r : List UInt8} (h : patW w = some (x, d, r)) : r.length ≤ w.length := ((fuelF _).1 _ _ _ _ h).1
theorem rowW_len {w : List UInt8} {x : Nd} {d : Nat} {r : List UInt8} (h : rowW w = some (x, d, r)) : r.length ≤ w.length := ((fuelF _).2.1 _ _ _ _ h).1
theorem atomW_len {w : List UInt8} {x : Nd} {d : Nat} {r : List UInt8} (h : atomW w = some (x, d, r)) : r.length < w.length := ((fuelF _).2.2 _ _ _ _ h).1

theorem patW_eq (w : List UInt8) : patW w = match rowW w with
    | none => none
    | some (r, d, w1) => match w1 with
      | [] => some (.econs r .enil, d, [])
      | c :: w2 => if c = 124 then (match patW w2 with | none => none | some (e, d2, w3) => some (.econs r e, max d d2, w3)) else some (.econs r .enil, d, c :: w2) := by
  rw [patW, patF, rowF_eq (by omega)]
  cases h : rowW w with
  | none => rfl
  | some q =>
    obtain ⟨r, d, w1⟩ := q
    have := rowW_len h
    cases w1 with
    | nil => rfl
    | cons c w2 =>
      simp only [List.length_cons] at this
      simp only
      rw [patF_eq (by omega)]
theorem rowW_eq (w : List UInt8) : rowW w = match w with
    | [] => some (.rnil, 0, [])
    | c :: w0 => if c = 124 ∨ c = 41 then some (.rnil, 0, c :: w0) else match atomW (c :: w0) with
      | none => none
      | some (p, d, w1) => match rowW (markF p w1).2 with
        | none => none
        | some (r, d2, w3) => some (.rcons (markF p w1).1 r, max d d2, w3) := by
  rw [rowW, rowF.eq_def]
  simp only
  cases w with
  | nil => rfl
  | cons c w0 =>
    simp only
    rw [atomF_eq (by omega)]
    cases h : atomW (c :: w0) with
    | none => rfl
    | some q =>
      obtain ⟨p, d, w1⟩ := q
      have h1 := atomW_len h
      have h2 := markF_len p w1
      simp only
      rw [rowF_eq (by omega)]
theorem atomW_eq (w : List UInt8) : atomW w = match w with
    | [] => none
    | c :: w0 =>
      if plainB c then some (.one (fun i => i == c.toNat), 0, w0) else
      if c = 46 then some (.one (fun _ => true), 0, w0) else
      if c = 92 then (match w0 with | [] => none | d :: w1 => if plainB d then none else some (.one (fun i => i == d.toNat), 0, w1)) else
      if c = 91 then (match clsF w0 with | none => none | some (f, r) => some (.one f, 0, r)) else
      if c = 40 then (match patW w0 with
        | none => none
        | some (p, d, w1) => match w1 with | [] => none | e :: w2 => if e = 41 then some (p, d + 1, w2) else none)
      else none := by
  rw [atomW, atomF.eq_def]
  simp only
  cases w with
  | nil => rfl
  | cons c w0 =>
    simp only
    rw [patF_eq (by simp only [List.length_cons]; omega)]

theorem itemsF_loc : ∀ (w : List UInt8) {f : Nat → Bool} {r : List UInt8}, itemsF w = some (f, r) → ∃ u, w = u ++ r ∧ ∀ r', itemsF (u ++ r') = some (f, r')
  | [], f, r, h => by simp [itemsF] at h
  | a :: w, f, r, h => by
    rw [itemsF.eq_def] at h
    simp only at h
    by_cases ha : a = 93
    · rw [if_pos ha] at h
      cases h
      refine ⟨[a], rfl, fun r' => ?_⟩
      show itemsF (a :: r') = _
      rw [itemsF.eq_def]; simp only; rw [if_pos ha]
    · rw [if_neg ha] at h
      by_cases hb : itemBad a = true
      · rw [if_pos hb] at h; cases h
      · rw [if_neg hb] at h
        cases w with
        | nil => cases h
        | cons d w1 =>
          simp only at h
          by_cases hd : d = 45
          · rw [if_pos hd] at h
            cases w1 with
            | nil => cases h
            | cons b w2 =>
              simp only at h
              by_cases hq : itemBad b = true ∨ b < a
              · rw [if_pos hq] at h; cases h
              · rw [if_neg hq] at h
                cases hi : itemsF w2 with
                | none => rw [hi] at h; cases h
                | some x =>
                  obtain ⟨g, q⟩ := x
                  rw [hi] at h; cases h
                  obtain ⟨u, e, k⟩ := itemsF_loc w2 hi
                  refine ⟨a :: d :: b :: u, by simp [e], fun r' => ?_⟩
                  show itemsF (a :: d :: b :: (u ++ r')) = _
                  rw [itemsF.eq_def]; simp only; rw [if_neg ha, if_neg hb]
                  try simp only
                  rw [if_pos hd, if_neg hq, k r']
          · rw [if_neg hd] at h
            cases hi : itemsF (d :: w1) with
            | none => rw [hi] at h; cases h
            | some x =>
              obtain ⟨g, q⟩ := x
              rw [hi] at h; cases h
              obtain ⟨u, e, k⟩ := itemsF_loc (d :: w1) hi
              have hl := itemsF_len _ hi
              cases u with
              | nil => rw [e] at hl; simp at hl
              | cons d' u =>
                obtain ⟨rfl, e⟩ := List.cons.inj e
                refine ⟨a :: d :: u, by simp [e], fun r' => ?_⟩
                show itemsF (a :: d :: (u ++ r')) = _
                have := k r'
                rw [List.cons_append] at this
                rw [itemsF.eq_def]; simp only; rw [if_neg ha, if_neg hb]
                try simp only
                rw [if_neg hd, this]

theorem clsF_loc {w : List UInt8} {f : Nat → Bool} {r : List UInt8} (h : clsF w = some (f, r)) : ∃ u, w = u ++ r ∧ ∀ r', clsF (u ++ r') = some (f, r') := by
  cases w with
  | nil => cases h
  | cons a w1 =>
    simp only [clsF] at h
    by_cases ha : a = 94
    · rw [if_pos ha] at h
      cases w1 with
      | nil => cases h
      | cons b w2 =>
        simp only at h
        by_cases hb : b = 93
        · rw [if_pos hb] at h; cases h
        · rw [if_neg hb] at h
          cases hi : itemsF (b :: w2) with
          | none => rw [hi] at h; cases h
          | some x =>
            obtain ⟨g, q⟩ := x
            rw [hi] at h; cases h
            obtain ⟨u, e, k⟩ := itemsF_loc _ hi
            have hl := itemsF_len _ hi
            cases u with
            | nil => rw [e] at hl; simp at hl
            | cons d' u =>
              obtain ⟨rfl, e⟩ := List.cons.inj e
              refine ⟨a :: b :: u, by simp [e], fun r' => ?_⟩
              show clsF (a :: b :: (u ++ r')) = _
              have := k r'
              rw [List.cons_append] at this
              simp only [clsF]
              rw [if_pos ha, if_neg hb, this]
    · rw [if_neg ha] at h
      by_cases hb : a = 93
      · rw [if_pos hb] at h; cases h
      · rw [if_neg hb] at h
        cases hi : itemsF (a :: w1) with
        | none => rw [hi] at h; cases h
        | some x =>
          obtain ⟨g, q⟩ := x
          rw [hi] at h; cases h
          obtain ⟨u, e, k⟩ := itemsF_loc _ hi
          have hl := itemsF_len _ hi
          cases u with
          | nil => rw [e] at hl; simp at hl
          | cons d' u =>
            obtain ⟨rfl, e⟩ := List.cons.inj e
            refine ⟨a :: u, by simp [e], fun r' => ?_⟩
            show clsF (a :: (u ++ r')) = _
            have := k r'
            rw [List.cons_append] at this
            simp only [clsF]
            rw [if_neg ha, if_neg hb, this]

/-- What may stand behind a pattern, behind a row, and no mark. -/
def ePat : List UInt8 → Prop | [] => True | c :: _ => c = 41
def eRow : List UInt8 → Prop | [] => True | c :: _ => c = 124 ∨ c = 41
def noMark : List UInt8 → Prop | [] => True | c :: _ => ¬ (c = 42 ∨ c = 43 ∨ c = 63)
theorem ePat.row {w : List UInt8} (h : ePat w) : eRow w := by cases w with | nil => trivial | cons c w => exact .inr h
theorem eRow.noMark {w : List UInt8} (h : eRow w) : noMark w := by
  cases w with
  | nil => trivial
  | cons c w =>
    rcases h with rfl | rfl
    · exact (by decide : ¬ ((124 : UInt8) = 42 ∨ (124 : UInt8) = 43 ∨ (124 : UInt8) = 63))
    · exact (by decide : ¬ ((41 : UInt8) = 42 ∨ (41 : UInt8) = 43 ∨ (41 : UInt8) = 63))

theorem markF_no {p : Nd} {w : List UInt8} (h : noMark w) : markF p w = (p, w) := by
  cases w with
  | nil => rfl
  | cons c w => simp only [markF]; rw [if_neg h]
/-- A mark, and what is behind it. -/
theorem markF_cut (p : Nd) (w : List UInt8) : (noMark w ∧ markF p w = (p, w)) ∨ ∃ c r, w = c :: r ∧ (c = 42 ∨ c = 43 ∨ c = 63) ∧ markF p w = (.again p (c != 43) (c != 63), r) := by
  cases w with
  | nil => exact .inl ⟨trivial, rfl⟩
  | cons c w =>
    by_cases h : c = 42 ∨ c = 43 ∨ c = 63
    · exact .inr ⟨c, w, rfl, h, by simp only [markF]; rw [if_pos h]⟩
    · exact .inl ⟨h, markF_no h⟩

theorem localW : ∀ k : Nat,
    (∀ w, w.length ≤ k → ∀ x d r, atomW w = some (x, d, r) → ∃ u, w = u ++ r ∧ ∀ r', atomW (u ++ r') = some (x, d, r')) ∧
    (∀ w, w.length ≤ k → ∀ x d r, rowW w = some (x, d, r) → eRow r ∧ ∃ u, w = u ++ r ∧ ∀ r', eRow r' → rowW (u ++ r') = some (x, d, r')) ∧
    (∀ w, w.length ≤ k → ∀ x d r, patW w = some (x, d, r) → ePat r ∧ ∃ u, w = u ++ r ∧ ∀ r', ePat r' → patW (u ++ r') = some (x, d, r')) := by
  intro k
  induction k using Nat.strongRecOn with
  | _ k ih =>
    have hA : ∀ w, w.length ≤ k → ∀ x d r, atomW w = some (x, d, r) → ∃ u, w = u ++ r ∧ ∀ r', atomW (u ++ r') = some (x, d, r') := by
      intro w hw x d r h
      rw [atomW_eq] at h
      cases w with
      | nil => cases h
      | cons c w0 =>
        simp only at h
        simp only [List.length_cons] at hw
        by_cases h1 : plainB c = true
        · rw [if_pos h1] at h; cases h
          exact ⟨[c], rfl, fun r' => by show atomW (c :: r') = _; rw [atomW_eq]; simp only; rw [if_pos h1]⟩
        rw [if_neg h1] at h
        by_cases h2 : c = 46
        · rw [if_pos h2] at h; cases h
          exact ⟨[c], rfl, fun r' => by show atomW (c :: r') = _; rw [atomW_eq]; simp only; rw [if_neg h1, if_pos h2]⟩
        rw [if_neg h2] at h
        by_cases h3 : c = 92
        · rw [if_pos h3] at h
          cases w0 with
          | nil => cases h
          | cons e w1 =>
            simp only at h
            by_cases h4 : plainB e = true
            · rw [if_pos h4] at h; cases h
            · rw [if_neg h4] at h; cases h
              exact ⟨[c, e], rfl, fun r' => by show atomW (c :: e :: r') = _; rw [atomW_eq]; simp only; rw [if_neg h1, if_neg h2, if_pos h3, if_neg h4]⟩
        rw [if_neg h3] at h
        by_cases h4 : c = 91
        · rw [if_pos h4] at h
          cases hc : clsF w0 with
          | none => rw [hc] at h; cases h
          | some q =>
            obtain ⟨f, r1⟩ := q
            rw [hc] at h; cases h
            obtain ⟨u, e, kk⟩ := clsF_loc hc
            exact ⟨c :: u, by simp [e], fun r' => by show atomW (c :: (u ++ r')) = _; rw [atomW_eq]; simp only; rw [if_neg h1, if_neg h2, if_neg h3, if_pos h4, kk r']⟩
        rw [if_neg h4] at h
        by_cases h5 : c = 40
        · rw [if_pos h5] at h
          cases hp : patW w0 with
          | none => rw [hp] at h; cases h
          | some q =>
            obtain ⟨p, d1, w1⟩ := q
            rw [hp] at h
            simp only at h
            cases w1 with
            | nil => cases h
            | cons e w2 =>
              simp only at h
              by_cases h6 : e = 41
              · rw [if_pos h6] at h; cases h
                obtain ⟨_, u, e1, kk⟩ := (ih (k - 1) (by omega)).2.2 w0 (by omega) _ _ _ hp
                refine ⟨c :: u ++ [e], by simp [e1], fun r' => ?_⟩
                have e2 : c :: u ++ [e] ++ r' = c :: (u ++ e :: r') := by simp
                rw [e2, atomW_eq]
                simp only
                rw [if_neg h1, if_neg h2, if_neg h3, if_neg h4, if_pos h5, kk (e :: r') h6]
                simp only
                rw [if_pos h6]
              · rw [if_neg h6] at h; cases h
        · rw [if_neg h5] at h; cases h
    have hR : ∀ w, w.length ≤ k → ∀ x d r, rowW w = some (x, d, r) → eRow r ∧ ∃ u, w = u ++ r ∧ ∀ r', eRow r' → rowW (u ++ r') = some (x, d, r') := by
      intro w hw x d r h
      rw [rowW_eq] at h
      cases w with
      | nil =>
        cases h
        refine ⟨trivial, [], rfl, fun r' hr => ?_⟩
        show rowW r' = _
        rw [rowW_eq]
        cases r' with
        | nil => rfl
        | cons c r' => simp only; rw [if_pos (show c = 124 ∨ c = 41 from hr)]
      | cons c w0 =>
        simp only at h
        by_cases hc : c = 124 ∨ c = 41
        · rw [if_pos hc] at h
          cases h
          refine ⟨hc, [], rfl, fun r' hr => ?_⟩
          show rowW r' = _
          rw [rowW_eq]
          cases r' with
          | nil => rfl
          | cons c r' => simp only; rw [if_pos (show c = 124 ∨ c = 41 from hr)]
        · rw [if_neg hc] at h
          cases ha : atomW (c :: w0) with
          | none => rw [ha] at h; cases h
          | some q =>
            obtain ⟨p, d1, w1⟩ := q
            rw [ha] at h
            simp only at h
            have l1 := atomW_len ha
            have l2 := markF_len p w1
            obtain ⟨ua, ea, ka⟩ := hA _ hw _ _ _ ha
            cases hr : rowW (markF p w1).2 with
            | none => rw [hr] at h; cases h
            | some q =>
              obtain ⟨r1, d2, w3⟩ := q
              rw [hr] at h; cases h
              obtain ⟨er, ur, eu, kr⟩ := (ih (k - 1) (by omega)).2.1 (markF p w1).2 (by omega) _ _ _ hr
              have hua : ∃ ut, ua = c :: ut := by
                cases ua with
                | nil => rw [List.nil_append] at ea; rw [ea] at l1; omega
                | cons c' ut => rw [List.cons_append] at ea; exact ⟨ut, by rw [(List.cons.inj ea).1]⟩
              obtain ⟨ut, rfl⟩ := hua
              refine ⟨er, ?_⟩
              rcases markF_cut p w1 with ⟨hn, hm⟩ | ⟨m, rm, e1, hm1, hm⟩
              · rw [hm] at eu ⊢
                simp only at eu ⊢
                refine ⟨c :: ut ++ ur, by rw [ea, eu]; simp, fun r' hr' => ?_⟩
                have hn2 : noMark (ur ++ r') := by
                  cases ur with
                  | nil => exact hr'.noMark
                  | cons z zs => rw [eu] at hn; exact hn
                have e2 : c :: ut ++ ur ++ r' = c :: (ut ++ (ur ++ r')) := by simp
                have ka' := ka (ur ++ r')
                rw [List.cons_append] at ka'
                rw [e2, rowW_eq]
                simp only
                rw [if_neg hc, ka']
                simp only
                rw [markF_no hn2]
                simp only
                rw [kr r' hr']
              · rw [hm] at eu ⊢
                simp only at eu ⊢
                refine ⟨c :: ut ++ m :: ur, by rw [ea, e1, eu]; simp, fun r' hr' => ?_⟩
                have e2 : c :: ut ++ m :: ur ++ r' = c :: (ut ++ (m :: (ur ++ r'))) := by simp
                have ka' := ka (m :: (ur ++ r'))
                rw [List.cons_append] at ka'
                have hm' : markF p (m :: (ur ++ r')) = (.again p (m != 43) (m != 63), ur ++ r') := by simp only [markF]; rw [if_pos hm1]
                rw [e2, rowW_eq]
                simp only
                rw [if_neg hc, ka']
                simp only
                rw [hm']
                simp only
                rw [kr r' hr']
    refine ⟨hA, hR, ?_⟩
    intro w hw x d r h
    rw [patW_eq] at h
    cases hr : rowW w with
    | none => rw [hr] at h; cases h
    | some q =>
      obtain ⟨r1, d1, w1⟩ := q
      rw [hr] at h
      obtain ⟨er, ur, eu, kr⟩ := hR w hw _ _ _ hr
      have hl := rowW_len hr
      cases w1 with
      | nil =>
        cases h
        refine ⟨trivial, ur, eu, fun r' hr' => ?_⟩
        rw [patW_eq, kr r' hr'.row]
        cases r' with
        | nil => rfl
        | cons e r' =>
          have he : e = 41 := hr'
          subst he
          simp only
          rw [if_neg (by decide)]
      | cons c w2 =>
        simp only at h
        by_cases hc : c = 124
        · rw [if_pos hc] at h
          cases hp : patW w2 with
          | none => rw [hp] at h; cases h
          | some q =>
            obtain ⟨e, d2, w3⟩ := q
            rw [hp] at h; cases h
            simp only [List.length_cons] at hl
            obtain ⟨ep, up, eup, kp⟩ := (ih (k - 1) (by omega)).2.2 w2 (by omega) _ _ _ hp
            refine ⟨ep, ur ++ c :: up, by rw [eu, eup]; simp, fun r' hr' => ?_⟩
            have e2 : ur ++ c :: up ++ r' = ur ++ (c :: (up ++ r')) := by simp
            rw [e2, patW_eq, kr (c :: (up ++ r')) (.inl hc)]
            simp only
            rw [if_pos hc, kp r' hr']
        · rw [if_neg hc] at h
          cases h
          have hc2 : c = 41 := by rcases er with q | q; exact absurd q hc; exact q
          refine ⟨hc2, ur, eu, fun r' hr' => ?_⟩
          rw [patW_eq, kr r' hr'.row]
          cases r' with
          | nil => rfl
          | cons e r' =>
            have he : e = 41 := hr'
            subst he
            simp only
            rw [if_neg (by decide)]
theorem atomW_loc {w : List UInt8} {x : Nd} {d : Nat} {r : List UInt8} (h : atomW w = some (x, d, r)) : ∃ u, w = u ++ r ∧ ∀ r', atomW (u ++ r') = some (x, d, r') := (localW w.length).1 w (Nat.le_refl _) _ _ _ h
theorem rowW_loc {w : List UInt8} {x : Nd} {d : Nat} {r : List UInt8} (h : rowW w = some (x, d, r)) : eRow r ∧ ∃ u, w = u ++ r ∧ ∀ r', eRow r' → rowW (u ++ r') = some (x, d, r') := (localW w.length).2.1 w (Nat.le_refl _) _ _ _ h
theorem patW_loc {w : List UInt8} {x : Nd} {d : Nat} {r : List UInt8} (h : patW w = some (x, d, r)) : ePat r ∧ ∃ u, w = u ++ r ∧ ∀ r', ePat r' → patW (u ++ r') = some (x, d, r') := (localW w.length).2.2 w (Nat.le_refl _) _ _ _ h

/-- Where the ) stands that closes, with so many open. -/
def cloF (o : Int) (w : List UInt8) : Option (List UInt8) :=
  match w with
  | [] => none
  | c :: w0 => if c = 92 then cloF o (w0.drop 1) else if c = 91 then (match h : clsF w0 with | none => none | some (f, r) => cloF o r) else
    if c = 40 then cloF (o + 1) w0 else if c = 41 then (if o - 1 = 0 then some (c :: w0) else cloF (o - 1) w0) else cloF o w0
termination_by w.length
decreasing_by
  · simp; omega
  · have := clsF_len h; simp; omega
  all_goals simp
theorem cloF_cons (o : Int) (c : UInt8) (w0 : List UInt8) : cloF o (c :: w0) = if c = 92 then cloF o (w0.drop 1) else if c = 91 then (match clsF w0 with | none => none | some (f, r) => cloF o r) else
    if c = 40 then cloF (o + 1) w0 else if c = 41 then (if o - 1 = 0 then some (c :: w0) else cloF (o - 1) w0) else cloF o w0 := by
  rw [cloF]
  split
  · rfl
  · split
    · split <;> rename_i h <;> simp [h]
    · rfl
theorem cloF_nil (o : Int) : cloF o [] = none := by rw [cloF]

theorem cloF_suf : ∀ (k : Nat) (o : Int) (w : List UInt8), w.length ≤ k → ∀ {r : List UInt8}, cloF o w = some r → ∃ u r2, w = u ++ r ∧ r = 41 :: r2 := by
  intro k
  induction k with
  | zero =>
    intro o w hw r h
    have : w = [] := by simpa using hw
    subst this
    rw [cloF_nil] at h; cases h
  | succ k ih =>
    intro o w hw r h
    cases w with
    | nil => rw [cloF_nil] at h; cases h
    | cons c w0 =>
      simp only [List.length_cons] at hw
      rw [cloF_cons] at h
      by_cases h1 : c = 92
      · rw [if_pos h1] at h
        obtain ⟨u, r2, e, e2⟩ := ih o (w0.drop 1) (by simp; omega) h
        cases w0 with
        | nil => simp at e; rw [e2] at e; simp at e
        | cons d w1 => simp only [List.drop_succ_cons, List.drop_zero] at e; exact ⟨c :: d :: u, r2, by simp [e], e2⟩
      rw [if_neg h1] at h
      by_cases h2 : c = 91
      · rw [if_pos h2] at h
        cases hc : clsF w0 with
        | none => rw [hc] at h; cases h
        | some q =>
          obtain ⟨f, q⟩ := q
          rw [hc] at h
          have hl := clsF_len hc
          obtain ⟨u, r2, e, e2⟩ := ih o q (by omega) h
          obtain ⟨u2, e3, _⟩ := clsF_loc hc
          exact ⟨c :: u2 ++ u, r2, by simp [e3, e], e2⟩
      rw [if_neg h2] at h
      by_cases h3 : c = 40
      · rw [if_pos h3] at h
        obtain ⟨u, r2, e, e2⟩ := ih _ w0 (by omega) h
        exact ⟨c :: u, r2, by simp [e], e2⟩
      rw [if_neg h3] at h
      by_cases h4 : c = 41
      · rw [if_pos h4] at h
        by_cases h5 : o - 1 = 0
        · rw [if_pos h5] at h; cases h
          exact ⟨[], w0, rfl, by rw [h4]⟩
        · rw [if_neg h5] at h
          obtain ⟨u, r2, e, e2⟩ := ih _ w0 (by omega) h
          exact ⟨c :: u, r2, by simp [e], e2⟩
      rw [if_neg h4] at h
      obtain ⟨u, r2, e, e2⟩ := ih _ w0 (by omega) h
      exact ⟨c :: u, r2, by simp [e], e2⟩

theorem plain_ne {c : UInt8} (h : plainB c = true) : c ≠ 92 ∧ c ≠ 91 ∧ c ≠ 40 ∧ c ≠ 41 := by
  refine ⟨?_, ?_, ?_, ?_⟩ <;> (rintro rfl; revert h; decide)

/-- How deep, with so many open and so deep till now. -/
def depF (o m : Int) (w : List UInt8) : Option Int :=
  match w with
  | [] => some m
  | c :: w0 => if c = 92 then depF o m (w0.drop 1) else if c = 91 then (match h : clsF w0 with | none => none | some (f, r) => depF o m r) else
    if c = 40 then depF (o + 1) (max m (o + 1)) w0 else if c = 41 then depF (o - 1) m w0 else depF o m w0
termination_by w.length
decreasing_by
  · simp; omega
  · have := clsF_len h; simp; omega
  all_goals simp
theorem depF_cons (o m : Int) (c : UInt8) (w0 : List UInt8) : depF o m (c :: w0) = if c = 92 then depF o m (w0.drop 1) else if c = 91 then (match clsF w0 with | none => none | some (f, r) => depF o m r) else
    if c = 40 then depF (o + 1) (max m (o + 1)) w0 else if c = 41 then depF (o - 1) m w0 else depF o m w0 := by
  rw [depF]
  split
  · rfl
  · split
    · split <;> rename_i h <;> simp [h]
    · rfl
theorem depF_nil (o m : Int) : depF o m [] = some m := by rw [depF]

/-- Both pass over what is read. -/
theorem passW : ∀ k : Nat,
    (∀ w, w.length ≤ k → ∀ x d r, atomW w = some (x, d, r) → (∀ o, 1 ≤ o → cloF o w = cloF o r) ∧ ∀ o m, o ≤ m → depF o m w = depF o (max m (o + d)) r) ∧
    (∀ w, w.length ≤ k → ∀ x d r, rowW w = some (x, d, r) → (∀ o, 1 ≤ o → cloF o w = cloF o r) ∧ ∀ o m, o ≤ m → depF o m w = depF o (max m (o + d)) r) ∧
    (∀ w, w.length ≤ k → ∀ x d r, patW w = some (x, d, r) → (∀ o, 1 ≤ o → cloF o w = cloF o r) ∧ ∀ o m, o ≤ m → depF o m w = depF o (max m (o + d)) r) := by
  intro k
  induction k using Nat.strongRecOn with
  | _ k ih =>
    have hA : ∀ w, w.length ≤ k → ∀ x d r, atomW w = some (x, d, r) → (∀ o, 1 ≤ o → cloF o w = cloF o r) ∧ ∀ o m, o ≤ m → depF o m w = depF o (max m (o + d)) r := by
      intro w hw x d r h
      rw [atomW_eq] at h
      cases w with
      | nil => cases h
      | cons c w0 =>
        simp only at h
        simp only [List.length_cons] at hw
        have h0 : ∀ (o m : Int), o ≤ m → max m (o + (0 : Nat)) = m := fun o m q => by omega
        by_cases h1 : plainB c = true
        · rw [if_pos h1] at h; cases h
          obtain ⟨a, b, e, f⟩ := plain_ne h1
          exact ⟨fun o ho => by rw [cloF_cons, if_neg a, if_neg b, if_neg e, if_neg f], fun o m q => by rw [depF_cons, if_neg a, if_neg b, if_neg e, if_neg f, h0 o m q]⟩
        rw [if_neg h1] at h
        by_cases h2 : c = 46
        · rw [if_pos h2] at h; cases h
          subst h2
          exact ⟨fun o ho => by rw [cloF_cons, if_neg (by decide), if_neg (by decide), if_neg (by decide), if_neg (by decide)], fun o m q => by rw [depF_cons, if_neg (by decide), if_neg (by decide), if_neg (by decide), if_neg (by decide), h0 o m q]⟩
        rw [if_neg h2] at h
        by_cases h3 : c = 92
        · rw [if_pos h3] at h
          cases w0 with
          | nil => cases h
          | cons e w1 =>
            simp only at h
            by_cases h4 : plainB e = true
            · rw [if_pos h4] at h; cases h
            · rw [if_neg h4] at h; cases h
              exact ⟨fun o ho => by rw [cloF_cons, if_pos h3]; rfl, fun o m q => by rw [depF_cons, if_pos h3, h0 o m q]; rfl⟩
        rw [if_neg h3] at h
        by_cases h4 : c = 91
        · rw [if_pos h4] at h
          cases hc : clsF w0 with
          | none => rw [hc] at h; cases h
          | some q =>
            obtain ⟨f, r1⟩ := q
            rw [hc] at h; cases h
            exact ⟨fun o ho => by rw [cloF_cons, if_neg h3, if_pos h4, hc], fun o m q => by rw [depF_cons, if_neg h3, if_pos h4, hc, h0 o m q]⟩
        rw [if_neg h4] at h
        by_cases h5 : c = 40
        · rw [if_pos h5] at h
          cases hp : patW w0 with
          | none => rw [hp] at h; cases h
          | some q =>
            obtain ⟨p, d1, w1⟩ := q
            rw [hp] at h
            simp only at h
            cases w1 with
            | nil => cases h
            | cons e w2 =>
              simp only at h
              by_cases h6 : e = 41
              · rw [if_pos h6] at h; cases h
                subst h6
                obtain ⟨k1, k2⟩ := (ih (k - 1) (by omega)).2.2 w0 (by omega) _ _ _ hp
                refine ⟨fun o ho => ?_, fun o m q => ?_⟩
                · rw [cloF_cons, if_neg h3, if_neg h4, if_pos h5, k1 (o + 1) (by omega), cloF_cons, if_neg (by decide), if_neg (by decide), if_neg (by decide), if_pos rfl, if_neg (by omega), Int.add_sub_cancel]
                · rw [depF_cons, if_neg h3, if_neg h4, if_pos h5, k2 (o + 1) _ (by omega), depF_cons, if_neg (by decide), if_neg (by decide), if_neg (by decide), if_pos rfl, Int.add_sub_cancel]
                  congr 1
                  omega
              · rw [if_neg h6] at h; cases h
        · rw [if_neg h5] at h; cases h
    have hR : ∀ w, w.length ≤ k → ∀ x d r, rowW w = some (x, d, r) → (∀ o, 1 ≤ o → cloF o w = cloF o r) ∧ ∀ o m, o ≤ m → depF o m w = depF o (max m (o + d)) r := by
      intro w hw x d r h
      rw [rowW_eq] at h
      have h0 : ∀ (o m : Int), o ≤ m → max m (o + (0 : Nat)) = m := fun o m q => by omega
      cases w with
      | nil => cases h; exact ⟨fun o ho => rfl, fun o m q => by rw [h0 o m q]⟩
      | cons c w0 =>
        simp only at h
        by_cases hc : c = 124 ∨ c = 41
        · rw [if_pos hc] at h
          cases h
          exact ⟨fun o ho => rfl, fun o m q => by rw [h0 o m q]⟩
        · rw [if_neg hc] at h
          cases ha : atomW (c :: w0) with
          | none => rw [ha] at h; cases h
          | some q =>
            obtain ⟨p, d1, w1⟩ := q
            rw [ha] at h
            simp only at h
            have l1 := atomW_len ha
            have l2 := markF_len p w1
            obtain ⟨a1, a2⟩ := hA _ hw _ _ _ ha
            have hm : (∀ o, cloF o w1 = cloF o (markF p w1).2) ∧ ∀ o m, depF o m w1 = depF o m (markF p w1).2 := by
              rcases markF_cut p w1 with ⟨hn, hm⟩ | ⟨m, rm, e1, hm1, hm⟩
              · rw [hm]; exact ⟨fun _ => rfl, fun _ _ => rfl⟩
              · rw [hm, e1]
                have : m ≠ 92 ∧ m ≠ 91 ∧ m ≠ 40 ∧ m ≠ 41 := by rcases hm1 with rfl | rfl | rfl <;> decide
                obtain ⟨a, b, e, f⟩ := this
                exact ⟨fun o => by rw [cloF_cons, if_neg a, if_neg b, if_neg e, if_neg f], fun o m => by rw [depF_cons, if_neg a, if_neg b, if_neg e, if_neg f]⟩
            cases hr : rowW (markF p w1).2 with
            | none => rw [hr] at h; cases h
            | some q =>
              obtain ⟨r1, d2, w3⟩ := q
              rw [hr] at h; cases h
              obtain ⟨b1, b2⟩ := (ih (k - 1) (by omega)).2.1 _ (by omega) _ _ _ hr
              refine ⟨fun o ho => by rw [a1 o ho, hm.1, b1 o ho], fun o m q => ?_⟩
              rw [a2 o m q, hm.2, b2 o _ (by omega)]
              congr 1
              omega
    refine ⟨hA, hR, ?_⟩
    intro w hw x d r h
    rw [patW_eq] at h
    cases hr : rowW w with
    | none => rw [hr] at h; cases h
    | some q =>
      obtain ⟨r1, d1, w1⟩ := q
      rw [hr] at h
      obtain ⟨a1, a2⟩ := hR w hw _ _ _ hr
      have hl := rowW_len hr
      cases w1 with
      | nil => cases h; exact ⟨a1, a2⟩
      | cons c w2 =>
        simp only at h
        by_cases hc : c = 124
        · rw [if_pos hc] at h
          cases hp : patW w2 with
          | none => rw [hp] at h; cases h
          | some q =>
            obtain ⟨e, d2, w3⟩ := q
            rw [hp] at h; cases h
            simp only [List.length_cons] at hl
            obtain ⟨b1, b2⟩ := (ih (k - 1) (by omega)).2.2 w2 (by omega) _ _ _ hp
            subst hc
            refine ⟨fun o ho => ?_, fun o m q => ?_⟩
            · rw [a1 o ho, cloF_cons, if_neg (by decide), if_neg (by decide), if_neg (by decide), if_neg (by decide), b1 o ho]
            · rw [a2 o m q, depF_cons, if_neg (by decide), if_neg (by decide), if_neg (by decide), if_neg (by decide), b2 o _ (by omega)]
              congr 1
              omega
        · rw [if_neg hc] at h
          cases h
          exact ⟨a1, a2⟩

/-- Is it a pattern, whole? -/
def okP (w : List UInt8) : Bool := match patW w with | some (_, _, []) => true | _ => false
theorem okP_iff {w : List UInt8} : okP w = true ↔ ∃ x d, patW w = some (x, d, []) := by
  unfold okP
  split
  · rename_i x d h; exact ⟨fun _ => ⟨x, d, h⟩, fun _ => rfl⟩
  · rename_i h
    refine Iff.intro (fun q => by cases q) ?_
    rintro ⟨x, d, q⟩
    exact absurd q (h x d)

theorem dep_ok {w : List UInt8} {x : Nd} {d : Nat} (h : patW w = some (x, d, [])) : depF 0 0 w = some (d : Int) := by
  rw [((passW w.length).2.2 w (Nat.le_refl _) _ _ _ h).2 0 0 (by omega), depF_nil]; congr 1; omega

/-- What stands in parentheses, as the document takes it. -/
theorem paren_same (w0 : List UInt8) : (match cloF 1 w0 with | none => none | some r => if okP (w0.take (w0.length - r.length)) then some (r.drop 1) else none) =
    (match patW w0 with | none => none | some (p, d, w1) => match w1 with | [] => none | e :: w2 => if e = 41 then some w2 else none) := by
  apply Option.ext
  intro z
  constructor
  · intro h
    cases hc : cloF 1 w0 with
    | none => rw [hc] at h; cases h
    | some r =>
      rw [hc] at h
      simp only at h
      split at h
      · rename_i hk
        obtain ⟨u, r2, e, e2⟩ := cloF_suf _ 1 w0 (Nat.le_refl _) hc
        have hu : w0.take (w0.length - r.length) = u := by rw [e]; simp
        rw [hu] at hk
        obtain ⟨x, d, hp⟩ := okP_iff.1 hk
        obtain ⟨_, u', e3, kk⟩ := patW_loc hp
        rw [List.append_nil] at e3
        subst e3
        have := kk r (by rw [e2]; rfl)
        rw [e, this, e2]
        rw [e2] at h
        exact h
      · cases h
  · intro h
    cases hp : patW w0 with
    | none => rw [hp] at h; cases h
    | some q =>
      obtain ⟨p, d, w1⟩ := q
      rw [hp] at h
      simp only at h
      cases w1 with
      | nil => cases h
      | cons e w2 =>
        simp only at h
        split at h
        · rename_i he
          subst he
          cases h
          obtain ⟨_, u, e1, kk⟩ := patW_loc hp
          have h1 := ((passW w0.length).2.2 w0 (Nat.le_refl _) _ _ _ hp).1 1 (by omega)
          rw [cloF_cons, if_neg (by decide), if_neg (by decide), if_neg (by decide), if_pos rfl, if_pos (by omega)] at h1
          rw [h1]
          simp only
          have hu : w0.take (w0.length - (41 :: z).length) = u := by rw [e1]; simp
          have hk : okP u = true := okP_iff.2 ⟨p, d, by have := kk [] trivial; rw [List.append_nil] at this; exact this⟩
          rw [hu, if_pos hk]; rfl
        · cases h

inductive Mt : Nd → List UInt8 → Prop where
  | one {f : Nat → Bool} {c : UInt8} (h : f c.toNat = true) : Mt (.one f) [c]
  | rnil : Mt .rnil []
  | rcons {p l : Nd} {u v : List UInt8} (h1 : Mt p u) (h2 : Mt l v) : Mt (.rcons p l) (u ++ v)
  | eher {p l : Nd} {u : List UInt8} (h : Mt p u) : Mt (.econs p l) u
  | later {p l : Nd} {u : List UInt8} (h : Mt l u) : Mt (.econs p l) u
  | nil {p : Nd} {m : Bool} : Mt (.again p true m) []
  | once {p : Nd} {n m : Bool} {u : List UInt8} (h : Mt p u) : Mt (.again p n m) u
  | more {p : Nd} {n : Bool} {u v : List UInt8} (h1 : Mt p u) (h2 : Mt (.again p n true) v) : Mt (.again p n true) (u ++ v)

theorem mt_one {f : Nat → Bool} {u : List UInt8} : Mt (.one f) u ↔ ∃ c, u = [c] ∧ f c.toNat = true := ⟨fun h => by cases h with | one h => exact ⟨_, rfl, h⟩, fun ⟨c, e, h⟩ => e ▸ .one h⟩
theorem mt_rnil {u : List UInt8} : Mt .rnil u ↔ u = [] := ⟨fun h => by cases h; rfl, fun e => e ▸ .rnil⟩
theorem mt_rcons {p l : Nd} {w : List UInt8} : Mt (.rcons p l) w ↔ ∃ u v, w = u ++ v ∧ Mt p u ∧ Mt l v := ⟨fun h => by cases h with | rcons h1 h2 => exact ⟨_, _, rfl, h1, h2⟩, fun ⟨u, v, e, h1, h2⟩ => e ▸ .rcons h1 h2⟩
theorem mt_enil {u : List UInt8} : ¬ Mt .enil u := fun h => by cases h
theorem mt_econs {p l : Nd} {u : List UInt8} : Mt (.econs p l) u ↔ Mt p u ∨ Mt l u := ⟨fun h => by cases h with | eher h => exact .inl h | later h => exact .inr h, fun h => h.elim .eher .later⟩
theorem mt_again1 {p : Nd} {n : Bool} {u : List UInt8} : Mt (.again p n false) u ↔ Mt p u ∨ (n = true ∧ u = []) :=
  ⟨fun h => by cases h with | nil => exact .inr ⟨rfl, rfl⟩ | once h => exact .inl h, fun h => h.elim .once fun ⟨a, b⟩ => by subst a; subst b; exact .nil⟩
theorem mt_more {p : Nd} {n : Bool} {w : List UInt8} : Mt (.again p n true) w ↔ Mt p w ∨ (n = true ∧ w = []) ∨ ∃ u v, w = u ++ v ∧ Mt p u ∧ Mt (.again p n true) v :=
  ⟨fun h => by
    cases h with
    | nil => exact .inr (.inl ⟨rfl, rfl⟩)
    | once h => exact .inl h
    | more h1 h2 => exact .inr (.inr ⟨_, _, rfl, h1, h2⟩),
   fun h => by
    rcases h with h | ⟨a, b⟩ | ⟨u, v, e, h1, h2⟩
    · exact .once h
    · subst a; subst b; exact .nil
    · subst e; exact .more h1 h2⟩
/-- None, or one and more. -/
theorem mt_none {p : Nd} {m : Bool} {w : List UInt8} : Mt (.again p true m) w ↔ Mt (.again p false m) w ∨ w = [] := by
  cases m with
  | false => rw [mt_again1, mt_again1]; simp
  | true =>
    constructor
    · intro h
      generalize hx : Nd.again p true true = x at h
      induction h with
      | nil => exact .inr rfl
      | once h => cases hx; exact .inl (.once h)
      | more h1 h2 _ ih =>
        cases hx
        rcases ih rfl with h | h
        · exact .inl (.more h1 h)
        · subst h; rw [List.append_nil]; exact .inl (.once h1)
      | _ => cases hx
    · rintro (h | h)
      · generalize hx : Nd.again p false true = x at h
        induction h with
        | once h => cases hx; exact .once h
        | more h1 h2 _ ih => cases hx; exact .more h1 (ih rfl)
        | _ => cases hx
      · subst h; exact .nil
theorem mt_snoc {p : Nd} {n : Bool} {u v : List UInt8} (h : Mt (.again p n true) u) (h2 : Mt p v) : Mt (.again p n true) (u ++ v) := by
  generalize hx : Nd.again p n true = x at h
  induction h with
  | nil => cases hx; exact .once h2
  | once h => cases hx; exact .more h (.once h2)
  | more h1 _ _ ih => cases hx; rw [List.append_assoc]; exact .more h1 (ih rfl)
  | _ => cases hx

/-- A text's part. -/
def seg (s : List UInt8) (i j : Nat) : List UInt8 := (s.drop i).take (j - i)
theorem seg_app {s : List UInt8} {i j k : Nat} (h1 : i ≤ j) (h2 : j ≤ k) : seg s i j ++ seg s j k = seg s i k := by
  unfold seg
  have : k - i = (j - i) + (k - j) := by omega
  rw [this, List.take_add, List.drop_drop, show i + (j - i) = j by omega]
theorem seg_len {s : List UInt8} {i j : Nat} (h : j ≤ s.length) : (seg s i j).length = j - i := by simp [seg]; omega
theorem seg_split {s : List UInt8} {i j : Nat} {u v : List UInt8} (hi : i ≤ j) (hj : j ≤ s.length) (h : seg s i j = u ++ v) : i + u.length ≤ j ∧ u = seg s i (i + u.length) ∧ v = seg s (i + u.length) j := by
  have hl := seg_len (s := s) (i := i) hj
  rw [h, List.length_append] at hl
  have h3 : i + u.length ≤ j := by omega
  have h4 := seg_app (s := s) (i := i) (j := i + u.length) (k := j) (by omega) h3
  rw [h] at h4
  have h5 : (seg s i (i + u.length)).length = u.length := by rw [seg_len (by omega)]; omega
  have := List.append_inj h4 h5
  exact ⟨h3, this.1.symm, this.2.symm⟩
theorem seg_self {s : List UInt8} {i : Nat} : seg s i i = [] := by simp [seg]
theorem seg_nil {s : List UInt8} {i j : Nat} (hi : i ≤ j) (hj : j ≤ s.length) (h : seg s i j = []) : i = j := by
  have := seg_len (s := s) (i := i) hj
  rw [h] at this; simp at this; omega
theorem seg_one {s : List UInt8} {i j : Nat} {c : UInt8} (hi : i ≤ j) (hj : j ≤ s.length) : seg s i j = [c] ↔ j = i + 1 ∧ s[i]? = some c := by
  constructor
  · intro h
    have hl := seg_len (s := s) (i := i) hj
    rw [h] at hl
    simp only [List.length_cons, List.length_nil] at hl
    have hj1 : j = i + 1 := by omega
    subst hj1
    refine ⟨rfl, ?_⟩
    have : (seg s i (i + 1))[0]? = some c := by rw [h]; rfl
    simpa [seg] using this
  · rintro ⟨rfl, h⟩
    have hi := (List.getElem?_eq_some_iff.1 h)
    obtain ⟨hlt, e⟩ := hi
    unfold seg
    rw [List.drop_eq_getElem_cons hlt, e]
    simp

/-- Where what a pattern fits may end, of all that begins at some places. -/
def Rch (x : Nd) (s : List UInt8) (a : Nat → Prop) (j : Nat) : Prop := ∃ i, a i ∧ i ≤ j ∧ j ≤ s.length ∧ Mt x (seg s i j)
theorem rch_le {x : Nd} {s : List UInt8} {a : Nat → Prop} {j : Nat} (h : Rch x s a j) : j ≤ s.length := by obtain ⟨_, _, _, h, _⟩ := h; exact h
theorem rch_mono {x : Nd} {s : List UInt8} {a b : Nat → Prop} {j : Nat} (h : Rch x s a j) (k : ∀ i, a i → b i) : Rch x s b j := by obtain ⟨i, h1, h2⟩ := h; exact ⟨i, k i h1, h2⟩
theorem rch_one {f : Nat → Bool} {s : List UInt8} {a : Nat → Prop} {j : Nat} : Rch (.one f) s a j ↔ ∃ i c, j = i + 1 ∧ a i ∧ s[i]? = some c ∧ f c.toNat = true := by
  constructor
  · rintro ⟨i, h1, h2, h3, h4⟩
    obtain ⟨c, e, h⟩ := mt_one.1 h4
    obtain ⟨e1, e2⟩ := (seg_one h2 h3).1 e
    exact ⟨i, c, e1, h1, e2, h⟩
  · rintro ⟨i, c, rfl, h1, h2, h3⟩
    have := (List.getElem?_eq_some_iff.1 h2).1
    exact ⟨i, h1, by omega, by omega, mt_one.2 ⟨c, (seg_one (by omega) (by omega)).2 ⟨rfl, h2⟩, h3⟩⟩
theorem rch_rnil {s : List UInt8} {a : Nat → Prop} {j : Nat} : Rch .rnil s a j ↔ a j ∧ j ≤ s.length := by
  constructor
  · rintro ⟨i, h1, h2, h3, h4⟩
    have := seg_nil h2 h3 (mt_rnil.1 h4)
    subst this
    exact ⟨h1, h3⟩
  · rintro ⟨h1, h2⟩
    exact ⟨j, h1, Nat.le_refl _, h2, mt_rnil.2 seg_self⟩
theorem rch_rcons {p l : Nd} {s : List UInt8} {a : Nat → Prop} {j : Nat} : Rch (.rcons p l) s a j ↔ Rch l s (Rch p s a) j := by
  constructor
  · rintro ⟨i, h1, h2, h3, h4⟩
    obtain ⟨u, v, e, hu, hv⟩ := mt_rcons.1 h4
    obtain ⟨q1, q2, q3⟩ := seg_split h2 h3 e
    exact ⟨i + u.length, ⟨i, h1, by omega, by omega, by rw [← q2]; exact hu⟩, q1, h3, by rw [← q3]; exact hv⟩
  · rintro ⟨k, ⟨i, h1, h2, h3, h4⟩, g2, g3, g4⟩
    exact ⟨i, h1, by omega, g3, by rw [← seg_app h2 g2]; exact .rcons h4 g4⟩
theorem rch_enil {s : List UInt8} {a : Nat → Prop} {j : Nat} : ¬ Rch .enil s a j := fun ⟨_, _, _, _, h⟩ => mt_enil h
theorem rch_econs {p l : Nd} {s : List UInt8} {a : Nat → Prop} {j : Nat} : Rch (.econs p l) s a j ↔ Rch p s a j ∨ Rch l s a j := by
  constructor
  · rintro ⟨i, h1, h2, h3, h4⟩
    exact (mt_econs.1 h4).elim (fun h => .inl ⟨i, h1, h2, h3, h⟩) (fun h => .inr ⟨i, h1, h2, h3, h⟩)
  · rintro (⟨i, h1, h2, h3, h4⟩ | ⟨i, h1, h2, h3, h4⟩)
    · exact ⟨i, h1, h2, h3, .eher h4⟩
    · exact ⟨i, h1, h2, h3, .later h4⟩
theorem rch_none {p : Nd} {m : Bool} {s : List UInt8} {a : Nat → Prop} {j : Nat} : Rch (.again p true m) s a j ↔ Rch (.again p false m) s a j ∨ (a j ∧ j ≤ s.length) := by
  constructor
  · rintro ⟨i, h1, h2, h3, h4⟩
    rcases mt_none.1 h4 with h | h
    · exact .inl ⟨i, h1, h2, h3, h⟩
    · have := seg_nil h2 h3 h
      subst this
      exact .inr ⟨h1, h3⟩
  · rintro (⟨i, h1, h2, h3, h4⟩ | ⟨h1, h2⟩)
    · exact ⟨i, h1, h2, h3, mt_none.2 (.inl h4)⟩
    · exact ⟨j, h1, Nat.le_refl _, h2, mt_none.2 (.inr seg_self)⟩
theorem rch_again1 {p : Nd} {s : List UInt8} {a : Nat → Prop} {j : Nat} : Rch (.again p false false) s a j ↔ Rch p s a j := by
  unfold Rch
  simp only [mt_again1, Bool.false_eq_true, false_and, or_false]
/-- What has what is reached, and is left by nothing more, has all. -/
theorem rch_least {p : Nd} {s : List UInt8} {a X : Nat → Prop} (h1 : ∀ j, Rch p s a j → X j) (h2 : ∀ j, Rch p s X j → X j) {j : Nat} (h : Rch (.again p false true) s a j) : X j := by
  obtain ⟨i, g1, g2, g3, g4⟩ := h
  have key : ∀ {x : Nd} {u : List UInt8}, Mt x u → x = .again p false true → ∀ i j, u = seg s i j → i ≤ j → j ≤ s.length → (a i ∨ X i) → X j := by
    intro x u hm
    induction hm with
    | once h _ =>
      intro e i j hu q1 q2 q
      cases e
      subst hu
      exact q.elim (fun q => h1 _ ⟨i, q, q1, q2, h⟩) (fun q => h2 _ ⟨i, q, q1, q2, h⟩)
    | more hp _ _ ih =>
      intro e i j hu q1 q2 q
      cases e
      obtain ⟨r1, r2, r3⟩ := seg_split q1 q2 hu.symm
      rename_i u1 v1 _ _
      have hx : X (i + u1.length) := by
        rw [r2] at hp
        exact q.elim (fun q => h1 _ ⟨i, q, by omega, by omega, hp⟩) (fun q => h2 _ ⟨i, q, by omega, by omega, hp⟩)
      exact ih rfl _ _ r3 r1 q2 (.inr hx)
    | _ => intro e; cases e
  exact key g4 rfl i j rfl g2 g3 (.inl g1)
theorem rch_once {p : Nd} {n m : Bool} {s : List UInt8} {a : Nat → Prop} {j : Nat} (h : Rch p s a j) : Rch (.again p n m) s a j := by
  obtain ⟨i, h1, h2, h3, h4⟩ := h; exact ⟨i, h1, h2, h3, .once h4⟩
theorem rch_more {p : Nd} {n : Bool} {s : List UInt8} {a : Nat → Prop} {j : Nat} (h : Rch p s (Rch (.again p n true) s a) j) : Rch (.again p n true) s a j := by
  obtain ⟨k, ⟨i, h1, h2, h3, h4⟩, g2, g3, g4⟩ := h
  exact ⟨i, h1, by omega, g3, by rw [← seg_app h2 g2]; exact mt_snoc h4 g4⟩
/-- What grows by what is reached till nothing more is, is all. -/
theorem rch_fix {p : Nd} {s : List UInt8} {a X : Nat → Prop} (h1 : ∀ j, Rch p s a j → X j) (h2 : ∀ j, Rch p s X j → X j) (h3 : ∀ j, X j → Rch (.again p false true) s a j) (j : Nat) : X j ↔ Rch (.again p false true) s a j :=
  ⟨h3 j, rch_least h1 h2⟩

/-! The alternatives. -/
inductive AltsR : List (List UInt8) → Nd → Prop where
  | nil : AltsR [] .enil
  | cons {a : List UInt8} {l : List (List UInt8)} {r e : Nd} {d : Nat} (h : rowW a = some (r, d, [])) (t : AltsR l e) : AltsR (a :: l) (.econs r e)

/-- A pattern cut, with what is gathered of the alternative at hand. -/
def cutF (cur : List UInt8) (w : List UInt8) : Option (List (List UInt8)) :=
  match w with
  | [] => some [cur]
  | c :: w0 => if c = 124 then (match cutF [] w0 with | none => none | some l => some (cur :: l)) else
    match h : atomW (c :: w0) with
    | none => none
    | some (p, d, w1) => cutF (cur ++ (c :: w0).take ((c :: w0).length - (markF p w1).2.length)) (markF p w1).2
termination_by w.length
decreasing_by
  · simp
  · have h1 := atomW_len h
    have h2 := markF_len p w1
    omega
theorem cutF_nil (cur : List UInt8) : cutF cur [] = some [cur] := by rw [cutF]
theorem cutF_cons (cur : List UInt8) (c : UInt8) (w0 : List UInt8) : cutF cur (c :: w0) = if c = 124 then (match cutF [] w0 with | none => none | some l => some (cur :: l)) else
    match atomW (c :: w0) with
    | none => none
    | some (p, d, w1) => cutF (cur ++ (c :: w0).take ((c :: w0).length - (markF p w1).2.length)) (markF p w1).2 := by
  rw [cutF]
  split
  · rfl
  · split <;> rename_i h <;> simp [h]

theorem cut_both : ∀ (k : Nat) (w : List UInt8), w.length ≤ k → ∀ cur,
    (∀ alts, cutF cur w = some alts → ∃ a rest r e d w3, alts = (cur ++ a) :: rest ∧ w = a ++ w3 ∧ rowW w = some (r, d, w3) ∧ AltsR rest e ∧ ((w3 = [] ∧ e = .enil) ∨ ∃ w4 d4, w3 = 124 :: w4 ∧ patW w4 = some (e, d4, []))) ∧
    (∀ x d, patW w = some (x, d, []) → cutF cur w ≠ none) := by
  intro k
  induction k with
  | zero =>
    intro w hw cur
    have : w = [] := by simpa using hw
    subst this
    refine ⟨fun alts h => ?_, fun _ _ _ h => by rw [cutF_nil] at h; cases h⟩
    rw [cutF_nil] at h; cases h
    exact ⟨[], [], .rnil, .enil, 0, [], by simp, rfl, by rw [rowW_eq], .nil, .inl ⟨rfl, rfl⟩⟩
  | succ k ih =>
    intro w hw cur
    cases w with
    | nil =>
      refine ⟨fun alts h => ?_, fun _ _ _ h => by rw [cutF_nil] at h; cases h⟩
      rw [cutF_nil] at h; cases h
      exact ⟨[], [], .rnil, .enil, 0, [], by simp, rfl, by rw [rowW_eq], .nil, .inl ⟨rfl, rfl⟩⟩
    | cons c w0 =>
      simp only [List.length_cons] at hw
      rw [cutF_cons]
      by_cases hc : c = 124
      · rw [if_pos hc]
        subst hc
        have hrow : rowW (124 :: w0) = some (.rnil, 0, 124 :: w0) := by rw [rowW_eq]; simp
        obtain ⟨i1, i2⟩ := ih w0 (by omega) []
        constructor
        · intro alts h
          cases hq : cutF [] w0 with
          | none => rw [hq] at h; cases h
          | some l =>
            rw [hq] at h; cases h
            obtain ⟨a, rest, r, e, d, w3, e1, e2, e3, e4, e5⟩ := i1 l hq
            have hra : rowW a = some (r, d, []) := by
              obtain ⟨_, u, eu, ku⟩ := rowW_loc e3
              have : u = a := List.append_cancel_right (eu.symm.trans e2)
              subst this
              have := ku [] trivial
              rwa [List.append_nil] at this
            have hp : ∃ d4, patW w0 = some (.econs r e, d4, []) := by
              rcases e5 with ⟨rfl, rfl⟩ | ⟨w4, d4, rfl, h4⟩
              · exact ⟨d, by rw [patW_eq, e3]⟩
              · exact ⟨max d d4, by rw [patW_eq, e3]; simp only; rw [if_pos trivial, h4]⟩
            obtain ⟨d4, hp⟩ := hp
            refine ⟨[], l, .rnil, .econs r e, 0, 124 :: w0, by simp, rfl, hrow, ?_, .inr ⟨w0, d4, rfl, hp⟩⟩
            rw [e1, List.nil_append]
            exact .cons hra e4
        · intro x d h
          rw [patW_eq, hrow] at h
          simp only at h
          rw [if_pos trivial] at h
          cases hp : patW w0 with
          | none => rw [hp] at h; cases h
          | some q =>
            obtain ⟨y, d2, w3⟩ := q
            rw [hp] at h
            cases h
            have := i2 _ _ hp
            cases hq : cutF [] w0 with
            | none => exact absurd hq this
            | some l => simp
      · rw [if_neg hc]
        cases ha : atomW (c :: w0) with
        | none =>
          refine ⟨fun alts h => (by cases h), fun x d h => ?_⟩
          rw [patW_eq, rowW_eq] at h
          simp only at h
          by_cases h41 : c = 41
          · rw [if_pos (.inr h41)] at h
            simp only at h
            rw [if_neg hc] at h
            cases h
          · rw [if_neg (by simp [hc, h41]), ha] at h
            cases h
        | some q =>
          obtain ⟨p, d1, w1⟩ := q
          simp only
          have l1 := atomW_len ha
          have l2 := markF_len p w1
          simp only [List.length_cons] at l1
          have h41 : c ≠ 41 := by
            rintro rfl
            rw [atomW_eq] at ha
            simp only at ha
            rw [if_neg (by decide), if_neg (by decide), if_neg (by decide), if_neg (by decide), if_neg (by decide)] at ha
            cases ha
          have hnc : ¬ (c = 124 ∨ c = 41) := by simp [hc, h41]
          have hrow : rowW (c :: w0) = match rowW (markF p w1).2 with
              | none => none
              | some (r, d2, w3) => some (.rcons (markF p w1).1 r, max d1 d2, w3) := by
            rw [rowW_eq]; simp only; rw [if_neg hnc, ha]; try rfl
          obtain ⟨ua, ea, _⟩ := atomW_loc ha
          have hsuf : ∃ um, c :: w0 = um ++ (markF p w1).2 := by
            rcases markF_cut p w1 with ⟨_, hm⟩ | ⟨m, rm, e1, _, hm⟩
            · exact ⟨ua, by rw [hm]; exact ea⟩
            · exact ⟨ua ++ [m], by rw [hm, ea, e1]; simp⟩
          obtain ⟨um, eum⟩ := hsuf
          have htake : (c :: w0).take ((c :: w0).length - (markF p w1).2.length) = um := by
            rw [eum]; simp
          rw [htake]
          obtain ⟨i1, i2⟩ := ih (markF p w1).2 (by omega) (cur ++ um)
          constructor
          · intro alts h
            obtain ⟨a, rest, r, e, d, w3, e1, e2, e3, e4, e5⟩ := i1 alts h
            refine ⟨um ++ a, rest, .rcons (markF p w1).1 r, e, max d1 d, w3, by rw [e1]; simp, ?_, by rw [hrow, e3], e4, e5⟩
            rw [List.append_assoc, ← e2]; exact eum
          · intro x d h
            rw [patW_eq, hrow] at h
            cases hr : rowW (markF p w1).2 with
            | none => rw [hr] at h; cases h
            | some q =>
              obtain ⟨r1, d2, w3⟩ := q
              rw [hr] at h
              simp only at h
              have hp2 : ∃ y dd, patW (markF p w1).2 = some (y, dd, []) := by
                rw [patW_eq, hr]
                simp only
                cases w3 with
                | nil => exact ⟨_, _, rfl⟩
                | cons z w4 =>
                  simp only at h ⊢
                  split at h
                  · rename_i hz
                    rw [if_pos hz]
                    cases hp : patW w4 with
                    | none => rw [hp] at h; cases h
                    | some q =>
                      obtain ⟨y, d3, w5⟩ := q
                      rw [hp] at h; cases h
                      exact ⟨_, _, rfl⟩
                  · cases h
              obtain ⟨y, dd, hp2⟩ := hp2
              exact i2 y dd hp2

theorem cut_some {w : List UInt8} {alts : List (List UInt8)} (h : cutF [] w = some alts) : ∃ x d, patW w = some (x, d, []) ∧ AltsR alts x := by
  obtain ⟨a, rest, r, e, d, w3, e1, e2, e3, e4, e5⟩ := (cut_both w.length w (Nat.le_refl _) []).1 alts h
  have hra : rowW a = some (r, d, []) := by
    obtain ⟨_, u, eu, ku⟩ := rowW_loc e3
    have : u = a := List.append_cancel_right (eu.symm.trans e2)
    subst this
    have := ku [] trivial
    rwa [List.append_nil] at this
  rw [List.nil_append] at e1
  rcases e5 with ⟨rfl, rfl⟩ | ⟨w4, d4, rfl, h4⟩
  · exact ⟨_, d, by rw [patW_eq, e3], by rw [e1]; exact .cons hra e4⟩
  · exact ⟨.econs r e, max d d4, by rw [patW_eq, e3]; simp only; rw [if_pos trivial, h4], by rw [e1]; exact .cons hra e4⟩
theorem cut_ok {w : List UInt8} : (cutF [] w).isSome = okP w := by
  cases h : cutF [] w with
  | some alts =>
    obtain ⟨x, d, hp, _⟩ := cut_some h
    exact (okP_iff.2 ⟨x, d, hp⟩).symm
  | none =>
    cases hk : okP w with
    | false => rfl
    | true =>
      obtain ⟨x, d, hp⟩ := okP_iff.1 hk
      exact absurd h ((cut_both w.length w (Nat.le_refl _) []).2 x d hp)
end Ps
