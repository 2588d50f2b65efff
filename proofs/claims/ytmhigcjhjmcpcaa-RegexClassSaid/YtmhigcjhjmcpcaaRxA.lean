/- Patterns, as they are read: plain law, no program in sight. -/
import Derived.Test.YtmhigcjhjmcpcaaDefs
namespace Ps
set_option linter.unusedVariables false
open Go

/-- The bytes that are not plain. -/
def special : List UInt8 := [92, 40, 41, 91, 93, 124, 42, 43, 63, 46]
def plainB (c : UInt8) : Bool := !special.contains c
/-- A byte that may not stand in a class's item. -/
def itemBad (c : UInt8) : Bool := [92, 91, 93, 94, 45].contains c

/-- A pattern's tree. -/
inductive Nd where
  | one (f : Nat → Bool)
  | rnil
  | rcons (p l : Nd)
  | enil
  | econs (p l : Nd)
  | again (p : Nd) (none many : Bool)

/-- The items of a class, up to its end. -/
def itemsF : List UInt8 → Option ((Nat → Bool) × List UInt8)
  | [] => none
  | a :: w => if a = 93 then some (fun _ => false, w) else if itemBad a then none else
    match w with
    | [] => none
    | d :: w1 => if d = 45 then (match w1 with
        | [] => none
        | b :: w2 => if itemBad b ∨ b < a then none else match itemsF w2 with | none => none | some (f, r) => some (fun i => decide (a.toNat ≤ i ∧ i ≤ b.toNat) || f i, r))
      else match itemsF (d :: w1) with | none => none | some (f, r) => some (fun i => (i == a.toNat) || f i, r)

/-- A class, behind its [. -/
def clsF (w : List UInt8) : Option ((Nat → Bool) × List UInt8) :=
  match w with
  | [] => none
  | a :: w1 => if a = 94 then (match w1 with
      | [] => none
      | b :: _ => if b = 93 then none else match itemsF w1 with | none => none | some (f, r) => some (fun i => f i != true, r))
    else if a = 93 then none else match itemsF (a :: w1) with | none => none | some (f, r) => some (fun i => f i != false, r)

/-- A mark behind an atom. -/
def markF (p : Nd) (w : List UInt8) : Nd × List UInt8 :=
  match w with
  | [] => (p, [])
  | c :: r => if c = 42 ∨ c = 43 ∨ c = 63 then (.again p (c != 43) (c != 63), r) else (p, c :: r)

mutual
def patF : Nat → List UInt8 → Option (Nd × Nat × List UInt8)
  | 0, _ => none
  | n + 1, w => match rowF n w with
    | none => none
    | some (r, d, w1) => match w1 with
      | [] => some (.econs r .enil, d, [])
      | c :: w2 => if c = 124 then (match patF n w2 with | none => none | some (e, d2, w3) => some (.econs r e, max d d2, w3)) else some (.econs r .enil, d, c :: w2)
def rowF : Nat → List UInt8 → Option (Nd × Nat × List UInt8)
  | 0, _ => none
  | n + 1, w => match w with
    | [] => some (.rnil, 0, [])
    | c :: w0 => if c = 124 ∨ c = 41 then some (.rnil, 0, c :: w0) else match atomF n (c :: w0) with
      | none => none
      | some (p, d, w1) => match rowF n (markF p w1).2 with
        | none => none
        | some (r, d2, w3) => some (.rcons (markF p w1).1 r, max d d2, w3)
def atomF : Nat → List UInt8 → Option (Nd × Nat × List UInt8)
  | 0, _ => none
  | n + 1, w => match w with
    | [] => none
    | c :: w0 =>
      if plainB c then some (.one (fun i => i == c.toNat), 0, w0) else
      if c = 46 then some (.one (fun _ => true), 0, w0) else
      if c = 92 then (match w0 with | [] => none | d :: w1 => if plainB d then none else some (.one (fun i => i == d.toNat), 0, w1)) else
      if c = 91 then (match clsF w0 with | none => none | some (f, r) => some (.one f, 0, r)) else
      if c = 40 then (match patF n w0 with
        | none => none
        | some (p, d, w1) => match w1 with | [] => none | e :: w2 => if e = 41 then some (p, d + 1, w2) else none)
      else none
end

theorem itemsF_len : ∀ (w : List UInt8) {f : Nat → Bool} {r : List UInt8}, itemsF w = some (f, r) → r.length < w.length
  | [], f, r, h => by simp [itemsF] at h
  | [a], f, r, h => by
    rw [itemsF] at h
    split at h
    · cases h; simp
    · split at h <;> cases h
  | [a, d], f, r, h => by
    rw [itemsF] at h
    split at h
    · cases h; simp
    · split at h
      · cases h
      · split at h
        · cases h
        · cases hi : itemsF [d] with
          | none => rw [hi] at h; cases h
          | some x =>
            obtain ⟨g, q⟩ := x
            rw [hi] at h; cases h
            have := itemsF_len [d] hi
            simp only [List.length_cons, List.length_nil] at this ⊢; omega
  | a :: d :: b :: w, f, r, h => by
    rw [itemsF] at h
    split at h
    · cases h; simp
    · split at h
      · cases h
      · split at h
        · split at h
          · cases h
          · cases hi : itemsF w with
            | none => rw [hi] at h; cases h
            | some x =>
              obtain ⟨g, q⟩ := x
              rw [hi] at h; cases h
              have := itemsF_len w hi
              simp; omega
        · cases hi : itemsF (d :: b :: w) with
          | none => rw [hi] at h; cases h
          | some x =>
            obtain ⟨g, q⟩ := x
            rw [hi] at h; cases h
            have := itemsF_len (d :: b :: w) hi
            simp at this ⊢; omega

theorem clsF_len {w : List UInt8} {f : Nat → Bool} {r : List UInt8} (h : clsF w = some (f, r)) : r.length < w.length := by
  unfold clsF at h
  split at h
  · cases h
  · rename_i a w1
    split at h
    · split at h
      · cases h
      · rename_i b w2
        split at h
        · cases h
        · cases hi : itemsF (b :: w2) with
          | none => rw [hi] at h; cases h
          | some x =>
            obtain ⟨g, q⟩ := x
            rw [hi] at h; cases h
            have := itemsF_len _ hi
            simp at this ⊢; omega
    · split at h
      · cases h
      · cases hi : itemsF (a :: w1) with
        | none => rw [hi] at h; cases h
        | some x =>
          obtain ⟨g, q⟩ := x
          rw [hi] at h; cases h
          exact itemsF_len _ hi

theorem markF_len (p : Nd) (w : List UInt8) : (markF p w).2.length ≤ w.length := by
  unfold markF
  split
  · simp
  · split <;> simp

/-- What is left is shorter; and fuel enough is enough. -/
theorem fuelF : ∀ n : Nat,
    (∀ w x d r, patF n w = some (x, d, r) → r.length ≤ w.length ∧ ∀ m, 3 * w.length + 3 ≤ m → patF m w = some (x, d, r)) ∧
    (∀ w x d r, rowF n w = some (x, d, r) → r.length ≤ w.length ∧ ∀ m, 3 * w.length + 2 ≤ m → rowF m w = some (x, d, r)) ∧
    (∀ w x d r, atomF n w = some (x, d, r) → r.length < w.length ∧ ∀ m, 3 * w.length + 1 ≤ m → atomF m w = some (x, d, r)) := by
  intro n
  induction n with
  | zero => refine ⟨?_, ?_, ?_⟩ <;> intro w x d r h <;> simp [patF, rowF, atomF] at h
  | succ n ih =>
    obtain ⟨ihp, ihr, iha⟩ := ih
    refine ⟨?_, ?_, ?_⟩
    · intro w x d r h
      rw [patF] at h
      cases hr : rowF n w with
      | none => rw [hr] at h; cases h
      | some q =>
        obtain ⟨r1, d1, w1⟩ := q
        obtain ⟨l1, f1⟩ := ihr _ _ _ _ hr
        rw [hr] at h
        simp only at h
        cases w1 with
        | nil =>
          cases h
          refine ⟨by simp, fun m hm => ?_⟩
          obtain ⟨m, rfl⟩ : ∃ k, m = k + 1 := ⟨m - 1, by omega⟩
          rw [patF, f1 m (by omega)]
        | cons c w2 =>
          simp only [List.length_cons] at l1
          simp only at h
          split at h
          · rename_i hc
            cases hp : patF n w2 with
            | none => rw [hp] at h; cases h
            | some q =>
              obtain ⟨e, d2, w3⟩ := q
              obtain ⟨l2, f2⟩ := ihp _ _ _ _ hp
              rw [hp] at h
              cases h
              refine ⟨by omega, fun m hm => ?_⟩
              obtain ⟨m, rfl⟩ : ∃ k, m = k + 1 := ⟨m - 1, by omega⟩
              rw [patF, f1 m (by omega)]
              simp only
              rw [if_pos hc, f2 m (by omega)]
          · rename_i hc
            cases h
            refine ⟨by simp; omega, fun m hm => ?_⟩
            obtain ⟨m, rfl⟩ : ∃ k, m = k + 1 := ⟨m - 1, by omega⟩
            rw [patF, f1 m (by omega)]
            simp only
            rw [if_neg hc]
    · intro w x d r h
      rw [rowF.eq_def] at h
      simp only at h
      cases w with
      | nil =>
        cases h
        refine ⟨by simp, fun m hm => ?_⟩
        obtain ⟨m, rfl⟩ : ∃ k, m = k + 1 := ⟨m - 1, by omega⟩
        rw [rowF.eq_def]
      | cons c w0 =>
        simp only at h
        split at h
        · rename_i hc
          cases h
          refine ⟨by simp, fun m hm => ?_⟩
          obtain ⟨m, rfl⟩ : ∃ k, m = k + 1 := ⟨m - 1, by omega⟩
          rw [rowF.eq_def]
          simp only
          rw [if_pos hc]
        · rename_i hc
          cases ha : atomF n (c :: w0) with
          | none => rw [ha] at h; cases h
          | some q =>
            obtain ⟨p, d1, w1⟩ := q
            obtain ⟨l1, f1⟩ := iha _ _ _ _ ha
            rw [ha] at h
            simp only at h
            have lm := markF_len p w1
            cases hr : rowF n (markF p w1).2 with
            | none => rw [hr] at h; cases h
            | some q =>
              obtain ⟨r1, d2, w3⟩ := q
              obtain ⟨l2, f2⟩ := ihr _ _ _ _ hr
              rw [hr] at h
              cases h
              refine ⟨by omega, fun m hm => ?_⟩
              obtain ⟨m, rfl⟩ : ∃ k, m = k + 1 := ⟨m - 1, by omega⟩
              rw [rowF.eq_def]
              simp only
              rw [if_neg hc, f1 m (by omega)]
              simp only
              rw [f2 m (by omega)]
    · intro w x d r h
      rw [atomF.eq_def] at h
      simp only at h
      cases w with
      | nil => cases h
      | cons c w0 =>
        simp only at h
        refine ⟨?_, fun m hm => ?_⟩
        · split at h
          · cases h; simp
          · split at h
            · cases h; simp
            · split at h
              · split at h
                · cases h
                · split at h
                  · cases h
                  · cases h; simp; omega
              · split at h
                · cases hc : clsF w0 with
                  | none => rw [hc] at h; cases h
                  | some q =>
                    obtain ⟨f, r1⟩ := q
                    rw [hc] at h; cases h
                    have := clsF_len hc
                    simp; omega
                · split at h
                  · cases hp : patF n w0 with
                    | none => rw [hp] at h; cases h
                    | some q =>
                      obtain ⟨p, d1, w1⟩ := q
                      obtain ⟨l1, f1⟩ := ihp _ _ _ _ hp
                      rw [hp] at h
                      simp only at h
                      split at h
                      · cases h
                      · split at h
                        · cases h; simp at l1 ⊢; omega
                        · cases h
                  · cases h
        · obtain ⟨m, rfl⟩ : ∃ k, m = k + 1 := ⟨m - 1, by omega⟩
          rw [atomF.eq_def]
          simp only
          split at h
          · rename_i q; rw [if_pos q]; exact h
          · rename_i q; rw [if_neg q]
            split at h
            · rename_i q; rw [if_pos q]; exact h
            · rename_i q; rw [if_neg q]
              split at h
              · rename_i q; rw [if_pos q]; exact h
              · rename_i q; rw [if_neg q]
                split at h
                · rename_i q; rw [if_pos q]; exact h
                · rename_i q; rw [if_neg q]
                  split at h
                  · rename_i q; rw [if_pos q]
                    cases hp : patF n w0 with
                    | none => rw [hp] at h; cases h
                    | some q =>
                      obtain ⟨p, d1, w1⟩ := q
                      obtain ⟨l1, f1⟩ := ihp _ _ _ _ hp
                      rw [hp] at h
                      rw [f1 m (by simp only [List.length_cons] at hm; omega)]
                      exact h
                  · cases h

/-- A pattern, read. -/
def patW (w : List UInt8) : Option (Nd × Nat × List UInt8) := patF (3 * w.length + 3) w
def rowW (w : List UInt8) : Option (Nd × Nat × List UInt8) := rowF (3 * w.length + 2) w
def atomW (w : List UInt8) : Option (Nd × Nat × List UInt8) := atomF (3 * w.length + 1) w

theorem opt_ext {α : Type} {a b : Option α} (h : ∀ x, a = some x ↔ b = some x) : a = b := Option.ext h
theorem patF_eq {n : Nat} {w : List UInt8} (h : 3 * w.length + 3 ≤ n) : patF n w = patW w := by
  apply opt_ext
  rintro ⟨x, d, r⟩
  exact ⟨fun e => ((fuelF _).1 _ _ _ _ e).2 _ (Nat.le_refl _), fun e => ((fuelF _).1 _ _ _ _ e).2 _ h⟩
theorem rowF_eq {n : Nat} {w : List UInt8} (h : 3 * w.length + 2 ≤ n) : rowF n w = rowW w := by
  apply opt_ext
  rintro ⟨x, d, r⟩
  exact ⟨fun e => ((fuelF _).2.1 _ _ _ _ e).2 _ (Nat.le_refl _), fun e => ((fuelF _).2.1 _ _ _ _ e).2 _ h⟩
theorem atomF_eq {n : Nat} {w : List UInt8} (h : 3 * w.length + 1 ≤ n) : atomF n w = atomW w := by
  apply opt_ext
  rintro ⟨x, d, r⟩
  exact ⟨fun e => ((fuelF _).2.2 _ _ _ _ e).2 _ (Nat.le_refl _), fun e => ((fuelF _).2.2 _ _ _ _ e).2 _ h⟩
theorem patW_len {w : List UInt8} {x : Nd} {d : Nat} {r : List UInt8} (h : patW w = some (x, d, r)) : r.length ≤ w.length := ((fuelF _).1 _ _ _ _ h).1
theorem rowW_len {w : List UInt8} {x : Nd} {d : Nat} {r : List UInt8} (h : rowW w = some (x, d, r)) : r.length ≤ w.length := ((fuelF _).2.1 _ _ _ _ h).1
theorem atomW_len {w : List UInt8} {x : Nd} {d : Nat} {r : List UInt8} (h : atomW w = some (x, d, r)) : r.length < w.length := ((fuelF _).2.2 _ _ _ _ h).1

theorem patW_eq (w : List UInt8) : patW w = match rowW w with
    | none => none
    | some (r, d, w1) => match w1 with
      | [] => some (.econs r .enil, d, [])
      | c :: w2 => if c = 124 then (match patW w2 with | none => none | some (e, d2, w3) => some (.econs r e, max d d2, w3)) else some (.econs r .enil, d, c :: w2) := by
  rw [patW, patF, rowF_eq (by omega)]
  cases h : rowW w with
  | none => rfl
  | some q =>
    obtain ⟨r, d, w1⟩ := q
    have := rowW_len h
    cases w1 with
    | nil => rfl
    | cons c w2 =>
      simp only [List.length_cons] at this
      simp only
      rw [patF_eq (by omega)]
theorem rowW_eq (w : List UInt8) : rowW w = match w with
    | [] => some (.rnil, 0, [])
    | c :: w0 => if c = 124 ∨ c = 41 then some (.rnil, 0, c :: w0) else match atomW (c :: w0) with
      | none => none
      | some (p, d, w1) => match rowW (markF p w1).2 with
        | none => none
        | some (r, d2, w3) => some (.rcons (markF p w1).1 r, max d d2, w3) := by
  rw [rowW, rowF.eq_def]
  simp only
  cases w with
  | nil => rfl
  | cons c w0 =>
    simp only
    rw [atomF_eq (by omega)]
    cases h : atomW (c :: w0) with
    | none => rfl
    | some q =>
      obtain ⟨p, d, w1⟩ := q
      have h1 := atomW_len h
      have h2 := markF_len p w1
      simp only
      rw [rowF_eq (by omega)]
theorem atomW_eq (w : List UInt8) : atomW w = match w with
    | [] => none
    | c :: w0 =>
      if plainB c then some (.one (fun i => i == c.toNat), 0, w0) else
      if c = 46 then some (.one (fun _ => true), 0, w0) else
      if c = 92 then (match w0 with | [] => none | d :: w1 => if plainB d then none else some (.one (fun i => i == d.toNat), 0, w1)) else
      if c = 91 then (match clsF w0 with | none => none | some (f, r) => some (.one f, 0, r)) else
      if c = 40 then (match patW w0 with
        | none => none
        | some (p, d, w1) => match w1 with | [] => none | e :: w2 => if e = 41 then some (p, d + 1, w2) else none)
      else none := by
  rw [atomW, atomF.eq_def]
  simp only
  cases w with
  | nil => rfl
  | cons c w0 =>
    simp only
    rw [patF_eq (by simp only [List.length_cons]; omega)]
end Ps
