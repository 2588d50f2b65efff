/- What a pattern fits; where it may end; a pattern's alternatives. -/
import Derived.Test.YtmhigcjhjmcpcaaRxC
namespace Ps
set_option linter.unusedVariables false
open Go

inductive Mt : Nd → List UInt8 → Prop where
  | one {f : Nat → Bool} {c : UInt8} (h : f c.toNat = true) : Mt (.one f) [c]
  | rnil : Mt .rnil []
  | rcons {p l : Nd} {u v : List UInt8} (h1 : Mt p u) (h2 : Mt l v) : Mt (.rcons p l) (u ++ v)
  | eher {p l : Nd} {u : List UInt8} (h : Mt p u) : Mt (.econs p l) u
  | later {p l : Nd} {u : List UInt8} (h : Mt l u) : Mt (.econs p l) u
  | nil {p : Nd} {m : Bool} : Mt (.again p true m) []
  | once {p : Nd} {n m : Bool} {u : List UInt8} (h : Mt p u) : Mt (.again p n m) u
  | more {p : Nd} {n : Bool} {u v : List UInt8} (h1 : Mt p u) (h2 : Mt (.again p n true) v) : Mt (.again p n true) (u ++ v)

theorem mt_one {f : Nat → Bool} {u : List UInt8} : Mt (.one f) u ↔ ∃ c, u = [c] ∧ f c.toNat = true := ⟨fun h => by cases h with | one h => exact ⟨_, rfl, h⟩, fun ⟨c, e, h⟩ => e ▸ .one h⟩
theorem mt_rnil {u : List UInt8} : Mt .rnil u ↔ u = [] := ⟨fun h => by cases h; rfl, fun e => e ▸ .rnil⟩
theorem mt_rcons {p l : Nd} {w : List UInt8} : Mt (.rcons p l) w ↔ ∃ u v, w = u ++ v ∧ Mt p u ∧ Mt l v := ⟨fun h => by cases h with | rcons h1 h2 => exact ⟨_, _, rfl, h1, h2⟩, fun ⟨u, v, e, h1, h2⟩ => e ▸ .rcons h1 h2⟩
theorem mt_enil {u : List UInt8} : ¬ Mt .enil u := fun h => by cases h
theorem mt_econs {p l : Nd} {u : List UInt8} : Mt (.econs p l) u ↔ Mt p u ∨ Mt l u := ⟨fun h => by cases h with | eher h => exact .inl h | later h => exact .inr h, fun h => h.elim .eher .later⟩
theorem mt_again1 {p : Nd} {n : Bool} {u : List UInt8} : Mt (.again p n false) u ↔ Mt p u ∨ (n = true ∧ u = []) :=
  ⟨fun h => by cases h with | nil => exact .inr ⟨rfl, rfl⟩ | once h => exact .inl h, fun h => h.elim .once fun ⟨a, b⟩ => by subst a; subst b; exact .nil⟩
theorem mt_more {p : Nd} {n : Bool} {w : List UInt8} : Mt (.again p n true) w ↔ Mt p w ∨ (n = true ∧ w = []) ∨ ∃ u v, w = u ++ v ∧ Mt p u ∧ Mt (.again p n true) v :=
  ⟨fun h => by
    cases h with
    | nil => exact .inr (.inl ⟨rfl, rfl⟩)
    | once h => exact .inl h
    | more h1 h2 => exact .inr (.inr ⟨_, _, rfl, h1, h2⟩),
   fun h => by
    rcases h with h | ⟨a, b⟩ | ⟨u, v, e, h1, h2⟩
    · exact .once h
    · subst a; subst b; exact .nil
    · subst e; exact .more h1 h2⟩
/-- None, or one and more. -/
theorem mt_none {p : Nd} {m : Bool} {w : List UInt8} : Mt (.again p true m) w ↔ Mt (.again p false m) w ∨ w = [] := by
  cases m with
  | false => rw [mt_again1, mt_again1]; simp
  | true =>
    constructor
    · intro h
      generalize hx : Nd.again p true true = x at h
      induction h with
      | nil => exact .inr rfl
      | once h => cases hx; exact .inl (.once h)
      | more h1 h2 _ ih =>
        cases hx
        rcases ih rfl with h | h
        · exact .inl (.more h1 h)
        · subst h; rw [List.append_nil]; exact .inl (.once h1)
      | _ => cases hx
    · rintro (h | h)
      · generalize hx : Nd.again p false true = x at h
        induction h with
        | once h => cases hx; exact .once h
        | more h1 h2 _ ih => cases hx; exact .more h1 (ih rfl)
        | _ => cases hx
      · subst h; exact .nil
theorem mt_snoc {p : Nd} {n : Bool} {u v : List UInt8} (h : Mt (.again p n true) u) (h2 : Mt p v) : Mt (.again p n true) (u ++ v) := by
  generalize hx : Nd.again p n true = x at h
  induction h with
  | nil => cases hx; exact .once h2
  | once h => cases hx; exact .more h (.once h2)
  | more h1 _ _ ih => cases hx; rw [List.append_assoc]; exact .more h1 (ih rfl)
  | _ => cases hx

/-- A text's part. -/
def seg (s : List UInt8) (i j : Nat) : List UInt8 := (s.drop i).take (j - i)
theorem seg_app {s : List UInt8} {i j k : Nat} (h1 : i ≤ j) (h2 : j ≤ k) : seg s i j ++ seg s j k = seg s i k := by
  unfold seg
  have : k - i = (j - i) + (k - j) := by omega
  rw [this, List.take_add, List.drop_drop, show i + (j - i) = j by omega]
theorem seg_len {s : List UInt8} {i j : Nat} (h : j ≤ s.length) : (seg s i j).length = j - i := by simp [seg]; omega
theorem seg_split {s : List UInt8} {i j : Nat} {u v : List UInt8} (hi : i ≤ j) (hj : j ≤ s.length) (h : seg s i j = u ++ v) : i + u.length ≤ j ∧ u = seg s i (i + u.length) ∧ v = seg s (i + u.length) j := by
  have hl := seg_len (s := s) (i := i) hj
  rw [h, List.length_append] at hl
  have h3 : i + u.length ≤ j := by omega
  have h4 := seg_app (s := s) (i := i) (j := i + u.length) (k := j) (by omega) h3
  rw [h] at h4
  have h5 : (seg s i (i + u.length)).length = u.length := by rw [seg_len (by omega)]; omega
  have := List.append_inj h4 h5
  exact ⟨h3, this.1.symm, this.2.symm⟩
theorem seg_self {s : List UInt8} {i : Nat} : seg s i i = [] := by simp [seg]
theorem seg_nil {s : List UInt8} {i j : Nat} (hi : i ≤ j) (hj : j ≤ s.length) (h : seg s i j = []) : i = j := by
  have := seg_len (s := s) (i := i) hj
  rw [h] at this; simp at this; omega
theorem seg_one {s : List UInt8} {i j : Nat} {c : UInt8} (hi : i ≤ j) (hj : j ≤ s.length) : seg s i j = [c] ↔ j = i + 1 ∧ s[i]? = some c := by
  constructor
  · intro h
    have hl := seg_len (s := s) (i := i) hj
    rw [h] at hl
    simp only [List.length_cons, List.length_nil] at hl
    have hj1 : j = i + 1 := by omega
    subst hj1
    refine ⟨rfl, ?_⟩
    have : (seg s i (i + 1))[0]? = some c := by rw [h]; rfl
    simpa [seg] using this
  · rintro ⟨rfl, h⟩
    have hi := (List.getElem?_eq_some_iff.1 h)
    obtain ⟨hlt, e⟩ := hi
    unfold seg
    rw [List.drop_eq_getElem_cons hlt, e]
    simp

/-- Where what a pattern fits may end, of all that begins at some places. -/
def Rch (x : Nd) (s : List UInt8) (a : Nat → Prop) (j : Nat) : Prop := ∃ i, a i ∧ i ≤ j ∧ j ≤ s.length ∧ Mt x (seg s i j)
theorem rch_le {x : Nd} {s : List UInt8} {a : Nat → Prop} {j : Nat} (h : Rch x s a j) : j ≤ s.length := by obtain ⟨_, _, _, h, _⟩ := h; exact h
theorem rch_mono {x : Nd} {s : List UInt8} {a b : Nat → Prop} {j : Nat} (h : Rch x s a j) (k : ∀ i, a i → b i) : Rch x s b j := by obtain ⟨i, h1, h2⟩ := h; exact ⟨i, k i h1, h2⟩
theorem rch_one {f : Nat → Bool} {s : List UInt8} {a : Nat → Prop} {j : Nat} : Rch (.one f) s a j ↔ ∃ i c, j = i + 1 ∧ a i ∧ s[i]? = some c ∧ f c.toNat = true := by
  constructor
  · rintro ⟨i, h1, h2, h3, h4⟩
    obtain ⟨c, e, h⟩ := mt_one.1 h4
    obtain ⟨e1, e2⟩ := (seg_one h2 h3).1 e
    exact ⟨i, c, e1, h1, e2, h⟩
  · rintro ⟨i, c, rfl, h1, h2, h3⟩
    have := (List.getElem?_eq_some_iff.1 h2).1
    exact ⟨i, h1, by omega, by omega, mt_one.2 ⟨c, (seg_one (by omega) (by omega)).2 ⟨rfl, h2⟩, h3⟩⟩
theorem rch_rnil {s : List UInt8} {a : Nat → Prop} {j : Nat} : Rch .rnil s a j ↔ a j ∧ j ≤ s.length := by
  constructor
  · rintro ⟨i, h1, h2, h3, h4⟩
    have := seg_nil h2 h3 (mt_rnil.1 h4)
    subst this
    exact ⟨h1, h3⟩
  · rintro ⟨h1, h2⟩
    exact ⟨j, h1, Nat.le_refl _, h2, mt_rnil.2 seg_self⟩
theorem rch_rcons {p l : Nd} {s : List UInt8} {a : Nat → Prop} {j : Nat} : Rch (.rcons p l) s a j ↔ Rch l s (Rch p s a) j := by
  constructor
  · rintro ⟨i, h1, h2, h3, h4⟩
    obtain ⟨u, v, e, hu, hv⟩ := mt_rcons.1 h4
    obtain ⟨q1, q2, q3⟩ := seg_split h2 h3 e
    exact ⟨i + u.length, ⟨i, h1, by omega, by omega, by rw [← q2]; exact hu⟩, q1, h3, by rw [← q3]; exact hv⟩
  · rintro ⟨k, ⟨i, h1, h2, h3, h4⟩, g2, g3, g4⟩
    exact ⟨i, h1, by omega, g3, by rw [← seg_app h2 g2]; exact .rcons h4 g4⟩
theorem rch_enil {s : List UInt8} {a : Nat → Prop} {j : Nat} : ¬ Rch .enil s a j := fun ⟨_, _, _, _, h⟩ => mt_enil h
theorem rch_econs {p l : Nd} {s : List UInt8} {a : Nat → Prop} {j : Nat} : Rch (.econs p l) s a j ↔ Rch p s a j ∨ Rch l s a j := by
  constructor
  · rintro ⟨i, h1, h2, h3, h4⟩
    exact (mt_econs.1 h4).elim (fun h => .inl ⟨i, h1, h2, h3, h⟩) (fun h => .inr ⟨i, h1, h2, h3, h⟩)
  · rintro (⟨i, h1, h2, h3, h4⟩ | ⟨i, h1, h2, h3, h4⟩)
    · exact ⟨i, h1, h2, h3, .eher h4⟩
    · exact ⟨i, h1, h2, h3, .later h4⟩
theorem rch_none {p : Nd} {m : Bool} {s : List UInt8} {a : Nat → Prop} {j : Nat} : Rch (.again p true m) s a j ↔ Rch (.again p false m) s a j ∨ (a j ∧ j ≤ s.length) := by
  constructor
  · rintro ⟨i, h1, h2, h3, h4⟩
    rcases mt_none.1 h4 with h | h
    · exact .inl ⟨i, h1, h2, h3, h⟩
    · have := seg_nil h2 h3 h
      subst this
      exact .inr ⟨h1, h3⟩
  · rintro (⟨i, h1, h2, h3, h4⟩ | ⟨h1, h2⟩)
    · exact ⟨i, h1, h2, h3, mt_none.2 (.inl h4)⟩
    · exact ⟨j, h1, Nat.le_refl _, h2, mt_none.2 (.inr seg_self)⟩
theorem rch_again1 {p : Nd} {s : List UInt8} {a : Nat → Prop} {j : Nat} : Rch (.again p false false) s a j ↔ Rch p s a j := by
  unfold Rch
  simp only [mt_again1, Bool.false_eq_true, false_and, or_false]
/-- What has what is reached, and is left by nothing more, has all. -/
theorem rch_least {p : Nd} {s : List UInt8} {a X : Nat → Prop} (h1 : ∀ j, Rch p s a j → X j) (h2 : ∀ j, Rch p s X j → X j) {j : Nat} (h : Rch (.again p false true) s a j) : X j := by
  obtain ⟨i, g1, g2, g3, g4⟩ := h
  have key : ∀ {x : Nd} {u : List UInt8}, Mt x u → x = .again p false true → ∀ i j, u = seg s i j → i ≤ j → j ≤ s.length → (a i ∨ X i) → X j := by
    intro x u hm
    induction hm with
    | once h _ =>
      intro e i j hu q1 q2 q
      cases e
      subst hu
      exact q.elim (fun q => h1 _ ⟨i, q, q1, q2, h⟩) (fun q => h2 _ ⟨i, q, q1, q2, h⟩)
    | more hp _ _ ih =>
      intro e i j hu q1 q2 q
      cases e
      obtain ⟨r1, r2, r3⟩ := seg_split q1 q2 hu.symm
      rename_i u1 v1 _ _
      have hx : X (i + u1.length) := by
        rw [r2] at hp
        exact q.elim (fun q => h1 _ ⟨i, q, by omega, by omega, hp⟩) (fun q => h2 _ ⟨i, q, by omega, by omega, hp⟩)
      exact ih rfl _ _ r3 r1 q2 (.inr hx)
    | _ => intro e; cases e
  exact key g4 rfl i j rfl g2 g3 (.inl g1)
theorem rch_once {p : Nd} {n m : Bool} {s : List UInt8} {a : Nat → Prop} {j : Nat} (h : Rch p s a j) : Rch (.again p n m) s a j := by
  obtain ⟨i, h1, h2, h3, h4⟩ := h; exact ⟨i, h1, h2, h3, .once h4⟩
theorem rch_more {p : Nd} {n : Bool} {s : List UInt8} {a : Nat → Prop} {j : Nat} (h : Rch p s (Rch (.again p n true) s a) j) : Rch (.again p n true) s a j := by
  obtain ⟨k, ⟨i, h1, h2, h3, h4⟩, g2, g3, g4⟩ := h
  exact ⟨i, h1, by omega, g3, by rw [← seg_app h2 g2]; exact mt_snoc h4 g4⟩
/-- What grows by what is reached till nothing more is, is all. -/
theorem rch_fix {p : Nd} {s : List UInt8} {a X : Nat → Prop} (h1 : ∀ j, Rch p s a j → X j) (h2 : ∀ j, Rch p s X j → X j) (h3 : ∀ j, X j → Rch (.again p false true) s a j) (j : Nat) : X j ↔ Rch (.again p false true) s a j :=
  ⟨h3 j, rch_least h1 h2⟩

/-! The alternatives. -/
inductive AltsR : List (List UInt8) → Nd → Prop where
  | nil : AltsR [] .enil
  | cons {a : List UInt8} {l : List (List UInt8)} {r e : Nd} {d : Nat} (h : rowW a = some (r, d, [])) (t : AltsR l e) : AltsR (a :: l) (.econs r e)

/-- A pattern cut, with what is gathered of the alternative at hand. -/
def cutF (cur : List UInt8) (w : List UInt8) : Option (List (List UInt8)) :=
  match w with
  | [] => some [cur]
  | c :: w0 => if c = 124 then (match cutF [] w0 with | none => none | some l => some (cur :: l)) else
    match h : atomW (c :: w0) with
    | none => none
    | some (p, d, w1) => cutF (cur ++ (c :: w0).take ((c :: w0).length - (markF p w1).2.length)) (markF p w1).2
termination_by w.length
decreasing_by
  · simp
  · have h1 := atomW_len h
    have h2 := markF_len p w1
    omega
theorem cutF_nil (cur : List UInt8) : cutF cur [] = some [cur] := by rw [cutF]
theorem cutF_cons (cur : List UInt8) (c : UInt8) (w0 : List UInt8) : cutF cur (c :: w0) = if c = 124 then (match cutF [] w0 with | none => none | some l => some (cur :: l)) else
    match atomW (c :: w0) with
    | none => none
    | some (p, d, w1) => cutF (cur ++ (c :: w0).take ((c :: w0).length - (markF p w1).2.length)) (markF p w1).2 := by
  rw [cutF]
  split
  · rfl
  · split <;> rename_i h <;> simp [h]

theorem cut_both : ∀ (k : Nat) (w : List UInt8), w.length ≤ k → ∀ cur,
    (∀ alts, cutF cur w = some alts → ∃ a rest r e d w3, alts = (cur ++ a) :: rest ∧ w = a ++ w3 ∧ rowW w = some (r, d, w3) ∧ AltsR rest e ∧ ((w3 = [] ∧ e = .enil) ∨ ∃ w4 d4, w3 = 124 :: w4 ∧ patW w4 = some (e, d4, []))) ∧
    (∀ x d, patW w = some (x, d, []) → cutF cur w ≠ none) := by
  intro k
  induction k with
  | zero =>
    intro w hw cur
    have : w = [] := by simpa using hw
    subst this
    refine ⟨fun alts h => ?_, fun _ _ _ h => by rw [cutF_nil] at h; cases h⟩
    rw [cutF_nil] at h; cases h
    exact ⟨[], [], .rnil, .enil, 0, [], by simp, rfl, by rw [rowW_eq], .nil, .inl ⟨rfl, rfl⟩⟩
  | succ k ih =>
    intro w hw cur
    cases w with
    | nil =>
      refine ⟨fun alts h => ?_, fun _ _ _ h => by rw [cutF_nil] at h; cases h⟩
      rw [cutF_nil] at h; cases h
      exact ⟨[], [], .rnil, .enil, 0, [], by simp, rfl, by rw [rowW_eq], .nil, .inl ⟨rfl, rfl⟩⟩
    | cons c w0 =>
      simp only [List.length_cons] at hw
      rw [cutF_cons]
      by_cases hc : c = 124
      · rw [if_pos hc]
        subst hc
        have hrow : rowW (124 :: w0) = some (.rnil, 0, 124 :: w0) := by rw [rowW_eq]; simp
        obtain ⟨i1, i2⟩ := ih w0 (by omega) []
        constructor
        · intro alts h
          cases hq : cutF [] w0 with
          | none => rw [hq] at h; cases h
          | some l =>
            rw [hq] at h; cases h
            obtain ⟨a, rest, r, e, d, w3, e1, e2, e3, e4, e5⟩ := i1 l hq
            have hra : rowW a = some (r, d, []) := by
              obtain ⟨_, u, eu, ku⟩ := rowW_loc e3
              have : u = a := List.append_cancel_right (eu.symm.trans e2)
              subst this
              have := ku [] trivial
              rwa [List.append_nil] at this
            have hp : ∃ d4, patW w0 = some (.econs r e, d4, []) := by
              rcases e5 with ⟨rfl, rfl⟩ | ⟨w4, d4, rfl, h4⟩
              · exact ⟨d, by rw [patW_eq, e3]⟩
              · exact ⟨max d d4, by rw [patW_eq, e3]; simp only; rw [if_pos trivial, h4]⟩
            obtain ⟨d4, hp⟩ := hp
            refine ⟨[], l, .rnil, .econs r e, 0, 124 :: w0, by simp, rfl, hrow, ?_, .inr ⟨w0, d4, rfl, hp⟩⟩
            rw [e1, List.nil_append]
            exact .cons hra e4
        · intro x d h
          rw [patW_eq, hrow] at h
          simp only at h
          rw [if_pos trivial] at h
          cases hp : patW w0 with
          | none => rw [hp] at h; cases h
          | some q =>
            obtain ⟨y, d2, w3⟩ := q
            rw [hp] at h
            cases h
            have := i2 _ _ hp
            cases hq : cutF [] w0 with
            | none => exact absurd hq this
            | some l => simp
      · rw [if_neg hc]
        cases ha : atomW (c :: w0) with
        | none =>
          refine ⟨fun alts h => (by cases h), fun x d h => ?_⟩
          rw [patW_eq, rowW_eq] at h
          simp only at h
          by_cases h41 : c = 41
          · rw [if_pos (.inr h41)] at h
            simp only at h
            rw [if_neg hc] at h
            cases h
          · rw [if_neg (by simp [hc, h41]), ha] at h
            cases h
        | some q =>
          obtain ⟨p, d1, w1⟩ := q
          simp only
          have l1 := atomW_len ha
          have l2 := markF_len p w1
          simp only [List.length_cons] at l1
          have h41 : c ≠ 41 := by
            rintro rfl
            rw [atomW_eq] at ha
            simp only at ha
            rw [if_neg (by decide), if_neg (by decide), if_neg (by decide), if_neg (by decide), if_neg (by decide)] at ha
            cases ha
          have hnc : ¬ (c = 124 ∨ c = 41) := by simp [hc, h41]
          have hrow : rowW (c :: w0) = match rowW (markF p w1).2 with
              | none => none
              | some (r, d2, w3) => some (.rcons (markF p w1).1 r, max d1 d2, w3) := by
            rw [rowW_eq]; simp only; rw [if_neg hnc, ha]; rfl
          obtain ⟨ua, ea, _⟩ := atomW_loc ha
          have hsuf : ∃ um, c :: w0 = um ++ (markF p w1).2 := by
            rcases markF_cut p w1 with ⟨_, hm⟩ | ⟨m, rm, e1, _, hm⟩
            · exact ⟨ua, by rw [hm]; exact ea⟩
            · exact ⟨ua ++ [m], by rw [hm, ea, e1]; simp⟩
          obtain ⟨um, eum⟩ := hsuf
          have htake : (c :: w0).take ((c :: w0).length - (markF p w1).2.length) = um := by
            rw [eum]; simp
          rw [htake]
          obtain ⟨i1, i2⟩ := ih (markF p w1).2 (by omega) (cur ++ um)
          constructor
          · intro alts h
            obtain ⟨a, rest, r, e, d, w3, e1, e2, e3, e4, e5⟩ := i1 alts h
            refine ⟨um ++ a, rest, .rcons (markF p w1).1 r, e, max d1 d, w3, by rw [e1]; simp, ?_, by rw [hrow, e3], e4, e5⟩
            rw [List.append_assoc, ← e2]; exact eum
          · intro x d h
            rw [patW_eq, hrow] at h
            cases hr : rowW (markF p w1).2 with
            | none => rw [hr] at h; cases h
            | some q =>
              obtain ⟨r1, d2, w3⟩ := q
              rw [hr] at h
              simp only at h
              have hp2 : ∃ y dd, patW (markF p w1).2 = some (y, dd, []) := by
                rw [patW_eq, hr]
                simp only
                cases w3 with
                | nil => exact ⟨_, _, rfl⟩
                | cons z w4 =>
                  simp only at h ⊢
                  split at h
                  · rename_i hz
                    rw [if_pos hz]
                    cases hp : patW w4 with
                    | none => rw [hp] at h; cases h
                    | some q =>
                      obtain ⟨y, d3, w5⟩ := q
                      rw [hp] at h; cases h
                      exact ⟨_, _, rfl⟩
                  · cases h
              obtain ⟨y, dd, hp2⟩ := hp2
              exact i2 y dd hp2

theorem cut_some {w : List UInt8} {alts : List (List UInt8)} (h : cutF [] w = some alts) : ∃ x d, patW w = some (x, d, []) ∧ AltsR alts x := by
  obtain ⟨a, rest, r, e, d, w3, e1, e2, e3, e4, e5⟩ := (cut_both w.length w (Nat.le_refl _) []).1 alts h
  have hra : rowW a = some (r, d, []) := by
    obtain ⟨_, u, eu, ku⟩ := rowW_loc e3
    have : u = a := List.append_cancel_right (eu.symm.trans e2)
    subst this
    have := ku [] trivial
    rwa [List.append_nil] at this
  rw [List.nil_append] at e1
  rcases e5 with ⟨rfl, rfl⟩ | ⟨w4, d4, rfl, h4⟩
  · exact ⟨_, d, by rw [patW_eq, e3], by rw [e1]; exact .cons hra e4⟩
  · exact ⟨.econs r e, max d d4, by rw [patW_eq, e3]; simp only; rw [if_pos trivial, h4], by rw [e1]; exact .cons hra e4⟩
theorem cut_ok {w : List UInt8} : (cutF [] w).isSome = okP w := by
  cases h : cutF [] w with
  | some alts =>
    obtain ⟨x, d, hp, _⟩ := cut_some h
    exact (okP_iff.2 ⟨x, d, hp⟩).symm
  | none =>
    cases hk : okP w with
    | false => rfl
    | true =>
      obtain ⟨x, d, hp⟩ := okP_iff.1 hk
      exact absurd h ((cut_both w.length w (Nat.le_refl _) []).2 x d hp)
end Ps
