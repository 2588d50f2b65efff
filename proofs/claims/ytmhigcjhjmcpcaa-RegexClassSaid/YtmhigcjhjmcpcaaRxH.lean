/- The trees' values; what a reading call leaves. -/
import Derived.Test.YtmhigcjhjmcpcaaRxG
namespace Ps
set_option linter.unusedSimpArgs false
set_option linter.unusedVariables false
open Go

mutual
inductive NdR : Nd → PV → Prop where
  | one {f : Nat → Bool} : NdR (.one f) (.iface 12 (.ref (bc f)))
  | row {x : Nd} {tip : Option (Nat × Nat)} {es : List PV} (h : RowR x es) : NdR x (.iface 10 (.sl tip es []))
  | pat {x : Nd} {tip : Option (Nat × Nat)} {es : List PV} (h : PatR x es) : NdR x (.iface 5 (.sl tip es []))
  | again {p : Nd} {v : PV} {n m : Bool} (h : NdR p v) : NdR (.again p n m) (.iface 9 (.agg [v, .bool n, .bool m]))
inductive RowR : Nd → List PV → Prop where
  | nil : RowR .rnil []
  | cons {p l : Nd} {v : PV} {es : List PV} (h : NdR p v) (t : RowR l es) : RowR (.rcons p l) (v :: es)
inductive PatR : Nd → List PV → Prop where
  | nil : PatR .enil []
  | cons {p l : Nd} {v : PV} {es : List PV} (h : NdR p v) (t : PatR l es) : PatR (.econs p l) (v :: es)
end

theorem nd_frz : ∀ x : Nd, (∀ v, NdR x v → NdR x v.frz) ∧ (∀ es, RowR x es → RowR x (PV.frzL es)) ∧ (∀ es, PatR x es → PatR x (PV.frzL es)) := by
  intro x
  induction x with
  | one f =>
    refine ⟨fun v h => ?_, fun es h => (by cases h), fun es h => (by cases h)⟩
    cases h with
    | one => simp only [PV.frz, frzL_bc]; exact .one
    | row h => cases h
    | pat h => cases h
  | rnil =>
    have hr : ∀ es, RowR .rnil es → RowR .rnil (PV.frzL es) := fun es h => by cases h; exact .nil
    refine ⟨fun v h => ?_, hr, fun es h => (by cases h)⟩
    cases h with
    | row h => simp only [PV.frz, PV.frzL]; exact .row (hr _ h)
    | pat h => cases h
  | enil =>
    have hr : ∀ es, PatR .enil es → PatR .enil (PV.frzL es) := fun es h => by cases h; exact .nil
    refine ⟨fun v h => ?_, fun es h => (by cases h), hr⟩
    cases h with
    | row h => cases h
    | pat h => simp only [PV.frz, PV.frzL]; exact .pat (hr _ h)
  | rcons p l ip il =>
    have hr : ∀ es, RowR (.rcons p l) es → RowR (.rcons p l) (PV.frzL es) := fun es h => by
      cases h with | cons h t => simp only [PV.frzL]; exact .cons (ip.1 _ h) (il.2.1 _ t)
    refine ⟨fun v h => ?_, hr, fun es h => (by cases h)⟩
    cases h with
    | row h => simp only [PV.frz, PV.frzL]; exact .row (hr _ h)
    | pat h => cases h
  | econs p l ip il =>
    have hr : ∀ es, PatR (.econs p l) es → PatR (.econs p l) (PV.frzL es) := fun es h => by
      cases h with | cons h t => simp only [PV.frzL]; exact .cons (ip.1 _ h) (il.2.2 _ t)
    refine ⟨fun v h => ?_, fun es h => (by cases h), hr⟩
    cases h with
    | row h => cases h
    | pat h => simp only [PV.frz, PV.frzL]; exact .pat (hr _ h)
  | again p n m ip =>
    refine ⟨fun v h => ?_, fun es h => (by cases h), fun es h => (by cases h)⟩
    cases h with
    | again h => simp only [PV.frz, PV.frzL]; exact .again (ip.1 _ h)
    | row h => cases h
    | pat h => cases h
theorem NdR.frz {x : Nd} {v : PV} (h : NdR x v) : NdR x v.frz := (nd_frz x).1 v h

/-- What a reading call leaves. -/
structure Out (o : Option (Nd × Nat × List UInt8)) (de mo : Int) (v : PV) (r' : Rd) : Prop where
  free : v.free = true
  ifc : ∃ t u, v = .iface t u
  out : match o with | some (x, d, rr) => r' = ⟨rr, de, max mo (de + d), false⟩ ∧ NdR x v | none => r'.bad = true
mutual
theorem frz_free : ∀ v : PV, v.free = true → v.frz.free = true
  | .und, h => h
  | .int .., h => h
  | .bool .., h => h
  | .str .., h => h
  | .nilp, h => h
  | .nils, h => h
  | .nili, h => h
  | .nilf, h => h
  | .ptr .., h => h
  | .osl .., h => h
  | .ref cs, h => by simp only [PV.free, PV.frz] at h ⊢; exact frz_freeL cs h
  | .sl t a b, h => by simp only [PV.free, PV.frz, Bool.and_eq_true] at h ⊢; exact ⟨frz_freeL a h.1, frz_freeL b h.2⟩
  | .iface t v, h => by simp only [PV.free, PV.frz] at h ⊢; exact frz_free v h
  | .agg cs, h => by simp only [PV.free, PV.frz] at h ⊢; exact frz_freeL cs h
  | .tup cs, h => by simp only [PV.free, PV.frz] at h ⊢; exact frz_freeL cs h
  | .fn f cs, h => by simp only [PV.free, PV.frz] at h ⊢; exact frz_freeL cs h
theorem frz_freeL : ∀ l : List PV, PV.freeL l = true → PV.freeL (PV.frzL l) = true
  | [], h => h
  | v :: l, h => by simp only [PV.freeL, PV.frzL, Bool.and_eq_true] at h ⊢; exact ⟨frz_free v h.1, frz_freeL l h.2⟩
end
theorem Out.frz {o : Option (Nd × Nat × List UInt8)} {de mo : Int} {v : PV} {r' : Rd} (h : Out o de mo v r') : Out o de mo v.frz r' := by
  obtain ⟨a, ⟨t, u, rfl⟩, c⟩ := h
  refine ⟨frz_free _ a, ⟨t, u.frz, rfl⟩, ?_⟩
  cases o with
  | none => exact c
  | some q => exact ⟨c.1, c.2.frz⟩

theorem fin_out {o : Option (Nd × Nat × List UInt8)} {de mo : Int} {r0 r' : Rd} {ex : List (List PV)} {tips t : List (Nat × Nat)} {r v : PV}
    (hs : sol (rc r' :: ex) 1 solFuel r = some v) (h : Out o de mo v r') :
    ∃ v' t', finish false ⟨[rc r0], tips⟩ ⟨rc r' :: ex, tips ++ t⟩ r = (v', ⟨[rc r'], tips ++ t'⟩) ∧ Out o de mo v' r' := by
  rcases fin_new (S := ⟨[rc r0], tips⟩) (S1 := ⟨rc r' :: ex, tips ++ t⟩) (os := [rc r']) (ex := ex) (t := t) rfl rfl rfl rfl hs with e | e
  · exact ⟨_, [], by rw [e]; simp, h.frz⟩
  · exact ⟨_, t, e, h⟩

/-- A slice that grows, of arrays that are there since some time. -/
def AccT (T0 : List (Nat × Nat)) (tips : List (Nat × Nat)) (v : PV) (es : List PV) : Prop := AccG ⟨[], T0⟩ 1 ⟨[], tips⟩ v es
theorem AccT.ext {T0 tips : List (Nat × Nat)} {v : PV} {es : List PV} (h : AccT T0 tips v es) (t : List (Nat × Nat)) : AccT T0 (tips ++ t) v es := AccG.arrs h t
theorem AccT.tips {T0 tips : List (Nat × Nat)} {v : PV} {es : List PV} (h : AccT T0 tips v es) : ∃ t, tips = T0 ++ t := by
  obtain ⟨⟨o, t, e⟩, _⟩ := h
  cases e
  exact ⟨t, rfl⟩
theorem appendTo_objs {sz b : Nat} {o o' : List (List PV)} {tips : List (Nat × Nat)} {v v' : PV} {new : List PV} {S' : St} (h : appendTo sz b ⟨o, tips⟩ v new = some (v', S')) : appendTo sz b ⟨o', tips⟩ v new = some (v', ⟨o', S'.tips⟩) := by
  unfold appendTo at h ⊢
  cases v with
  | nils =>
    simp only at h ⊢
    split at h
    · cases h; rename_i q; rw [if_pos q]
    · rename_i q; rw [if_neg q]
      split at h
      · rename_i q2; rw [if_pos q2]; cases h; rfl
      · cases h
  | sl tip es sp =>
    simp only at h ⊢
    split at h
    · cases h; rename_i q; rw [if_pos q]
    · rename_i q; rw [if_neg q]
      split at h
      · split at h
        · rename_i q2; rw [if_pos q2]; cases h; rfl
        · cases h
      · cases h
  | _ => cases h
theorem AccT.app {T0 tips : List (Nat × Nat)} {v : PV} {es : List PV} (h : AccT T0 tips v es) (b : Nat) (x : PV) (hb : (es.length + 1) * b ≤ 140737488355328) (o : List (List PV)) :
    ∃ v' tips', appendTo 1 b ⟨o, tips⟩ v [x] = some (v', ⟨o, tips'⟩) ∧ AccT T0 tips' v' (es ++ [x]) := by
  obtain ⟨v', S', a1, a2, a3⟩ := AccG.app h (bytes := b) [x] hb
  have hS : S' = ⟨[], S'.tips⟩ := by obtain ⟨o', t'⟩ := S'; simp only at a3; subst a3; rfl
  refine ⟨v', S'.tips, appendTo_objs a1, ?_⟩
  unfold AccT
  rw [← hS]
  exact a2
theorem AccT.sl {T0 tips : List (Nat × Nat)} {v : PV} {es : List PV} (h : AccT T0 tips v es) (hn : v ≠ .nils) : ∃ tip, v = .sl tip es [] := by
  rcases h.acc with ⟨e, _⟩ | ⟨id, _, e, _⟩
  · exact absurd e hn
  · exact ⟨_, e⟩
theorem accT_new {T0 tips : List (Nat × Nat)} (es : List PV) (h : ∃ t, tips = T0 ++ t) : AccT T0 (tips ++ [(es.length, 1)]) (.sl (some (tips.length, es.length)) es []) es := by
  obtain ⟨t, rfl⟩ := h
  exact accg_new (S0 := ⟨[], T0⟩) (S := ⟨[], T0 ++ t⟩) 1 es ⟨[], t, by simp⟩
theorem freeL_app {a b : List PV} : PV.freeL (a ++ b) = (PV.freeL a && PV.freeL b) := by
  induction a with
  | nil => simp [PV.freeL]
  | cons x a ih => simp [PV.freeL, ih, Bool.and_assoc]

theorem altW_eq (w : List UInt8) : patW w = match rowW w with
    | none => none
    | some (r, d, w1) => match (match w1 with | [] => some (.enil, 0, []) | c :: w2 => if c = 124 then patW w2 else some (.enil, 0, c :: w2)) with
      | none => none
      | some (e, d2, w3) => some (.econs r e, max d d2, w3) := by
  rw [patW_eq]
  cases rowW w with
  | none => rfl
  | some q =>
    obtain ⟨r, d, w1⟩ := q
    cases w1 with
    | nil => simp
    | cons c w2 =>
      simp only
      split
      · rfl
      · simp
end Ps
