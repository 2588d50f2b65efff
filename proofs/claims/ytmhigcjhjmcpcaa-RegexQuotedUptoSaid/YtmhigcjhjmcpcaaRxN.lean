/- Repetition: where it may end; every tree's ends. -/
import Derived.Test.YtmhigcjhjmcpcaaRxM
namespace Ps
set_option linter.unusedSimpArgs false
set_option linter.unusedVariables false
open Go

theorem eqCells_map (f g : Nat → Bool) : ∀ l : List Nat, eqCells true (l.map fun i => .bool (f i)) (l.map fun i => .bool (g i)) = some (l.all fun i => f i == g i)
  | [] => rfl
  | i :: l => by simp only [List.map_cons, eqCells, eqCells_map f g l, if_true, List.all_cons]
theorem eqCells_plc (f g : Nat → Bool) : eqCells true (plc f) (plc g) = some ((List.range 65).all fun i => f i == g i) := eqCells_map f g _

/-- How many places are not there. -/
def lack (X : Nat → Bool) : Nat := ((List.range 65).filter fun i => !X i).length
theorem filter_le {α : Type} {p q : α → Bool} (h : ∀ i, p i = true → q i = true) : ∀ l : List α, (l.filter p).length ≤ (l.filter q).length
  | [] => by simp
  | i :: l => by
    have := filter_le h l
    simp only [List.filter_cons]
    split
    · rename_i hp
      rw [if_pos (h i hp)]; simp; exact this
    · split
      · simp; omega
      · exact this
theorem filter_lt {α : Type} {p q : α → Bool} (h : ∀ i, p i = true → q i = true) : ∀ l : List α, (∃ i ∈ l, p i = false ∧ q i = true) → (l.filter p).length < (l.filter q).length
  | [], ⟨i, hi, _⟩ => by cases hi
  | i :: l, ⟨j, hj, h1, h2⟩ => by
    have hle := filter_le h l
    simp only [List.filter_cons]
    rcases List.mem_cons.1 hj with e | hj
    · subst e
      rw [if_neg (by simp [h1]), if_pos h2]; simp; omega
    · have ih := filter_lt h l ⟨j, hj, h1, h2⟩
      split
      · rename_i hp
        rw [if_pos (h i hp)]; simp; exact ih
      · split
        · simp; omega
        · exact ih
theorem lack_lt {X Y : Nat → Bool} (h : ∀ i, X i = true → Y i = true) {j : Nat} (hj : j < 65) (h1 : X j = false) (h2 : Y j = true) : lack Y < lack X := by
  refine filter_lt (fun i hi => ?_) _ ⟨j, List.mem_range.2 hj, by simp [h2], by simp [h1]⟩
  cases q : X i with
  | false => rfl
  | true => rw [h i q] at hi; cases hi

theorem get_atE {α : Type} (o ex : List α) (x y z : α) : (o ++ x :: y :: (ex ++ [z]))[o.length + (ex.length + 1 + 1)]? = some z := by
  rw [List.getElem?_append_right (by omega)]; simp
theorem set_atE {α : Type} (o ex : List α) (x y z w : α) : (o ++ x :: y :: (ex ++ [z])).set (o.length + (ex.length + 1 + 1)) w = o ++ x :: y :: (ex ++ [w]) := by
  rw [List.set_append_right _ _ (by omega)]; simp

theorem again_loop {o : List (List PV)} {tips : List (Nat × Nat)} {z : List PV} {s : List UInt8} (hs : s.length ≤ 64) {a : Nat → Bool} {p : Nd} {tt f : Nat} {u : PV} (hf1 : (PV.iface tt u).free = true) (hf2 : (PV.iface tt u).frz = .iface tt u) (hm : T.meth tt 0 = some f)
    (hc : ∀ (s : List UInt8) (a : Nat → Bool) (S : St), s.length ≤ 64 → Supp s a → cval T f [u, .str s, .agg (plc a)] S = some (.agg (plc (En p s a)), S)) {no : Bool} {K : List Kt} {Q : Fr → St → Prop} : ∀ (n : Nat) (X : Nat → Bool) (ex : List (List PV)) (fr : Fr), lack X = n →
    (∀ j, En p s a j = true → X j = true) → (∀ j, X j = true → Rch (.again p false true) s (fun i => a i = true) j) →
    fr 1 = .str s → fr 3 = .ref [.iface tt u, .bool no, .bool true] → fr 5 = .ref (plc a) → fr 6 = .ptr o.length 0 → fr 7 = .ptr (o.length + 1) 0 →
    (∀ fr' ex', fr' 3 = fr 3 → fr' 5 = fr 5 → fr' 6 = fr 6 → fr' 7 = fr 7 → Ok (gval T K fr' ⟨o ++ z :: plc (En (.again p false true) s a) :: ex', tips⟩) Q) →
    Ok (gval T (.lp regex_again_ends_l0 :: .blk 0 :: K) fr ⟨o ++ z :: plc X :: ex, tips⟩) Q := by
  intro n
  induction n using Nat.strongRecOn with
  | _ n ih =>
    intro X ex fr hn i1 i2 h1 h3 h5 h6 h7 kk
    have hXs : Supp s X := fun j h => rch_le (i2 j h)
    have hcall := hc s X St0 hs hXs
    have hj := join_val X (En p s X) St0
    have hfl3 : PV.freeL (plc (fun i => X i || En p s X i)) = true := freeL_plc _
    have hzl3 : PV.frzL (plc (fun i => X i || En p s X i)) = plc (fun i => X i || En p s X i) := frzL_plc _
    have huf : u.free = true := hf1
    have huz : u.frz = u := by
      have := hf2
      simp only [PV.frz] at this
      exact (PV.iface.inj this).2
    have hp1 : partOf false 1 [PV.iface tt u, .bool no, .bool true] = some (.iface tt u) := rfl
    have hp2 : partOf false 1 [PV.bool true] = some (.bool true) := rfl
    have hfl : PV.freeL (plc X) = true := freeL_plc X
    have hfl2 : PV.freeL (plc (En p s X)) = true := freeL_plc _
    have hzl : PV.frzL (plc X) = plc X := frzL_plc X
    have hzl2 : PV.frzL (plc (En p s X)) = plc (En p s X) := frzL_plc _
    have heq := eqCells_plc (fun i => X i || En p s X i) X
    rw [gval_lp]
    simp -implicitDefEqProofs [-List.all_eq_true, h1, h3, h5, h6, h7, hp1, hp2, invP, hm, aCall, purCall, hcall, hj, hfl3, hzl3, heq, huf, huz, hfl, hfl2, hzl, hzl2, pstep, plc_zero, all_plc, plc_len, put_all, partOf_all, get_atE, set_atE, get_at1, set_at1]
    refine ok_br (fun hall => ?_) (fun hall => ?_)
    · rw [List.all_eq_true] at hall
      have hcl : ∀ j, Rch p s (fun i => X i = true) j → X j = true := fun j hr => by
        have hj64 : j < 65 := by have := rch_le hr; omega
        have h1 := hall j (List.mem_range.2 hj64)
        rw [en_iff.2 hr] at h1
        simpa using h1
      have hX : X = En (.again p false true) s a := en_ext (fun j => ⟨i2 j, fun h => rch_least (fun j h => i1 j (en_iff.2 h)) hcl h⟩)
      rw [hX]
      exact kk _ _ (by simp) (by simp) (by simp) (by simp)
    · have hex : ∃ j, j < 65 ∧ X j = false ∧ En p s X j = true := by
        apply Classical.byContradiction
        intro hno
        have : ((List.range 65).all fun i => (X i || En p s X i) == X i) = true := by
          rw [List.all_eq_true]
          intro j hj
          have hj65 := List.mem_range.1 hj
          cases hx : X j with
          | true => simp
          | false =>
            cases he : En p s X j with
            | false => simp
            | true => exact absurd ⟨j, hj65, hx, he⟩ hno
        rw [this] at hall; cases hall
      obtain ⟨j, hj65, hx, he⟩ := hex
      have hlt : lack (fun i => X i || En p s X i) < n := by
        rw [← hn]
        exact lack_lt (fun i h => by simp [h]) hj65 hx (by simp [he])
      refine ih _ hlt (fun i => X i || En p s X i) _ _ rfl (fun j h => by simp [i1 j h]) (fun j h => ?_) (by simp [h1]) (by simp [h3]) (by simp [h5]) (by simp [h6]) (by simp [h7]) (fun fr' ex' q1 q2 q3 q4 => kk fr' ex' (by rw [q1]; simp) (by rw [q2]; simp) (by rw [q3]; simp) (by rw [q4]; simp))
      simp only [Bool.or_eq_true] at h
      rcases h with h | h
      · exact i2 j h
      · exact rch_more (rch_mono (en_iff.1 h) i2)

theorem again_no {S : St} {v : PV} {no : Bool} {K : List Kt} {Q : Fr → St → Prop} {fr : Fr} (h3 : fr 3 = .ref [v, .bool no, .bool false])
    (k : ∀ fr', fr' 3 = fr 3 → fr' 5 = fr 5 → fr' 6 = fr 6 → fr' 7 = fr 7 → Ok (gval T K fr' S) Q) : Ok (gval T (.lp regex_again_ends_l0 :: .blk 0 :: K) fr S) Q := by
  have hp2 : partOf false 1 [PV.bool false] = some (.bool false) := rfl
  rw [gval_lp]
  simp -implicitDefEqProofs [h3, hp2]
  exact k _ (by simp) (by simp) (by simp) (by simp)

theorem again_ends {p : Nd} {v : PV} {no ma : Bool} (h : EndsOk p v) : EndsOk (.again p no ma) (.iface 9 (.agg [v, .bool no, .bool ma])) := by
  obtain ⟨f1, f2, tt, u, f, rfl, hm, hc⟩ := h
  refine ⟨by simpa [PV.free, PV.freeL] using f1, by simpa [PV.frz, PV.frzL] using f2, 9, .agg [.iface tt u, .bool no, .bool ma], 453, rfl, rfl, ?_⟩
  intro s a S hs hsu
  obtain ⟨o, tips⟩ := S
  refine cval_ok' fn_453 rfl ?_
  have hp1 : partOf false 1 [PV.iface tt u, .bool no, .bool ma] = some (.iface tt u) := rfl
  have hp2 : partOf false 1 [PV.bool ma] = some (.bool ma) := rfl
  have hp3 : partOf false 1 [PV.bool no, .bool ma] = some (.bool no) := rfl
  have main : ∀ Q : Fr → St → Prop, (∀ fr X ex, fr 6 = .ptr o.length 0 → Q fr ⟨o ++ plc (En (.again p no ma) s a) :: X :: ex, tips⟩) → Ok (gval T [.code regex_again_ends.body] (argsFr [.agg [.iface tt u, .bool no, .bool ma], .str s, .agg (plc a)]) ⟨o, tips⟩) Q := by
    intro Q ends
    have hcall := hc s a ⟨o ++ [plc (fun _ => false)], tips⟩ hs hsu
    -- behind the loop
    have tail : ∀ (X : Nat → Bool) (ex : List (List PV)) (fr : Fr), X = En (.again p false ma) s a → fr 3 = .ref [.iface tt u, .bool no, .bool ma] → fr 5 = .ref (plc a) → fr 6 = .ptr o.length 0 → fr 7 = .ptr (o.length + 1) 0 →
        Ok (gval T [.code (.seq (.seq (.clr [(27, 28)] (.region regex_again_ends_r6)) (.cond (.tmp 28) (.clr [(29, 32)] (.region regex_again_ends_r7)) .skip)) (.seq (.clr [(32, 33)] (.region regex_again_ends_r8)) .ret))] fr ⟨o ++ plc (fun _ => false) :: plc X :: ex, tips⟩) Q := by
      intro X ex fr hX h3 h5 h6 h7
      cases no with
      | false =>
        subst hX
        simp -implicitDefEqProofs [-List.all_eq_true, h3, h5, h6, h7, hp3, pstep, all_plc, plc_len, put_all, partOf_all, get_at0, set_at0]
        exact ends _ _ _ (by simp [h6])
      | true =>
        have hj := join_val X a ⟨o ++ plc (fun _ => false) :: plc X :: ex, tips⟩
        have hE : plc (fun i => X i || a i) = plc (En (.again p true ma) s a) := plc_ext (fun i _ => by
          rw [Bool.eq_iff_iff, en_iff, rch_none, Bool.or_eq_true, hX, en_iff]
          exact ⟨fun h => h.elim .inl (fun h => .inr ⟨h, hsu i h⟩), fun h => h.elim .inl (fun h => .inr h.1)⟩)
        rw [hE] at hj
        simp -implicitDefEqProofs [-List.all_eq_true, h3, h5, h6, h7, hp3, pstep, hj, all_plc, plc_len, put_all, partOf_all, get_at0, set_at0, get_at1, set_at1]
        exact ends _ _ _ (by simp [h6])
    simp -implicitDefEqProofs [-List.all_eq_true, regex_again_ends, hp1, invP, hm, hcall, partOf_all, peval, pstep, all_plc, plc_zero, plc_len, put_all, get_at1, set_at1]
    cases ma with
    | false =>
      refine again_no (v := .iface tt u) (no := no) (by simp) (fun fr' q1 q2 q3 q4 => ?_)
      refine tail (En p s a) [] fr' (en_ext (fun j => ?_)) (by rw [q1]; simp) (by rw [q2]; simp) (by rw [q3]; simp) (by rw [q4]; simp)
      rw [en_iff, rch_again1]
    | true =>
      refine again_loop (no := no) hs f1 f2 hm hc _ (En p s a) [] _ rfl (fun j h => h) (fun j h => rch_once (en_iff.1 h)) (by simp) (by simp) (by simp) (by simp) (by simp) (fun fr' ex' q1 q2 q3 q4 => ?_)
      exact tail _ ex' fr' rfl (by rw [q1]; simp) (by rw [q2]; simp) (by rw [q3]; simp) (by rw [q4]; simp)
  refine main _ (fun fr X ex h => ?_)
  refine ⟨[.agg (plc (En (.again p no ma) s a))], ?_, ?_⟩
  · show resAll fr _ [.cell 6 true 65] = _
    simp only [resAll, resOf, h, get_at0, List.drop_zero, partOf_all]
  · refine (fin_free (S := ⟨o, tips⟩) (S1 := ⟨o ++ plc (En (.again p no ma) s a) :: X :: ex, tips⟩) ⟨plc (En (.again p no ma) s a) :: X :: ex, [], by simp⟩ (by simp [PV.free, freeL_plc])).trans ?_
    simp [PV.frz, frzL_plc]

/-- How many parts a tree has at most, in a row. -/
def Nd.wd : Nd → Nat
  | .one _ => 0
  | .rnil => 0
  | .rcons p l => max p.wd (l.wd + 1)
  | .enil => 0
  | .econs p l => max p.wd (l.wd + 1)
  | .again p _ _ => p.wd
theorem rowE_len {x : Nd} {es : List PV} (h : RowE x es) : es.length ≤ x.wd := by
  induction h with
  | nil => simp
  | cons _ _ ih => simp only [List.length_cons, Nd.wd]; omega
theorem patE_len {x : Nd} {es : List PV} (h : PatE x es) : es.length ≤ x.wd := by
  induction h with
  | nil => simp
  | cons _ _ ih => simp only [List.length_cons, Nd.wd]; omega

theorem nd_ends : ∀ x : Nd, x.wd ≤ 100000 → (∀ v, NdR x v → EndsOk x v.frz) ∧ (∀ es, RowR x es → RowE x (PV.frzL es)) ∧ (∀ es, PatR x es → PatE x (PV.frzL es)) := by
  intro x
  induction x with
  | one f =>
    intro hw
    refine ⟨fun v h => ?_, fun es h => (by cases h), fun es h => (by cases h)⟩
    cases h with
    | one => simp only [PV.frz, frzL_bc]; exact one_ends f
    | row h => cases h
    | pat h => cases h
  | rnil =>
    intro hw
    have hr : ∀ es, RowR .rnil es → RowE .rnil (PV.frzL es) := fun es h => by cases h; exact .nil
    refine ⟨fun v h => ?_, hr, fun es h => (by cases h)⟩
    cases h with
    | row h => simp only [PV.frz, PV.frzL]; exact row_ends (hr _ h) (Nat.le_trans (rowE_len (hr _ h)) hw)
    | pat h => cases h
  | enil =>
    intro hw
    have hr : ∀ es, PatR .enil es → PatE .enil (PV.frzL es) := fun es h => by cases h; exact .nil
    refine ⟨fun v h => ?_, fun es h => (by cases h), hr⟩
    cases h with
    | row h => cases h
    | pat h => simp only [PV.frz, PV.frzL]; exact either_ends (hr _ h) (Nat.le_trans (patE_len (hr _ h)) hw)
  | rcons p l ip il =>
    intro hw
    have hw1 : p.wd ≤ 100000 := by simp only [Nd.wd] at hw; omega
    have hw2 : l.wd ≤ 100000 := by simp only [Nd.wd] at hw; omega
    have hr : ∀ es, RowR (.rcons p l) es → RowE (.rcons p l) (PV.frzL es) := fun es h => by
      cases h with | cons h t => simp only [PV.frzL]; exact .cons ((ip hw1).1 _ h) ((il hw2).2.1 _ t)
    refine ⟨fun v h => ?_, hr, fun es h => (by cases h)⟩
    cases h with
    | row h => simp only [PV.frz, PV.frzL]; exact row_ends (hr _ h) (Nat.le_trans (rowE_len (hr _ h)) hw)
    | pat h => cases h
  | econs p l ip il =>
    intro hw
    have hw1 : p.wd ≤ 100000 := by simp only [Nd.wd] at hw; omega
    have hw2 : l.wd ≤ 100000 := by simp only [Nd.wd] at hw; omega
    have hr : ∀ es, PatR (.econs p l) es → PatE (.econs p l) (PV.frzL es) := fun es h => by
      cases h with | cons h t => simp only [PV.frzL]; exact .cons ((ip hw1).1 _ h) ((il hw2).2.2 _ t)
    refine ⟨fun v h => ?_, fun es h => (by cases h), hr⟩
    cases h with
    | row h => cases h
    | pat h => simp only [PV.frz, PV.frzL]; exact either_ends (hr _ h) (Nat.le_trans (patE_len (hr _ h)) hw)
  | again p n m ip =>
    intro hw
    refine ⟨fun v h => ?_, fun es h => (by cases h), fun es h => (by cases h)⟩
    cases h with
    | again h => simp only [PV.frz, PV.frzL]; exact again_ends ((ip hw).1 _ h)
    | row h => cases h
    | pat h => cases h
end Ps
