/- Where a node's texts may end: the program's sets of places. -/
import Derived.Test.YtmhigcjhjmcpcaaRxK
namespace Ps
set_option linter.unusedSimpArgs false
set_option linter.unusedVariables false
open Go

theorem fn_440 : T.fn 440 = some (.code regex_join) := rfl
theorem fn_439 : T.fn 439 = some (.code regex_either_ends) := rfl
theorem fn_452 : T.fn 452 = some (.code regex_row_ends) := rfl
theorem fn_453 : T.fn 453 = some (.code regex_again_ends) := rfl
theorem fn_454 : T.fn 454 = some (.code regex_one_ends) := rfl

def plc (f : Nat → Bool) : List PV := (List.range 65).map fun i => .bool (f i)
theorem plc_len (f : Nat → Bool) : (plc f).length = 65 := by simp [plc]
theorem plc_get (f : Nat → Bool) {i : Nat} (h : i < 65) : (plc f)[i]? = some (.bool (f i)) := by simp [plc, h]
theorem frzL_plc (f : Nat → Bool) : PV.frzL (plc f) = plc f := frzL_map' (fun i => .bool (f i)) (fun _ => rfl) _
theorem freeL_plc (f : Nat → Bool) : PV.freeL (plc f) = true := freeL_map (fun i => .bool (f i)) (fun _ => rfl) _
theorem plc_put (f : Nat → Bool) (b : Bool) {i : Nat} (h : i < 65) : putCells (plc f) i [.bool b] = plc (fun j => if j = i then b else f j) := by
  apply List.ext_getElem?
  intro j
  simp only [putCells]
  rcases Nat.lt_trichotomy j i with hj | hj | hj
  · rw [List.append_assoc, List.getElem?_append_left (by simp [plc_len]; omega), List.getElem?_take_of_lt hj, plc_get _ (by omega), plc_get _ (by omega)]
    simp [Nat.ne_of_lt hj]
  · subst hj
    rw [List.append_assoc, List.getElem?_append_right (by simp [plc_len]; omega)]
    simp [plc_len, Nat.min_eq_left (Nat.le_of_lt h), plc_get _ h]
  · rw [List.getElem?_append_right (by simp [plc_len]; omega)]
    simp only [List.length_append, List.length_take, plc_len, List.length_singleton, List.getElem?_drop]
    have e : i + 1 + (j - (min i 65 + 1)) = j := by omega
    rw [e]
    by_cases hj2 : j < 65
    · rw [plc_get _ hj2, plc_get _ hj2]; simp [Nat.ne_of_gt hj]
    · rw [List.getElem?_eq_none (by rw [plc_len]; omega), List.getElem?_eq_none (by rw [plc_len]; omega)]
theorem plc_zero : List.replicate 65 (PV.bool false) = plc (fun _ => false) := by
  apply List.ext_getElem?
  intro j
  by_cases hj : j < 65
  · rw [plc_get _ hj, List.getElem?_replicate, if_pos hj]
  · rw [List.getElem?_eq_none (by rw [List.length_replicate]; omega), List.getElem?_eq_none (by rw [plc_len]; omega)]
theorem all_plc (f : Nat → Bool) : (plc f).all PV.one = true := by
  rw [List.all_eq_true]
  intro v hv
  obtain ⟨i, _, rfl⟩ := List.mem_map.1 hv
  rfl
theorem plc_ext {f g : Nat → Bool} (h : ∀ i, i < 65 → f i = g i) : plc f = plc g := by
  unfold plc
  apply List.map_congr_left
  intro i hi
  rw [h i (List.mem_range.1 hi)]
theorem plc_inj {f g : Nat → Bool} (h : plc f = plc g) {i : Nat} (hi : i < 65) : f i = g i := by
  have h1 := plc_get f hi
  rw [h, plc_get g hi] at h1
  simpa using h1.symm
theorem partOf_plc {f : Nat → Bool} {i : Nat} (h : i < 65) : partOf false 1 ((plc f).drop i) = some (.bool (f i)) := by
  have hd : (plc f).drop i = (.bool (f i)) :: (plc f).drop (i + 1) := by
    rw [List.drop_eq_getElem_cons (by rw [plc_len]; exact h)]
    have := plc_get f h
    rw [List.getElem?_eq_getElem (by rw [plc_len]; exact h)] at this
    cases this' : (plc f)[i]'(by rw [plc_len]; exact h) <;> simp_all
  rw [hd]
  simp [partOf]
theorem partOf_all (f : Nat → Bool) : partOf true 65 (plc f) = some (.agg (plc f)) := by
  unfold partOf
  rw [if_pos (by rw [plc_len]; omega), List.take_of_length_le (by rw [plc_len]; omega)]
  rfl
theorem put_all (f g : Nat → Bool) : putCells (plc f) 0 (plc g) = plc g := by
  unfold putCells
  rw [plc_len, List.drop_eq_nil_of_le (by rw [plc_len]; omega)]
  simp

theorem set_at0 {α : Type} (o m : List α) (x y : α) : (o ++ x :: m).set o.length y = o ++ y :: m := by simp
theorem set_at1 {α : Type} (o m : List α) (x y z : α) : (o ++ x :: y :: m).set (o.length + 1) z = o ++ x :: z :: m := by
  rw [List.set_append_right _ _ (by omega)]; simp
theorem get_at0 {α : Type} (o m : List α) (x : α) : (o ++ x :: m)[o.length]? = some x := by simp
theorem get_at1 {α : Type} (o m : List α) (x y : α) : (o ++ x :: y :: m)[o.length + 1]? = some y := by
  rw [List.getElem?_append_right (by omega)]; simp
theorem set_at2 {α : Type} (o m : List α) (x y z w : α) : (o ++ x :: y :: z :: m).set (o.length + 2) w = o ++ x :: y :: w :: m := by
  rw [List.set_append_right _ _ (by omega)]; simp
theorem get_at2 {α : Type} (o m : List α) (x y z : α) : (o ++ x :: y :: z :: m)[o.length + 2]? = some z := by
  rw [List.getElem?_append_right (by omega)]; simp

theorem join_loop {o : List (List PV)} {tips : List (Nat × Nat)} {z : List PV} {a b : Nat → Bool} {K : List Kt} {Q : Fr → St → Prop} : ∀ (m k : Nat) (fr : Fr), 65 - k = m → k ≤ 65 →
    fr 2 = .ptr o.length 0 → fr 3 = .ref (plc b) → fr 4 = .ptr (o.length + 1) 0 → fr 6 = .int .i64 k →
    (∀ fr', fr' 2 = fr 2 → fr' 4 = fr 4 → Ok (gval T K fr' ⟨o ++ [plc (fun i => a i || b i), z], tips⟩) Q) →
    Ok (gval T (.lp regex_join_l0 :: .blk 0 :: K) fr ⟨o ++ [plc (fun i => if i < k then a i || b i else a i), z], tips⟩) Q := by
  intro m
  induction m with
  | zero =>
    intro k fr hm hk h2 h3 h4 h6 kk
    have hke : k = 65 := by omega
    subst hke
    have e : plc (fun i => if i < 65 then a i || b i else a i) = plc (fun i => a i || b i) := plc_ext (fun i hi => by simp [hi])
    rw [e, gval_lp]
    simp -implicitDefEqProofs [h2, h3, h6]
    exact kk _ (by simp) (by simp)
  | succ m ih =>
    intro k fr hm hk h2 h3 h4 h6 kk
    have hk0 : k < 65 := by omega
    have hlt : (k : Int) < 65 := by omega
    have hw2 := wrap_len (a := k) (by omega)
    have hk2 : k + 1 ≤ 65 := by omega
    have hg := partOf_plc (f := fun i => if i < k then a i || b i else a i) hk0
    simp only [Nat.lt_irrefl, if_false] at hg
    have hg2 := partOf_plc (f := b) hk0
    have hp : ∀ v, v = (a k || b k) → putCells (plc (fun i => if i < k then a i || b i else a i)) k [.bool v] = plc (fun i => if i < k + 1 then a i || b i else a i) := by
      intro v hv
      rw [plc_put _ _ hk0]
      exact plc_ext (fun i _ => by
        by_cases h : i = k
        · subst h; simp [hv]
        · by_cases h2 : i < k
          · have : i < k + 1 := by omega
            simp [h, h2, this]
          · have : ¬ i < k + 1 := by omega
            simp [h, h2, this])
    generalize hB : plc (fun i => if i < k then a i || b i else a i) = B at *
    have hBl : B.length = 65 := by rw [← hB]; exact plc_len _
    have ih' := ih (k + 1)
    rw [gval_lp]
    have hle : k ≤ 65 := by omega
    simp -implicitDefEqProofs [h2, h3, h4, h6, hlt, hg, hg2, pstep, hBl, hk2, hw2, get_at0, set_at0, plc_len, hle]
    rw [hp _ (by cases a k <;> cases b k <;> rfl)]
    exact ih' _ (by omega) (by omega) (by simp [h2]) (by simp [h3]) (by simp [h4]) (by simp [hw2]) (fun fr' q1 q2 => kk fr' (by rw [q1]; simp) (by rw [q2]; simp))

theorem join_val (a b : Nat → Bool) (S : St) : cval T 440 [.agg (plc a), .agg (plc b)] S = some (.agg (plc (fun i => a i || b i)), S) := by
  obtain ⟨o, tips⟩ := S
  refine cval_ok' fn_440 rfl ?_
  have main : ∀ Q : Fr → St → Prop, (∀ fr, fr 4 = .ptr (o.length + 1) 0 → Q fr ⟨o ++ [plc (fun i => a i || b i), plc (fun i => a i || b i)], tips⟩) → Ok (gval T [.code regex_join.body] (argsFr [.agg (plc a), .agg (plc b)]) ⟨o, tips⟩) Q := by
    intro Q ends
    simp -implicitDefEqProofs [-List.all_eq_true, regex_join, peval, pstep, all_plc, plc_zero]
    have e0 : plc a = plc (fun i => if i < 0 then a i || b i else a i) := plc_ext (fun i _ => by simp)
    rw [e0]
    refine join_loop (a := a) (b := b) _ 0 _ rfl (by omega) (by simp) (by simp) (by simp) (by simp) (fun fr' q1 q2 => ?_)
    have q1' : fr' 2 = .ptr o.length 0 := by rw [q1]; simp
    have q2' : fr' 4 = .ptr (o.length + 1) 0 := by rw [q2]; simp
    simp -implicitDefEqProofs [-List.all_eq_true, q1', q2', pstep, partOf_all, all_plc, put_all, plc_len, get_at1, set_at1]
    exact ends _ (by simp [q2'])
  refine main _ (fun fr h => ?_)
  refine ⟨[.agg (plc (fun i => a i || b i))], ?_, ?_⟩
  · show resAll fr _ [.cell 4 true 65] = _
    simp only [resAll, resOf, h, get_at1, List.drop_zero, partOf_all]
  · refine (fin_free (S := ⟨o, tips⟩) (S1 := ⟨o ++ [plc (fun i => a i || b i), plc (fun i => a i || b i)], tips⟩) ⟨[plc (fun i => a i || b i), plc (fun i => a i || b i)], [], by simp⟩ (by simp [PV.free, freeL_plc])).trans ?_
    simp [PV.frz, frzL_plc]

/-- What one byte's set reaches. -/
def g1 (f : Nat → Bool) (s : List UInt8) (a : Nat → Bool) (j : Nat) : Bool := match j with | 0 => false | i + 1 => a i && (match s[i]? with | some c => f c.toNat | none => false)

theorem one_loop {o : List (List PV)} {tips : List (Nat × Nat)} {z : List PV} {f a : Nat → Bool} {s : List UInt8} (hs : s.length ≤ 64) {K : List Kt} {Q : Fr → St → Prop} : ∀ (m k : Nat) (fr : Fr), s.length - k = m → k ≤ s.length →
    fr 0 = .ref (bc f) → fr 1 = .str s → fr 5 = .ref (plc a) → fr 6 = .ptr o.length 0 → fr 7 = .ptr (o.length + 1) 0 → fr 10 = .int .i64 s.length → fr 11 = .int .i64 k →
    (∀ fr', fr' 6 = fr 6 → fr' 7 = fr 7 → Ok (gval T K fr' ⟨o ++ [z, plc (g1 f s a)], tips⟩) Q) →
    Ok (gval T (.lp regex_one_ends_l0 :: .blk 0 :: K) fr ⟨o ++ [z, plc (fun i => decide (i ≤ k) && g1 f s a i)], tips⟩) Q := by
  intro m
  induction m with
  | zero =>
    intro k fr hm hk h0 h1 h5 h6 h7 h10 h11 kk
    have hke : k = s.length := by omega
    subst hke
    have e : plc (fun i => decide (i ≤ s.length) && g1 f s a i) = plc (g1 f s a) := plc_ext (fun i hi => by
      by_cases h : i ≤ s.length
      · simp [h]
      · cases i with
        | zero => omega
        | succ i =>
          have : s[i]? = none := List.getElem?_eq_none (by omega)
          simp [g1, this])
    rw [e, gval_lp]
    simp -implicitDefEqProofs [h10, h11]
    exact kk _ (by simp) (by simp)
  | succ m ih =>
    intro k fr hm hk h0 h1 h5 h6 h7 h10 h11 kk
    have hk0 : k < s.length := by omega
    have hlt : (k : Int) < s.length := by omega
    have hlt2 : (k : Int) < 65 := by omega
    have hw2 := wrap_len (a := k) (by omega)
    have hk2 : k + 1 < 65 := by omega
    have hk3 : ((k : Int) + 1) < 65 := by omega
    have hk4 : k + 1 + 1 ≤ 65 := by omega
    have hk5 : (0 : Int) ≤ (k : Int) + 1 := by omega
    have hk6 : ((k : Int) + 1).toNat = k + 1 := by omega
    have hg := partOf_plc (f := a) (i := k) (by omega)
    have hle : k ≤ 65 := by omega
    obtain ⟨c, hc⟩ : ∃ c, s[k]? = some c := ⟨_, List.getElem?_eq_getElem hk0⟩
    have hc' : s[k] = c := by rw [List.getElem?_eq_getElem hk0] at hc; exact Option.some.inj hc
    have hcl := c.toNat_lt
    have hc1 : (c.toNat : Int) < 256 := by omega
    have hc2 : c.toNat ≤ 256 := by omega
    have hgc := partOf_bc (f := f) (i := c.toNat) hcl
    have hp : ∀ v, v = (a k && f c.toNat) → putCells (plc (fun i => decide (i ≤ k) && g1 f s a i)) (k + 1) [.bool v] = plc (fun i => decide (i ≤ k + 1) && g1 f s a i) := by
      intro v hv
      rw [plc_put _ _ hk2]
      exact plc_ext (fun i _ => by
        by_cases h : i = k + 1
        · subst h; simp [hv, g1, hc]
        · have : (i ≤ k + 1) ↔ i ≤ k := by omega
          simp [h, this])
    generalize hB : plc (fun i => decide (i ≤ k) && g1 f s a i) = B at *
    have hBl : B.length = 65 := by rw [← hB]; exact plc_len _
    have ih' := ih (k + 1)
    rw [gval_lp]
    simp -implicitDefEqProofs [h0, h1, h5, h6, h7, h10, h11, hlt, hlt2, hg, hle, hc, hc', hk0, hgc, hc1, hc2, bc_len, pstep, hBl, hk2, hk3, hk4, hk5, hk6, hw2, get_at1, set_at1, plc_len]
    rw [hp _ rfl]
    exact ih' _ (by omega) (by omega) (by simp [h0]) (by simp [h1]) (by simp [h5]) (by simp [h6]) (by simp [h7]) (by simp [h10]) (by simp) (fun fr' q1 q2 => kk fr' (by rw [q1]; simp) (by rw [q2]; simp))

open Classical in
/-- Where what a pattern fits may end, of all that begins at some places. -/
noncomputable def En (x : Nd) (s : List UInt8) (a : Nat → Bool) (j : Nat) : Bool := decide (Rch x s (fun i => a i = true) j)
theorem en_iff {x : Nd} {s : List UInt8} {a : Nat → Bool} {j : Nat} : En x s a j = true ↔ Rch x s (fun i => a i = true) j := by simp [En]
theorem en_ext {x : Nd} {s : List UInt8} {a : Nat → Bool} {g : Nat → Bool} (h : ∀ j, g j = true ↔ Rch x s (fun i => a i = true) j) : g = En x s a := by
  funext j
  rw [Bool.eq_iff_iff, h j, en_iff]
def Supp (s : List UInt8) (a : Nat → Bool) : Prop := ∀ j, a j = true → j ≤ s.length
theorem en_supp {x : Nd} {s : List UInt8} {a : Nat → Bool} : Supp s (En x s a) := fun j h => rch_le (en_iff.1 h)

def EndsOk (x : Nd) (v : PV) : Prop := v.free = true ∧ v.frz = v ∧ ∃ tt u f, v = .iface tt u ∧ T.meth tt 0 = some f ∧ ∀ (s : List UInt8) (a : Nat → Bool) (S : St), s.length ≤ 64 → Supp s a → cval T f [u, .str s, .agg (plc a)] S = some (.agg (plc (En x s a)), S)

theorem one_ends (f : Nat → Bool) : EndsOk (.one f) (.iface 12 (.ref (bc f))) := by
  refine ⟨bc_one f, by simp [PV.frz, frzL_bc], 12, .ref (bc f), 454, rfl, rfl, ?_⟩
  intro s a S hs hsu
  have hE : g1 f s a = En (.one f) s a := en_ext (fun j => by
    rw [rch_one]
    cases j with
    | zero => simp [g1]
    | succ i =>
      constructor
      · intro h
        simp only [g1, Bool.and_eq_true] at h
        cases hc : s[i]? with
        | none => rw [hc] at h; simp at h
        | some c => rw [hc] at h; exact ⟨i, c, rfl, h.1, hc, h.2⟩
      · rintro ⟨i', c, e, h1, h2, h3⟩
        have : i = i' := by omega
        subst this
        simp [g1, h1, h2, h3])
  obtain ⟨o, tips⟩ := S
  refine cval_ok' fn_454 rfl ?_
  have main : ∀ Q : Fr → St → Prop, (∀ fr, fr 6 = .ptr o.length 0 → Q fr ⟨o ++ [plc (g1 f s a), plc (g1 f s a)], tips⟩) → Ok (gval T [.code regex_one_ends.body] (argsFr [.ref (bc f), .str s, .agg (plc a)]) ⟨o, tips⟩) Q := by
    intro Q ends
    simp -implicitDefEqProofs [-List.all_eq_true, regex_one_ends, peval, pstep, all_plc, plc_zero]
    have e0 : plc (fun _ => false) = plc (fun i => decide (i ≤ 0) && g1 f s a i) := plc_ext (fun i _ => by
      cases i with
      | zero => rfl
      | succ i => simp)
    have e1 : (⟨o ++ [plc (fun _ => false), plc (fun _ => false)], tips⟩ : St) = ⟨o ++ [plc (fun _ => false), plc (fun i => decide (i ≤ 0) && g1 f s a i)], tips⟩ := by rw [← e0]
    rw [e1]
    refine one_loop (f := f) (a := a) (s := s) hs _ 0 _ rfl (by omega) (by simp) (by simp) (by simp) (by simp) (by simp) (by simp) (by simp) (fun fr' q1 q2 => ?_)
    have q1' : fr' 6 = .ptr o.length 0 := by rw [q1]; simp
    have q2' : fr' 7 = .ptr (o.length + 1) 0 := by rw [q2]; simp
    simp -implicitDefEqProofs [-List.all_eq_true, q1', q2', pstep, partOf_all, all_plc, put_all, plc_len, get_at0, set_at0]
    exact ends _ (by simp [q1'])
  refine main _ (fun fr h => ?_)
  rw [hE]
  refine ⟨[.agg (plc (En (.one f) s a))], ?_, ?_⟩
  · show resAll fr _ [.cell 6 true 65] = _
    simp only [resAll, resOf, h, get_at0, List.drop_zero, partOf_all]
  · refine (fin_free (S := ⟨o, tips⟩) (S1 := ⟨o ++ [plc (En (.one f) s a), plc (En (.one f) s a)], tips⟩) ⟨[plc (En (.one f) s a), plc (En (.one f) s a)], [], by simp⟩ (by simp [PV.free, freeL_plc])).trans ?_
    simp [PV.frz, frzL_plc]
end Ps
