/- Closing parentheses and depth, walked. -/
import Derived.Test.YtmhigcjhjmcpcaaRxS
namespace Ps
set_option linter.unusedSimpArgs false
set_option linter.unusedVariables false
open Go

theorem clsF_nx (w : List UInt8) : clsF w = (if nextB (if nextB w [94] then w.drop 1 else w) [93] then none else match itemsF (if nextB w [94] then w.drop 1 else w) with | none => none | some (g, r) => some (fun i => g i != nextB w [94], r)) := by
  cases w with
  | nil => simp [clsF, nextB, itemsF]
  | cons a w1 =>
    rw [clsF.eq_def]
    simp only
    by_cases ha : a = 94
    · subst ha
      have : nextB (94 :: w1) [94] = true := rfl
      rw [if_pos rfl, this]
      simp only [if_true, List.drop_succ_cons, List.drop_zero]
      cases w1 with
      | nil => simp [nextB, itemsF]
      | cons b w2 =>
        simp only
        by_cases hb : b = 93
        · subst hb; simp [nextB]
        · rw [if_neg hb, if_neg (by simp [nextB, hb])]
          rfl
    · have : nextB (a :: w1) [94] = false := by simp [nextB]; exact ha
      rw [if_neg ha, this]
      simp only [Bool.false_eq_true, if_false]
      by_cases hb : a = 93
      · subst hb; simp [nextB]
      · rw [if_neg hb, if_neg (by simp [nextB, hb])]
        rfl

/-- What the document's class tells. -/
def clsV (p : List UInt8) (at_ : Nat) (c : UInt8) : Nat × Bool := match clsF (p.drop (at_ + 1)) with | none => (0, false) | some (f, r) => (p.length - r.length, f c.toNat)

theorem rclass_val {p : List UInt8} (hp : p.length ≤ 1000000) {at_ : Nat} (hat : at_ < p.length) (c : UInt8) (S : St) : cval T 305 [.str p, .int .i64 at_, .int .u8 c.toNat] S = some (.tup [.int .i64 (clsV p at_ c).1, .bool (clsV p at_ c).2], S) := by
  refine cval_ok' fn_305 rfl ?_
  have hw1 := wrap_len (a := at_) (by omega)
  have main : ∀ Q : Fr → St → Prop, (∀ fr' : Fr, fr' 6 = .int .i64 (clsV p at_ c).1 → fr' 7 = .bool (clsV p at_ c).2 → Q fr' S) → Ok (gval T [.code ref07_class.body] (argsFr [.str p, .int .i64 at_, .int .u8 c.toNat]) S) Q := by
    intro Q ends
    have hcl := clsF_nx (p.drop (at_ + 1))
    generalize hno : nextB (p.drop (at_ + 1)) [94] = no at hcl
    -- from the loop on
    have goal : ∀ (i : Nat) (w1 : List UInt8) (fr : Fr), p.drop i = w1 → i ≤ p.length → w1 = (if no then (p.drop (at_ + 1)).drop 1 else p.drop (at_ + 1)) → fr 0 = .str p → fr 2 = .int .u8 c.toNat → fr 8 = .int .i64 i → fr 9 = .bool no → fr 10 = .bool false → fr 11 = .int .i64 (0 : Nat) →
        Ok (gval T (.lp ref07_class_l0 :: .blk 0 :: [.code (.seq (.seq (.clr [(102, 109)] (.region ref07_class_r18)) (.cond (.tmp 109) (.seq (.region ref07_class_r19) .ret) .skip)) (.seq (.clr [(110, 115)] (.region ref07_class_r20)) .ret))]) fr S) Q := by
      intro i w1 fr hd hi hw h0 h2 h8 h9 h10 h11
      rw [← hw] at hcl
      refine rcls_loop hp w1.length w1 rfl i 0 false fr hd hi (by omega) h0 h2 h8 h10 h11 (fun g r fr' j n' e1 e2 a0 a9 a8 a10 a11 a12 => ?_) (fun e1 fr' j b1 b2 b3 => ?_) (fun e1 fr' b1 b2 => ?_)
      · obtain ⟨d1, d2, d3⟩ := drop_cons e2
        rw [h0] at a0
        rw [h9] at a9
        rw [Bool.false_or] at a10
        have hge : ¬ (p.length : Int) ≤ (j : Int) := by omega
        have hwj := wrap_len (a := j) (by omega)
        by_cases hn : nextB w1 [93] = true
        · rw [if_pos hn] at hcl
          have hn0 : n' = 0 := by
            cases w1 with
            | nil => cases hn
            | cons a w2 =>
              have ha : a = 93 := by simpa [nextB] using hn
              subst ha
              rw [itemsF.eq_def] at e1
              simp only at e1
              rw [if_pos trivial] at e1
              cases e1
              exact a12.2 ⟨rfl, rfl⟩
          subst hn0
          simp -implicitDefEqProofs [a0, a8, a9, a10, a11, hge]
          exact ends _ (by simp [clsV, hcl]) (by simp [clsV, hcl])
        · rw [if_neg hn, e1] at hcl
          have hn' : ((n' : Int) == 0) = false := by
            have : n' ≠ 0 := fun q => by
              obtain ⟨_, q⟩ := a12.1 q
              rw [q] at hn
              exact hn rfl
            simpa using this
          have hend : p.length - r.length = j + 1 := by rw [← d3, List.length_drop]; omega
          simp -implicitDefEqProofs [a0, a8, a9, a10, a11, hge, hn', hwj, eqbP, negIf]
          refine ends _ ?_ ?_
          · simp [clsV, hcl, hend]
          · simp [clsV, hcl]
            cases g c.toNat <;> cases no <;> rfl
      · have hge : (p.length : Int) ≤ (j : Int) := by omega
        rw [h0] at b2
        have hcl' : clsF (p.drop (at_ + 1)) = none := by
          rw [hcl, e1]
          split <;> rfl
        simp -implicitDefEqProofs [b2, b3, hge]
        exact ends _ (by simp [clsV, hcl']) (by simp [clsV, hcl'])
      · have hcl' : clsF (p.drop (at_ + 1)) = none := by
          rw [hcl, e1]
          split <;> rfl
        exact ends _ (by simp [clsV, hcl', b1]) (by simp [clsV, hcl', b2])
    cases hd : p.drop (at_ + 1) with
    | nil =>
      have hl := drop_nil hd
      have hlt : ¬ ((at_ : Int) + 1) < (p.length : Int) := by omega
      rw [hd] at hno
      subst hno
      simp -implicitDefEqProofs [ref07_class, hw1, hlt]
      exact goal (at_ + 1) [] _ hd (by omega) (by simp [nextB, hd]) (by simp) (by simp) (by simp) (by simp [nextB]) (by simp) (by simp)
    | cons a w1 =>
      obtain ⟨d1, d2, d3⟩ := drop_cons hd
      have hlt : ((at_ : Int) + 1) < (p.length : Int) := by omega
      have d2' : p[at_ + 1] = a := by rw [List.getElem?_eq_getElem d1] at d2; exact Option.some.inj d2
      have hge : (0 : Int) ≤ (at_ : Int) + 1 := by omega
      have htn : ((at_ : Int) + 1).toNat = at_ + 1 := by omega
      have eq94 := u8eq a 94
      simp at eq94
      have hw2 : IntKind.i64.wrap ((at_ : Int) + 1 + 1) = (at_ : Int) + 1 + 1 := wrap_i64 (by omega) (by omega)
      by_cases ha : a = 94
      · have hq : ((a.toNat : Int) == 94) = true := by rw [eq94, ha]; rfl
        have hno1 : no = true := by rw [← hno, hd, ha]; rfl
        subst hno1
        simp -implicitDefEqProofs [ref07_class, hw1, hlt, d1, d2, d2', hge, htn, hq, hw2]
        exact goal (at_ + 1 + 1) w1 _ d3 (by omega) (by simp [hd]) (by simp) (by simp) (by simp) (by simp) (by simp) (by simp)
      · have hq : ((a.toNat : Int) == 94) = false := by rw [eq94]; simp [ha]
        have hno1 : no = false := by rw [← hno, hd]; simp [nextB]; exact ha
        subst hno1
        simp -implicitDefEqProofs [ref07_class, hw1, hlt, d1, d2, d2', hge, htn, hq]
        exact goal (at_ + 1) (a :: w1) _ hd (by omega) (by simp [hd]) (by simp) (by simp) (by simp) (by simp) (by simp) (by simp)
  refine main _ (fun fr' h6 h7 => ?_)
  refine ⟨[fr' 6, fr' 7], rfl, ?_⟩
  show finish false S S (.tup [fr' 6, fr' 7]) = _
  rw [h6, h7]
  exact fin_free (Grows.refl S) rfl
theorem rclass_pval {p : List UInt8} (hp : p.length ≤ 1000000) {at_ : Nat} (hat : at_ < p.length) (c : UInt8) : pval T 305 [.str p, .int .i64 at_, .int .u8 c.toNat] = some (.tup [.int .i64 (clsV p at_ c).1, .bool (clsV p at_ c).2]) := pval_st (rclass_val hp hat c St0) rfl rfl

theorem fn_224 : T.fn 224 = some (.code ref07_Depth) := rfl

/-- Where a part of a text begins that is left of it; -1: nowhere. -/
def posI (p : List UInt8) : Option (List UInt8) → Int
  | none => -1
  | some r => (p.length : Int) - r.length

theorem drop_suf {p u r : List UInt8} {k : Nat} (h : p.drop k = u ++ r) (hk : k ≤ p.length) : p.drop (p.length - r.length) = r := by
  have hl : p.length - k = u.length + r.length := by
    have := congrArg List.length h
    simpa using this
  have : p.length - r.length = k + u.length := by omega
  rw [this, ← List.drop_drop, h, List.drop_left]

theorem clo_loop {p : List UInt8} (hp : p.length ≤ 1000000) {K : List Kt} {Q : Fr → St → Prop} {S : St} : ∀ (k : Nat) (w : List UInt8), w.length = k → ∀ (i : Nat) (o : Int) (fr : Fr), p.drop i = w → i ≤ p.length + 1 → -2000000 ≤ o - w.length → o + w.length ≤ 2000000 →
    fr 0 = .str p → fr 5 = .int .i64 o → fr 6 = .int .i64 i →
    (∀ fr', fr' 4 = .int .i64 (posI p (cloF o w)) → Q fr' S) →
    (cloF o w = none → ∀ fr', Ok (gval T K fr' S) Q) →
    Ok (gval T (.lp ref07_closing_l0 :: .blk 0 :: K) fr S) Q := by
  intro k
  induction k using Nat.strongRecOn with
  | _ k ih =>
    intro w hw i o fr hd hi ho1 ho2 h0 h5 h6 k1 k2
    rw [gval_lp]
    cases w with
    | nil =>
      have hl := drop_nil hd
      have hlt : ¬ (i : Int) < (p.length : Int) := by omega
      simp -implicitDefEqProofs [h0, h6, hlt]
      exact k2 (cloF_nil o) _
    | cons a w1 =>
      obtain ⟨d1, d2, d3⟩ := drop_cons hd
      have hlt : (i : Int) < (p.length : Int) := by omega
      have d2' : p[i] = a := by rw [List.getElem?_eq_getElem d1] at d2; exact Option.some.inj d2
      have hwi := wrap_len (a := i) (by omega)
      have hwi2 : IntKind.i64.wrap ((i : Int) + 1 + 1) = (i : Int) + 1 + 1 := wrap_i64 (by omega) (by omega)
      have hclo := cloF_cons o a w1
      have e92 := u8eq a 92
      have e91 := u8eq a 91
      have e40 := u8eq a 40
      have e41 := u8eq a 41
      simp at e92 e91 e40 e41
      simp only [List.length_cons] at hw ho1 ho2
      by_cases h92 : a = 92
      · rw [if_pos h92] at hclo
        rw [decide_eq_true h92] at e92
        rw [hclo] at k1 k2
        simp -implicitDefEqProofs [h0, h5, h6, hlt, d1, d2, d2', e92, hwi, hwi2]
        have hdd : p.drop (i + 1 + 1) = w1.drop 1 := by rw [← d3, List.drop_drop]
        exact ih (w1.drop 1).length (by rw [List.length_drop]; omega) (w1.drop 1) rfl (i + 1 + 1) o _ hdd (by omega) (by rw [List.length_drop]; omega) (by rw [List.length_drop]; omega) (by simp [h0]) (by simp [h5]) (by simp) k1 k2
      rw [if_neg h92] at hclo
      rw [decide_eq_false h92] at e92
      by_cases h91 : a = 91
      · rw [if_pos h91] at hclo
        rw [decide_eq_true h91] at e91
        have hc := rclass_pval hp d1 0
        have hc' : pval T 305 [.str p, .int .i64 i, .int .u8 0] = some (.tup [.int .i64 (clsV p i 0).1, .bool (clsV p i 0).2]) := hc
        have hcv : clsV p i 0 = match clsF w1 with | none => (0, false) | some (f, r) => (p.length - r.length, f 0) := by unfold clsV; rw [d3]; rfl
        cases hcl : clsF w1 with
        | none =>
          rw [hcl] at hclo hcv
          simp only at hclo hcv
          rw [hcv] at hc'
          simp only at hc'
          rw [hclo] at k1
          simp -implicitDefEqProofs [h0, h5, h6, hlt, d1, d2, d2', e92, e91, hc']
          exact k1 _ (by simp [posI])
        | some q =>
          obtain ⟨f, r⟩ := q
          rw [hcl] at hclo hcv
          simp only at hclo hcv
          rw [hcv] at hc'
          simp only at hc'
          rw [hclo] at k1 k2
          have hlr := clsF_len hcl
          have hlw : w1.length = p.length - (i + 1) := by rw [← d3, List.length_drop]
          have hdr : p.drop (p.length - r.length) = r := by
            obtain ⟨u, eu, _⟩ := clsF_loc hcl
            exact drop_suf (d3.trans eu) (by omega)
          generalize hj : p.length - r.length = j at *
          have hne : ((j : Int) == 0) = false := by
            have : j ≠ 0 := by omega
            simpa using this
          have hwj : IntKind.i64.wrap ((j : Int) - 1) = (j : Int) - 1 := wrap_i64 (by omega) (by omega)
          have hwj2 : IntKind.i64.wrap ((j : Int) - 1 + 1) = (j : Int) := by rw [Int.sub_add_cancel]; exact wrap_i64 (by omega) (by omega)
          have hwj3 : IntKind.i64.wrap (j : Int) = (j : Int) := wrap_i64 (by omega) (by omega)
          simp -implicitDefEqProofs [h0, h5, h6, hlt, d1, d2, d2', e92, e91, hc', hne, hwj, hwj2, hwj3]
          exact ih r.length (by omega) r rfl j o _ hdr (by omega) (by omega) (by omega) (by simp [h0]) (by simp [h5]) (by simp [hwj3]) k1 k2
      rw [if_neg h91] at hclo
      rw [decide_eq_false h91] at e91
      by_cases h40 : a = 40
      · rw [if_pos h40] at hclo
        rw [decide_eq_true h40] at e40
        rw [hclo] at k1 k2
        have hwo : IntKind.i64.wrap (o + 1) = o + 1 := wrap_i64 (by omega) (by omega)
        simp -implicitDefEqProofs [h0, h5, h6, hlt, d1, d2, d2', e92, e91, e40, hwi, hwo]
        exact ih w1.length (by omega) w1 rfl (i + 1) (o + 1) _ d3 (by omega) (by omega) (by omega) (by simp [h0]) (by simp) (by simp) k1 k2
      rw [if_neg h40] at hclo
      rw [decide_eq_false h40] at e40
      by_cases h41 : a = 41
      · rw [if_pos h41] at hclo
        rw [decide_eq_true h41] at e41
        have hwo : IntKind.i64.wrap (o - 1) = o - 1 := wrap_i64 (by omega) (by omega)
        by_cases hz : o - 1 = 0
        · rw [if_pos hz] at hclo
          rw [hclo] at k1
          have hz' : (o - 1 == 0) = true := by simpa using hz
          simp -implicitDefEqProofs [h0, h5, h6, hlt, d1, d2, d2', e92, e91, e40, e41, hwi, hwo, hz']
          refine k1 _ ?_
          have hlw : w1.length = p.length - (i + 1) := by rw [← d3, List.length_drop]
          simp [posI]
          omega
        · rw [if_neg hz] at hclo
          rw [hclo] at k1 k2
          have hz' : (o - 1 == 0) = false := by simpa using hz
          simp -implicitDefEqProofs [h0, h5, h6, hlt, d1, d2, d2', e92, e91, e40, e41, hwi, hwo, hz']
          exact ih w1.length (by omega) w1 rfl (i + 1) (o - 1) _ d3 (by omega) (by omega) (by omega) (by simp [h0]) (by simp) (by simp) k1 k2
      rw [if_neg h41] at hclo
      rw [decide_eq_false h41] at e41
      rw [hclo] at k1 k2
      simp -implicitDefEqProofs [h0, h5, h6, hlt, d1, d2, d2', e92, e91, e40, e41, hwi]
      exact ih w1.length (by omega) w1 rfl (i + 1) o _ d3 (by omega) (by omega) (by omega) (by simp [h0]) (by simp [h5]) (by simp) k1 k2

theorem closing_pval {p : List UInt8} (hp : p.length ≤ 1000000) {i : Nat} (hi : i ≤ p.length) : pval T 357 [.str p, .int .i64 i] = some (.int .i64 (posI p (cloF 0 (p.drop i)))) := by
  refine pval_st ?_ rfl rfl
  refine cval_ok' fn_357 rfl ?_
  have hl : (p.drop i).length = p.length - i := List.length_drop
  simp -implicitDefEqProofs [ref07_closing]
  refine clo_loop hp _ (p.drop i) rfl i 0 _ rfl (by omega) (by omega) (by omega) (by simp) (by simp) (by simp) (fun fr' h => ?_) (fun h fr' => ?_)
  · rw [ends1, h]
    exact fin_gi (Grows.refl St0)
  · rw [h]
    simp [posI]

/-- How deep. -/
theorem dep_loop {p : List UInt8} (hp : p.length ≤ 1000000) {K : List Kt} {Q : Fr → St → Prop} {S : St} {res : Int} : ∀ (k : Nat) (w : List UInt8), w.length = k → ∀ (i : Nat) (o m : Int) (fr : Fr), p.drop i = w → i ≤ p.length + 1 → -2000000 ≤ o - w.length → o + w.length ≤ 2000000 → depF o m w = some res →
    fr 0 = .str p → fr 3 = .int .i64 o → fr 4 = .int .i64 m → fr 5 = .int .i64 i →
    (∀ fr', fr' 4 = .int .i64 res → Ok (gval T K fr' S) Q) →
    Ok (gval T (.lp ref07_Depth_l0 :: .blk 0 :: K) fr S) Q := by
  intro k
  induction k using Nat.strongRecOn with
  | _ k ih =>
    intro w hw i o m fr hd hi ho1 ho2 hr h0 h3 h4 h5 k1
    rw [gval_lp]
    cases w with
    | nil =>
      have hl := drop_nil hd
      have hlt : ¬ (i : Int) < (p.length : Int) := by omega
      rw [depF_nil] at hr
      cases hr
      simp -implicitDefEqProofs [h0, h5, hlt]
      exact k1 _ (by simp [h4])
    | cons a w1 =>
      obtain ⟨d1, d2, d3⟩ := drop_cons hd
      have hlt : (i : Int) < (p.length : Int) := by omega
      have d2' : p[i] = a := by rw [List.getElem?_eq_getElem d1] at d2; exact Option.some.inj d2
      have hwi := wrap_len (a := i) (by omega)
      have hwi2 : IntKind.i64.wrap ((i : Int) + 1 + 1) = (i : Int) + 1 + 1 := wrap_i64 (by omega) (by omega)
      rw [depF_cons] at hr
      have e92 := u8eq a 92
      have e91 := u8eq a 91
      have e40 := u8eq a 40
      have e41 := u8eq a 41
      simp at e92 e91 e40 e41
      simp only [List.length_cons] at hw ho1 ho2
      by_cases h92 : a = 92
      · rw [if_pos h92] at hr
        rw [decide_eq_true h92] at e92
        simp -implicitDefEqProofs [h0, h3, h4, h5, hlt, d1, d2, d2', e92, hwi, hwi2]
        have hdd : p.drop (i + 1 + 1) = w1.drop 1 := by rw [← d3, List.drop_drop]
        exact ih (w1.drop 1).length (by rw [List.length_drop]; omega) (w1.drop 1) rfl (i + 1 + 1) o m _ hdd (by omega) (by rw [List.length_drop]; omega) (by rw [List.length_drop]; omega) hr (by simp [h0]) (by simp [h3]) (by simp [h4]) (by simp) k1
      rw [if_neg h92] at hr
      rw [decide_eq_false h92] at e92
      by_cases h91 : a = 91
      · rw [if_pos h91] at hr
        rw [decide_eq_true h91] at e91
        have hc := rclass_pval hp d1 0
        have hc' : pval T 305 [.str p, .int .i64 i, .int .u8 0] = some (.tup [.int .i64 (clsV p i 0).1, .bool (clsV p i 0).2]) := hc
        have hcv : clsV p i 0 = match clsF w1 with | none => (0, false) | some (f, r) => (p.length - r.length, f 0) := by unfold clsV; rw [d3]; rfl
        cases hcl : clsF w1 with
        | none => rw [hcl] at hr; cases hr
        | some q =>
          obtain ⟨f, r⟩ := q
          rw [hcl] at hr hcv
          simp only at hr hcv
          rw [hcv] at hc'
          simp only at hc'
          have hlr := clsF_len hcl
          have hlw : w1.length = p.length - (i + 1) := by rw [← d3, List.length_drop]
          have hdr : p.drop (p.length - r.length) = r := by
            obtain ⟨u, eu, _⟩ := clsF_loc hcl
            exact drop_suf (d3.trans eu) (by omega)
          generalize hj : p.length - r.length = j at *
          have hwj : IntKind.i64.wrap ((j : Int) - 1) = (j : Int) - 1 := wrap_i64 (by omega) (by omega)
          have hwj3 : IntKind.i64.wrap (j : Int) = (j : Int) := wrap_i64 (by omega) (by omega)
          simp -implicitDefEqProofs [h0, h3, h4, h5, hlt, d1, d2, d2', e92, e91, hc', hwj, hwj3]
          exact ih r.length (by omega) r rfl j o m _ hdr (by omega) (by omega) (by omega) hr (by simp [h0]) (by simp [h3]) (by simp [h4]) (by simp [hwj3]) k1
      rw [if_neg h91] at hr
      rw [decide_eq_false h91] at e91
      by_cases h40 : a = 40
      · rw [if_pos h40] at hr
        rw [decide_eq_true h40] at e40
        have hwo : IntKind.i64.wrap (o + 1) = o + 1 := wrap_i64 (by omega) (by omega)
        have hmx : (if m < o + 1 then o + 1 else m) = max m (o + 1) := by split <;> omega
        simp -implicitDefEqProofs [h0, h3, h4, h5, hlt, d1, d2, d2', e92, e91, e40, hwi, hwo, hmx]
        exact ih w1.length (by omega) w1 rfl (i + 1) (o + 1) (max m (o + 1)) _ d3 (by omega) (by omega) (by omega) hr (by simp [h0]) (by simp) (by simp) (by simp) k1
      rw [if_neg h40] at hr
      rw [decide_eq_false h40] at e40
      by_cases h41 : a = 41
      · rw [if_pos h41] at hr
        rw [decide_eq_true h41] at e41
        have hwo : IntKind.i64.wrap (o - 1) = o - 1 := wrap_i64 (by omega) (by omega)
        simp -implicitDefEqProofs [h0, h3, h4, h5, hlt, d1, d2, d2', e92, e91, e40, e41, hwi, hwo]
        exact ih w1.length (by omega) w1 rfl (i + 1) (o - 1) m _ d3 (by omega) (by omega) (by omega) hr (by simp [h0]) (by simp) (by simp [h4]) (by simp) k1
      rw [if_neg h41] at hr
      rw [decide_eq_false h41] at e41
      simp -implicitDefEqProofs [h0, h3, h4, h5, hlt, d1, d2, d2', e92, e91, e40, e41, hwi]
      exact ih w1.length (by omega) w1 rfl (i + 1) o m _ d3 (by omega) (by omega) (by omega) hr (by simp [h0]) (by simp [h3]) (by simp [h4]) (by simp) k1

theorem depth_pval {p : List UInt8} (hp : p.length ≤ 1000000) {x : Nd} {d : Nat} (h : patW p = some (x, d, [])) : pval T 224 [.str p] = some (.int .i64 d) := by
  refine pval_st ?_ rfl rfl
  refine cval_ok' fn_224 rfl ?_
  simp -implicitDefEqProofs [ref07_Depth]
  refine dep_loop hp (res := d) _ p rfl 0 0 0 _ rfl (by omega) (by omega) (by omega) (dep_ok h) (by simp) (by simp) (by simp) (by simp) (fun fr' h => ?_)
  simp [h]
end Ps
