/- The document's alternatives and right patterns, walked; the law of RegexChecks. -/
import Derived.Test.YtmhigcjhjmcpcaaRxV
namespace Ps
set_option linter.unusedSimpArgs false
set_option linter.unusedVariables false
open Go

theorem take_mid {p : List UInt8} {f a b : Nat} (h1 : f ≤ a) (h2 : a ≤ b) : (p.take b).drop f = (p.take a).drop f ++ (p.drop a).take (b - a) := by
  rw [List.drop_take, List.drop_take, show b - f = (a - f) + (b - a) by omega, List.take_add, List.drop_drop, show f + (a - f) = a by omega]
theorem strs_free (l : List (List UInt8)) : PV.freeL (l.map PV.str) = true := freeL_map _ (fun _ => rfl) l
theorem strs_frz (l : List (List UInt8)) : PV.frzL (l.map PV.str) = l.map PV.str := frzL_map' _ (fun _ => rfl) l
theorem strs_cells (l : List (List UInt8)) : ∀ e ∈ l.map PV.str, e.cells.length = 1 := by
  intro e he
  obtain ⟨x, _, rfl⟩ := List.mem_map.1 he
  rfl

theorem cut_loop {p : List UInt8} (hp : p.length ≤ 1000000) (hr : ∀ q : List UInt8, q.length < p.length → RightOk q) {K : List Kt} {Q : Fr → St → Prop} : ∀ (k : Nat) (w : List UInt8), w.length = k → ∀ (i f : Nat) (alts : List (List UInt8)) (fr : Fr) (S : St), p.drop i = w → i ≤ p.length → f ≤ i → alts.length ≤ i → AccG St0 1 S (fr 4) (alts.map PV.str) →
    fr 0 = .str p → fr 5 = .int .i64 f → fr 6 = .int .i64 i →
    (∀ l, cutF ((p.take i).drop f) w = some l → ∀ fr' S' (f' : Nat) alts', AccG St0 1 S' (fr' 4) (alts'.map PV.str) → fr' 0 = .str p → fr' 5 = .int .i64 f' → f' ≤ p.length → alts'.length ≤ p.length → alts' ++ [p.drop f'] = alts ++ l → Ok (gval T K fr' S') Q) →
    (cutF ((p.take i).drop f) w = none → ∀ fr' S', Grows St0 S' → fr' 2 = .nils → fr' 3 = .bool false → Q fr' S') →
    Ok (gval T (.lp ref07_Cut_l0 :: .blk 0 :: K) fr S) Q := by
  intro k
  induction k using Nat.strongRecOn with
  | _ k ih =>
    intro w hw i f alts fr S hd hi hf hal hacc h0 h5 h6 k1 k2
    rw [gval_lp]
    cases w with
    | nil =>
      have hl := drop_nil hd
      have hlt : ¬ (i : Int) < (p.length : Int) := by omega
      have hil : i = p.length := by omega
      rw [cutF_nil] at k1
      simp -implicitDefEqProofs [h0, h6, hlt]
      refine k1 _ rfl _ S f alts (by simpa using hacc) (by simp [h0]) (by simp [h5]) (by omega) (by omega) ?_
      rw [hil, List.take_length]
    | cons a w0 =>
      obtain ⟨d1, d2, d3⟩ := drop_cons hd
      have hlt : (i : Int) < (p.length : Int) := by omega
      have d2' : p[i] = a := by rw [List.getElem?_eq_getElem d1] at d2; exact Option.some.inj d2
      have hwi := wrap_len (a := i) (by omega)
      have e124 := u8eq a 124
      simp at e124
      have hcut := cutF_cons ((p.take i).drop f) a w0
      by_cases h124 : a = 124
      · rw [if_pos h124] at hcut
        rw [decide_eq_true h124] at e124
        have b1 : bounds p.length p.length (some (.int .i64 (f : Int))) (some (.int .i64 (i : Int))) = some (f, i) := bounds_lh hf (by omega)
        obtain ⟨v', S', a1, a2, a3⟩ := (hacc.arrs [(1, 1)]).app (bytes := 16) [.str ((p.take i).drop f)] (by rw [List.length_map]; simp; omega)
        have a2' : AccG St0 1 S' v' ((alts ++ [(p.take i).drop f]).map PV.str) := by simpa using a2
        simp -implicitDefEqProofs [h0, h5, h6, hlt, d1, d2, d2', e124, b1, pstep, elems, setParts, a1, hwi]
        have hnil : (p.take (i + 1)).drop (i + 1) = [] := by rw [List.drop_take]; simp
        simp only [List.length_cons] at hw
        refine ih w0.length (by omega) w0 rfl (i + 1) (i + 1) (alts ++ [(p.take i).drop f]) _ S' d3 (by omega) (by omega) (by simp; omega) (by simpa using a2') (by simp [h0]) (by simp) (by simp) (fun l hl fr' S2 f' alts' b1 b2 b3 b4 b5 b6 => ?_) (fun hl fr' S2 b1 b2 b3 => ?_)
        · rw [hnil] at hl
          rw [hl] at hcut
          refine k1 _ hcut fr' S2 f' alts' b1 b2 b3 b4 b5 ?_
          rw [b6]; simp
        · rw [hnil] at hl
          rw [hl] at hcut
          exact k2 hcut fr' S2 b1 b2 b3
      · rw [if_neg h124] at hcut
        rw [decide_eq_false h124] at e124
        have hat := ratom_pval hp hr hi
        have hE : atomE p i = match atomW (a :: w0) with | none => 0 | some (_, _, r) => p.length - r.length := by unfold atomE; rw [hd]; rfl
        cases ha : atomW (a :: w0) with
        | none =>
          rw [ha] at hcut hE
          simp only at hcut hE
          rw [hE] at hat
          have hat' : pval T 306 [.str p, .int .i64 i] = some (.int .i64 0) := hat
          simp -implicitDefEqProofs [h0, h5, h6, hlt, d1, d2, d2', e124, hat']
          exact k2 hcut _ S hacc.grows (by simp) (by simp)
        | some q =>
          obtain ⟨x, dd, w1⟩ := q
          rw [ha] at hcut hE
          simp only at hcut hE
          have l1 := atomW_len ha
          have l2 := markF_len x w1
          obtain ⟨u, eu, _⟩ := atomW_loc ha
          have hlw : (a :: w0).length = p.length - i := by rw [← hd, List.length_drop]
          have hd1 : p.drop (p.length - w1.length) = w1 := drop_suf (hd.trans eu) hi
          generalize hj : p.length - w1.length = j at *
          rw [hE] at hat
          have hj0 : ((j : Int) == 0) = false := by
            have : j ≠ 0 := by omega
            simpa using this
          have hwj := wrap_len (a := j) (by omega)
          -- behind the mark
          have tail : ∀ (i' : Nat) (fr' : Fr), p.drop i' = (markF x w1).2 → i ≤ i' → i' ≤ p.length → i' = p.length - (markF x w1).2.length → fr' 0 = .str p → fr' 4 = fr 4 → fr' 5 = .int .i64 f → fr' 6 = .int .i64 i' → Ok (gval T (.lp ref07_Cut_l0 :: .blk 0 :: K) fr' S) Q := by
            intro i' fr' q1 q2 q3 q4 c0 c4 c5 c6
            have hcur : (p.take i).drop f ++ (a :: w0).take ((a :: w0).length - (markF x w1).2.length) = (p.take i').drop f := by
              rw [take_mid hf q2, hd]
              congr 2
              omega
            rw [hcur] at hcut
            refine ih (markF x w1).2.length (by omega) (markF x w1).2 rfl i' f alts fr' S q1 q3 (by omega) (by omega) (by rw [c4]; exact hacc) c0 c5 c6 (fun l hl fr2 S2 f' alts' b1 b2 b3 b4 b5 b6 => ?_) (fun hl fr2 S2 b1 b2 b3 => ?_)
            · rw [hl] at hcut
              exact k1 _ hcut fr2 S2 f' alts' b1 b2 b3 b4 b5 b6
            · rw [hl] at hcut
              exact k2 hcut fr2 S2 b1 b2 b3
          cases w1 with
          | nil =>
            have hjl : j = p.length := by simp only [List.length_nil] at hj; omega
            have hltj : ¬ (j : Int) < (p.length : Int) := by omega
            simp -implicitDefEqProofs [h0, h5, h6, hlt, d1, d2, d2', e124, hat, hj0, hltj]
            exact tail j _ (by rw [hd1]; rfl) (by omega) (by omega) (by simp [markF]; omega) (by simp [h0]) (by simp) (by simp [h5]) (by simp)
          | cons m w3 =>
            obtain ⟨f1, f2, f3⟩ := drop_cons hd1
            have f2' : p[j] = m := by rw [List.getElem?_eq_getElem f1] at f2; exact Option.some.inj f2
            have hltj : (j : Int) < (p.length : Int) := by omega
            have e42 := u8eq m 42
            have e43 := u8eq m 43
            have e63 := u8eq m 63
            simp at e42 e43 e63
            have hmk : markF x (m :: w3) = if m = 42 ∨ m = 43 ∨ m = 63 then (.again x (m != 43) (m != 63), w3) else (x, m :: w3) := rfl
            simp only [List.length_cons] at hj
            have l1' := l1
            have hlw' := hlw
            simp only [List.length_cons] at l1' hlw'
            simp -implicitDefEqProofs [h0, h5, h6, hlt, d1, d2, d2', e124, hat, hj0, hltj, f1, f2, f2', e42, e43, e63]
            refine ok_br (fun hq => ?_) (fun hq => ?_)
            · have hm : m = 42 ∨ m = 43 ∨ m = 63 := by simpa [or_assoc] using hq
              rw [if_pos hm] at hmk
              simp -implicitDefEqProofs [h0, h5, h6, hwj]
              refine tail (j + 1) _ (by rw [hmk]; exact f3) (by omega) (by omega) (by rw [hmk]; simp only; omega) (by simp [h0]) (by simp) (by simp [h5]) (by simp)
            · have hm : ¬ (m = 42 ∨ m = 43 ∨ m = 63) := by
                intro q
                have : (decide (m = 42) || decide (m = 43) || decide (m = 63)) = true := by simpa [or_assoc] using q
                rw [this] at hq; cases hq
              rw [if_neg hm] at hmk
              exact tail j _ (by rw [hmk]; exact hd1) (by omega) (by omega) (by rw [hmk]; simp only [List.length_cons]; omega) (by simp [h0]) (by simp) (by simp [h5]) (by simp)

/-- The alternatives as a value. -/
def altsV : Option (List (List UInt8)) → PV
  | none => .tup [.nils, .bool false]
  | some l => .tup [.sl none (l.map PV.str) [], .bool true]

theorem cut_pval {p : List UInt8} (hp : p.length ≤ 1000000) (hr : ∀ q : List UInt8, q.length < p.length → RightOk q) : pval T 225 [.str p] = some (altsV (cutF [] p)) := by
  have key : cval T 225 [.str p] St0 = some (altsV (cutF [] p), St0) := by
    refine cval_ok' fn_225 rfl ?_
    have main : ∀ Q : Fr → St → Prop, (∀ l, cutF [] p = some l → ∀ fr' S', AccG St0 1 S' (fr' 2) (l.map PV.str) → fr' 2 ≠ .nils → fr' 3 = .bool true → Q fr' S') → (cutF [] p = none → ∀ fr' S', Grows St0 S' → fr' 2 = .nils → fr' 3 = .bool false → Q fr' S') →
        Ok (gval T [.code ref07_Cut.body] (argsFr [.str p]) St0) Q := by
      intro Q e1 e2
      simp -implicitDefEqProofs [ref07_Cut]
      refine cut_loop hp hr p.length p rfl 0 0 [] _ St0 rfl (by omega) (by omega) (by simp) (by simpa using accg_nil 1 (Grows.refl St0)) (by simp) (by simp) (by simp) (fun l hl fr' S' f' alts' b1 b2 b3 b4 b5 b6 => ?_) (fun hl fr' S' b1 b2 b3 => ?_)
      · have bb : bounds p.length p.length (some (.int .i64 (f' : Int))) none = some (f', p.length) := bounds_lo b4
        obtain ⟨v', S2, a1, a2, a3⟩ := (b1.arrs [(1, 1)]).app (bytes := 16) [.str (p.drop f')] (by rw [List.length_map]; simp; omega)
        have a2' : AccG St0 1 S2 v' (l.map PV.str) := by
          have : alts' ++ [p.drop f'] = l := by simpa using b6
          rw [← this]; simpa using a2
        have hne : v' ≠ .nils := fun q => by
          subst q
          rcases a2.acc with ⟨_, e⟩ | ⟨_, _, e, _⟩
          · simp at e
          · cases e
        simp -implicitDefEqProofs [b2, b3, bb, pstep, elems, setParts, a1]
        exact e1 l (by simpa using hl) _ S2 (by simpa using a2') (by simpa using hne) (by simp)
      · exact e2 (by simpa using hl) fr' S' b1 b2 b3
    refine main _ (fun l hl fr' S' ha hne h3 => ?_) (fun hl fr' S' hg h2 h3 => ?_)
    · refine ⟨[fr' 2, fr' 3], rfl, ?_⟩
      show finish false St0 S' (.tup [fr' 2, fr' 3]) = _
      rw [hl, h3]
      rcases ha.acc with ⟨q, _⟩ | ⟨id, _, q, _⟩
      · exact absurd q hne
      · rw [q, fin_free ha.grows (by simp [PV.free, PV.freeL, strs_free])]
        simp [altsV, PV.frz, PV.frzL, strs_frz]
    · refine ⟨[fr' 2, fr' 3], rfl, ?_⟩
      show finish false St0 S' (.tup [fr' 2, fr' 3]) = _
      rw [hl, h2, h3]
      exact fin_free hg rfl
  refine pval_st key ?_ ?_
  · cases cutF [] p with
    | none => rfl
    | some l => simp [altsV, PV.free, PV.freeL, strs_free]
  · cases cutF [] p with
    | none => rfl
    | some l => simp [altsV, PV.frz, PV.frzL, strs_frz]

theorem right_step {p : List UInt8} (hp : p.length ≤ 1000000) (hr : ∀ q : List UInt8, q.length < p.length → RightOk q) : RightOk p := by
  refine pval_st ?_ rfl rfl
  refine cval_ok' fn_223 rfl ?_
  have hc := cut_pval hp hr
  rw [← cut_ok]
  cases h : cutF [] p with
  | none =>
    rw [h] at hc
    simp only [altsV] at hc
    simp -implicitDefEqProofs [ref07_Right, hc]
  | some l =>
    rw [h] at hc
    simp only [altsV] at hc
    simp -implicitDefEqProofs [ref07_Right, hc]
theorem right_all : ∀ (k : Nat) (p : List UInt8), p.length = k → k ≤ 1000000 → RightOk p := by
  intro k
  induction k using Nat.strongRecOn with
  | _ k ih =>
    intro p hp hk
    exact right_step (by omega) (fun q hq => ih q.length (by omega) q rfl (by omega))
theorem right_pval {p : List UInt8} (hp : p.length ≤ 1000000) : pval T 223 [.str p] = some (.bool (okP p)) := right_all p.length p rfl hp

theorem rcheck_pval (p : List UInt8) (hp : p.length ≤ maxLen) : pval T 123 [.str p] = some (.int .i64 (chkP p)) := by
  refine pval_st ?_ rfl rfl
  refine cval_ok' fn_123 rfl ?_
  by_cases h64 : 64 < p.length
  · have h64' : (64 : Int) < (p.length : Int) := by omega
    have hc : chkP p = 3 := by unfold chkP; rw [if_pos h64]
    rw [hc]
    simp -implicitDefEqProofs [ref07_Check, h64']
  · have h64' : ¬ (64 : Int) < (p.length : Int) := by omega
    have hr := right_pval (p := p) (by omega)
    by_cases hk : ∃ x d, patW p = some (x, d, [])
    · rw [okP_iff.2 hk] at hr
      obtain ⟨x, d, hp'⟩ := hk
      have hd := depth_pval (by omega) hp'
      rw [chk_iff hp', if_neg h64]
      by_cases h8 : 8 < d
      · have h8' : (8 : Int) < (d : Int) := by omega
        rw [if_pos h8]
        simp -implicitDefEqProofs [ref07_Check, h64', hr, hd, h8']
      · have h8' : ¬ (8 : Int) < (d : Int) := by omega
        rw [if_neg h8]
        simp -implicitDefEqProofs [ref07_Check, h64', hr, hd, h8']
    · have hkf : okP p = false := by
        cases q : okP p with
        | false => rfl
        | true => exact absurd (okP_iff.1 q) hk
      rw [hkf] at hr
      have hc : chkP p = 14 := by
        unfold chkP; rw [if_neg h64]
        split
        · rename_i x d q; exact absurd ⟨x, d, q⟩ hk
        · rfl
      rw [hc]
      simp -implicitDefEqProofs [ref07_Check, h64', hr]

theorem core_Checks (p : List UInt8) (hp : p.length ≤ maxLen) : cval T 479 [.str p] St0 = some (.bool true, St0) := by
  refine cval_ok' fn_479 rfl ?_
  simp -implicitDefEqProofs [law07_RegexChecks, check_pval, rcheck_pval p hp, lives_pval]
theorem law_RegexChecks (xs : denL [.str]) (h : wfL [.str] xs) : ∃ S', cval T 479 (pvL [.str] xs) St0 = some (.bool true, S') := by
  obtain ⟨p, u⟩ := xs
  obtain ⟨h1, _⟩ := h
  exact ⟨St0, core_Checks p h1⟩
end Ps
