/- The document's atoms, alternatives, right patterns: walked; the law of RegexChecks. -/
import Derived.Test.YtmhigcjhjmcpcaaRxU
namespace Ps
set_option linter.unusedSimpArgs false
set_option linter.unusedVariables false
open Go

theorem fn_306 : T.fn 306 = some (.code ref07_atom) := rfl
theorem fn_225 : T.fn 225 = some (.code ref07_Cut) := rfl
theorem fn_223 : T.fn 223 = some (.code ref07_Right) := rfl
theorem fn_123 : T.fn 123 = some (.code ref07_Check) := rfl
theorem fn_479 : T.fn 479 = some (.code law07_RegexChecks) := rfl

/-- Where an atom ends; 0: there is none. -/
def atomE (p : List UInt8) (i : Nat) : Nat := match atomW (p.drop i) with | none => 0 | some (_, _, r) => p.length - r.length

def RightOk (q : List UInt8) : Prop := pval T 223 [.str q] = some (.bool (okP q))

theorem ratom_pval {p : List UInt8} (hp : p.length ≤ 1000000) (hr : ∀ q : List UInt8, q.length < p.length → RightOk q) {i : Nat} (hi : i ≤ p.length) : pval T 306 [.str p, .int .i64 i] = some (.int .i64 (atomE p i)) := by
  refine pval_st ?_ rfl rfl
  refine cval_ok' fn_306 rfl ?_
  cases hd : p.drop i with
  | nil =>
    have hl := drop_nil hd
    have hge : (p.length : Int) ≤ (i : Int) := by omega
    have hE : atomE p i = 0 := by unfold atomE; rw [hd, atomW_eq]
    rw [hE]
    simp -implicitDefEqProofs [ref07_atom, hge]
  | cons a w0 =>
    obtain ⟨d1, d2, d3⟩ := drop_cons hd
    have hge : ¬ (p.length : Int) ≤ (i : Int) := by omega
    have d2' : p[i] = a := by rw [List.getElem?_eq_getElem d1] at d2; exact Option.some.inj d2
    have hw1 := wrap_len (a := i) (by omega)
    have hwi2 : IntKind.i64.wrap ((i : Int) + 2) = (i : Int) + 2 := wrap_i64 (by omega) (by omega)
    have hlw : w0.length = p.length - (i + 1) := by rw [← d3, List.length_drop]
    have hA := atomW_eq (a :: w0)
    simp only at hA
    have e46 := u8eq a 46
    have e92 := u8eq a 92
    have e91 := u8eq a 91
    have e40 := u8eq a 40
    simp at e46 e92 e91 e40
    by_cases h1 : plainB a = true
    · rw [if_pos h1] at hA
      have hE : atomE p i = i + 1 := by unfold atomE; rw [hd, hA]; simp only; omega
      rw [hE]
      cases q46 : decide (a = 46) <;> (rw [q46] at e46; simp -implicitDefEqProofs [ref07_atom, hge, d1, d2, d2', hw1, e46, h1, rplain_pval, rplain_purV])
    rw [if_neg h1] at hA
    have h1' : plainB a = false := by simpa using h1
    by_cases h2 : a = 46
    · rw [if_pos h2] at hA
      rw [decide_eq_true h2] at e46
      have hE : atomE p i = i + 1 := by unfold atomE; rw [hd, hA]; simp only; omega
      rw [hE]
      simp -implicitDefEqProofs [ref07_atom, hge, d1, d2, d2', hw1, e46, h1', rplain_pval, rplain_purV]
    rw [if_neg h2] at hA
    rw [decide_eq_false h2] at e46
    by_cases h3 : a = 92
    · rw [if_pos h3] at hA
      rw [decide_eq_true h3] at e92
      have e91' : ((a.toNat : Int) == 91) = false := by rw [e91, h3]; rfl
      have e40' : ((a.toNat : Int) == 40) = false := by rw [e40, h3]; rfl
      cases w0 with
      | nil =>
        simp only at hA
        have hl2 := drop_nil d3
        have hlt2 : ¬ ((i : Int) + 1) < (p.length : Int) := by omega
        have hE : atomE p i = 0 := by unfold atomE; rw [hd, hA]
        rw [hE]
        simp -implicitDefEqProofs [ref07_atom, hge, d1, d2, d2', hw1, e46, h1', e92, e91', e40', hlt2, rplain_pval, rplain_purV]
      | cons d w1 =>
        simp only at hA
        obtain ⟨f1, f2, f3⟩ := drop_cons d3
        have f2' : p[i + 1] = d := by rw [List.getElem?_eq_getElem f1] at f2; exact Option.some.inj f2
        have hlt2 : ((i : Int) + 1) < (p.length : Int) := by omega
        have hge0 : (0 : Int) ≤ (i : Int) + 1 := by omega
        have htn : ((i : Int) + 1).toNat = i + 1 := by omega
        have hlw1 : w1.length = p.length - (i + 1 + 1) := by rw [← f3, List.length_drop]
        cases h4 : plainB d with
        | true =>
          rw [if_pos h4] at hA
          have hE : atomE p i = 0 := by unfold atomE; rw [hd, hA]
          rw [hE]
          simp -implicitDefEqProofs [ref07_atom, hge, d1, d2, d2', f1, f2, f2', hw1, e46, h1', h4, e92, e91', e40', hlt2, hge0, htn, rplain_pval, rplain_purV]
        | false =>
          rw [if_neg (by simp [h4])] at hA
          have hE : atomE p i = i + 2 := by unfold atomE; rw [hd, hA]; simp only; omega
          rw [hE]
          simp -implicitDefEqProofs [ref07_atom, hge, d1, d2, d2', f1, f2, f2', hw1, hwi2, e46, h1', h4, e92, hlt2, hge0, htn, rplain_pval, rplain_purV]
    rw [if_neg h3] at hA
    rw [decide_eq_false h3] at e92
    by_cases h4 : a = 91
    · rw [if_pos h4] at hA
      rw [decide_eq_true h4] at e91
      have hc := rclass_pval hp d1 0
      have hc' : pval T 305 [.str p, .int .i64 i, .int .u8 0] = some (.tup [.int .i64 (clsV p i 0).1, .bool (clsV p i 0).2]) := hc
      have hE : atomE p i = (clsV p i 0).1 := by
        unfold atomE clsV
        rw [hd, hA, d3]
        cases clsF w0 with
        | none => rfl
        | some q => rfl
      rw [hE]
      simp -implicitDefEqProofs [ref07_atom, hge, d1, d2, d2', hw1, e46, h1', e92, e91, hc', rplain_pval, rplain_purV]
    rw [if_neg h4] at hA
    rw [decide_eq_false h4] at e91
    by_cases h5 : a = 40
    · rw [if_pos h5] at hA
      rw [decide_eq_true h5] at e40
      have hcl := closing_pval hp hi
      have hco : cloF 0 (p.drop i) = cloF 1 w0 := by
        rw [hd, h5, cloF_cons, if_neg (by decide), if_neg (by decide), if_pos rfl]; rfl
      rw [hco] at hcl
      have hps := paren_same w0
      have hmap : atomW (a :: w0) = none ∧ (match patW w0 with | none => none | some (p, d, w1) => match w1 with | [] => none | e :: w2 => if e = 41 then some w2 else none) = (none : Option (List UInt8)) ∨
          ∃ x d r, atomW (a :: w0) = some (x, d, r) ∧ (match patW w0 with | none => none | some (p, d, w1) => match w1 with | [] => none | e :: w2 => if e = 41 then some w2 else none) = some r := by
        cases hpw : patW w0 with
        | none => rw [hpw] at hA; exact .inl ⟨hA, rfl⟩
        | some q =>
          obtain ⟨x, d, w1⟩ := q
          rw [hpw] at hA
          simp only at hA ⊢
          cases w1 with
          | nil => exact .inl ⟨hA, rfl⟩
          | cons e w2 =>
            simp only at hA ⊢
            by_cases he : e = 41
            · rw [if_pos he] at hA ⊢; exact .inr ⟨_, _, _, hA, rfl⟩
            · rw [if_neg he] at hA ⊢; exact .inl ⟨hA, rfl⟩
      cases hcr : cloF 1 w0 with
      | none =>
        rw [hcr] at hcl hps
        simp only at hps
        have hE : atomE p i = 0 := by
          unfold atomE
          rw [hd]
          rcases hmap with ⟨q1, _⟩ | ⟨_, _, _, _, q2⟩
          · rw [q1]
          · have hh := hps.trans q2; cases hh
        rw [hE]
        have hcl' : pval T 357 [.str p, .int .i64 i] = some (.int .i64 (-1)) := hcl
        simp -implicitDefEqProofs [ref07_atom, hge, d1, d2, d2', hw1, e46, h1', e92, e91, e40, hcl', rplain_pval, rplain_purV]
      | some r =>
        rw [hcr] at hcl hps
        simp only at hps
        obtain ⟨u, r2, eu, er⟩ := cloF_suf _ 1 w0 (Nat.le_refl _) hcr
        have hrl : r.length ≤ w0.length := by rw [eu]; simp
        have hrl1 : 1 ≤ r.length := by rw [er]; simp
        generalize he : p.length - r.length = e
        have hpe : posI p (some r) = (e : Int) := by simp only [posI]; omega
        rw [hpe] at hcl
        have hneg : ¬ (e : Int) < 0 := by omega
        have b1 : bounds p.length p.length (some (.int .i64 ((i : Int) + 1))) (some (.int .i64 (e : Int))) = some (i + 1, e) := bounds_lh (lo := i + 1) (by omega) (by omega)
        have hsub : (p.take e).drop (i + 1) = w0.take (w0.length - r.length) := by
          rw [List.drop_take, d3]
          congr 1
          omega
        have hRt := hr (w0.take (w0.length - r.length)) (by rw [List.length_take]; omega)
        unfold RightOk at hRt
        have hRt2 : purV T 223 [.str (w0.take (w0.length - r.length))] = some (.bool (okP (w0.take (w0.length - r.length)))) := (purV_free rfl).trans hRt
        have hwe := wrap_len (a := e) (by omega)
        cases hk : okP (w0.take (w0.length - r.length)) with
        | false =>
          rw [hk] at hps hRt hRt2
          simp only [Bool.false_eq_true, if_false] at hps
          have hE : atomE p i = 0 := by
            unfold atomE
            rw [hd]
            rcases hmap with ⟨q1, _⟩ | ⟨_, _, _, _, q2⟩
            · rw [q1]
            · have hh := hps.trans q2; cases hh
          rw [hE]
          simp -implicitDefEqProofs [ref07_atom, hge, d1, d2, d2', hw1, e46, h1', e92, e91, e40, hcl, hneg, b1, hsub, hRt, hRt2, rplain_pval, rplain_purV]
        | true =>
          rw [hk] at hps hRt hRt2
          simp only [if_true] at hps
          have hE : atomE p i = e + 1 := by
            unfold atomE
            rw [hd]
            rcases hmap with ⟨_, q2⟩ | ⟨x, d, r', q1, q2⟩
            · have hh := hps.trans q2; cases hh
            · have hh := hps.trans q2
              cases hh
              rw [q1]
              simp only [List.length_drop]
              omega
          rw [hE]
          simp -implicitDefEqProofs [ref07_atom, hge, d1, d2, d2', hw1, e46, h1', e92, e91, e40, hcl, hneg, b1, hsub, hRt, hRt2, hwe, rplain_pval, rplain_purV]
    · rw [if_neg h5] at hA
      rw [decide_eq_false h5] at e40
      have hE : atomE p i = 0 := by unfold atomE; rw [hd, hA]
      rw [hE]
      simp -implicitDefEqProofs [ref07_atom, hge, d1, d2, d2', hw1, e46, h1', e92, e91, e40, rplain_pval, rplain_purV]
end Ps
