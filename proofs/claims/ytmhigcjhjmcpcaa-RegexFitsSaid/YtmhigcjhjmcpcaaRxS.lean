/- The document's reading of patterns, walked: classes, closing. -/
import Derived.Test.YtmhigcjhjmcpcaaRxR
namespace Ps
set_option linter.unusedSimpArgs false
set_option linter.unusedVariables false
open Go

theorem fn_305 : T.fn 305 = some (.code ref07_class) := rfl
theorem fn_357 : T.fn 357 = some (.code ref07_closing) := rfl
theorem drop_cons {p w : List UInt8} {i : Nat} {a : UInt8} (h : p.drop i = a :: w) : i < p.length ∧ p[i]? = some a ∧ p.drop (i + 1) = w := by
  have hi : i < p.length := by
    rcases Nat.lt_or_ge i p.length with h1 | h1
    · exact h1
    · rw [List.drop_eq_nil_of_le h1] at h; cases h
  have e := List.drop_eq_getElem_cons hi
  rw [h] at e
  obtain ⟨e1, e2⟩ := List.cons.inj e
  exact ⟨hi, by rw [List.getElem?_eq_getElem hi, e1], e2.symm⟩
theorem drop_nil {p : List UInt8} {i : Nat} (h : p.drop i = []) : p.length ≤ i := List.drop_eq_nil_iff.1 h
theorem u8eq (a b : UInt8) : ((a.toNat : Int) == (b.toNat : Int)) = decide (a = b) := by
  by_cases h : a = b
  · subst h; simp
  · have : a.toNat ≠ b.toNat := fun q => h (UInt8.toNat_inj.1 q)
    simp [h]; omega
theorem u8ne (a b : UInt8) : ((a.toNat : Int) != (b.toNat : Int)) = !decide (a = b) := by rw [bne, u8eq]
theorem u8lt (a b : UInt8) : decide ((a.toNat : Int) < (b.toNat : Int)) = decide (a < b) := by
  have : ((a.toNat : Int) < (b.toNat : Int)) ↔ a < b := by rw [UInt8.lt_iff_toNat_lt]; omega
  simp only [this]

theorem rcls_loop {p : List UInt8} (hp : p.length ≤ 1000000) {c : UInt8} {K : List Kt} {Q : Fr → St → Prop} {S : St} : ∀ (k : Nat) (w : List UInt8), w.length = k → ∀ (i n : Nat) (has : Bool) (fr : Fr), p.drop i = w → i ≤ p.length → n ≤ i →
    fr 0 = .str p → fr 2 = .int .u8 c.toNat → fr 8 = .int .i64 i → fr 10 = .bool has → fr 11 = .int .i64 n →
    (∀ g r fr' (j n' : Nat), itemsF w = some (g, r) → p.drop j = 93 :: r → fr' 0 = fr 0 → fr' 9 = fr 9 → fr' 8 = .int .i64 j → fr' 10 = .bool (has || g c.toNat) → fr' 11 = .int .i64 n' → (n' = 0 ↔ n = 0 ∧ w = 93 :: r) → Ok (gval T K fr' S) Q) →
    (itemsF w = none → ∀ fr' (j : Nat), p.length ≤ j → fr' 0 = fr 0 → fr' 8 = .int .i64 j → Ok (gval T K fr' S) Q) →
    (itemsF w = none → ∀ fr', fr' 6 = .int .i64 0 → fr' 7 = .bool false → Q fr' S) →
    Ok (gval T (.lp ref07_class_l0 :: .blk 0 :: K) fr S) Q := by
  intro k
  induction k using Nat.strongRecOn with
  | _ k ih =>
    intro w hw i n has fr hd hi hn h0 h2 h8 h10 h11 k1 k2 k3
    rw [gval_lp]
    cases w with
    | nil =>
      have hl := drop_nil hd
      have hlt : ¬ (i : Int) < (p.length : Int) := by omega
      simp -implicitDefEqProofs [h0, h8, hlt]
      exact k2 (by simp [itemsF]) _ i hl (by simp) (by simp [h8])
    | cons a w1 =>
      obtain ⟨d1, d2, d3⟩ := drop_cons hd
      have hlt : (i : Int) < (p.length : Int) := by omega
      have d2' : p[i] = a := by rw [List.getElem?_eq_getElem d1] at d2; exact Option.some.inj d2
      have ne93 := u8ne a 93
      simp at ne93
      by_cases h93 : a = 93
      · rw [h93] at hd
        have h93' : ((a.toNat : Int) != 93) = false := by rw [ne93, h93]; rfl
        simp -implicitDefEqProofs [h0, h8, hlt, d1, d2, d2', h93']
        exact k1 (fun _ => false) w1 _ i n (by rw [itemsF.eq_def]; simp only; rw [if_pos h93]) hd (by simp) (by simp) (by simp [h8]) (by simp [h10]) (by simp [h11]) (by rw [h93]; simp)
      · have h93' : ((a.toNat : Int) != 93) = true := by rw [ne93]; simp [h93]
        have hit := itemsF.eq_def (a :: w1)
        simp only at hit
        rw [if_neg h93] at hit
        have hw1 := wrap_len (a := i) (by omega)
        have hwn := wrap_len (a := n) (by omega)
        simp only [List.length_cons] at hw
        cases hb : itemBad a with
        | true =>
          rw [if_pos hb] at hit
          simp -implicitDefEqProofs [h0, h8, hlt, d1, d2, d2', h93', ritem_pval, ritem_purV, hb]
          exact k3 hit _ (by simp) (by simp)
        | false =>
          rw [if_neg (by simp [hb])] at hit
          cases w1 with
          | nil =>
            have hl2 := drop_nil d3
            have hlt2 : ¬ ((i : Int) + 1) < (p.length : Int) := by omega
            simp only at hit
            simp -implicitDefEqProofs [h0, h2, h8, h10, h11, hlt, hlt2, d1, d2, d2', h93', ritem_pval, ritem_purV, hb, hw1, hwn]
            exact ih 0 (by omega) [] rfl (i + 1) (n + 1) (has || decide (a.toNat ≤ c.toNat) && decide (c.toNat ≤ a.toNat)) _ d3 (by omega) (by omega) (by simp [h0]) (by simp [h2]) (by simp) (by simp) (by simp) (fun g r fr' j n' e1 => by simp [itemsF] at e1)
              (fun _ fr' j b1 b2 b3 => k2 hit fr' j b1 (by rw [b2]; simp) b3) (fun _ fr' b1 b2 => k3 hit fr' b1 b2)
          | cons d w2 =>
            obtain ⟨f1, f2, f3⟩ := drop_cons d3
            have hlt2 : ((i : Int) + 1) < (p.length : Int) := by omega
            have f2' : p[i + 1] = d := by rw [List.getElem?_eq_getElem f1] at f2; exact Option.some.inj f2
            have hge : (0 : Int) ≤ (i : Int) + 1 := by omega
            have htn : ((i : Int) + 1).toNat = i + 1 := by omega
            have eq45 := u8eq d 45
            simp at eq45
            simp only [List.length_cons] at hw
            by_cases h45 : d = 45
            · have h45' : ((d.toNat : Int) == 45) = true := by rw [eq45, h45]; rfl
              simp only at hit
              rw [if_pos h45] at hit
              have hwi1 : IntKind.i64.wrap ((i : Int) + 1 + 1) = (i : Int) + 1 + 1 := wrap_i64 (by omega) (by omega)
              cases w2 with
              | nil =>
                have hl3 := drop_nil f3
                have hge2 : (p.length : Int) ≤ (i : Int) + 1 + 1 := by omega
                simp only at hit
                simp -implicitDefEqProofs [h0, h2, h8, h10, h11, hlt, hlt2, d1, d2, d2', f1, f2, f2', h93', ritem_pval, ritem_purV, hb, hw1, hwn, hge, htn, h45', hwi1, hge2]
                exact k3 hit _ (by simp) (by simp)
              | cons b w3 =>
                obtain ⟨g1, g2, g3⟩ := drop_cons f3
                have g2' : p[i + 1 + 1] = b := by rw [List.getElem?_eq_getElem g1] at g2; exact Option.some.inj g2
                have hge2 : ¬ (p.length : Int) ≤ (i : Int) + 1 + 1 := by omega
                have hge3 : (0 : Int) ≤ (i : Int) + 1 + 1 := by omega
                have htn2 : ((i : Int) + 1 + 1).toNat = i + 1 + 1 := by omega
                have hwi2 : IntKind.i64.wrap ((i : Int) + 1 + 2) = (i : Int) + 1 + 2 := wrap_i64 (by omega) (by omega)
                simp only [List.length_cons] at hw
                simp only at hit
                simp -implicitDefEqProofs [h0, h2, h8, h10, h11, hlt, hlt2, d1, d2, d2', f1, f2, f2', g1, g2, g2', h93', ritem_pval, ritem_purV, hb, hw1, hwn, hge, htn, h45', hwi1, hge2, hge3, htn2, hwi2]
                have hlt8 : decide (b.toNat < a.toNat) = decide (b < a) := by simp only [UInt8.lt_iff_toNat_lt]
                refine ok_br (fun q => ok_ret ?_) (fun q => ?_)
                · rw [hlt8] at q
                  rw [if_pos (by simpa using q)] at hit
                  exact k3 hit _ (by simp) (by simp)
                · rw [hlt8] at q
                  rw [if_neg (by simpa using q)] at hit
                  refine ih w3.length (by omega) w3 rfl (i + 1 + 2) (n + 1) (has || decide (a.toNat ≤ c.toNat) && decide (c.toNat ≤ b.toNat)) _ (by rw [← g3]) (by omega) (by omega) (by simp [h0]) (by simp [h2]) (by simp) (by simp) (by simp) (fun g r fr' j n' e1 e2 a0 a9 a8 a10 a11 a12 => ?_)
                    (fun e1 fr' j b1 b2 b3 => k2 (by rw [hit, e1]) fr' j b1 (by rw [b2]; simp) b3) (fun e1 fr' b1 b2 => k3 (by rw [hit, e1]) fr' b1 b2)
                  rw [e1] at hit
                  refine k1 _ r fr' j n' hit e2 (by rw [a0]; simp) (by rw [a9]; simp) a8 ?_ a11 ?_
                  · rw [a10]
                    simp only [Bool.decide_and, Bool.or_assoc]
                  · constructor
                    · intro q; have := a12.1 q; omega
                    · rintro ⟨_, q⟩; exact absurd (List.cons.inj q).1 h93
            · have h45' : ((d.toNat : Int) == 45) = false := by rw [eq45]; simp [h45]
              simp only at hit
              rw [if_neg h45] at hit
              simp -implicitDefEqProofs [h0, h2, h8, h10, h11, hlt, hlt2, d1, d2, d2', f1, f2, f2', h93', ritem_pval, ritem_purV, hb, hw1, hwn, hge, htn, h45']
              refine ih (d :: w2).length (by simp only [List.length_cons]; omega) (d :: w2) rfl (i + 1) (n + 1) (has || decide (a.toNat ≤ c.toNat) && decide (c.toNat ≤ a.toNat)) _ d3 (by omega) (by omega) (by simp [h0]) (by simp [h2]) (by simp) (by simp) (by simp) (fun g r fr' j n' e1 e2 a0 a9 a8 a10 a11 a12 => ?_)
                (fun e1 fr' j b1 b2 b3 => k2 (by rw [hit, e1]) fr' j b1 (by rw [b2]; simp) b3) (fun e1 fr' b1 b2 => k3 (by rw [hit, e1]) fr' b1 b2)
              rw [e1] at hit
              refine k1 _ r fr' j n' hit e2 (by rw [a0]; simp) (by rw [a9]; simp) a8 ?_ a11 ?_
              · rw [a10]
                have : (c.toNat == a.toNat) = (decide (a.toNat ≤ c.toNat) && decide (c.toNat ≤ a.toNat)) := by
                  rw [Bool.eq_iff_iff]
                  simp only [beq_iff_eq, Bool.and_eq_true, decide_eq_true_eq]
                  omega
                show PV.bool _ = PV.bool (has || ((c.toNat == a.toNat) || g c.toNat))
                rw [this, ← Bool.or_assoc]
              · constructor
                · intro q; have := a12.1 q; omega
                · rintro ⟨_, q⟩; exact absurd (List.cons.inj q).1 h93
end Ps
