/- An atom, read. -/
import Derived.Test.YtmhigcjhjmcpcaaRxH
namespace Ps
set_option linter.unusedSimpArgs false
set_option linter.unusedVariables false
open Go

theorem fn_222 : T.fn 222 = some (.code regex_reader_pattern) := rfl
theorem fn_302 : T.fn 302 = some (.code regex_reader_row) := rfl
theorem fn_354 : T.fn 354 = some (.code regex_reader_atom) := rfl

def PatOk (w : List UInt8) : Prop := ∀ (de mo : Int) (tips : List (Nat × Nat)), 0 ≤ de → de ≤ mo → de + w.length ≤ 4000 → ∃ v r' t, cval T 222 [.ptr 0 0] ⟨[rc ⟨w, de, mo, false⟩], tips⟩ = some (v, ⟨[rc r'], tips ++ t⟩) ∧ Out (patW w) de mo v r'
def RowOk (w : List UInt8) : Prop := ∀ (de mo : Int) (tips : List (Nat × Nat)), 0 ≤ de → de ≤ mo → de + w.length ≤ 4000 → ∃ v r' t, cval T 302 [.ptr 0 0] ⟨[rc ⟨w, de, mo, false⟩], tips⟩ = some (v, ⟨[rc r'], tips ++ t⟩) ∧ Out (rowW w) de mo v r'
def AtomOk (w : List UInt8) : Prop := ∀ (de mo : Int) (tips : List (Nat × Nat)), 0 ≤ de → de ≤ mo → de + w.length ≤ 4000 → ∃ v r' t, cval T 354 [.ptr 0 0] ⟨[rc ⟨w, de, mo, false⟩], tips⟩ = some (v, ⟨[rc r'], tips ++ t⟩) ∧ Out (atomW w) de mo v r'

theorem all_loop {r : Rd} {tips : List (Nat × Nat)} {K : List Kt} {Q : Fr → St → Prop} : ∀ (m k : Nat) (fr : Fr), 256 - k = m → k ≤ 256 →
    fr 4 = .ptr 1 0 → fr 20 = .int .i64 k →
    (∀ fr', fr' 4 = fr 4 → Ok (gval T K fr' ⟨[rc r, bc (fun _ => true)], tips⟩) Q) →
    Ok (gval T (.lp regex_reader_atom_l0 :: .blk 1 :: K) fr ⟨[rc r, bc (fun i => decide (i < k))], tips⟩) Q := by
  intro m
  induction m with
  | zero =>
    intro k fr hm hk h4 h20 kk
    have hke : k = 256 := by omega
    subst hke
    have e : bc (fun i => decide (i < 256)) = bc (fun _ => true) := bc_ext (fun i hi => by simp [hi])
    rw [e, gval_lp]
    simp -implicitDefEqProofs [h4, h20]
    exact kk _ (by simp)
  | succ m ih =>
    intro k fr hm hk h4 h20 kk
    have hk0 : k < 256 := by omega
    have hlt : (k : Int) < 256 := by omega
    have hw2 := wrap_len (a := k) (by omega)
    have hk2 : k + 1 ≤ 256 := by omega
    have hp : putCells (bc (fun i => decide (i < k))) k [.bool true] = bc (fun i => decide (i < k + 1)) := by
      rw [bc_put _ _ hk0]
      exact bc_ext (fun i _ => by
        by_cases h : i = k
        · subst h; simp
        · by_cases h2 : i < k
          · have : i < k + 1 := by omega
            simp [h, h2, this]
          · have : ¬ i < k + 1 := by omega
            simp [h, h2, this])
    generalize hB : bc (fun i => decide (i < k)) = B at *
    have hBl : B.length = 256 := by rw [← hB]; exact bc_len _
    have ih' := ih (k + 1)
    rw [gval_lp]
    simp -implicitDefEqProofs [h4, h20, hlt, pstep, hBl, hk2, hw2, hp]
    exact ih' _ (by omega) (by omega) (by simp [h4]) (by simp [hw2]) (fun fr' a => kk fr' (by rw [a]; simp))

theorem bc_one (f : Nat → Bool) : (PV.iface 12 (.ref (bc f))).free = true := by simp only [PV.free]; exact freeL_bc f
theorem max_zero {mo de : Int} (h : de ≤ mo) : max mo (de + (0 : Nat)) = mo := by omega

set_option maxRecDepth 20000 in
theorem atom_val (c : UInt8) (w0 : List UInt8) (hp : ∀ w', w'.length < (c :: w0).length → PatOk w') : AtomOk (c :: w0) := by
  intro de mo tips hde hmo hw
  simp only [List.length_cons] at hw
  have key := cval_ex (T := T) (f := 354) (c := regex_reader_atom) fn_354 (args := [.ptr 0 0]) (S := ⟨[rc ⟨c :: w0, de, mo, false⟩], tips⟩) rfl
    (R := fun r S2 => ∃ r' t, S2 = ⟨[rc r'], tips ++ t⟩ ∧ Out (atomW (c :: w0)) de mo r r') ?_
  · obtain ⟨r, S2, h1, r', t, rfl, h2⟩ := key
    exact ⟨r, r', t, h1, h2⟩
  have main : ∀ Q : Fr → St → Prop, (∀ (v v0 : PV) (r' : Rd) (ex : List (List PV)) (t : List (Nat × Nat)) (fr' : Fr), fr' 2 = v0 → sol (rc r' :: ex) 1 solFuel v0 = some v → Out (atomW (c :: w0)) de mo v r' → Q fr' ⟨rc r' :: ex, tips ++ t⟩) →
      Ok (gval T [.code regex_reader_atom.body] (argsFr [.ptr 0 0]) ⟨[rc ⟨c :: w0, de, mo, false⟩], tips⟩) Q := by
    intro Q ends
    have hA := atomW_eq (c :: w0)
    simp only at hA
    have hT : cval T 304 [.ptr 0 0] ⟨[rc ⟨c :: w0, de, mo, false⟩], tips⟩ = some (.int .u8 c.toNat, ⟨[rc ⟨w0, de, mo, false⟩], tips⟩) := take_val ⟨c :: w0, de, mo, false⟩ [] tips
    have cmp : ∀ k : UInt8, ((c.toNat : Int) == (k.toNat : Int)) = decide (c = k) := fun k => by
      by_cases h : c = k
      · subst h; simp
      · have : c.toNat ≠ k.toNat := fun q => h (UInt8.toNat_inj.1 q)
        simp [h]; omega
    have c46 := cmp 46
    have c92 := cmp 92
    have c91 := cmp 91
    have c40 := cmp 40
    simp at c46 c92 c91 c40
    have ends0 : ∀ (v : PV) (r' : Rd) (fr' : Fr), fr' 2 = v → Out (atomW (c :: w0)) de mo v r' → Q fr' ⟨[rc r'], tips⟩ := by
      intro v r' fr' e h
      have := ends v v r' [] [] fr' e (sol_of_free h.free) h
      simpa using this
    have okOne : ∀ (f g : Nat → Bool) (r : List UInt8) (r' : Rd), atomW (c :: w0) = some (.one g, 0, r) → bc f = bc g → r' = ⟨r, de, mo, false⟩ → Out (atomW (c :: w0)) de mo (.iface 12 (.ref (bc f))) r' := by
      intro f g r r' e e2 e3
      refine ⟨bc_one f, ⟨_, _, rfl⟩, ?_⟩
      rw [e, e2]
      simp only
      exact ⟨by rw [e3, max_zero hmo], .one⟩
    have noOne : ∀ (v : PV) (r' : Rd), atomW (c :: w0) = none → v.free = true → (∃ t u, v = .iface t u) → r'.bad = true → Out (atomW (c :: w0)) de mo v r' := by
      intro v r' e h1 h2 h3
      refine ⟨h1, h2, ?_⟩
      rw [e]
      exact h3
    simp -implicitDefEqProofs [regex_reader_atom, hT, plain_pval, just_pval, bc_one, bc_zero]
    by_cases h1 : plainB c = true
    · rw [if_pos h1] at hA
      simp -implicitDefEqProofs [h1]
      exact ends0 _ _ _ (by simp) (okOne _ _ w0 _ hA rfl rfl)
    rw [if_neg h1] at hA
    have h1' : plainB c = false := by simpa using h1
    by_cases h2 : c = 46
    · rw [if_pos h2] at hA
      rw [decide_eq_true h2] at c46
      simp -implicitDefEqProofs [-List.all_eq_true, h1', c46, peval, fillParts, bc_zero, pstep, all_bc]
      have e0 : bc (fun _ => false) = bc (fun i => decide (i < 0)) := bc_ext (fun i _ => by simp)
      rw [e0]
      refine all_loop _ 0 _ rfl (by omega) (by simp) (by simp) (fun fr' a => ?_)
      have a' : fr' 4 = .ptr 1 0 := by rw [a]; simp
      simp -implicitDefEqProofs [a']
      have := ends (.iface 12 (.ref (bc (fun _ => true)))) (.iface 12 (.ptr 1 0)) ⟨w0, de, mo, false⟩ [bc (fun _ => true)] [] (upd (clrI 28 30 fr') 2 (.iface 12 (.ptr 1 0))) (by simp) (sol_one (Nat.le_refl _) rfl) (okOne _ _ w0 _ hA rfl rfl)
      simpa using this
    rw [if_neg h2] at hA
    rw [decide_eq_false h2] at c46
    by_cases h3 : c = 92
    · rw [if_pos h3] at hA
      rw [decide_eq_true h3] at c92
      have hT2 := take_val ⟨w0, de, mo, false⟩ [] tips
      cases w0 with
      | nil =>
        have hT3 : cval T 304 [.ptr 0 0] ⟨[rc ⟨[], de, mo, false⟩], tips⟩ = some (.int .u8 (0 : UInt8).toNat, ⟨[rc ⟨[], de, mo, true⟩], tips⟩) := hT2
        have hj : pval T 391 [.int .u8 0] = some (.iface 12 (.ref (bc (fun i => i == 0)))) := just_pval 0
        simp -implicitDefEqProofs [h1', c46, c92, hT3, pstep, hj, bc_one]
        exact ends0 (.iface 12 (.ref (bc (fun i => i == 0)))) ⟨[], de, mo, true⟩ _ (by simp) (noOne _ _ hA (bc_one _) ⟨_, _, rfl⟩ rfl)
      | cons d w1 =>
        simp only at hA
        have hT3 : cval T 304 [.ptr 0 0] ⟨[rc ⟨d :: w1, de, mo, false⟩], tips⟩ = some (.int .u8 d.toNat, ⟨[rc ⟨w1, de, mo, false⟩], tips⟩) := hT2
        simp -implicitDefEqProofs [h1', c46, c92, hT3, pstep, plain_pval, just_pval, bc_one, purV]
        by_cases h4 : plainB d = true
        · rw [if_pos h4] at hA
          exact ends0 (.iface 12 (.ref (bc (fun i => i == d.toNat)))) _ _ (by simp) (noOne _ _ hA (bc_one _) ⟨_, _, rfl⟩ h4)
        · rw [if_neg h4] at hA
          exact ends0 (.iface 12 (.ref (bc (fun i => i == d.toNat)))) _ _ (by simp) (okOne _ _ w1 _ hA rfl (by simp [h4]))
    rw [if_neg h3] at hA
    rw [decide_eq_false h3] at c92
    by_cases h4 : c = 91
    · rw [if_pos h4] at hA
      rw [decide_eq_true h4] at c91
      obtain ⟨f, r', e1, e2⟩ := class_val w0 de mo tips (by omega)
      simp -implicitDefEqProofs [h1', c46, c92, c91, e1]
      cases hc : clsF w0 with
      | none =>
        rw [hc] at e2 hA
        exact ends0 (.iface 12 (.ref (bc f))) _ _ (by simp) (noOne _ _ hA (bc_one _) ⟨_, _, rfl⟩ e2)
      | some q =>
        obtain ⟨g, rr⟩ := q
        rw [hc] at e2 hA
        exact ends0 (.iface 12 (.ref (bc f))) _ _ (by simp) (okOne _ g rr _ hA e2.1 e2.2)
    rw [if_neg h4] at hA
    rw [decide_eq_false h4] at c91
    by_cases h5 : c = 40
    · rw [if_pos h5] at hA
      rw [decide_eq_true h5] at c40
      have hwd : IntKind.i64.wrap (de + 1) = de + 1 := wrap_i64 (by omega) (by omega)
      obtain ⟨v, r', t, e1, e2⟩ := hp w0 (by simp) (de + 1) (max mo (de + 1)) tips (by omega) (by omega) (by omega)
      have hmx : (if mo < de + 1 then de + 1 else mo) = max mo (de + 1) := by split <;> omega
      have hT2 := take_val { r' with deep := IntKind.i64.wrap (r'.deep - 1) } [] (tips ++ t)
      have c41 : ∀ d : UInt8, ((d.toNat : Int) != 41) = !decide (d = 41) := fun d => by
        by_cases h : d = 41
        · subst h; simp
        · have : d.toNat ≠ 41 := fun q => h (UInt8.toNat_inj.1 q)
          simp [h]; omega
      simp -implicitDefEqProofs [h1', c46, c92, c91, c40, hwd, pstep, hmx, e1, hT2, c41]
      obtain ⟨q1, q2, q3⟩ := e2
      have tk : ∀ r : Rd, r.bad = true → (takeR r).2.bad = true := fun r h => by
        unfold takeR
        split
        · rfl
        · exact h
      cases hpw : patW w0 with
      | none =>
        rw [hpw] at q3 hA
        have hb := tk { r' with deep := IntKind.i64.wrap (r'.deep - 1) } q3
        refine ok_br (fun _ => ok_ret ?_) (fun _ => ok_ret ?_)
        · exact ends v v _ [] t _ (by simp) (sol_of_free q1) (noOne _ _ hA q1 q2 rfl)
        · exact ends v v _ [] t _ (by simp) (sol_of_free q1) (noOne _ _ hA q1 q2 hb)
      | some q =>
        obtain ⟨p, d, w1⟩ := q
        rw [hpw] at q3 hA
        obtain ⟨q3, q4⟩ := q3
        simp only at hA
        have hwe : IntKind.i64.wrap (r'.deep - 1) = de := by
          rw [q3]; simp only
          rw [show de + 1 - 1 = de by omega]; exact wrap_i64 (by omega) (by omega)
        cases w1 with
        | nil =>
          have hr : (takeR { r' with deep := IntKind.i64.wrap (r'.deep - 1) }).1 = 0 := by rw [q3]; rfl
          refine ok_br (fun _ => ok_ret ?_) (fun h => ?_)
          · exact ends v v _ [] t _ (by simp) (sol_of_free q1) (noOne _ _ hA q1 q2 rfl)
          · rw [hr] at h; simp at h
        | cons e w2 =>
          simp only at hA
          have hr : (takeR { r' with deep := IntKind.i64.wrap (r'.deep - 1) }) = (e, ⟨w2, de, max (max mo (de + 1)) (de + 1 + d), false⟩) := by rw [hwe, q3]; rfl
          rw [hr]
          refine ok_br (fun h => ok_ret ?_) (fun h => ok_ret ?_)
          · have he : e ≠ 41 := by simpa using h
            rw [if_neg he] at hA
            exact ends v v _ [] t _ (by simp) (sol_of_free q1) (noOne _ _ hA q1 q2 rfl)
          · have he : e = 41 := by simpa using h
            rw [if_pos he] at hA
            refine ends v v ⟨w2, de, max (max mo (de + 1)) (de + 1 + d), false⟩ [] t _ (by simp) (sol_of_free q1) ⟨q1, q2, ?_⟩
            rw [hA]
            refine ⟨?_, q4⟩
            congr 1
            omega
    · rw [if_neg h5] at hA
      rw [decide_eq_false h5] at c40
      simp -implicitDefEqProofs [h1', c46, c92, c91, c40, pstep, elems, setParts]
      exact ends (.iface 10 (.sl (some (tips.length, 0)) [] [])) _ ⟨w0, de, mo, true⟩ [] [(0, 1)] _ rfl (by simp; exact sol_of_free rfl) (noOne _ _ hA rfl ⟨_, _, rfl⟩ rfl)
  refine main _ (fun v v0 r' ex t fr' h hs ho => ⟨[fr' 2], rfl, ?_⟩)
  obtain ⟨v', t', q1, q2⟩ := fin_out (r0 := ⟨c :: w0, de, mo, false⟩) (tips := tips) (t := t) hs ho
  show ∃ r' t, (finish false _ _ (fr' 2)).2 = _ ∧ Out _ _ _ (finish false _ _ (fr' 2)).1 _
  rw [h, q1]
  exact ⟨r', t', rfl, q2⟩
end Ps
