/- A class, walked. -/
import Derived.Test.YtmhigcjhjmcpcaaRxE
namespace Ps
set_option linter.unusedSimpArgs false
set_option linter.unusedVariables false
open Go

theorem fn_392 : T.fn 392 = some (.code regex_reader_class) := rfl

@[simp] theorem rc_0 (r : Rd) : partOf false 1 (rc r) = some (.str r.p) := rfl
@[simp] theorem rc_1 (r : Rd) : partOf false 1 ((rc r).drop 1) = some (.int .i64 r.deep) := rfl
@[simp] theorem rc_1' (r : Rd) : partOf false 1 (rc r).tail = some (.int .i64 r.deep) := rfl
@[simp] theorem rc_2 (r : Rd) : partOf false 1 ((rc r).drop 2) = some (.int .i64 r.most) := rfl
@[simp] theorem rc_3 (r : Rd) : partOf false 1 ((rc r).drop 3) = some (.bool r.bad) := rfl
@[simp] theorem rc_len (r : Rd) : (rc r).length = 4 := rfl
@[simp] theorem rc_p1 (r : Rd) (d : Int) : putCells (rc r) 1 [.int .i64 d] = rc { r with deep := d } := rfl
@[simp] theorem rc_p2 (r : Rd) (d : Int) : putCells (rc r) 2 [.int .i64 d] = rc { r with most := d } := rfl
@[simp] theorem rc_p3 (r : Rd) (d : Bool) : putCells (rc r) 3 [.bool d] = rc { r with bad := d } := rfl
theorem rc_free (r : Rd) : PV.freeL (rc r) = true := rfl
@[simp] theorem ld_0 {r : Rd} {os : List (List PV)} {t : List (Nat × Nat)} {ag : Bool} {n off : Nat} : loadP ⟨rc r :: os, t⟩ ag n (.ptr 0 off) = partOf ag n ((rc r).drop off) := rfl
@[simp] theorem ld_1 {r : Rd} {x : List PV} {os : List (List PV)} {t : List (Nat × Nat)} {ag : Bool} {n off : Nat} : loadP ⟨rc r :: x :: os, t⟩ ag n (.ptr 1 off) = partOf ag n (x.drop off) := rfl

theorem cls_l1 {r : Rd} {tips : List (Nat × Nat)} {K : List Kt} {Q : Fr → St → Prop} (b : UInt8) : ∀ (m k : Nat) (f : Nat → Bool) (fr : Fr), b.toNat + 1 - k = m →
    fr 3 = .ptr 1 0 → fr 7 = .int .u8 b.toNat → fr 8 = .int .i64 k →
    (∀ fr', fr' 0 = fr 0 → fr' 3 = fr 3 → fr' 4 = fr 4 → fr' 5 = fr 5 → Ok (gval T K fr' ⟨[rc r, bc (fun i => decide (k ≤ i ∧ i ≤ b.toNat) || f i)], tips⟩) Q) →
    Ok (gval T (.lp regex_reader_class_l1 :: .blk 2 :: K) fr ⟨[rc r, bc f], tips⟩) Q := by
  intro m
  induction m with
  | zero =>
    intro k f fr hm h3 h7 h8 kk
    have hb := b.toNat_lt
    have hlt : ¬ (k : Int) ≤ (b.toNat : Int) := by omega
    have hw : IntKind.i64.wrap (b.toNat : Int) = (b.toNat : Int) := wrap_i64 (by omega) (by omega)
    have e : bc (fun i => decide (k ≤ i ∧ i ≤ b.toNat) || f i) = bc f := bc_ext (fun i _ => by
      have : ¬ (k ≤ i ∧ i ≤ b.toNat) := by omega
      rw [decide_eq_false this]; rfl)
    rw [e] at kk
    rw [gval_lp]
    simp -implicitDefEqProofs [h3, h7, h8, hw, hlt]
    exact kk _ (by simp) (by simp) (by simp) (by simp)
  | succ m ih =>
    intro k f fr hm h3 h7 h8 kk
    have hb := b.toNat_lt
    have hlt : (k : Int) ≤ (b.toNat : Int) := by omega
    have hw : IntKind.i64.wrap (b.toNat : Int) = (b.toNat : Int) := wrap_i64 (by omega) (by omega)
    have hw2 := wrap_len (a := k) (by omega)
    have hk : k < 256 := by omega
    have hk1 : (k : Int) < 256 := by omega
    have hk2 : k + 1 ≤ 256 := by omega
    have hp := bc_put f true hk
    rw [gval_lp]
    simp -implicitDefEqProofs [h3, h7, h8, hw, hlt, hk1, hk2, pstep, bc_len, hp, hw2]
    refine ih (k + 1) _ _ (by omega) (by simp [h3]) (by simp [h7]) (by simp [hw2]) (fun fr' a b' c d => ?_)
    have e : bc (fun i => decide (k + 1 ≤ i ∧ i ≤ b.toNat) || (if i = k then true else f i)) = bc (fun i => decide (k ≤ i ∧ i ≤ b.toNat) || f i) := bc_ext (fun i _ => by
      by_cases h : i = k
      · subst h
        have : i ≤ i ∧ i ≤ b.toNat := by omega
        rw [decide_eq_true this]; simp
      · have : (k + 1 ≤ i ∧ i ≤ b.toNat) ↔ (k ≤ i ∧ i ≤ b.toNat) := by omega
        simp only [this, if_neg h])
    have e' : bc (fun i => decide (k + 1 ≤ i ∧ i ≤ b.toNat) || (decide (i = k) || f i)) = bc (fun i => decide (k ≤ i ∧ i ≤ b.toNat) || f i) := by
      rw [← e]; exact bc_ext (fun i _ => by by_cases h : i = k <;> simp [h])
    first
      | (rw [e]; exact kk _ (by rw [a]; simp) (by rw [b']; simp [h3]) (by rw [c]; simp) (by rw [d]; simp))
      | (rw [e']; exact kk _ (by rw [a]; simp) (by rw [b']; simp [h3]) (by rw [c]; simp) (by rw [d]; simp))

theorem cls_l2 {r : Rd} {tips : List (Nat × Nat)} {K : List Kt} {Q : Fr → St → Prop} {f : Nat → Bool} {b : Bool} : ∀ (m k : Nat) (fr : Fr), 256 - k = m → k ≤ 256 →
    fr 3 = .ptr 1 0 → fr 4 = .bool b → fr 75 = .int .i64 k →
    (∀ fr', fr' 3 = fr 3 → Ok (gval T K fr' ⟨[rc r, bc (fun i => f i != b)], tips⟩) Q) →
    Ok (gval T (.lp regex_reader_class_l2 :: .blk 4 :: K) fr ⟨[rc r, bc (fun i => if i < k then f i != b else f i)], tips⟩) Q := by
  intro m
  induction m with
  | zero =>
    intro k fr hm hk h3 h4 h75 kk
    have hke : k = 256 := by omega
    subst hke
    have e : bc (fun i => if i < 256 then f i != b else f i) = bc (fun i => f i != b) := bc_ext (fun i hi => by simp [hi])
    rw [e, gval_lp]
    simp -implicitDefEqProofs [h3, h75]
    exact kk _ (by simp)
  | succ m ih =>
    intro k fr hm hk h3 h4 h75 kk
    have hk0 : k < 256 := by omega
    have hlt : (k : Int) < 256 := by omega
    have hw2 := wrap_len (a := k) (by omega)
    have hk2 : k + 1 ≤ 256 := by omega
    have hg := partOf_bc (f := fun i => if i < k then f i != b else f i) hk0
    simp only [Nat.lt_irrefl, if_false] at hg
    have hp : ∀ v, v = (f k != b) → putCells (bc (fun i => if i < k then f i != b else f i)) k [.bool v] = bc (fun i => if i < k + 1 then f i != b else f i) := by
      intro v hv
      rw [bc_put _ _ hk0]
      exact bc_ext (fun i _ => by
        by_cases h : i = k
        · subst h; simp [hv]
        · by_cases h2 : i < k
          · have : i < k + 1 := by omega
            simp [h, h2, this]
          · have : ¬ i < k + 1 := by omega
            simp [h, h2, this])
    generalize hB : bc (fun i => if i < k then f i != b else f i) = B at *
    have hBl : B.length = 256 := by rw [← hB]; exact bc_len _
    have ih' := ih (k + 1)
    rw [gval_lp]
    simp -implicitDefEqProofs [h3, h4, h75, hlt, hg, eqbP, negIf, pstep, hBl, hk2, hw2]
    rw [hp _ (by cases f k <;> cases b <;> rfl)]
    exact ih' _ (by omega) (by omega) (by simp [h3]) (by simp [h4]) (by simp [hw2]) (fun fr' a => kk fr' (by rw [a]; simp))

/-- One item. -/
def item1 (r : Rd) : UInt8 × UInt8 × Rd :=
  let x := itemR r
  if nextB x.2.p [45] then (let y := itemR (takeR x.2).2; (x.1, y.1, { y.2 with bad := y.2.bad || decide (y.1 < x.1) })) else (x.1, x.1, x.2)

theorem itemR_cons (a : UInt8) (w : List UInt8) (de mo : Int) (ba : Bool) : itemR ⟨a :: w, de, mo, ba⟩ = (a, ⟨w, de, mo, itemBad a || ba⟩) := by
  have h : nextB (a :: w) [92, 91, 93, 94, 45] = itemBad a := rfl
  unfold itemR
  rw [h]
  cases hb : itemBad a <;> simp [takeR]
theorem itemR_nil (de mo : Int) (ba : Bool) : itemR ⟨[], de, mo, ba⟩ = (0, ⟨[], de, mo, true⟩) := rfl

/-- What one item is, in the law's words. -/
theorem item1_law {a : UInt8} {w : List UInt8} {de mo : Int} (ha : a ≠ 93) :
    (item1 ⟨a :: w, de, mo, false⟩).2.2.p.length < (a :: w).length ∧
    (itemsF (a :: w) = if (item1 ⟨a :: w, de, mo, false⟩).2.2.bad then none else match itemsF (item1 ⟨a :: w, de, mo, false⟩).2.2.p with
      | none => none | some (g, r) => some (fun i => decide ((item1 ⟨a :: w, de, mo, false⟩).1.toNat ≤ i ∧ i ≤ (item1 ⟨a :: w, de, mo, false⟩).2.1.toNat) || g i, r)) ∧
    ((item1 ⟨a :: w, de, mo, false⟩).2.2.deep = de ∧ (item1 ⟨a :: w, de, mo, false⟩).2.2.most = mo) := by
  have one : ∀ i : Nat, (i == a.toNat) = decide (a.toNat ≤ i ∧ i ≤ a.toNat) := fun i => by
    by_cases h : i = a.toNat
    · subst h; simp
    · have : ¬ (a.toNat ≤ i ∧ i ≤ a.toNat) := by omega
      simp [h, this]
  cases w with
  | nil =>
    have e : item1 ⟨[a], de, mo, false⟩ = (a, a, ⟨[], de, mo, itemBad a⟩) := by
      simp [item1, itemR_cons, nextB]
    rw [e]
    refine ⟨by simp, ?_, rfl, rfl⟩
    rw [itemsF.eq_def]
    simp only
    rw [if_neg ha]
    cases itemBad a <;> simp [itemsF]
  | cons d w1 =>
    by_cases hd : d = 45
    · subst hd
      cases w1 with
      | nil =>
        have e : item1 ⟨[a, 45], de, mo, false⟩ = (a, 0, ⟨[], de, mo, true⟩) := by
          simp [item1, itemR_cons, nextB, takeR, itemR_nil]
        rw [e]
        refine ⟨by simp, ?_, rfl, rfl⟩
        rw [itemsF.eq_def]
        simp only
        rw [if_neg ha]
        cases itemBad a <;> simp
      | cons b w2 =>
        have e : item1 ⟨a :: 45 :: b :: w2, de, mo, false⟩ = (a, b, ⟨w2, de, mo, itemBad b || itemBad a || decide (b < a)⟩) := by
          simp [item1, itemR_cons, nextB, takeR]
        rw [e]
        refine ⟨by simp; omega, ?_, rfl, rfl⟩
        rw [itemsF.eq_def]
        simp only
        rw [if_neg ha]
        cases h1 : itemBad a <;> cases h2 : itemBad b <;> simp
        split <;> rfl
    · have hn : nextB (d :: w1) [45] = false := by simp [nextB, hd]
      have e : item1 ⟨a :: d :: w1, de, mo, false⟩ = (a, a, ⟨d :: w1, de, mo, itemBad a⟩) := by
        simp only [item1, itemR_cons, hn]
        simp
      rw [e]
      refine ⟨by simp, ?_, rfl, rfl⟩
      rw [itemsF.eq_def]
      simp only
      rw [if_neg ha, if_neg hd]
      simp only [one]
      rfl

theorem item1_gen {w : List UInt8} {de mo : Int} (h : nextB w [93] = false) :
    ((item1 ⟨w, de, mo, false⟩).2.2.bad = false → (item1 ⟨w, de, mo, false⟩).2.2.p.length < w.length) ∧
    (itemsF w = if (item1 ⟨w, de, mo, false⟩).2.2.bad then none else match itemsF (item1 ⟨w, de, mo, false⟩).2.2.p with
      | none => none | some (g, r) => some (fun i => decide ((item1 ⟨w, de, mo, false⟩).1.toNat ≤ i ∧ i ≤ (item1 ⟨w, de, mo, false⟩).2.1.toNat) || g i, r)) ∧
    ((item1 ⟨w, de, mo, false⟩).2.2.deep = de ∧ (item1 ⟨w, de, mo, false⟩).2.2.most = mo) := by
  cases w with
  | nil =>
    have e : item1 ⟨[], de, mo, false⟩ = (0, 0, ⟨[], de, mo, true⟩) := by simp [item1, itemR_nil, nextB]
    rw [e]
    exact ⟨fun q => (by cases q), (by rw [itemsF]; rfl), rfl, rfl⟩
  | cons a w =>
    have ha : a ≠ 93 := by rintro rfl; simp [nextB] at h
    obtain ⟨h1, h2, h3⟩ := item1_law (w := w) (de := de) (mo := mo) ha
    exact ⟨fun _ => h1, h2, h3⟩

theorem cls_loop {no : Bool} {tips : List (Nat × Nat)} {de mo : Int} {K : List Kt} {Q : Fr → St → Prop} : ∀ (k : Nat) (w : List UInt8), w.length = k → ∀ (f : Nat → Bool) (n : Nat) (fr : Fr), n + w.length ≤ 10000 →
    fr 0 = .ptr 0 0 → fr 3 = .ptr 1 0 → fr 4 = .bool no → fr 5 = .int .i64 n →
    (∀ g rr fr' (n' : Nat), itemsF w = some (g, rr) → fr' 0 = .ptr 0 0 → fr' 3 = .ptr 1 0 → fr' 4 = .bool no → fr' 5 = .int .i64 n' → (n' = 0 ↔ n = 0 ∧ w = 93 :: rr) →
      Ok (gval T K fr' ⟨[rc ⟨93 :: rr, de, mo, false⟩, bc (fun i => f i || g i)], tips⟩) Q) →
    (itemsF w = none → ∀ f' r' fr' (n' : Nat), r'.bad = true → fr' 0 = .ptr 0 0 → fr' 3 = .ptr 1 0 → fr' 4 = .bool no → fr' 5 = .int .i64 n' → Ok (gval T K fr' ⟨[rc r', bc f'], tips⟩) Q) →
    Ok (gval T (.lp regex_reader_class_l0 :: .blk 0 :: K) fr ⟨[rc ⟨w, de, mo, false⟩, bc f], tips⟩) Q := by
  intro k
  induction k using Nat.strongRecOn with
  | _ k ih =>
    intro w hw f n fr hn h0 h3 h4 h5 k1 k2
    have hN := next_val ⟨w, de, mo, false⟩ [93] [bc f] tips
    rw [gval_lp]
    by_cases h93 : nextB w [93] = true
    · rw [h93] at hN
      simp -implicitDefEqProofs [h0, h3, h4, h5, hN]
      cases w with
      | nil => cases h93
      | cons a w1 =>
        have ha : a = 93 := by simpa [nextB] using h93
        subst ha
        have e : bc f = bc (fun i => f i || (fun _ => false) i) := bc_ext (fun i _ => by simp)
        rw [e]
        exact k1 (fun _ => false) w1 _ n (by rw [itemsF.eq_def]; simp) (by simp [h0]) (by simp [h3]) (by simp [h4]) (by simp [h5]) (by simp)
    · have h93' : nextB w [93] = false := by simpa using h93
      rw [h93'] at hN
      obtain ⟨g1, g2, g3, g4⟩ := item1_gen (de := de) (mo := mo) h93'
      have hI := item_val ⟨w, de, mo, false⟩ [bc f] tips
      have hw1 := wrap_len (a := n) (by omega)
      -- what comes behind an item
      have tail : ∀ (a b : UInt8) (r4 : Rd) (fr4 : Fr), item1 ⟨w, de, mo, false⟩ = (a, b, r4) → fr4 0 = .ptr 0 0 → fr4 3 = .ptr 1 0 → fr4 4 = .bool no → fr4 5 = .int .i64 n → fr4 7 = .int .u8 b.toNat → fr4 8 = .int .i64 a.toNat →
          Ok (gval T (.lp regex_reader_class_l1 :: .blk 2 :: .blk 1 :: .code (.clr [(27, 29)] (.region regex_reader_class_r7)) :: .lp regex_reader_class_l0 :: .blk 0 :: K) fr4 ⟨[rc r4, bc f], tips⟩) Q := by
        intro a b r4 fr4 e q0 q3 q4 q5 q7 q8
        rw [e] at g1 g2 g3 g4
        simp only at g1 g2 g3 g4
        refine cls_l1 b _ a.toNat f fr4 rfl q3 q7 q8 (fun fr' a0 a3 a4 a5 => ?_)
        rw [q0] at a0; rw [q3] at a3; rw [q4] at a4; rw [q5] at a5
        obtain ⟨F, hF⟩ : ∃ F : Nat → Bool, F = (fun i => decide (a.toNat ≤ i ∧ i ≤ b.toNat) || f i) := ⟨_, rfl⟩
        rw [← hF]
        simp -implicitDefEqProofs [a0, a3, a4, a5, hw1]
        obtain ⟨p4, d4, m4, b4⟩ := r4
        simp only at g1 g2 g3 g4
        subst g3; subst g4
        cases b4 with
        | true =>
          rw [if_pos rfl] at g2
          rw [gval_lp]
          simp -implicitDefEqProofs [a0, a3, a4, a5, hw1]
          exact k2 g2 _ ⟨p4, d4, m4, true⟩ _ (n + 1) rfl (by simp [a0]) (by simp [a3]) (by simp [a4]) (by simp [hw1])
        | false =>
          rw [if_neg (by decide)] at g2
          have hl := g1 rfl
          refine ih p4.length (by omega) p4 rfl _ (n + 1) _ (by omega) (by simp [a0]) (by simp [a3]) (by simp [a4]) (by simp [hw1]) (fun g rr fr2 n' e1 b0 b3 b4 b5 b6 => ?_) (fun e1 f' r' fr2 n' b1 b0 b3 b4 b5 => ?_)
          · rw [e1] at g2
            have e2 : bc (fun i => F i || g i) = bc (fun i => f i || (fun i => decide (a.toNat ≤ i ∧ i ≤ b.toNat) || g i) i) := bc_ext (fun i _ => by
              subst hF
              show ((_ || _) || _) = (_ || (_ || _))
              generalize decide (a.toNat ≤ i ∧ i ≤ b.toNat) = z
              cases z <;> cases f i <;> cases g i <;> rfl)
            rw [e2]
            refine k1 _ rr fr2 n' g2 b0 b3 b4 b5 ?_
            constructor
            · intro q
              have := b6.1 q
              omega
            · rintro ⟨_, q⟩
              rw [q] at h93'
              simp [nextB] at h93'
          · rw [e1] at g2
            exact k2 g2 f' r' fr2 n' b1 b0 b3 b4 b5
      obtain ⟨⟨a, r1⟩, hA⟩ : ∃ q, itemR ⟨w, de, mo, false⟩ = q := ⟨_, rfl⟩
      rw [hA] at hI
      simp only at hI
      have hN2 := next_val r1 [45] [bc f] tips
      have hT := take_val r1 [bc f] tips
      have hI2 := item_val (takeR r1).2 [bc f] tips
      have ha256 := a.toNat_lt
      have hz1 : IntKind.i64.wrap (a.toNat : Int) = (a.toNat : Int) := wrap_i64 (by omega) (by omega)
      simp -implicitDefEqProofs [h0, h3, h4, h5, hN, hI, hN2]
      refine ok_br (fun hd => ?_) (fun hd => ?_)
      · obtain ⟨⟨b, r3⟩, hB⟩ : ∃ q, itemR (takeR r1).2 = q := ⟨_, rfl⟩
        rw [hB] at hI2
        simp only at hI2
        have hlt : decide (b < a) = decide (b.toNat < a.toNat) := by simp only [UInt8.lt_iff_toNat_lt]
        have e1 : item1 ⟨w, de, mo, false⟩ = (a, b, { r3 with bad := r3.bad || decide (b.toNat < a.toNat) }) := by
          unfold item1
          rw [hA]
          simp only
          rw [if_pos hd, hB, hlt]
        simp -implicitDefEqProofs [h0, h3, h4, h5, hT, hI2, hz1, pstep]
        exact tail a b _ _ e1 (by simp [h0]) (by simp [h3]) (by simp [h4]) (by simp [h5]) (by simp) (by simp)
      · have e1 : item1 ⟨w, de, mo, false⟩ = (a, a, { r1 with bad := r1.bad }) := by
          unfold item1
          rw [hA]
          simp only
          rw [if_neg (by simp [hd])]
        simp -implicitDefEqProofs [h0, h3, h4, h5, hz1, pstep]
        exact tail a a _ _ e1 (by simp [h0]) (by simp [h3]) (by simp [h4]) (by simp [h5]) (by simp) (by simp)
end Ps
