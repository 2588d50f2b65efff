/- The document's order of sets; the laws on the order. -/
import Derived.Test.YtfimbhaiegkkeaaLD
namespace Ps
set_option linter.unusedSimpArgs false
open Go

def loopM : List Lab → List Lab → Option Int
  | x :: a, y :: b => if cmpLab x y = 0 then loopM a b else some (cmpLab x y)
  | _, _ => none

theorem cmpL_M : ∀ a b : List Lab, cmpL a b = match loopM a b with | some c => c | none => if a.length < b.length then -1 else if b.length < a.length then 1 else 0
  | [], [] => rfl
  | [], y :: b => by simp [cmpL, loopR, loopM]
  | x :: a, [] => by simp [cmpL, loopR, loopM]
  | x :: a, y :: b => by
    have ih := cmpL_M a b
    simp only [cmpL, loopR, loopM] at ih ⊢
    by_cases h : cmpLab x y = 0
    · simp only [h, if_true, List.length_cons, Nat.add_lt_add_iff_right]
      exact ih
    · simp [h]

theorem rcmp_loop {l1 l2 : List Lab} {v1 v2 : PV} (hv1 : Reads1 2 v1 (l1.map labV)) (hv2 : Reads1 2 v2 (l2.map labV)) (hl1 : l1.length ≤ maxLen) {K : List Kt} {Q : Fr → St → Prop} {S : St} : ∀ (r1 p1 r2 p2 : List Lab), l1 = p1 ++ r1 → l2 = p2 ++ r2 → p2.length = p1.length → ∀ (fr : Fr),
    fr 0 = v1 → fr 1 = v2 → fr 5 = .int .i64 p1.length →
    (loopM r1 r2 = none → ∀ fr', fr' 0 = v1 → fr' 1 = v2 → Ok (gval T K fr' S) Q) → (∀ c, loopM r1 r2 = some c → ∀ fr', fr' 4 = .int .i64 c → Q fr' S) →
    Ok (gval T (.lp ref06_Compare_l0 :: .blk 0 :: K) fr S) Q := by
  intro r1
  induction r1 with
  | nil =>
    intro p1 r2 p2 e1 e2 ep fr h0 h1 h5 k1 k2
    rw [List.append_nil] at e1; subst e1
    have hl := hv1.len
    have hl2 := hv2.len
    rw [List.length_map] at hl hl2
    rw [gval_lp]
    simp -implicitDefEqProofs [h0, h1, h5, hl]
    exact k1 (by simp [loopM]) _ (by simp [h0]) (by simp [h1])
  | cons x r1 ih =>
    intro p1 r2 p2 e1 e2 ep fr h0 h1 h5 k1 k2
    have hlt : p1.length < l1.length := by rw [e1]; simp
    have g1 := sl_get hv1 e1
    unfold maxLen at hl1
    have hw := wrap_len (a := p1.length) (by omega)
    have hp1 : ∀ {a : PV} {m : List PV}, partOf false 1 (a :: m) = some a := fun {a m} => by simp [partOf]
    have hl := hv1.len
    have hl2 := hv2.len
    rw [List.length_map] at hl hl2
    cases r2 with
    | nil =>
      have e2' : l2.length = p1.length := by rw [e2]; simp [ep]
      rw [gval_lp]
      simp -implicitDefEqProofs [h0, h1, h5, hlt, hl, hl2, e2']
      exact k1 (by simp [loopM]) _ (by simp [h0]) (by simp [h1])
    | cons y r2 =>
      have hlt2 : p1.length < l2.length := by rw [e2]; simp [ep]
      have g2 := sl_get hv2 e2
      rw [ep] at g2
      rw [gval_lp]
      simp -implicitDefEqProofs [h0, h1, h5, hlt, g1, hp1, hl, hl2, hlt2, g2, text_pval]
      refine ok_br (fun a => ?_) (fun a => ok_br (fun b => ?_) (fun b => ?_))
      · have a' : cmpT x.1 y.1 ≠ 0 := by simpa using a
        exact ok_ret (k2 (cmpT x.1 y.1) (by simp [loopM, cmpLab, a']) _ (by simp))
      · have a' : cmpT x.1 y.1 = 0 := by simpa using a
        have b' : cmpT x.2.1 y.2.1 ≠ 0 := by simpa using b
        exact ok_ret (k2 (cmpT x.2.1 y.2.1) (by simp [loopM, cmpLab, a', b']) _ (by simp))
      · have a' : cmpT x.1 y.1 = 0 := by simpa using a
        have b' : cmpT x.2.1 y.2.1 = 0 := by simpa using b
        have c' : cmpLab x y = 0 := by simp [cmpLab, a', b']
        refine ih (p1 ++ [x]) r2 (p2 ++ [y]) (by simp [e1]) (by simp [e2]) (by simp [ep]) _ (by simp [h0]) (by simp [h1]) (by simp [hw]) (fun hz => k1 ?_) (fun c hz => k2 c ?_)
        · simpa [loopM, c'] using hz
        · simpa [loopM, c'] using hz

theorem rcmp_val {l1 l2 : List Lab} {v1 v2 : PV} (hv1 : Reads1 2 v1 (l1.map labV)) (hv2 : Reads1 2 v2 (l2.map labV)) (hl1 : l1.length ≤ maxLen) (S : St) : cval T 102 [v1, v2] S = some (.int .i64 (cmpL l1 l2), S) := by
  refine cval_ok' fn_102 rfl ?_
  simp -implicitDefEqProofs [ref06_Compare]
  have e := cmpL_M l1 l2
  refine rcmp_loop hv1 hv2 hl1 l1 [] l2 [] rfl rfl rfl _ (by simp) (by simp) (by simp) (fun hz fr' g0 g1 => ?_) (fun c hz fr' g4 => ?_)
  · rw [hz] at e
    simp -implicitDefEqProofs [g0, g1, hv1.len, hv2.len]
    refine ok_br (fun a => ?_) (fun a => ok_br (fun b => ?_) (fun b => ?_))
    · have : cmpL l1 l2 = -1 := by rw [e]; simp at a; simp; omega
      simp [this]
    · have : cmpL l1 l2 = 1 := by rw [e]; simp at a b; simp; omega
      simp [this]
    · have : cmpL l1 l2 = 0 := by rw [e]; simp at a b; simp; omega
      simp [this]
  · rw [hz] at e
    simp [g4, e]

theorem same_val {l1 l2 : List Lab} {v1 v2 : PV} (hv1 : Reads1 2 v1 (l1.map labV)) (hv2 : Reads1 2 v2 (l2.map labV)) (hl1 : l1.length ≤ maxLen) (S : St) : cval T 26 [v1, v2] S = some (.bool (cmpL l1 l2 == 0), S) := by
  refine cval_ok' fn_26 rfl ?_
  simp -implicitDefEqProofs [ref06_Same, rcmp_val hv1 hv2 hl1]

/-! The order -/
theorem bl_iff {a b : List UInt8} : Op.bytesLess a b = true ↔ a < b := by
  induction a generalizing b with
  | nil => cases b <;> simp [Op.bytesLess]
  | cons x a ih => cases b with
    | nil => simp [Op.bytesLess]
    | cons y b => simp [Op.bytesLess, ih, List.cons_lt_cons_iff]

theorem cmpT_neg (a b : List UInt8) : cmpT b a = - cmpT a b := by
  unfold cmpT
  by_cases h : a < b
  · have h1 : ¬ b < a := fun k => List.lt_irrefl a (List.lt_trans h k)
    have h2 : ¬ b = a := fun k => by rw [k] at h; exact List.lt_irrefl a h
    have e1 : Op.bytesLess a b = true := bl_iff.2 h
    have e2 : Op.bytesLess b a = false := by rw [Bool.eq_false_iff]; exact fun k => h1 (bl_iff.1 k)
    simp [e1, e2, h2]
  · by_cases h1 : b < a
    · have h2 : ¬ a = b := fun k => by rw [k] at h1; exact List.lt_irrefl b h1
      have e1 : Op.bytesLess b a = true := bl_iff.2 h1
      have e2 : Op.bytesLess a b = false := by rw [Bool.eq_false_iff]; exact fun k => h (bl_iff.1 k)
      simp [e1, e2, h2]
    · have h2 : a = b := List.le_antisymm h1 h
      subst h2
      have e2 : Op.bytesLess a a = false := by rw [Bool.eq_false_iff]; exact fun k => h (bl_iff.1 k)
      simp [e2]

theorem cmpT_zero {a b : List UInt8} : cmpT a b = 0 ↔ a = b := by
  unfold cmpT
  cases h : Op.bytesLess a b with
  | true =>
    simp
    intro k; subst k
    exact List.lt_irrefl a (bl_iff.1 h)
  | false =>
    simp

theorem cmpT_lt {a b : List UInt8} : cmpT a b = -1 ↔ a < b := by
  rw [← bl_iff]
  unfold cmpT
  cases h : Op.bytesLess a b with
  | true => simp
  | false => simp; split <;> simp

theorem cmpT_rng (a b : List UInt8) : cmpT a b = -1 ∨ cmpT a b = 0 ∨ cmpT a b = 1 := by
  unfold cmpT
  by_cases h : Op.bytesLess a b = true
  · simp [h]
  · have h' : Op.bytesLess a b = false := by simpa using h
    rw [h']
    by_cases h2 : a == b
    · simp [h2]
    · simp [h2]

theorem cmpT_trans {a b c : List UInt8} (h1 : cmpT a b = -1) (h2 : cmpT b c = -1) : cmpT a c = -1 := cmpT_lt.2 (List.lt_trans (cmpT_lt.1 h1) (cmpT_lt.1 h2))

theorem cmpLab_neg (x y : Lab) : cmpLab y x = - cmpLab x y := by
  unfold cmpLab
  rw [cmpT_neg x.1 y.1, cmpT_neg x.2.1 y.2.1]
  by_cases h : cmpT x.1 y.1 = 0 <;> simp [h]
theorem cmpLab_zero {x y : Lab} : cmpLab x y = 0 ↔ x = y := by
  unfold cmpLab
  obtain ⟨a, b, u⟩ := x
  obtain ⟨c, d, v⟩ := y
  by_cases h : cmpT a c = 0
  · simp only [h, if_true, cmpT_zero]
    have := cmpT_zero.1 h
    subst this; simp
  · simp only [h, if_false, false_iff]
    intro e
    exact h (cmpT_zero.2 (by injection e))
theorem cmpLab_rng (x y : Lab) : cmpLab x y = -1 ∨ cmpLab x y = 0 ∨ cmpLab x y = 1 := by
  unfold cmpLab; split
  · exact cmpT_rng _ _
  · exact cmpT_rng _ _
theorem cmpLab_trans {x y z : Lab} (h1 : cmpLab x y = -1) (h2 : cmpLab y z = -1) : cmpLab x z = -1 := by
  unfold cmpLab at *
  by_cases a : cmpT x.1 y.1 = 0
  · rw [if_pos a] at h1
    have a' := cmpT_zero.1 a
    by_cases b : cmpT y.1 z.1 = 0
    · rw [if_pos b] at h2
      have b' := cmpT_zero.1 b
      rw [if_pos (cmpT_zero.2 (a'.trans b'))]
      exact cmpT_trans h1 h2
    · rw [if_neg b] at h2
      rw [a', if_neg b]; exact h2
  · rw [if_neg a] at h1
    by_cases b : cmpT y.1 z.1 = 0
    · have b' := cmpT_zero.1 b
      rw [← b', if_neg a]; exact h1
    · rw [if_neg b] at h2
      have := cmpT_trans h1 h2
      rw [if_neg (by rw [this]; decide)]; exact this

theorem cmpL_cons (x y : Lab) (a b : List Lab) : cmpL (x :: a) (y :: b) = if cmpLab x y = 0 then cmpL a b else cmpLab x y := by
  simp only [cmpL, loopR]
  by_cases h : cmpLab x y = 0 <;> simp [h]
@[simp] theorem cmpL_nn : cmpL [] [] = 0 := rfl
@[simp] theorem cmpL_nc (y : Lab) (b : List Lab) : cmpL [] (y :: b) = -1 := by simp [cmpL, loopR]
@[simp] theorem cmpL_cn (x : Lab) (a : List Lab) : cmpL (x :: a) [] = 1 := by simp [cmpL, loopR]

theorem cmpL_neg : ∀ a b : List Lab, cmpL b a = - cmpL a b
  | [], [] => rfl
  | [], y :: b => by simp
  | x :: a, [] => by simp
  | x :: a, y :: b => by
    rw [cmpL_cons, cmpL_cons, cmpLab_neg x y, cmpL_neg a b]
    by_cases h : cmpLab x y = 0 <;> simp [h]
theorem cmpL_zero : ∀ {a b : List Lab}, cmpL a b = 0 ↔ a = b
  | [], [] => by simp
  | [], y :: b => by simp
  | x :: a, [] => by simp
  | x :: a, y :: b => by
    rw [cmpL_cons]
    by_cases h : cmpLab x y = 0
    · rw [if_pos h, cmpL_zero (a := a) (b := b)]
      have := cmpLab_zero.1 h
      subst this; simp
    · simp only [h, if_false, List.cons.injEq]
      constructor
      · intro e; exact absurd e (by simp)
      · intro e; exact absurd (cmpLab_zero.2 e.1) h
theorem cmpL_rng : ∀ a b : List Lab, cmpL a b = -1 ∨ cmpL a b = 0 ∨ cmpL a b = 1
  | [], [] => by simp
  | [], y :: b => by simp
  | x :: a, [] => by simp
  | x :: a, y :: b => by
    rw [cmpL_cons]
    by_cases h : cmpLab x y = 0
    · rw [if_pos h]; exact cmpL_rng a b
    · rw [if_neg h]; exact cmpLab_rng x y
theorem cmpL_trans : ∀ (a b c : List Lab), cmpL a b = -1 → cmpL b c = -1 → cmpL a c = -1
  | [], [], [], _, h2 => by simp at h2
  | [], _ :: _, [], _, h2 => by simp at h2
  | [], _, _ :: _, _, _ => by simp
  | _ :: _, [], _, h1, _ => by simp at h1
  | _ :: _, _ :: _, [], _, h2 => by simp at h2
  | x :: a, y :: b, z :: c, h1, h2 => by
    rw [cmpL_cons] at h1 h2 ⊢
    by_cases p : cmpLab x y = 0
    · rw [if_pos p] at h1
      have p' := cmpLab_zero.1 p
      by_cases q : cmpLab y z = 0
      · rw [if_pos q] at h2
        rw [if_pos (cmpLab_zero.2 (p'.trans (cmpLab_zero.1 q)))]
        exact cmpL_trans a b c h1 h2
      · rw [if_neg q] at h2
        rw [p', if_neg q]; exact h2
    · rw [if_neg p] at h1
      by_cases q : cmpLab y z = 0
      · rw [← cmpLab_zero.1 q, if_neg p]; exact h1
      · rw [if_neg q] at h2
        have := cmpLab_trans h1 h2
        rw [if_neg (by rw [this]; decide)]; exact this

/-! The laws -/
theorem fn_476 : T.fn 476 = some (.code law06_LabelCompares) := rfl
theorem fn_5 : T.fn 5 = some (.code law06_LabelOrder) := rfl

theorem law_LabelCompares (xs : denL [.sl tyLab, .sl tyLab]) (h : wfL [.sl tyLab, .sl tyLab] xs) : ∃ S', cval T 476 (pvL [.sl tyLab, .sl tyLab] xs) St0 = some (.bool true, S') := by
  obtain ⟨l, m, u⟩ := xs
  obtain ⟨h1, h2, _⟩ := h
  have w1 := (inL_wf h1).1
  have hv := inL_reads l
  have hv2 := inL_reads m
  refine ⟨St0, ?_⟩
  show cval T 476 [(Ty.sl tyLab).pv l, (Ty.sl tyLab).pv m] St0 = _
  generalize (Ty.sl tyLab).pv l = v at hv
  generalize (Ty.sl tyLab).pv m = v2 at hv2
  refine cval_ok' fn_476 rfl ?_
  simp -implicitDefEqProofs [law06_LabelCompares, cmp_val hv hv2 w1, rcmp_val hv hv2 w1, lives_pval]

theorem law_LabelOrder (xs : denL [.sl tyLab, .sl tyLab, .sl tyLab]) (h : wfL [.sl tyLab, .sl tyLab, .sl tyLab] xs) : ∃ S', cval T 5 (pvL [.sl tyLab, .sl tyLab, .sl tyLab] xs) St0 = some (.bool true, S') := by
  obtain ⟨l, m, n, u⟩ := xs
  obtain ⟨h1, h2, h3, _⟩ := h
  have w1 := (inL_wf h1).1
  have w2 := (inL_wf h2).1
  have hv := inL_reads l
  have hv2 := inL_reads m
  have hv3 := inL_reads n
  refine ⟨St0, ?_⟩
  show cval T 5 [(Ty.sl tyLab).pv l, (Ty.sl tyLab).pv m, (Ty.sl tyLab).pv n] St0 = _
  generalize (Ty.sl tyLab).pv l = v at hv
  generalize (Ty.sl tyLab).pv m = v2 at hv2
  generalize (Ty.sl tyLab).pv n = v3 at hv3
  have e1 := cmpL_neg (inL l) (inL m)
  have r1 := cmpL_rng (inL l) (inL m)
  have r2 := cmpL_rng (inL m) (inL n)
  have r3 := cmpL_rng (inL l) (inL n)
  have t1 : cmpL (inL l) (inL m) ≤ 0 → cmpL (inL m) (inL n) ≤ 0 → cmpL (inL l) (inL n) ≤ 0 := by
    intro a b
    rcases r1 with p | p | p
    · rcases r2 with q | q | q
      · rw [cmpL_trans _ _ _ p q]; decide
      · rw [← cmpL_zero.1 q]; exact a
      · rw [q] at b; exact absurd b (by decide)
    · rw [cmpL_zero.1 p]; exact b
    · rw [p] at a; exact absurd a (by decide)
  have t2 : 0 ≤ cmpL (inL l) (inL m) → 0 ≤ cmpL (inL m) (inL n) → 0 ≤ cmpL (inL l) (inL n) := by
    intro a b
    have n1 := cmpL_neg (inL l) (inL m)
    have n2 := cmpL_neg (inL m) (inL n)
    have n3 := cmpL_neg (inL l) (inL n)
    rcases r1 with p | p | p
    · rw [p] at a; exact absurd a (by decide)
    · rw [cmpL_zero.1 p]; exact b
    · rcases r2 with q | q | q
      · rw [q] at b; exact absurd b (by decide)
      · rw [← cmpL_zero.1 q]; exact a
      · have := cmpL_trans (inL n) (inL m) (inL l) (by rw [n2, q]) (by rw [n1, p])
        omega
  have wr : ∀ x : Int, x = -1 ∨ x = 0 ∨ x = 1 → IntKind.i64.wrap (-x) = -x := by
    rintro x (rfl | rfl | rfl) <;> decide
  generalize cx : cmpL (inL l) (inL m) = x at *
  generalize cy : cmpL (inL m) (inL n) = y at *
  generalize cz : cmpL (inL l) (inL n) = z at *
  have q1 := fun S => (cmp_val hv hv2 w1 S)
  have q2 := fun S => (cmp_val hv2 hv3 w2 S)
  have q3 := fun S => (cmp_val hv hv3 w1 S)
  have q4 := fun S => (cmp_val hv2 hv w2 S)
  have q5 := fun S => (same_val hv hv2 w1 S)
  simp only [cx, cy, cz, e1] at q1 q2 q3 q4 q5
  refine cval_ok' fn_5 rfl ?_
  simp -implicitDefEqProofs [law06_LabelOrder, q1, q2, q3, q4, q5, lives_pval, wr x r1, show ¬ x < -1 by omega, show ¬ 1 < x by omega]
  omega
end Ps
