/- Names and right sets. -/
import Derived.Test.YtfimbhaiegkkeaaTie
import Derived.Test.YtfimbhaiegkkeaaOk
namespace Ps
set_option linter.unusedSimpArgs false
open Go

theorem fn_121 : T.fn 121 = some (.code label_Name) := rfl
theorem fn_126 : T.fn 126 = some (.code ref06_Name) := rfl

def letter (c : UInt8) : Bool := (97 ≤ c.toNat && c.toNat ≤ 122) || (65 ≤ c.toNat && c.toNat ≤ 90) || c.toNat == 95
def digitB (c : UInt8) : Bool := 48 ≤ c.toNat && c.toNat ≤ 57
def nameRest (l : List UInt8) : Bool := l.all fun c => letter c || digitB c
def nameB : List UInt8 → Bool
  | [] => false
  | c :: l => letter c && nameRest l && decide (l.length + 1 ≤ 32)

/-- From a place on. -/
def nameAt (first : Bool) : List UInt8 → Bool
  | [] => true
  | c :: l => (letter c || (!first && digitB c)) && nameAt false l

theorem nameAt_rest : ∀ l, nameAt false l = nameRest l
  | [] => rfl
  | c :: l => by simp [nameAt, nameRest, nameAt_rest l]

theorem nameB_eq (s : List UInt8) : nameB s = (nameAt true s && (!(s == []) && decide (s.length ≤ 32))) := by
  cases s with
  | nil => rfl
  | cons c l => simp [nameB, nameAt, nameAt_rest, Bool.and_assoc]

theorem name_loop {s : List UInt8} (hs : s.length ≤ maxLen) {K : List Kt} {S : St} {Q : Fr → St → Prop} : ∀ (rest pre : List UInt8), s = pre ++ rest → ∀ (fr : Fr),
    fr 0 = .str s → fr 6 = .int .i64 s.length → fr 7 = .int .i64 pre.length →
    (nameAt pre.isEmpty rest = true → ∀ fr', fr' 0 = .str s → Ok (gval T K fr' S) Q) → (nameAt pre.isEmpty rest = false → ∀ fr', fr' 2 = .bool false → Q fr' S) →
    Ok (gval T (.lp label_Name_l0 :: .blk 0 :: K) fr S) Q := by
  intro rest
  induction rest with
  | nil =>
    intro pre hp fr h0 h6 h7 k1 k2
    rw [List.append_nil] at hp; subst hp
    rw [gval_lp]
    simp [h0, h6, h7]
    exact k1 rfl _ (by simp [h0])
  | cons c rest ih =>
    intro pre hp fr h0 h6 h7 k1 k2
    have hi : pre.length < s.length := by rw [hp]; simp
    have hc : s[pre.length] = c := by simp [hp]
    unfold maxLen at hs
    have hw := wrap_len (a := pre.length) (by omega)
    have hn : (!pre.isEmpty) = decide (0 < pre.length) := by cases pre <;> simp
    have he : (pre ++ [c]).isEmpty = false := by simp
    have hL : ∀ fr', fr' 0 = .str s → fr' 6 = .int .i64 s.length → fr' 7 = .int .i64 ((pre.length + 1 : Nat) : Int) → (letter c || (decide (0 < pre.length) && digitB c)) = true → Ok (gval T (.lp label_Name_l0 :: .blk 0 :: K) fr' S) Q := by
      intro fr' g0 g6 g7 gl
      refine ih (pre ++ [c]) (by simp [hp]) fr' g0 g6 (by simpa using g7) (fun h => k1 ?_) (fun h => k2 ?_)
      · rw [he] at h; simp only [nameAt, hn, gl, h, Bool.and_self]
      · rw [he] at h; simp only [nameAt, h, Bool.and_false]
    have hR : ∀ fr', fr' 2 = .bool false → (letter c || (decide (0 < pre.length) && digitB c)) = false → Q fr' S := fun fr' g2 gl => k2 (by simp only [nameAt, hn, gl, Bool.false_and]) fr' g2
    clear k1 k2
    rw [gval_lp]
    simp -implicitDefEqProofs [h0, h6, h7, hi, hc]
    refine ok_br (fun a1 => ok_br (fun _ => hL _ (by simp [h0]) (by simp [h6]) (by simp [hw]) ?_) (fun a2 => absurd a1 (by simp [a2]))) (fun a1 => ok_br (fun a2 => ok_br (fun _ => hL _ (by simp [h0]) (by simp [h6]) (by simp [hw]) ?_) (fun a3 => absurd a2 (by simp [a3])))
      (fun a2 => ok_br (fun a3 => hL _ (by simp [h0]) (by simp [h6]) (by simp [hw]) ?_) (fun a3 => ok_br (fun a4 => hL _ (by simp [h0]) (by simp [h6]) (by simp [hw]) ?_) (fun a4 => ok_ret (hR _ (by simp) ?_)))))
    · simp [letter, digitB] at a1 ⊢; omega
    · simp [letter, digitB] at a2 ⊢; omega
    · simp [letter, digitB] at a3 ⊢; omega
    · simp [letter, digitB] at a4 ⊢; omega
    · simp [letter, digitB] at a1 a2 a3 a4 ⊢; omega

theorem name_val {s : List UInt8} (hs : s.length ≤ maxLen) : cval T 121 [.str s] St0 = some (.bool (nameB s), St0) := by
  refine cval_ok' fn_121 rfl ?_
  simp [label_Name]
  refine name_loop hs s [] rfl _ (by simp) (by simp) (by simp) (fun h fr' g0 => ?_) (fun h fr' g2 => ?_)
  · simp [g0, nameB_eq, show nameAt true s = true from h]
    congr 1; exact decide_eq_decide.2 (by omega)
  · simp [g2, nameB_eq, show nameAt true s = false from h]

theorem rname_loop {s : List UInt8} (hs : s.length ≤ maxLen) {K : List Kt} {S : St} {Q : Fr → St → Prop} : ∀ (rest pre : List UInt8), s = pre ++ rest → ∀ (fr : Fr),
    fr 0 = .str s → fr 3 = .int .i64 pre.length →
    (nameAt pre.isEmpty rest = true → ∀ fr', fr' 0 = .str s → Ok (gval T K fr' S) Q) → (nameAt pre.isEmpty rest = false → ∀ fr', fr' 2 = .bool false → Q fr' S) →
    Ok (gval T (.lp ref06_Name_l0 :: .blk 0 :: K) fr S) Q := by
  intro rest
  induction rest with
  | nil =>
    intro pre hp fr h0 h3 k1 k2
    rw [List.append_nil] at hp; subst hp
    rw [gval_lp]
    simp [h0, h3]
    exact k1 rfl _ (by simp [h0])
  | cons c rest ih =>
    intro pre hp fr h0 h3 k1 k2
    have hi : pre.length < s.length := by rw [hp]; simp
    have hc : s[pre.length] = c := by simp [hp]
    unfold maxLen at hs
    have hw := wrap_len (a := pre.length) (by omega)
    have hn : (!pre.isEmpty) = decide (0 < pre.length) := by cases pre <;> simp
    have hn0 : pre = [] ↔ pre.length = 0 := by cases pre <;> simp
    have he : (pre ++ [c]).isEmpty = false := by simp
    have hL : ∀ fr', fr' 0 = .str s → fr' 3 = .int .i64 ((pre.length + 1 : Nat) : Int) → (letter c || (decide (0 < pre.length) && digitB c)) = true → Ok (gval T (.lp ref06_Name_l0 :: .blk 0 :: K) fr' S) Q := by
      intro fr' g0 g3 gl
      refine ih (pre ++ [c]) (by simp [hp]) fr' g0 (by simpa using g3) (fun h => k1 ?_) (fun h => k2 ?_)
      · rw [he] at h; simp only [nameAt, hn, gl, h, Bool.and_self]
      · rw [he] at h; simp only [nameAt, h, Bool.and_false]
    have hR : ∀ fr', fr' 2 = .bool false → (letter c || (decide (0 < pre.length) && digitB c)) = false → Q fr' S := fun fr' g2 gl => k2 (by simp only [nameAt, hn, gl, Bool.false_and]) fr' g2
    clear k1 k2
    rw [gval_lp]
    simp -implicitDefEqProofs [h0, h3, hi, hc]
    refine ok_br (fun a1 => ok_ret (hR _ (by simp) ?_)) (fun a1 => hL _ (by simp [h0]) (by simp [hw]) ?_)
    · simp [letter, digitB, -List.length_eq_zero_iff] at a1 ⊢; omega
    · simp [letter, digitB, -List.length_eq_zero_iff] at a1 ⊢; omega

theorem rname_val {s : List UInt8} (hs : s.length ≤ maxLen) : cval T 126 [.str s] St0 = some (.bool (nameB s), St0) := by
  refine cval_ok' fn_126 rfl ?_
  simp [ref06_Name]
  refine rname_loop hs s [] rfl _ (by simp) (by simp) (fun h fr' g0 => ?_) (fun h fr' g2 => ?_)
  · simp [g0, nameB_eq, show nameAt true s = true from h]
    congr 1; exact decide_eq_decide.2 (by omega)
  · simp [g2, nameB_eq, show nameAt true s = false from h]

theorem name_pval {s : List UInt8} (hs : s.length ≤ maxLen) : pval T 121 [.str s] = some (.bool (nameB s)) := pval_st (name_val hs) rfl rfl
theorem rname_pval {s : List UInt8} (hs : s.length ≤ maxLen) : pval T 126 [.str s] = some (.bool (nameB s)) := pval_st (rname_val hs) rfl rfl
end Ps
