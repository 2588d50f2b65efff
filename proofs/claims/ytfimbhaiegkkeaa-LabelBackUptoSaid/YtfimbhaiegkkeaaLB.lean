/- Right sets. -/
import Derived.Test.YtfimbhaiegkkeaaTie
import Derived.Test.YtfimbhaiegkkeaaOk
namespace Ps
set_option linter.unusedSimpArgs false
open Go

theorem fn_121 : T.fn 121 = some (.code label_Name) := rfl
theorem fn_126 : T.fn 126 = some (.code ref06_Name) := rfl

def letter (c : UInt8) : Bool := (97 ≤ c.toNat && c.toNat ≤ 122) || (65 ≤ c.toNat && c.toNat ≤ 90) || c.toNat == 95
def digitB (c : UInt8) : Bool := 48 ≤ c.toNat && c.toNat ≤ 57
def nameRest (l : List UInt8) : Bool := l.all fun c => letter c || digitB c
def nameB : List UInt8 → Bool
  | [] => false
  | c :: l => letter c && nameRest l && decide (l.length + 1 ≤ 32)

/-- From a place on. -/
def nameAt (first : Bool) : List UInt8 → Bool
  | [] => true
  | c :: l => (letter c || (!first && digitB c)) && nameAt false l

theorem nameAt_rest : ∀ l, nameAt false l = nameRest l
  | [] => rfl
  | c :: l => by simp [nameAt, nameRest, nameAt_rest l]

theorem nameB_eq (s : List UInt8) : nameB s = (nameAt true s && (!(s == []) && decide (s.length ≤ 32))) := by
  cases s with
  | nil => rfl
  | cons c l => simp [nameB, nameAt, nameAt_rest, Bool.and_assoc]

theorem name_loop {s : List UInt8} (hs : s.length ≤ maxLen) {K : List Kt} {S : St} {Q : Fr → St → Prop} : ∀ (rest pre : List UInt8), s = pre ++ rest → ∀ (fr : Fr),
    fr 0 = .str s → fr 6 = .int .i64 s.length → fr 7 = .int .i64 pre.length →
    (nameAt pre.isEmpty rest = true → ∀ fr', fr' 0 = .str s → Ok (gval T K fr' S) Q) → (nameAt pre.isEmpty rest = false → ∀ fr', fr' 2 = .bool false → Q fr' S) →
    Ok (gval T (.lp label_Name_l0 :: .blk 0 :: K) fr S) Q := by
  intro rest
  induction rest with
  | nil =>
    intro pre hp fr h0 h6 h7 k1 k2
    rw [List.append_nil] at hp; subst hp
    rw [gval_lp]
    simp [h0, h6, h7]
    exact k1 rfl _ (by simp [h0])
  | cons c rest ih =>
    intro pre hp fr h0 h6 h7 k1 k2
    have hi : pre.length < s.length := by rw [hp]; simp
    have hc : s[pre.length] = c := by simp [hp]
    unfold maxLen at hs
    have hw := wrap_len (a := pre.length) (by omega)
    have hn : (!pre.isEmpty) = decide (0 < pre.length) := by cases pre <;> simp
    have he : (pre ++ [c]).isEmpty = false := by simp
    have hL : ∀ fr', fr' 0 = .str s → fr' 6 = .int .i64 s.length → fr' 7 = .int .i64 ((pre.length + 1 : Nat) : Int) → (letter c || (decide (0 < pre.length) && digitB c)) = true → Ok (gval T (.lp label_Name_l0 :: .blk 0 :: K) fr' S) Q := by
      intro fr' g0 g6 g7 gl
      refine ih (pre ++ [c]) (by simp [hp]) fr' g0 g6 (by simpa using g7) (fun h => k1 ?_) (fun h => k2 ?_)
      · rw [he] at h; simp only [nameAt, hn, gl, h, Bool.and_self]
      · rw [he] at h; simp only [nameAt, h, Bool.and_false]
    have hR : ∀ fr', fr' 2 = .bool false → (letter c || (decide (0 < pre.length) && digitB c)) = false → Q fr' S := fun fr' g2 gl => k2 (by simp only [nameAt, hn, gl, Bool.false_and]) fr' g2
    clear k1 k2
    rw [gval_lp]
    simp -implicitDefEqProofs [h0, h6, h7, hi, hc]
    refine ok_br (fun a1 => ok_br (fun _ => hL _ (by simp [h0]) (by simp [h6]) (by simp [hw]) ?_) (fun a2 => absurd a1 (by simp [a2]))) (fun a1 => ok_br (fun a2 => ok_br (fun _ => hL _ (by simp [h0]) (by simp [h6]) (by simp [hw]) ?_) (fun a3 => absurd a2 (by simp [a3])))
      (fun a2 => ok_br (fun a3 => hL _ (by simp [h0]) (by simp [h6]) (by simp [hw]) ?_) (fun a3 => ok_br (fun a4 => hL _ (by simp [h0]) (by simp [h6]) (by simp [hw]) ?_) (fun a4 => ok_ret (hR _ (by simp) ?_)))))
    · simp [letter, digitB] at a1 ⊢; omega
    · simp [letter, digitB] at a2 ⊢; omega
    · simp [letter, digitB] at a3 ⊢; omega
    · simp [letter, digitB] at a4 ⊢; omega
    · simp [letter, digitB] at a1 a2 a3 a4 ⊢; omega

theorem name_val {s : List UInt8} (hs : s.length ≤ maxLen) : cval T 121 [.str s] St0 = some (.bool (nameB s), St0) := by
  refine cval_ok' fn_121 rfl ?_
  simp [label_Name]
  refine name_loop hs s [] rfl _ (by simp) (by simp) (by simp) (fun h fr' g0 => ?_) (fun h fr' g2 => ?_)
  · simp [g0, nameB_eq, show nameAt true s = true from h]
    congr 1; exact decide_eq_decide.2 (by omega)
  · simp [g2, nameB_eq, show nameAt true s = false from h]

theorem rname_loop {s : List UInt8} (hs : s.length ≤ maxLen) {K : List Kt} {S : St} {Q : Fr → St → Prop} : ∀ (rest pre : List UInt8), s = pre ++ rest → ∀ (fr : Fr),
    fr 0 = .str s → fr 3 = .int .i64 pre.length →
    (nameAt pre.isEmpty rest = true → ∀ fr', fr' 0 = .str s → Ok (gval T K fr' S) Q) → (nameAt pre.isEmpty rest = false → ∀ fr', fr' 2 = .bool false → Q fr' S) →
    Ok (gval T (.lp ref06_Name_l0 :: .blk 0 :: K) fr S) Q := by
  intro rest
  induction rest with
  | nil =>
    intro pre hp fr h0 h3 k1 k2
    rw [List.append_nil] at hp; subst hp
    rw [gval_lp]
    simp [h0, h3]
    exact k1 rfl _ (by simp [h0])
  | cons c rest ih =>
    intro pre hp fr h0 h3 k1 k2
    have hi : pre.length < s.length := by rw [hp]; simp
    have hc : s[pre.length] = c := by simp [hp]
    unfold maxLen at hs
    have hw := wrap_len (a := pre.length) (by omega)
    have hn : (!pre.isEmpty) = decide (0 < pre.length) := by cases pre <;> simp
    have hn0 : pre = [] ↔ pre.length = 0 := by cases pre <;> simp
    have he : (pre ++ [c]).isEmpty = false := by simp
    have hL : ∀ fr', fr' 0 = .str s → fr' 3 = .int .i64 ((pre.length + 1 : Nat) : Int) → (letter c || (decide (0 < pre.length) && digitB c)) = true → Ok (gval T (.lp ref06_Name_l0 :: .blk 0 :: K) fr' S) Q := by
      intro fr' g0 g3 gl
      refine ih (pre ++ [c]) (by simp [hp]) fr' g0 (by simpa using g3) (fun h => k1 ?_) (fun h => k2 ?_)
      · rw [he] at h; simp only [nameAt, hn, gl, h, Bool.and_self]
      · rw [he] at h; simp only [nameAt, h, Bool.and_false]
    have hR : ∀ fr', fr' 2 = .bool false → (letter c || (decide (0 < pre.length) && digitB c)) = false → Q fr' S := fun fr' g2 gl => k2 (by simp only [nameAt, hn, gl, Bool.false_and]) fr' g2
    clear k1 k2
    rw [gval_lp]
    simp -implicitDefEqProofs [h0, h3, hi, hc]
    refine ok_br (fun a1 => ok_ret (hR _ (by simp) ?_)) (fun a1 => hL _ (by simp [h0]) (by simp [hw]) ?_)
    · simp [letter, digitB, -List.length_eq_zero_iff] at a1 ⊢; omega
    · simp [letter, digitB, -List.length_eq_zero_iff] at a1 ⊢; omega

theorem rname_val {s : List UInt8} (hs : s.length ≤ maxLen) : cval T 126 [.str s] St0 = some (.bool (nameB s), St0) := by
  refine cval_ok' fn_126 rfl ?_
  simp [ref06_Name]
  refine rname_loop hs s [] rfl _ (by simp) (by simp) (fun h fr' g0 => ?_) (fun h fr' g2 => ?_)
  · simp [g0, nameB_eq, show nameAt true s = true from h]
    congr 1; exact decide_eq_decide.2 (by omega)
  · simp [g2, nameB_eq, show nameAt true s = false from h]

theorem name_pval {s : List UInt8} (hs : s.length ≤ maxLen) : pval T 121 [.str s] = some (.bool (nameB s)) := pval_st (name_val hs) rfl rfl
theorem rname_pval {s : List UInt8} (hs : s.length ≤ maxLen) : pval T 126 [.str s] = some (.bool (nameB s)) := pval_st (rname_val hs) rfl rfl

theorem fn_40 : T.fn 40 = some (.code label_Check) := rfl
theorem fn_98 : T.fn 98 = some (.code ref06_Check) := rfl

abbrev Lab := List UInt8 × List UInt8 × Unit
def labV (x : Lab) : PV := .agg [.str x.1, .str x.2.1]
@[simp] theorem labV_cells (x : Lab) : (labV x).cells = [.str x.1, .str x.2.1] := rfl

/-- What is wrong with the label at a place; 0: nothing. -/
def chk1 (l : List Lab) (i : Nat) (h : i < l.length) : Nat :=
  if nameB l[i].1 = false then 8 else if l[i].2.1.isEmpty then 2 else if 64 < l[i].2.1.length then 3 else
  if h0 : 0 < i then (if (Op.bytesLess l[i].1 l[i - 1].1 || l[i].1 == l[i - 1].1) = true then 13 else 0) else 0
def chkIdx (l : List Lab) (i : Nat) : Nat :=
  if h : i < l.length then (if chk1 l i h = 0 then chkIdx l (i + 1) else chk1 l i h) else 0
termination_by l.length - i
def checkN (l : List Lab) : Nat := if 8 < l.length then 3 else chkIdx l 0

theorem check_loop {l : List Lab} {v : PV} (hv : Reads1 2 v (l.map labV)) (hn : ∀ x ∈ l, x.1.length ≤ maxLen) (hl : l.length ≤ maxLen) {K : List Kt} {Q : Fr → St → Prop} {S0 : St} : ∀ (n i : Nat), l.length - i = n → i ≤ l.length → ∀ (fr : Fr) (S : St),
    fr 0 = v → fr 8 = v → fr 9 = .int .i64 l.length → fr 10 = .int .i64 i → Grows S0 S → (chkIdx l i = 0 → ∀ fr' S', Grows S0 S' → Ok (gval T K fr' S') Q) →
    (chkIdx l i ≠ 0 → ∀ fr' S', Grows S0 S' → fr' 2 = .int .i64 (chkIdx l i) → Q fr' S') → Ok (gval T (.lp label_Check_l0 :: .blk 0 :: K) fr S) Q := by
  intro n
  induction n with
  | zero =>
    intro i hni hil fr S h0 h8 h9 h10 hg k1 k2
    have hi : i = l.length := by omega
    have hc : chkIdx l i = 0 := by rw [chkIdx, dif_neg (by omega)]
    rw [gval_lp]
    simp -implicitDefEqProofs [h0, h8, h9, h10, hi]
    exact k1 hc _ _ hg
  | succ n ih =>
    intro i hni hil fr S h0 h8 h9 h10 hg k1 k2
    have hi : i < l.length := by omega
    have hget := hv.get i (by simpa using hi) .i64
    have hx : (l.map labV)[i]'(by simpa using hi) = labV l[i] := by simp
    rw [hx, labV_cells] at hget
    have hpv := name_pval (hn l[i] (List.getElem_mem hi))
    unfold maxLen at hl
    have hw := wrap_len (a := i) (by omega)
    have hpo : ∀ {a b : PV}, partOf true 2 [a, b] = some (.agg [a, b]) := fun {a b} => rfl
    have hp1 : ∀ {a : PV} {m : List PV}, partOf false 1 (a :: m) = some a := fun {a m} => by simp [partOf]
    rw [chkIdx, dif_pos hi] at k1 k2
    have hL : chk1 l i hi = 0 → ∀ fr' S', fr' 0 = v → fr' 8 = v → fr' 9 = .int .i64 l.length → fr' 10 = .int .i64 ((i + 1 : Nat) : Int) → Grows S0 S' → Ok (gval T (.lp label_Check_l0 :: .blk 0 :: K) fr' S') Q := by
      intro hz fr' S' g0 g8 g9 g10 gg
      rw [if_pos hz] at k1 k2
      exact ih (i + 1) (by omega) (by omega) fr' S' g0 g8 g9 g10 gg k1 k2
    have hR : ∀ (e : Nat), e ≠ 0 → chk1 l i hi = e → ∀ fr' S', fr' 2 = .int .i64 e → Grows S0 S' → Q fr' S' := by
      intro e he hz fr' S' g2 gg
      rw [if_neg (by rw [hz]; exact he), hz] at k2
      exact k2 he fr' S' gg g2
    clear k1 k2 ih
    by_cases hi0 : 0 < i
    · have hgetp := hv.get (i - 1) (by simp; omega) .i64
      have hxp : (l.map labV)[i - 1]'(by simp; omega) = labV l[i - 1] := by simp
      rw [hxp, labV_cells] at hgetp
      have hsub : IntKind.i64.wrap ((i : Int) - 1) = ((i - 1 : Nat) : Int) := by rw [wrap_i64] <;> omega
      rw [gval_lp]
      simp -implicitDefEqProofs [h0, h8, h9, h10, hi, hget, hpo, hp1, hpv, hi0, hgetp, hsub, pstep, putCells]
      refine ok_br (fun a1 => ok_ret (hR 8 (by decide) ?_ _ _ (by simp) (hg.obj _))) (fun a1 => ok_br (fun a2 => ok_ret (hR 2 (by decide) ?_ _ _ (by simp) (hg.obj _))) (fun a2 => ok_br (fun a3 => ok_ret (hR 3 (by decide) ?_ _ _ (by simp) (hg.obj _)))
        (fun a3 => ok_br (fun a4 => ok_ret (hR 13 (by decide) ?_ _ _ (by simp) (hg.obj _))) (fun a4 => hL ?_ _ _ (by simp [h0]) (by simp [h8]) (by simp [h9]) (by simp [hw]) (hg.obj _)))))
      · rw [chk1, if_pos (by simpa using a1)]
      · rw [chk1, if_neg (by simpa using a1), if_pos a2]
      · rw [chk1, if_neg (by simpa using a1), if_neg (by simp [a2]), if_pos (by simp at a3; omega)]
      · rw [chk1, if_neg (by simpa using a1), if_neg (by simp [a2]), if_neg (by simp at a3; omega), dif_pos hi0, if_pos a4]
      · rw [chk1, if_neg (by simpa using a1), if_neg (by simp [a2]), if_neg (by simp at a3; omega), dif_pos hi0, if_neg (by simp only [a4]; decide)]
    · rw [gval_lp]
      simp -implicitDefEqProofs [h0, h8, h9, h10, hi, hget, hpo, hp1, hpv, hi0, pstep, putCells]
      refine ok_br (fun a1 => ok_ret (hR 8 (by decide) ?_ _ _ (by simp) (hg.obj _))) (fun a1 => ok_br (fun a2 => ok_ret (hR 2 (by decide) ?_ _ _ (by simp) (hg.obj _))) (fun a2 => ok_br (fun a3 => ok_ret (hR 3 (by decide) ?_ _ _ (by simp) (hg.obj _)))
        (fun a3 => hL ?_ _ _ (by simp [h0]) (by simp [h8]) (by simp [h9]) (by simp [hw]) (hg.obj _))))
      · rw [chk1, if_pos (by simpa using a1)]
      · rw [chk1, if_neg (by simpa using a1), if_pos a2]
      · rw [chk1, if_neg (by simpa using a1), if_neg (by simp [a2]), if_pos (by simp at a3; omega)]
      · rw [chk1, if_neg (by simpa using a1), if_neg (by simp [a2]), if_neg (by simp at a3; omega), dif_neg hi0]

theorem rcheck_loop {l : List Lab} {v : PV} (hv : Reads1 2 v (l.map labV)) (hn : ∀ x ∈ l, x.1.length ≤ maxLen) (hl : l.length ≤ maxLen) {K : List Kt} {Q : Fr → St → Prop} {S0 : St} : ∀ (n i : Nat), l.length - i = n → i ≤ l.length → ∀ (fr : Fr) (S : St),
    fr 0 = v → fr 3 = .int .i64 i → Grows S0 S → (chkIdx l i = 0 → ∀ fr' S', Grows S0 S' → Ok (gval T K fr' S') Q) →
    (chkIdx l i ≠ 0 → ∀ fr' S', Grows S0 S' → fr' 2 = .int .i64 (chkIdx l i) → Q fr' S') → Ok (gval T (.lp ref06_Check_l0 :: .blk 0 :: K) fr S) Q := by
  intro n
  induction n with
  | zero =>
    intro i hni hil fr S h0 h3 hg k1 k2
    have hi : i = l.length := by omega
    have hc : chkIdx l i = 0 := by rw [chkIdx, dif_neg (by omega)]
    rw [gval_lp]
    simp -implicitDefEqProofs [h0, h3, hi, hv.len]
    exact k1 hc _ _ hg
  | succ n ih =>
    intro i hni hil fr S h0 h3 hg k1 k2
    have hi : i < l.length := by omega
    have hget := hv.get i (by simpa using hi) .i64
    have hx : (l.map labV)[i]'(by simpa using hi) = labV l[i] := by simp
    rw [hx, labV_cells] at hget
    have hpv := rname_pval (hn l[i] (List.getElem_mem hi))
    unfold maxLen at hl
    have hw := wrap_len (a := i) (by omega)
    have hpo : ∀ {a b : PV}, partOf true 2 [a, b] = some (.agg [a, b]) := fun {a b} => rfl
    have hp1 : ∀ {a : PV} {m : List PV}, partOf false 1 (a :: m) = some a := fun {a m} => by simp [partOf]
    rw [chkIdx, dif_pos hi] at k1 k2
    have hL : chk1 l i hi = 0 → ∀ fr' S', fr' 0 = v → fr' 3 = .int .i64 ((i + 1 : Nat) : Int) → Grows S0 S' → Ok (gval T (.lp ref06_Check_l0 :: .blk 0 :: K) fr' S') Q := by
      intro hz fr' S' g0 g3 gg
      rw [if_pos hz] at k1 k2
      exact ih (i + 1) (by omega) (by omega) fr' S' g0 g3 gg k1 k2
    have hR : ∀ (e : Nat), e ≠ 0 → chk1 l i hi = e → ∀ fr' S', fr' 2 = .int .i64 e → Grows S0 S' → Q fr' S' := by
      intro e he hz fr' S' g2 gg
      rw [if_neg (by rw [hz]; exact he), hz] at k2
      exact k2 he fr' S' gg g2
    clear k1 k2 ih
    by_cases hi0 : 0 < i
    · have hgetp := hv.get (i - 1) (by simp; omega) .i64
      have hxp : (l.map labV)[i - 1]'(by simp; omega) = labV l[i - 1] := by simp
      rw [hxp, labV_cells] at hgetp
      have hsub : IntKind.i64.wrap ((i : Int) - 1) = ((i - 1 : Nat) : Int) := by rw [wrap_i64] <;> omega
      rw [gval_lp]
      simp -implicitDefEqProofs [h0, h3, hi, hv.len, hget, hpo, hp1, hpv, hi0, hgetp, hsub, pstep, putCells]
      refine ok_br (fun a1 => ok_ret (hR 8 (by decide) ?_ _ _ (by simp) hg)) (fun a1 => ok_br (fun a2 => ok_ret (hR 2 (by decide) ?_ _ _ (by simp) hg)) (fun a2 => ok_br (fun a3 => ok_ret (hR 3 (by decide) ?_ _ _ (by simp) hg))
        (fun a3 => ok_br (fun a4 => ok_ret (hR 13 (by decide) ?_ _ _ (by simp) hg)) (fun a4 => hL ?_ _ _ (by simp [h0]) (by simp [hw]) hg))))
      · rw [chk1, if_pos (by simpa using a1)]
      · rw [chk1, if_neg (by simpa using a1), if_pos a2]
      · rw [chk1, if_neg (by simpa using a1), if_neg (by simp [a2]), if_pos (by simp at a3; omega)]
      · rw [chk1, if_neg (by simpa using a1), if_neg (by simp [a2]), if_neg (by simp at a3; omega), dif_pos hi0, if_pos a4]
      · rw [chk1, if_neg (by simpa using a1), if_neg (by simp [a2]), if_neg (by simp at a3; omega), dif_pos hi0, if_neg (by simp only [a4]; decide)]
    · rw [gval_lp]
      simp -implicitDefEqProofs [h0, h3, hi, hv.len, hget, hpo, hp1, hpv, hi0, pstep, putCells]
      refine ok_br (fun a1 => ok_ret (hR 8 (by decide) ?_ _ _ (by simp) hg)) (fun a1 => ok_br (fun a2 => ok_ret (hR 2 (by decide) ?_ _ _ (by simp) hg)) (fun a2 => ok_br (fun a3 => ok_ret (hR 3 (by decide) ?_ _ _ (by simp) hg))
        (fun a3 => hL ?_ _ _ (by simp [h0]) (by simp [hw]) hg)))
      · rw [chk1, if_pos (by simpa using a1)]
      · rw [chk1, if_neg (by simpa using a1), if_pos a2]
      · rw [chk1, if_neg (by simpa using a1), if_neg (by simp [a2]), if_pos (by simp at a3; omega)]
      · rw [chk1, if_neg (by simpa using a1), if_neg (by simp [a2]), if_neg (by simp at a3; omega), dif_neg hi0]

theorem check_val {l : List Lab} {v : PV} (hv : Reads1 2 v (l.map labV)) (hn : ∀ x ∈ l, x.1.length ≤ maxLen) (hl : l.length ≤ maxLen) (S : St) : cval T 40 [v] S = some (.int .i64 (checkN l), S) := by
  refine cval_ok' fn_40 rfl ?_
  simp -implicitDefEqProofs [label_Check, hv.len]
  refine ok_br (fun a => ?_) (fun a => ?_)
  · have h : checkN l = 3 := by rw [checkN, if_pos (by simp at a; omega)]
    simp [h]
  · have h : checkN l = chkIdx l 0 := by rw [checkN, if_neg (by simp at a; omega)]
    refine check_loop hv hn hl l.length 0 (by omega) (by omega) _ S (by simp) (by simp) (by simp) (by simp) (Grows.refl S) (fun hz fr' S' gg => ?_) (fun hz fr' S' gg g2 => ?_)
    · simp [gg, h, hz]
    · simp [gg, g2, h]

theorem rcheck_val {l : List Lab} {v : PV} (hv : Reads1 2 v (l.map labV)) (hn : ∀ x ∈ l, x.1.length ≤ maxLen) (hl : l.length ≤ maxLen) (S : St) : cval T 98 [v] S = some (.int .i64 (checkN l), S) := by
  refine cval_ok' fn_98 rfl ?_
  simp -implicitDefEqProofs [ref06_Check, hv.len]
  refine ok_br (fun a => ?_) (fun a => ?_)
  · have h : checkN l = 3 := by rw [checkN, if_pos (by simp at a; omega)]
    simp [h]
  · have h : checkN l = chkIdx l 0 := by rw [checkN, if_neg (by simp at a; omega)]
    refine rcheck_loop hv hn hl l.length 0 (by omega) (by omega) _ S (by simp) (by simp) (Grows.refl S) (fun hz fr' S' gg => ?_) (fun hz fr' S' gg g2 => ?_)
    · simp [gg, h, hz]
    · simp [gg, g2, h]
end Ps
