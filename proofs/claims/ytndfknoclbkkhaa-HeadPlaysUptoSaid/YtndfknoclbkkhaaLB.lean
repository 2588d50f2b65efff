/- Labels: right sets, held against each other, laid down and read (out of the label seat's texts) -/
import Derived.Test.YtndfknoclbkkhaaTie
import Derived.Test.YtndfknoclbkkhaaOkD
import Derived.Test.YtndfknoclbkkhaaRow
namespace Ps
set_option linter.unusedSimpArgs false
set_option linter.unusedVariables false
open Go
theorem fn_121 : T.fn 121 = some (.code z71) := rfl
theorem fn_126 : T.fn 126 = some (.code z77) := rfl

def letter (c : UInt8) : Bool := (97 ≤ c.toNat && c.toNat ≤ 122) || (65 ≤ c.toNat && c.toNat ≤ 90) || c.toNat == 95
def digitB (c : UInt8) : Bool := 48 ≤ c.toNat && c.toNat ≤ 57
def nameRest (l : List UInt8) : Bool := l.all fun c => letter c || digitB c
def nameB : List UInt8 → Bool
 | [] => false
 | c :: l => letter c && nameRest l && decide (l.length + 1 ≤ 32)

def nameAt (first : Bool) : List UInt8 → Bool
 | [] => true
 | c :: l => (letter c || (!first && digitB c)) && nameAt false l

theorem nameAt_rest : ∀ l, nameAt false l = nameRest l
 | [] => rfl
 | c :: l => by simp [nameAt, nameRest, nameAt_rest l]

theorem nameB_eq (s : List UInt8) : nameB s = (nameAt true s && (!(s == []) && decide (s.length ≤ 32))) := by
 cases s with
 | nil => rfl
 | cons c l => simp [nameB, nameAt, nameAt_rest, Bool.and_assoc]

theorem name_loop {s : List UInt8} (hs : s.length ≤ maxLen) {K : List Kt} {S : St} {Q : Fr → St → Prop} : ∀ (rest pre : List UInt8), s = pre ++ rest → ∀ (fr : Fr),
  fr 0 = .str s → fr 6 = .int .i64 s.length → fr 7 = .int .i64 pre.length →
  (nameAt pre.isEmpty rest = true → ∀ fr', fr' 0 = .str s → Ok (gval T K fr' S) Q) → (nameAt pre.isEmpty rest = false → ∀ fr', fr' 2 = .bool false → Q fr' S) →
  Ok (gval T (.lp z71_l0 :: .blk 0 :: K) fr S) Q := by
 intro rest
 induction rest with
 | nil =>
  intro pre hp fr h0 h6 h7 k1 k2
  rw [List.append_nil] at hp; subst hp
  rw [gval_lp]
  simp [h0, h6, h7]
  exact k1 rfl _ (by simp [h0])
 | cons c rest ih =>
  intro pre hp fr h0 h6 h7 k1 k2
  have hi : pre.length < s.length := by rw [hp]; simp
  have hc : s[pre.length] = c := by simp [hp]
  unfold maxLen at hs
  have hw := wrap_len (a := pre.length) (by omega)
  have hn : (!pre.isEmpty) = decide (0 < pre.length) := by cases pre <;> simp
  have he : (pre ++ [c]).isEmpty = false := by simp
  have hL : ∀ fr', fr' 0 = .str s → fr' 6 = .int .i64 s.length → fr' 7 = .int .i64 ((pre.length + 1 : Nat) : Int) → (letter c || (decide (0 < pre.length) && digitB c)) = true → Ok (gval T (.lp z71_l0 :: .blk 0 :: K) fr' S) Q := by
   intro fr' g0 g6 g7 gl
   refine ih (pre ++ [c]) (by simp [hp]) fr' g0 g6 (by simpa using g7) (fun h => k1 ?_) (fun h => k2 ?_)
   ·rw [he] at h; simp only [nameAt, hn, gl, h, Bool.and_self]
   ·rw [he] at h; simp only [nameAt, h, Bool.and_false]
  have hR : ∀ fr', fr' 2 = .bool false → (letter c || (decide (0 < pre.length) && digitB c)) = false → Q fr' S := fun fr' g2 gl => k2 (by simp only [nameAt, hn, gl, Bool.false_and]) fr' g2
  clear k1 k2
  rw [gval_lp]
  simp -implicitDefEqProofs [h0, h6, h7, hi, hc]
  refine ok_br (fun a1 => ok_br (fun _ => hL _ (by simp [h0]) (by simp [h6]) (by simp [hw]) ?_) (fun a2 => absurd a1 (by simp [a2]))) (fun a1 => ok_br (fun a2 => ok_br (fun _ => hL _ (by simp [h0]) (by simp [h6]) (by simp [hw]) ?_) (fun a3 => absurd a2 (by simp [a3])))
   (fun a2 => ok_br (fun a3 => hL _ (by simp [h0]) (by simp [h6]) (by simp [hw]) ?_) (fun a3 => ok_br (fun a4 => hL _ (by simp [h0]) (by simp [h6]) (by simp [hw]) ?_) (fun a4 => ok_ret (hR _ (by simp) ?_)))))
  ·simp [letter, digitB] at a1 ⊢; omega
  ·simp [letter, digitB] at a2 ⊢; omega
  ·simp [letter, digitB] at a3 ⊢; omega
  ·simp [letter, digitB] at a4 ⊢; omega
  ·simp [letter, digitB] at a1 a2 a3 a4 ⊢; omega

theorem name_val {s : List UInt8} (hs : s.length ≤ maxLen) : cval T 121 [.str s] St0 = some (.bool (nameB s), St0) := by
 refine cval_ok' fn_121 rfl ?_
 simp [z71]
 refine name_loop hs s [] rfl _ (by simp) (by simp) (by simp) (fun h fr' g0 => ?_) (fun h fr' g2 => ?_)
 ·simp [g0, nameB_eq, show nameAt true s = true from h]
  congr 1; exact decide_eq_decide.2 (by omega)
 ·simp [g2, nameB_eq, show nameAt true s = false from h]

theorem rname_loop {s : List UInt8} (hs : s.length ≤ maxLen) {K : List Kt} {S : St} {Q : Fr → St → Prop} : ∀ (rest pre : List UInt8), s = pre ++ rest → ∀ (fr : Fr),
  fr 0 = .str s → fr 3 = .int .i64 pre.length →
  (nameAt pre.isEmpty rest = true → ∀ fr', fr' 0 = .str s → Ok (gval T K fr' S) Q) → (nameAt pre.isEmpty rest = false → ∀ fr', fr' 2 = .bool false → Q fr' S) →
  Ok (gval T (.lp z77_l0 :: .blk 0 :: K) fr S) Q := by
 intro rest
 induction rest with
 | nil =>
  intro pre hp fr h0 h3 k1 k2
  rw [List.append_nil] at hp; subst hp
  rw [gval_lp]
  simp [h0, h3]
  exact k1 rfl _ (by simp [h0])
 | cons c rest ih =>
  intro pre hp fr h0 h3 k1 k2
  have hi : pre.length < s.length := by rw [hp]; simp
  have hc : s[pre.length] = c := by simp [hp]
  unfold maxLen at hs
  have hw := wrap_len (a := pre.length) (by omega)
  have hn : (!pre.isEmpty) = decide (0 < pre.length) := by cases pre <;> simp
  have hn0 : pre = [] ↔ pre.length = 0 := by cases pre <;> simp
  have he : (pre ++ [c]).isEmpty = false := by simp
  have hL : ∀ fr', fr' 0 = .str s → fr' 3 = .int .i64 ((pre.length + 1 : Nat) : Int) → (letter c || (decide (0 < pre.length) && digitB c)) = true → Ok (gval T (.lp z77_l0 :: .blk 0 :: K) fr' S) Q := by
   intro fr' g0 g3 gl
   refine ih (pre ++ [c]) (by simp [hp]) fr' g0 (by simpa using g3) (fun h => k1 ?_) (fun h => k2 ?_)
   ·rw [he] at h; simp only [nameAt, hn, gl, h, Bool.and_self]
   ·rw [he] at h; simp only [nameAt, h, Bool.and_false]
  have hR : ∀ fr', fr' 2 = .bool false → (letter c || (decide (0 < pre.length) && digitB c)) = false → Q fr' S := fun fr' g2 gl => k2 (by simp only [nameAt, hn, gl, Bool.false_and]) fr' g2
  clear k1 k2
  rw [gval_lp]
  simp -implicitDefEqProofs [h0, h3, hi, hc]
  refine ok_br (fun a1 => ok_ret (hR _ (by simp) ?_)) (fun a1 => hL _ (by simp [h0]) (by simp [hw]) ?_)
  ·simp [letter, digitB, -List.length_eq_zero_iff] at a1 ⊢; omega
  ·simp [letter, digitB, -List.length_eq_zero_iff] at a1 ⊢; omega

theorem rname_val {s : List UInt8} (hs : s.length ≤ maxLen) : cval T 126 [.str s] St0 = some (.bool (nameB s), St0) := by
 refine cval_ok' fn_126 rfl ?_
 simp [z77]
 refine rname_loop hs s [] rfl _ (by simp) (by simp) (fun h fr' g0 => ?_) (fun h fr' g2 => ?_)
 ·simp [g0, nameB_eq, show nameAt true s = true from h]
  congr 1; exact decide_eq_decide.2 (by omega)
 ·simp [g2, nameB_eq, show nameAt true s = false from h]

theorem name_pval {s : List UInt8} (hs : s.length ≤ maxLen) : pval T 121 [.str s] = some (.bool (nameB s)) := pval_st (name_val hs) rfl rfl
theorem rname_pval {s : List UInt8} (hs : s.length ≤ maxLen) : pval T 126 [.str s] = some (.bool (nameB s)) := pval_st (rname_val hs) rfl rfl

theorem fn_40 : T.fn 40 = some (.code z61) := rfl
theorem fn_98 : T.fn 98 = some (.code z64) := rfl

abbrev Lab := List UInt8 × List UInt8 × Unit
def labV (x : Lab) : PV := .agg [.str x.1, .str x.2.1]
@[simp] theorem labV_cells (x : Lab) : (labV x).cells = [.str x.1, .str x.2.1] := rfl

def chk1 (l : List Lab) (i : Nat) (h : i < l.length) : Nat :=
 if nameB l[i].1 = false then 8 else if l[i].2.1.isEmpty then 2 else if 64 < l[i].2.1.length then 3 else
 if h0 : 0 < i then (if (Op.bytesLess l[i].1 l[i - 1].1 || l[i].1 == l[i - 1].1) = true then 13 else 0) else 0
def chkIdx (l : List Lab) (i : Nat) : Nat :=
 if h : i < l.length then (if chk1 l i h = 0 then chkIdx l (i + 1) else chk1 l i h) else 0
termination_by l.length - i
def checkN (l : List Lab) : Nat := if 8 < l.length then 3 else chkIdx l 0

theorem check_loop {l : List Lab} {v : PV} (hv : Reads1 2 v (l.map labV)) (hn : ∀ x ∈ l, x.1.length ≤ maxLen) (hl : l.length ≤ maxLen) {K : List Kt} {Q : Fr → St → Prop} {S0 : St} : ∀ (n i : Nat), l.length - i = n → i ≤ l.length → ∀ (fr : Fr) (S : St),
  fr 0 = v → fr 8 = v → fr 9 = .int .i64 l.length → fr 10 = .int .i64 i → Grows S0 S → (chkIdx l i = 0 → ∀ fr' S', Grows S0 S' → Ok (gval T K fr' S') Q) →
  (chkIdx l i ≠ 0 → ∀ fr' S', Grows S0 S' → fr' 2 = .int .i64 (chkIdx l i) → Q fr' S') → Ok (gval T (.lp z61_l0 :: .blk 0 :: K) fr S) Q := by
 intro n
 induction n with
 | zero =>
  intro i hni hil fr S h0 h8 h9 h10 hg k1 k2
  have hi : i = l.length := by omega
  have hc : chkIdx l i = 0 := by rw [chkIdx, dif_neg (by omega)]
  rw [gval_lp]
  simp -implicitDefEqProofs [h0, h8, h9, h10, hi]
  exact k1 hc _ _ hg
 | succ n ih =>
  intro i hni hil fr S h0 h8 h9 h10 hg k1 k2
  have hi : i < l.length := by omega
  have hget := hv.get i (by simpa using hi) .i64
  have hx : (l.map labV)[i]'(by simpa using hi) = labV l[i] := by simp
  rw [hx, labV_cells] at hget
  have hpv := name_pval (hn l[i] (List.getElem_mem hi))
  unfold maxLen at hl
  have hw := wrap_len (a := i) (by omega)
  have hpo : ∀ {a b : PV}, partOf true 2 [a, b] = some (.agg [a, b]) := fun {a b} => rfl
  have hp1 : ∀ {a : PV} {m : List PV}, partOf false 1 (a :: m) = some a := fun {a m} => by simp [partOf]
  rw [chkIdx, dif_pos hi] at k1 k2
  have hL : chk1 l i hi = 0 → ∀ fr' S', fr' 0 = v → fr' 8 = v → fr' 9 = .int .i64 l.length → fr' 10 = .int .i64 ((i + 1 : Nat) : Int) → Grows S0 S' → Ok (gval T (.lp z61_l0 :: .blk 0 :: K) fr' S') Q := by
   intro hz fr' S' g0 g8 g9 g10 gg
   rw [if_pos hz] at k1 k2
   exact ih (i + 1) (by omega) (by omega) fr' S' g0 g8 g9 g10 gg k1 k2
  have hR : ∀ (e : Nat), e ≠ 0 → chk1 l i hi = e → ∀ fr' S', fr' 2 = .int .i64 e → Grows S0 S' → Q fr' S' := by
   intro e he hz fr' S' g2 gg
   rw [if_neg (by rw [hz]; exact he), hz] at k2
   exact k2 he fr' S' gg g2
  clear k1 k2 ih
  by_cases hi0 : 0 < i
  ·have hgetp := hv.get (i - 1) (by simp; omega) .i64
   have hxp : (l.map labV)[i - 1]'(by simp; omega) = labV l[i - 1] := by simp
   rw [hxp, labV_cells] at hgetp
   have hsub : IntKind.i64.wrap ((i : Int) - 1) = ((i - 1 : Nat) : Int) := by rw [wrap_i64] <;> omega
   rw [gval_lp]
   simp -implicitDefEqProofs [h0, h8, h9, h10, hi, hget, hpo, hp1, hpv, hi0, hgetp, hsub, pstep, putCells]
   refine ok_br (fun a1 => ok_ret (hR 8 (by decide) ?_ _ _ (by simp) (hg.obj _))) (fun a1 => ok_br (fun a2 => ok_ret (hR 2 (by decide) ?_ _ _ (by simp) (hg.obj _))) (fun a2 => ok_br (fun a3 => ok_ret (hR 3 (by decide) ?_ _ _ (by simp) (hg.obj _)))
    (fun a3 => ok_br (fun a4 => ok_ret (hR 13 (by decide) ?_ _ _ (by simp) (hg.obj _))) (fun a4 => hL ?_ _ _ (by simp [h0]) (by simp [h8]) (by simp [h9]) (by simp [hw]) (hg.obj _)))))
   ·rw [chk1, if_pos (by simpa using a1)]
   ·rw [chk1, if_neg (by simpa using a1), if_pos a2]
   ·rw [chk1, if_neg (by simpa using a1), if_neg (by simp [a2]), if_pos (by simp at a3; omega)]
   ·rw [chk1, if_neg (by simpa using a1), if_neg (by simp [a2]), if_neg (by simp at a3; omega), dif_pos hi0, if_pos a4]
   ·rw [chk1, if_neg (by simpa using a1), if_neg (by simp [a2]), if_neg (by simp at a3; omega), dif_pos hi0, if_neg (by simp only [a4]; decide)]
  ·rw [gval_lp]
   simp -implicitDefEqProofs [h0, h8, h9, h10, hi, hget, hpo, hp1, hpv, hi0, pstep, putCells]
   refine ok_br (fun a1 => ok_ret (hR 8 (by decide) ?_ _ _ (by simp) (hg.obj _))) (fun a1 => ok_br (fun a2 => ok_ret (hR 2 (by decide) ?_ _ _ (by simp) (hg.obj _))) (fun a2 => ok_br (fun a3 => ok_ret (hR 3 (by decide) ?_ _ _ (by simp) (hg.obj _)))
    (fun a3 => hL ?_ _ _ (by simp [h0]) (by simp [h8]) (by simp [h9]) (by simp [hw]) (hg.obj _))))
   ·rw [chk1, if_pos (by simpa using a1)]
   ·rw [chk1, if_neg (by simpa using a1), if_pos a2]
   ·rw [chk1, if_neg (by simpa using a1), if_neg (by simp [a2]), if_pos (by simp at a3; omega)]
   ·rw [chk1, if_neg (by simpa using a1), if_neg (by simp [a2]), if_neg (by simp at a3; omega), dif_neg hi0]

theorem rcheck_loop {l : List Lab} {v : PV} (hv : Reads1 2 v (l.map labV)) (hn : ∀ x ∈ l, x.1.length ≤ maxLen) (hl : l.length ≤ maxLen) {K : List Kt} {Q : Fr → St → Prop} {S0 : St} : ∀ (n i : Nat), l.length - i = n → i ≤ l.length → ∀ (fr : Fr) (S : St),
  fr 0 = v → fr 3 = .int .i64 i → Grows S0 S → (chkIdx l i = 0 → ∀ fr' S', Grows S0 S' → Ok (gval T K fr' S') Q) →
  (chkIdx l i ≠ 0 → ∀ fr' S', Grows S0 S' → fr' 2 = .int .i64 (chkIdx l i) → Q fr' S') → Ok (gval T (.lp z64_l0 :: .blk 0 :: K) fr S) Q := by
 intro n
 induction n with
 | zero =>
  intro i hni hil fr S h0 h3 hg k1 k2
  have hi : i = l.length := by omega
  have hc : chkIdx l i = 0 := by rw [chkIdx, dif_neg (by omega)]
  rw [gval_lp]
  simp -implicitDefEqProofs [h0, h3, hi, hv.len]
  exact k1 hc _ _ hg
 | succ n ih =>
  intro i hni hil fr S h0 h3 hg k1 k2
  have hi : i < l.length := by omega
  have hget := hv.get i (by simpa using hi) .i64
  have hx : (l.map labV)[i]'(by simpa using hi) = labV l[i] := by simp
  rw [hx, labV_cells] at hget
  have hpv := rname_pval (hn l[i] (List.getElem_mem hi))
  unfold maxLen at hl
  have hw := wrap_len (a := i) (by omega)
  have hpo : ∀ {a b : PV}, partOf true 2 [a, b] = some (.agg [a, b]) := fun {a b} => rfl
  have hp1 : ∀ {a : PV} {m : List PV}, partOf false 1 (a :: m) = some a := fun {a m} => by simp [partOf]
  rw [chkIdx, dif_pos hi] at k1 k2
  have hL : chk1 l i hi = 0 → ∀ fr' S', fr' 0 = v → fr' 3 = .int .i64 ((i + 1 : Nat) : Int) → Grows S0 S' → Ok (gval T (.lp z64_l0 :: .blk 0 :: K) fr' S') Q := by
   intro hz fr' S' g0 g3 gg
   rw [if_pos hz] at k1 k2
   exact ih (i + 1) (by omega) (by omega) fr' S' g0 g3 gg k1 k2
  have hR : ∀ (e : Nat), e ≠ 0 → chk1 l i hi = e → ∀ fr' S', fr' 2 = .int .i64 e → Grows S0 S' → Q fr' S' := by
   intro e he hz fr' S' g2 gg
   rw [if_neg (by rw [hz]; exact he), hz] at k2
   exact k2 he fr' S' gg g2
  clear k1 k2 ih
  by_cases hi0 : 0 < i
  ·have hgetp := hv.get (i - 1) (by simp; omega) .i64
   have hxp : (l.map labV)[i - 1]'(by simp; omega) = labV l[i - 1] := by simp
   rw [hxp, labV_cells] at hgetp
   have hsub : IntKind.i64.wrap ((i : Int) - 1) = ((i - 1 : Nat) : Int) := by rw [wrap_i64] <;> omega
   rw [gval_lp]
   simp -implicitDefEqProofs [h0, h3, hi, hv.len, hget, hpo, hp1, hpv, hi0, hgetp, hsub, pstep, putCells]
   refine ok_br (fun a1 => ok_ret (hR 8 (by decide) ?_ _ _ (by simp) hg)) (fun a1 => ok_br (fun a2 => ok_ret (hR 2 (by decide) ?_ _ _ (by simp) hg)) (fun a2 => ok_br (fun a3 => ok_ret (hR 3 (by decide) ?_ _ _ (by simp) hg))
    (fun a3 => ok_br (fun a4 => ok_ret (hR 13 (by decide) ?_ _ _ (by simp) hg)) (fun a4 => hL ?_ _ _ (by simp [h0]) (by simp [hw]) hg))))
   ·rw [chk1, if_pos (by simpa using a1)]
   ·rw [chk1, if_neg (by simpa using a1), if_pos a2]
   ·rw [chk1, if_neg (by simpa using a1), if_neg (by simp [a2]), if_pos (by simp at a3; omega)]
   ·rw [chk1, if_neg (by simpa using a1), if_neg (by simp [a2]), if_neg (by simp at a3; omega), dif_pos hi0, if_pos a4]
   ·rw [chk1, if_neg (by simpa using a1), if_neg (by simp [a2]), if_neg (by simp at a3; omega), dif_pos hi0, if_neg (by simp only [a4]; decide)]
  ·rw [gval_lp]
   simp -implicitDefEqProofs [h0, h3, hi, hv.len, hget, hpo, hp1, hpv, hi0, pstep, putCells]
   refine ok_br (fun a1 => ok_ret (hR 8 (by decide) ?_ _ _ (by simp) hg)) (fun a1 => ok_br (fun a2 => ok_ret (hR 2 (by decide) ?_ _ _ (by simp) hg)) (fun a2 => ok_br (fun a3 => ok_ret (hR 3 (by decide) ?_ _ _ (by simp) hg))
    (fun a3 => hL ?_ _ _ (by simp [h0]) (by simp [hw]) hg)))
   ·rw [chk1, if_pos (by simpa using a1)]
   ·rw [chk1, if_neg (by simpa using a1), if_pos a2]
   ·rw [chk1, if_neg (by simpa using a1), if_neg (by simp [a2]), if_pos (by simp at a3; omega)]
   ·rw [chk1, if_neg (by simpa using a1), if_neg (by simp [a2]), if_neg (by simp at a3; omega), dif_neg hi0]

theorem check_val {l : List Lab} {v : PV} (hv : Reads1 2 v (l.map labV)) (hn : ∀ x ∈ l, x.1.length ≤ maxLen) (hl : l.length ≤ maxLen) (S : St) : cval T 40 [v] S = some (.int .i64 (checkN l), S) := by
 refine cval_ok' fn_40 rfl ?_
 simp -implicitDefEqProofs [z61, hv.len]
 refine ok_br (fun a => ?_) (fun a => ?_)
 ·have h : checkN l = 3 := by rw [checkN, if_pos (by simp at a; omega)]
  simp [h]
 ·have h : checkN l = chkIdx l 0 := by rw [checkN, if_neg (by simp at a; omega)]
  refine check_loop hv hn hl l.length 0 (by omega) (by omega) _ S (by simp) (by simp) (by simp) (by simp) (Grows.refl S) (fun hz fr' S' gg => ?_) (fun hz fr' S' gg g2 => ?_)
  ·simp [gg, h, hz]
  ·simp [gg, g2, h]

theorem rcheck_val {l : List Lab} {v : PV} (hv : Reads1 2 v (l.map labV)) (hn : ∀ x ∈ l, x.1.length ≤ maxLen) (hl : l.length ≤ maxLen) (S : St) : cval T 98 [v] S = some (.int .i64 (checkN l), S) := by
 refine cval_ok' fn_98 rfl ?_
 simp -implicitDefEqProofs [z64, hv.len]
 refine ok_br (fun a => ?_) (fun a => ?_)
 ·have h : checkN l = 3 := by rw [checkN, if_pos (by simp at a; omega)]
  simp [h]
 ·have h : checkN l = chkIdx l 0 := by rw [checkN, if_neg (by simp at a; omega)]
  refine rcheck_loop hv hn hl l.length 0 (by omega) (by omega) _ S (by simp) (by simp) (Grows.refl S) (fun hz fr' S' gg => ?_) (fun hz fr' S' gg g2 => ?_)
  ·simp [gg, h, hz]
  ·simp [gg, g2, h]
abbrev tyLab : Ty := .st (.pair .str (.pair .str .unit))
def inLW (x : (Ty.sl tyLab).den) : List Lab := match x with | none => [] | some q => q.1

theorem inL_wf {x : (Ty.sl tyLab).den} (h : (Ty.sl tyLab).wf x) : (inLW x).length ≤ maxLen ∧ ∀ y ∈ inLW x, y.1.length ≤ maxLen ∧ y.2.1.length ≤ maxLen := by
 cases x with
 | none => exact ⟨Nat.zero_le _, fun y hy => by simp [inLW] at hy⟩
 | some q =>
  obtain ⟨es, sp⟩ := q
  exact ⟨Nat.le_trans (Nat.le_add_right _ _) h.1, fun y hy => ⟨(h.2.1 y hy).1, (h.2.1 y hy).2.1⟩⟩

theorem fn_102 : T.fn 102 = some (.code z54) := rfl
theorem fn_216 : T.fn 216 = some (.code z75) := rfl
theorem fn_26 : T.fn 26 = some (.code z78) := rfl

def cmpT (a b : List UInt8) : Int := if Op.bytesLess a b then -1 else if (Op.bytesLess a b || a == b) then 0 else 1
def cmpLab (x y : Lab) : Int := if cmpT x.1 y.1 = 0 then cmpT x.2.1 y.2.1 else cmpT x.1 y.1
def loopR : List Lab → List Lab → Option Int
 | [], _ => none
 | _ :: _, [] => some 1
 | x :: a, y :: b => if cmpLab x y = 0 then loopR a b else some (cmpLab x y)
def cmpL (a b : List Lab) : Int := match loopR a b with | some c => c | none => if a.length < b.length then -1 else 0

theorem text_pval (a b : List UInt8) : pval T 216 [.str a, .str b] = some (.int .i64 (cmpT a b)) := by
 refine pval_st ?_ rfl rfl
 refine cval_ok' fn_216 rfl ?_
 simp -implicitDefEqProofs [z75]
 refine ok_br (fun h => ?_) (fun h => ok_br (fun h2 => ?_) (fun h2 => ?_))
 ·simp [cmpT, h]
 ·simp [cmpT, h] at h2 ⊢; simp [h2]
 ·simp [cmpT, h] at h2 ⊢; simp [h2]

theorem sl_get {l p r : List Lab} {x : Lab} {v : PV} (hv : Reads1 2 v (l.map labV)) (hl : l = p ++ x :: r) : iaddrP 2 v (.int .i64 (p.length : Int)) = some (.ref [.str x.1, .str x.2.1]) := by
 have h : p.length < (l.map labV).length := by rw [hl]; simp
 have := hv.get p.length h .i64
 have e : (l.map labV)[p.length] = labV x := by simp [hl]
 rw [e, labV_cells] at this
 exact this


def loopM : List Lab → List Lab → Option Int
 | x :: a, y :: b => if cmpLab x y = 0 then loopM a b else some (cmpLab x y)
 | _, _ => none

theorem cmpL_M : ∀ a b : List Lab, cmpL a b = match loopM a b with | some c => c | none => if a.length < b.length then -1 else if b.length < a.length then 1 else 0
 | [], [] => rfl
 | [], y :: b => by simp [cmpL, loopR, loopM]
 | x :: a, [] => by simp [cmpL, loopR, loopM]
 | x :: a, y :: b => by
  have ih := cmpL_M a b
  simp only [cmpL, loopR, loopM] at ih ⊢
  by_cases h : cmpLab x y = 0
  ·simp only [h, if_true, List.length_cons, Nat.add_lt_add_iff_right]
   exact ih
  ·simp [h]

theorem rcmp_loop {l1 l2 : List Lab} {v1 v2 : PV} (hv1 : Reads1 2 v1 (l1.map labV)) (hv2 : Reads1 2 v2 (l2.map labV)) (hl1 : l1.length ≤ maxLen) {K : List Kt} {Q : Fr → St → Prop} {S : St} : ∀ (r1 p1 r2 p2 : List Lab), l1 = p1 ++ r1 → l2 = p2 ++ r2 → p2.length = p1.length → ∀ (fr : Fr),
  fr 0 = v1 → fr 1 = v2 → fr 5 = .int .i64 p1.length →
  (loopM r1 r2 = none → ∀ fr', fr' 0 = v1 → fr' 1 = v2 → Ok (gval T K fr' S) Q) → (∀ c, loopM r1 r2 = some c → ∀ fr', fr' 4 = .int .i64 c → Q fr' S) →
  Ok (gval T (.lp z54_l0 :: .blk 0 :: K) fr S) Q := by
 intro r1
 induction r1 with
 | nil =>
  intro p1 r2 p2 e1 e2 ep fr h0 h1 h5 k1 k2
  rw [List.append_nil] at e1; subst e1
  have hl := hv1.len
  have hl2 := hv2.len
  rw [List.length_map] at hl hl2
  rw [gval_lp]
  simp -implicitDefEqProofs [h0, h1, h5, hl]
  exact k1 (by simp [loopM]) _ (by simp [h0]) (by simp [h1])
 | cons x r1 ih =>
  intro p1 r2 p2 e1 e2 ep fr h0 h1 h5 k1 k2
  have hlt : p1.length < l1.length := by rw [e1]; simp
  have g1 := sl_get hv1 e1
  unfold maxLen at hl1
  have hw := wrap_len (a := p1.length) (by omega)
  have hp1 : ∀ {a : PV} {m : List PV}, partOf false 1 (a :: m) = some a := fun {a m} => by simp [partOf]
  have hl := hv1.len
  have hl2 := hv2.len
  rw [List.length_map] at hl hl2
  cases r2 with
  | nil =>
   have e2' : l2.length = p1.length := by rw [e2]; simp [ep]
   rw [gval_lp]
   simp -implicitDefEqProofs [h0, h1, h5, hlt, hl, hl2, e2']
   exact k1 (by simp [loopM]) _ (by simp [h0]) (by simp [h1])
  | cons y r2 =>
   have hlt2 : p1.length < l2.length := by rw [e2]; simp [ep]
   have g2 := sl_get hv2 e2
   rw [ep] at g2
   rw [gval_lp]
   simp -implicitDefEqProofs [h0, h1, h5, hlt, g1, hp1, hl, hl2, hlt2, g2, text_pval]
   refine ok_br (fun a => ?_) (fun a => ok_br (fun b => ?_) (fun b => ?_))
   ·have a' : cmpT x.1 y.1 ≠ 0 := by simpa using a
    exact ok_ret (k2 (cmpT x.1 y.1) (by simp [loopM, cmpLab, a']) _ (by simp))
   ·have a' : cmpT x.1 y.1 = 0 := by simpa using a
    have b' : cmpT x.2.1 y.2.1 ≠ 0 := by simpa using b
    exact ok_ret (k2 (cmpT x.2.1 y.2.1) (by simp [loopM, cmpLab, a', b']) _ (by simp))
   ·have a' : cmpT x.1 y.1 = 0 := by simpa using a
    have b' : cmpT x.2.1 y.2.1 = 0 := by simpa using b
    have c' : cmpLab x y = 0 := by simp [cmpLab, a', b']
    refine ih (p1 ++ [x]) r2 (p2 ++ [y]) (by simp [e1]) (by simp [e2]) (by simp [ep]) _ (by simp [h0]) (by simp [h1]) (by simp [hw]) (fun hz => k1 ?_) (fun c hz => k2 c ?_)
    ·simpa [loopM, c'] using hz
    ·simpa [loopM, c'] using hz

theorem rcmp_val {l1 l2 : List Lab} {v1 v2 : PV} (hv1 : Reads1 2 v1 (l1.map labV)) (hv2 : Reads1 2 v2 (l2.map labV)) (hl1 : l1.length ≤ maxLen) (S : St) : cval T 102 [v1, v2] S = some (.int .i64 (cmpL l1 l2), S) := by
 refine cval_ok' fn_102 rfl ?_
 simp -implicitDefEqProofs [z54]
 have e := cmpL_M l1 l2
 refine rcmp_loop hv1 hv2 hl1 l1 [] l2 [] rfl rfl rfl _ (by simp) (by simp) (by simp) (fun hz fr' g0 g1 => ?_) (fun c hz fr' g4 => ?_)
 ·rw [hz] at e
  simp -implicitDefEqProofs [g0, g1, hv1.len, hv2.len]
  refine ok_br (fun a => ?_) (fun a => ok_br (fun b => ?_) (fun b => ?_))
  ·have : cmpL l1 l2 = -1 := by rw [e]; simp at a; simp; omega
   simp [this]
  ·have : cmpL l1 l2 = 1 := by rw [e]; simp at a b; simp; omega
   simp [this]
  ·have : cmpL l1 l2 = 0 := by rw [e]; simp at a b; simp; omega
   simp [this]
 ·rw [hz] at e
  simp [g4, e]

theorem same_val {l1 l2 : List Lab} {v1 v2 : PV} (hv1 : Reads1 2 v1 (l1.map labV)) (hv2 : Reads1 2 v2 (l2.map labV)) (hl1 : l1.length ≤ maxLen) (S : St) : cval T 26 [v1, v2] S = some (.bool (cmpL l1 l2 == 0), S) := by
 refine cval_ok' fn_26 rfl ?_
 simp -implicitDefEqProofs [z78, rcmp_val hv1 hv2 hl1]

theorem bl_iff {a b : List UInt8} : Op.bytesLess a b = true ↔ a < b := by
 induction a generalizing b with
 | nil => cases b <;> simp [Op.bytesLess]
 | cons x a ih => cases b with
  | nil => simp [Op.bytesLess]
  | cons y b => simp [Op.bytesLess, ih, List.cons_lt_cons_iff]

theorem cmpT_neg (a b : List UInt8) : cmpT b a = - cmpT a b := by
 unfold cmpT
 by_cases h : a < b
 ·have h1 : ¬ b < a := fun k => List.lt_irrefl a (List.lt_trans h k)
  have h2 : ¬ b = a := fun k => by rw [k] at h; exact List.lt_irrefl a h
  have e1 : Op.bytesLess a b = true := bl_iff.2 h
  have e2 : Op.bytesLess b a = false := by rw [Bool.eq_false_iff]; exact fun k => h1 (bl_iff.1 k)
  simp [e1, e2, h2]
 ·by_cases h1 : b < a
  ·have h2 : ¬ a = b := fun k => by rw [k] at h1; exact List.lt_irrefl b h1
   have e1 : Op.bytesLess b a = true := bl_iff.2 h1
   have e2 : Op.bytesLess a b = false := by rw [Bool.eq_false_iff]; exact fun k => h (bl_iff.1 k)
   simp [e1, e2, h2]
  ·have h2 : a = b := List.le_antisymm h1 h
   subst h2
   have e2 : Op.bytesLess a a = false := by rw [Bool.eq_false_iff]; exact fun k => h (bl_iff.1 k)
   simp [e2]

theorem cmpT_zero {a b : List UInt8} : cmpT a b = 0 ↔ a = b := by
 unfold cmpT
 cases h : Op.bytesLess a b with
 | true =>
  simp
  intro k; subst k
  exact List.lt_irrefl a (bl_iff.1 h)
 | false =>
  simp

theorem cmpT_lt {a b : List UInt8} : cmpT a b = -1 ↔ a < b := by
 rw [← bl_iff]
 unfold cmpT
 cases h : Op.bytesLess a b with
 | true => simp
 | false => simp; split <;> simp

theorem cmpT_rng (a b : List UInt8) : cmpT a b = -1 ∨ cmpT a b = 0 ∨ cmpT a b = 1 := by
 unfold cmpT
 by_cases h : Op.bytesLess a b = true
 ·simp [h]
 ·have h' : Op.bytesLess a b = false := by simpa using h
  rw [h']
  by_cases h2 : a == b
  ·simp [h2]
  ·simp [h2]

theorem cmpT_trans {a b c : List UInt8} (h1 : cmpT a b = -1) (h2 : cmpT b c = -1) : cmpT a c = -1 := cmpT_lt.2 (List.lt_trans (cmpT_lt.1 h1) (cmpT_lt.1 h2))

theorem cmpLab_neg (x y : Lab) : cmpLab y x = - cmpLab x y := by
 unfold cmpLab
 rw [cmpT_neg x.1 y.1, cmpT_neg x.2.1 y.2.1]
 by_cases h : cmpT x.1 y.1 = 0 <;> simp [h]
theorem cmpLab_zero {x y : Lab} : cmpLab x y = 0 ↔ x = y := by
 unfold cmpLab
 obtain ⟨a, b, u⟩ := x
 obtain ⟨c, d, v⟩ := y
 by_cases h : cmpT a c = 0
 ·simp only [h, if_true, cmpT_zero]
  have := cmpT_zero.1 h
  subst this; simp
 ·simp only [h, if_false, false_iff]
  intro e
  exact h (cmpT_zero.2 (by injection e))
theorem cmpLab_rng (x y : Lab) : cmpLab x y = -1 ∨ cmpLab x y = 0 ∨ cmpLab x y = 1 := by
 unfold cmpLab; split
 ·exact cmpT_rng _ _
 ·exact cmpT_rng _ _
theorem cmpLab_trans {x y z : Lab} (h1 : cmpLab x y = -1) (h2 : cmpLab y z = -1) : cmpLab x z = -1 := by
 unfold cmpLab at *
 by_cases a : cmpT x.1 y.1 = 0
 ·rw [if_pos a] at h1
  have a' := cmpT_zero.1 a
  by_cases b : cmpT y.1 z.1 = 0
  ·rw [if_pos b] at h2
   have b' := cmpT_zero.1 b
   rw [if_pos (cmpT_zero.2 (a'.trans b'))]
   exact cmpT_trans h1 h2
  ·rw [if_neg b] at h2
   rw [a', if_neg b]; exact h2
 ·rw [if_neg a] at h1
  by_cases b : cmpT y.1 z.1 = 0
  ·have b' := cmpT_zero.1 b
   rw [← b', if_neg a]; exact h1
  ·rw [if_neg b] at h2
   have := cmpT_trans h1 h2
   rw [if_neg (by rw [this]; decide)]; exact this

theorem cmpL_cons (x y : Lab) (a b : List Lab) : cmpL (x :: a) (y :: b) = if cmpLab x y = 0 then cmpL a b else cmpLab x y := by
 simp only [cmpL, loopR]
 by_cases h : cmpLab x y = 0 <;> simp [h]
@[simp] theorem cmpL_nn : cmpL [] [] = 0 := rfl
@[simp] theorem cmpL_nc (y : Lab) (b : List Lab) : cmpL [] (y :: b) = -1 := by simp [cmpL, loopR]
@[simp] theorem cmpL_cn (x : Lab) (a : List Lab) : cmpL (x :: a) [] = 1 := by simp [cmpL, loopR]

theorem cmpL_neg : ∀ a b : List Lab, cmpL b a = - cmpL a b
 | [], [] => rfl
 | [], y :: b => by simp
 | x :: a, [] => by simp
 | x :: a, y :: b => by
  rw [cmpL_cons, cmpL_cons, cmpLab_neg x y, cmpL_neg a b]
  by_cases h : cmpLab x y = 0 <;> simp [h]
theorem cmpL_zero : ∀ {a b : List Lab}, cmpL a b = 0 ↔ a = b
 | [], [] => by simp
 | [], y :: b => by simp
 | x :: a, [] => by simp
 | x :: a, y :: b => by
  rw [cmpL_cons]
  by_cases h : cmpLab x y = 0
  ·rw [if_pos h, cmpL_zero (a := a) (b := b)]
   have := cmpLab_zero.1 h
   subst this; simp
  ·simp only [h, if_false, List.cons.injEq]
   constructor
   ·intro e; exact absurd e (by simp)
   ·intro e; exact absurd (cmpLab_zero.2 e.1) h
theorem cmpL_rng : ∀ a b : List Lab, cmpL a b = -1 ∨ cmpL a b = 0 ∨ cmpL a b = 1
 | [], [] => by simp
 | [], y :: b => by simp
 | x :: a, [] => by simp
 | x :: a, y :: b => by
  rw [cmpL_cons]
  by_cases h : cmpLab x y = 0
  ·rw [if_pos h]; exact cmpL_rng a b
  ·rw [if_neg h]; exact cmpLab_rng x y
theorem cmpL_trans : ∀ (a b c : List Lab), cmpL a b = -1 → cmpL b c = -1 → cmpL a c = -1
 | [], [], [], _, h2 => by simp at h2
 | [], _ :: _, [], _, h2 => by simp at h2
 | [], _, _ :: _, _, _ => by simp
 | _ :: _, [], _, h1, _ => by simp at h1
 | _ :: _, _ :: _, [], _, h2 => by simp at h2
 | x :: a, y :: b, z :: c, h1, h2 => by
  rw [cmpL_cons] at h1 h2 ⊢
  by_cases p : cmpLab x y = 0
  ·rw [if_pos p] at h1
   have p' := cmpLab_zero.1 p
   by_cases q : cmpLab y z = 0
   ·rw [if_pos q] at h2
    rw [if_pos (cmpLab_zero.2 (p'.trans (cmpLab_zero.1 q)))]
    exact cmpL_trans a b c h1 h2
   ·rw [if_neg q] at h2
    rw [p', if_neg q]; exact h2
  ·rw [if_neg p] at h1
   by_cases q : cmpLab y z = 0
   ·rw [← cmpLab_zero.1 q, if_neg p]; exact h1
   ·rw [if_neg q] at h2
    have := cmpLab_trans h1 h2
    rw [if_neg (by rw [this]; decide)]; exact this

theorem p1 {a : PV} {m : List PV} : partOf false 1 (a :: m) = some a := by simp [partOf]
theorem p2 {a b : PV} : partOf true 2 [a, b] = some (.agg [a, b]) := rfl
@[simp] theorem labV_free (x : Lab) : (labV x).free = true := rfl
@[simp] theorem labV_frz (x : Lab) : (labV x).frz = labV x := rfl
@[simp] theorem labV_one (x : Lab) : (labV x).cells.all PV.one = true := rfl
theorem labs_free (l : List Lab) : PV.freeL (l.map labV) = true := freeL_map labV labV_free l
theorem labs_frz (l : List Lab) : PV.frzL (l.map labV) = l.map labV := frzL_map' labV labV_frz l
theorem labs_cells (l : List Lab) : ∀ e ∈ l.map labV, e.cells.length = 2 := by
 intro e he
 obtain ⟨x, _, rfl⟩ := List.mem_map.1 he
 rfl
theorem szOk_labs (l : List Lab) : szOk 2 (l.map labV) = true := by cases l <;> rfl

structure SlL (v : PV) (l : List Lab) : Prop where
 isl : IsSl 2 v (l.map labV)
 free : v.free = true
 frz : v.frz = v

theorem SlL.reads {v : PV} {l : List Lab} (h : SlL v l) : Reads1 2 v (l.map labV) := h.isl.reads

theorem slF_lab {S0 S : St} {v : PV} {l : List Lab} (ha : AccG S0 2 S v (l.map labV)) : SlL (slF v (l.map labV)) l := by
 refine ⟨slF_isSl ha (labs_cells _), ?_, ?_⟩
 ·rcases ha.acc with ⟨h, _⟩ | ⟨id, _, h, _⟩
  ·rw [h]; rfl
  ·rw [h]; simp [slF, PV.free, labs_free]
 ·rcases ha.acc with ⟨h, _⟩ | ⟨id, _, h, _⟩
  ·rw [h]; rfl
  ·rw [h]; simp [slF, PV.frz, labs_frz]

theorem len_le_bulk (t : Ty) (h : ∀ x : t.den, 1 ≤ t.bulk x) : ∀ l : List t.den, l.length ≤ (l.map t.bulk).sum
 | [] => Nat.le_refl _
 | x :: l => by
  have := len_le_bulk t h l
  have := h x
  simp only [List.length_cons, List.map_cons, List.sum_cons]; omega
theorem inL_len (x : (Ty.sl tyLab).den) : (inLW x).length ≤ (Ty.sl tyLab).bulk x := by
 cases x with
 | none => exact Nat.zero_le _
 | some q =>
  obtain ⟨es, sp⟩ := q
  have h : es.length ≤ (es.map (Ty.bulk tyLab)).sum := len_le_bulk tyLab (fun _ => Nat.succ_le_succ (Nat.zero_le _)) es
  show es.length ≤ (es.map (Ty.bulk tyLab)).sum + (sp.map (Ty.bulk tyLab)).sum + 1
  omega
def okLab (x : Lab) : Prop := nameB x.1 = true ∧ x.2.1 ≠ [] ∧ x.2.1.length ≤ 64
def Right (l : List Lab) : Prop := l.length ≤ 8 ∧ (∀ x ∈ l, okLab x) ∧ l.Pairwise (fun x y => x.1 < y.1)

theorem nle_iff {a b : List UInt8} : (Op.bytesLess b a || b == a) = false ↔ a < b := by
 rw [← bl_iff]
 have h := cmpT_neg a b
 unfold cmpT at h
 cases p : Op.bytesLess a b <;> cases q : Op.bytesLess b a <;> simp [p, q] at h ⊢
 ·by_cases e : a = b
  ·simp [e]
  ·have e' : ¬ b = a := fun k => e k.symm
   simp [e, e'] at h
 ·intro e; subst e; rw [p] at q; cases q

theorem chk1_zero {l : List Lab} {i : Nat} (h : i < l.length) : chk1 l i h = 0 ↔ okLab l[i] ∧ (∀ h0 : 0 < i, l[i - 1].1 < l[i].1) := by
 unfold chk1 okLab
 cases hn : nameB l[i].1 with
 | false => simp
 | true =>
  by_cases b : l[i].2.1 = []
  ·simp [b]
  ·have b' : l[i].2.1.isEmpty = false := by simpa using b
   by_cases c : 64 < l[i].2.1.length
   ·have c' : ¬ l[i].2.1.length ≤ 64 := by omega
    simp [b', c, c']
   ·have c' : l[i].2.1.length ≤ 64 := by omega
    rw [if_neg (by simp), b', if_neg (by simp), if_neg c]
    by_cases d : 0 < i
    ·rw [dif_pos d]
     have q := nle_iff (a := l[i - 1].1) (b := l[i].1)
     cases e : (Op.bytesLess l[i].1 l[i - 1].1 || l[i].1 == l[i - 1].1) with
     | true =>
      rw [e] at q
      simp only [if_true]
      constructor
      ·intro k; cases k
      ·rintro ⟨_, k⟩
       have := q.2 (k d)
       cases this
     | false =>
      rw [e] at q
      simp only [Bool.false_eq_true, if_false, true_iff]
      exact ⟨⟨trivial, b, c'⟩, fun _ => q.1 rfl⟩
    ·rw [dif_neg d]
     simp only [true_iff]
     exact ⟨⟨trivial, b, c'⟩, fun h0 => absurd h0 d⟩

theorem chkIdx_zero {l : List Lab} : ∀ (n i : Nat), l.length - i = n → (chkIdx l i = 0 ↔ ∀ j (h : j < l.length), i ≤ j → chk1 l j h = 0) := by
 intro n
 induction n with
 | zero =>
  intro i hi
  rw [chkIdx, dif_neg (by omega)]
  exact ⟨fun _ j h hj => by omega, fun _ => rfl⟩
 | succ n ih =>
  intro i hi
  rw [chkIdx, dif_pos (by omega)]
  by_cases h0 : chk1 l i (by omega) = 0
  ·rw [if_pos h0, ih (i + 1) (by omega)]
   constructor
   ·intro k j h hj
    by_cases e : j = i
    ·subst e; exact h0
    ·exact k j h (by omega)
   ·intro k j h hj; exact k j h (by omega)
  ·rw [if_neg h0]
   exact ⟨fun e => absurd e h0, fun k => absurd (k i (by omega) (Nat.le_refl _)) h0⟩

theorem checkN_zero {l : List Lab} : checkN l = 0 ↔ Right l := by
 unfold checkN Right
 by_cases h8 : 8 < l.length
 ·simp [h8]; omega
 ·rw [if_neg h8, chkIdx_zero l.length 0 rfl]
  have h8' : l.length ≤ 8 := by omega
  simp only [h8', true_and]
  constructor
  ·intro k
   refine ⟨fun x hx => ?_, ?_⟩
   ·obtain ⟨i, hi, rfl⟩ := List.getElem_of_mem hx
    exact ((chk1_zero hi).1 (k i hi (Nat.zero_le _))).1
   ·rw [List.pairwise_iff_getElem]
    have adj : ∀ d i j (hi : i < l.length) (hj : j < l.length), j = i + d + 1 → l[i].1 < l[j].1 := by
     intro d
     induction d with
     | zero =>
      intro i j hi hj e
      subst e
      exact ((chk1_zero hj).1 (k _ hj (Nat.zero_le _))).2 (by omega)
     | succ d ih =>
      intro i j hi hj e
      have h1 := ih i (j - 1) hi (by omega) (by omega)
      have h2 := ((chk1_zero hj).1 (k _ hj (Nat.zero_le _))).2 (by omega)
      exact List.lt_trans h1 h2
    intro i j hi hj hij
    exact adj (j - i - 1) i j hi hj (by omega)
  ·rintro ⟨k1, k2⟩ j h _
   rw [chk1_zero h]
   rw [List.pairwise_iff_getElem] at k2
   exact ⟨k1 _ (List.getElem_mem h), fun h0 => k2 (j - 1) j (by omega) h (by omega)⟩
end Ps
