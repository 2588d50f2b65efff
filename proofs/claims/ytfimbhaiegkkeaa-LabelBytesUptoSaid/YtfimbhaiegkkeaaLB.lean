/- Right sets. -/
import Derived.Test.YtfimbhaiegkkeaaLA
namespace Ps
set_option linter.unusedSimpArgs false
open Go

theorem fn_40 : T.fn 40 = some (.code label_Check) := rfl
theorem fn_98 : T.fn 98 = some (.code ref06_Check) := rfl

abbrev Lab := List UInt8 × List UInt8 × Unit
def labV (x : Lab) : PV := .agg [.str x.1, .str x.2.1]
@[simp] theorem labV_cells (x : Lab) : (labV x).cells = [.str x.1, .str x.2.1] := rfl

/-- What is wrong with the label at a place; 0: nothing. -/
def chk1 (l : List Lab) (i : Nat) (h : i < l.length) : Nat :=
  if nameB l[i].1 = false then 8 else if l[i].2.1.isEmpty then 2 else if 64 < l[i].2.1.length then 3 else
  if h0 : 0 < i then (if (Op.bytesLess l[i].1 l[i - 1].1 || l[i].1 == l[i - 1].1) = true then 13 else 0) else 0
def chkIdx (l : List Lab) (i : Nat) : Nat :=
  if h : i < l.length then (if chk1 l i h = 0 then chkIdx l (i + 1) else chk1 l i h) else 0
termination_by l.length - i
def checkN (l : List Lab) : Nat := if 8 < l.length then 3 else chkIdx l 0

theorem check_loop {l : List Lab} {v : PV} (hv : Reads1 2 v (l.map labV)) (hn : ∀ x ∈ l, x.1.length ≤ maxLen) (hl : l.length ≤ maxLen) {K : List Kt} {Q : Fr → St → Prop} {S0 : St} : ∀ (n i : Nat), l.length - i = n → i ≤ l.length → ∀ (fr : Fr) (S : St),
    fr 0 = v → fr 8 = v → fr 9 = .int .i64 l.length → fr 10 = .int .i64 i → Grows S0 S → (chkIdx l i = 0 → ∀ fr' S', Grows S0 S' → Ok (gval T K fr' S') Q) →
    (chkIdx l i ≠ 0 → ∀ fr' S', Grows S0 S' → fr' 2 = .int .i64 (chkIdx l i) → Q fr' S') → Ok (gval T (.lp label_Check_l0 :: .blk 0 :: K) fr S) Q := by
  intro n
  induction n with
  | zero =>
    intro i hni hil fr S h0 h8 h9 h10 hg k1 k2
    have hi : i = l.length := by omega
    have hc : chkIdx l i = 0 := by rw [chkIdx, dif_neg (by omega)]
    rw [gval_lp]
    simp -implicitDefEqProofs [h0, h8, h9, h10, hi]
    exact k1 hc _ _ hg
  | succ n ih =>
    intro i hni hil fr S h0 h8 h9 h10 hg k1 k2
    have hi : i < l.length := by omega
    have hget := hv.get i (by simpa using hi) .i64
    have hx : (l.map labV)[i]'(by simpa using hi) = labV l[i] := by simp
    rw [hx, labV_cells] at hget
    have hpv := name_pval (hn l[i] (List.getElem_mem hi))
    unfold maxLen at hl
    have hw := wrap_len (a := i) (by omega)
    have hpo : ∀ {a b : PV}, partOf true 2 [a, b] = some (.agg [a, b]) := fun {a b} => rfl
    have hp1 : ∀ {a : PV} {m : List PV}, partOf false 1 (a :: m) = some a := fun {a m} => by simp [partOf]
    rw [chkIdx, dif_pos hi] at k1 k2
    have hL : chk1 l i hi = 0 → ∀ fr' S', fr' 0 = v → fr' 8 = v → fr' 9 = .int .i64 l.length → fr' 10 = .int .i64 ((i + 1 : Nat) : Int) → Grows S0 S' → Ok (gval T (.lp label_Check_l0 :: .blk 0 :: K) fr' S') Q := by
      intro hz fr' S' g0 g8 g9 g10 gg
      rw [if_pos hz] at k1 k2
      exact ih (i + 1) (by omega) (by omega) fr' S' g0 g8 g9 g10 gg k1 k2
    have hR : ∀ (e : Nat), e ≠ 0 → chk1 l i hi = e → ∀ fr' S', fr' 2 = .int .i64 e → Grows S0 S' → Q fr' S' := by
      intro e he hz fr' S' g2 gg
      rw [if_neg (by rw [hz]; exact he), hz] at k2
      exact k2 he fr' S' gg g2
    clear k1 k2 ih
    by_cases hi0 : 0 < i
    · have hgetp := hv.get (i - 1) (by simp; omega) .i64
      have hxp : (l.map labV)[i - 1]'(by simp; omega) = labV l[i - 1] := by simp
      rw [hxp, labV_cells] at hgetp
      have hsub : IntKind.i64.wrap ((i : Int) - 1) = ((i - 1 : Nat) : Int) := by rw [wrap_i64] <;> omega
      rw [gval_lp]
      simp -implicitDefEqProofs [h0, h8, h9, h10, hi, hget, hpo, hp1, hpv, hi0, hgetp, hsub, pstep, putCells]
      refine ok_br (fun a1 => ok_ret (hR 8 (by decide) ?_ _ _ (by simp) (hg.obj _))) (fun a1 => ok_br (fun a2 => ok_ret (hR 2 (by decide) ?_ _ _ (by simp) (hg.obj _))) (fun a2 => ok_br (fun a3 => ok_ret (hR 3 (by decide) ?_ _ _ (by simp) (hg.obj _)))
        (fun a3 => ok_br (fun a4 => ok_ret (hR 13 (by decide) ?_ _ _ (by simp) (hg.obj _))) (fun a4 => hL ?_ _ _ (by simp [h0]) (by simp [h8]) (by simp [h9]) (by simp [hw]) (hg.obj _)))))
      · rw [chk1, if_pos (by simpa using a1)]
      · rw [chk1, if_neg (by simpa using a1), if_pos a2]
      · rw [chk1, if_neg (by simpa using a1), if_neg (by simp [a2]), if_pos (by simp at a3; omega)]
      · rw [chk1, if_neg (by simpa using a1), if_neg (by simp [a2]), if_neg (by simp at a3; omega), dif_pos hi0, if_pos a4]
      · rw [chk1, if_neg (by simpa using a1), if_neg (by simp [a2]), if_neg (by simp at a3; omega), dif_pos hi0, if_neg (by simp only [a4]; decide)]
    · rw [gval_lp]
      simp -implicitDefEqProofs [h0, h8, h9, h10, hi, hget, hpo, hp1, hpv, hi0, pstep, putCells]
      refine ok_br (fun a1 => ok_ret (hR 8 (by decide) ?_ _ _ (by simp) (hg.obj _))) (fun a1 => ok_br (fun a2 => ok_ret (hR 2 (by decide) ?_ _ _ (by simp) (hg.obj _))) (fun a2 => ok_br (fun a3 => ok_ret (hR 3 (by decide) ?_ _ _ (by simp) (hg.obj _)))
        (fun a3 => hL ?_ _ _ (by simp [h0]) (by simp [h8]) (by simp [h9]) (by simp [hw]) (hg.obj _))))
      · rw [chk1, if_pos (by simpa using a1)]
      · rw [chk1, if_neg (by simpa using a1), if_pos a2]
      · rw [chk1, if_neg (by simpa using a1), if_neg (by simp [a2]), if_pos (by simp at a3; omega)]
      · rw [chk1, if_neg (by simpa using a1), if_neg (by simp [a2]), if_neg (by simp at a3; omega), dif_neg hi0]

theorem rcheck_loop {l : List Lab} {v : PV} (hv : Reads1 2 v (l.map labV)) (hn : ∀ x ∈ l, x.1.length ≤ maxLen) (hl : l.length ≤ maxLen) {K : List Kt} {Q : Fr → St → Prop} {S0 : St} : ∀ (n i : Nat), l.length - i = n → i ≤ l.length → ∀ (fr : Fr) (S : St),
    fr 0 = v → fr 3 = .int .i64 i → Grows S0 S → (chkIdx l i = 0 → ∀ fr' S', Grows S0 S' → Ok (gval T K fr' S') Q) →
    (chkIdx l i ≠ 0 → ∀ fr' S', Grows S0 S' → fr' 2 = .int .i64 (chkIdx l i) → Q fr' S') → Ok (gval T (.lp ref06_Check_l0 :: .blk 0 :: K) fr S) Q := by
  intro n
  induction n with
  | zero =>
    intro i hni hil fr S h0 h3 hg k1 k2
    have hi : i = l.length := by omega
    have hc : chkIdx l i = 0 := by rw [chkIdx, dif_neg (by omega)]
    rw [gval_lp]
    simp -implicitDefEqProofs [h0, h3, hi, hv.len]
    exact k1 hc _ _ hg
  | succ n ih =>
    intro i hni hil fr S h0 h3 hg k1 k2
    have hi : i < l.length := by omega
    have hget := hv.get i (by simpa using hi) .i64
    have hx : (l.map labV)[i]'(by simpa using hi) = labV l[i] := by simp
    rw [hx, labV_cells] at hget
    have hpv := rname_pval (hn l[i] (List.getElem_mem hi))
    unfold maxLen at hl
    have hw := wrap_len (a := i) (by omega)
    have hpo : ∀ {a b : PV}, partOf true 2 [a, b] = some (.agg [a, b]) := fun {a b} => rfl
    have hp1 : ∀ {a : PV} {m : List PV}, partOf false 1 (a :: m) = some a := fun {a m} => by simp [partOf]
    rw [chkIdx, dif_pos hi] at k1 k2
    have hL : chk1 l i hi = 0 → ∀ fr' S', fr' 0 = v → fr' 3 = .int .i64 ((i + 1 : Nat) : Int) → Grows S0 S' → Ok (gval T (.lp ref06_Check_l0 :: .blk 0 :: K) fr' S') Q := by
      intro hz fr' S' g0 g3 gg
      rw [if_pos hz] at k1 k2
      exact ih (i + 1) (by omega) (by omega) fr' S' g0 g3 gg k1 k2
    have hR : ∀ (e : Nat), e ≠ 0 → chk1 l i hi = e → ∀ fr' S', fr' 2 = .int .i64 e → Grows S0 S' → Q fr' S' := by
      intro e he hz fr' S' g2 gg
      rw [if_neg (by rw [hz]; exact he), hz] at k2
      exact k2 he fr' S' gg g2
    clear k1 k2 ih
    by_cases hi0 : 0 < i
    · have hgetp := hv.get (i - 1) (by simp; omega) .i64
      have hxp : (l.map labV)[i - 1]'(by simp; omega) = labV l[i - 1] := by simp
      rw [hxp, labV_cells] at hgetp
      have hsub : IntKind.i64.wrap ((i : Int) - 1) = ((i - 1 : Nat) : Int) := by rw [wrap_i64] <;> omega
      rw [gval_lp]
      simp -implicitDefEqProofs [h0, h3, hi, hv.len, hget, hpo, hp1, hpv, hi0, hgetp, hsub, pstep, putCells]
      refine ok_br (fun a1 => ok_ret (hR 8 (by decide) ?_ _ _ (by simp) hg)) (fun a1 => ok_br (fun a2 => ok_ret (hR 2 (by decide) ?_ _ _ (by simp) hg)) (fun a2 => ok_br (fun a3 => ok_ret (hR 3 (by decide) ?_ _ _ (by simp) hg))
        (fun a3 => ok_br (fun a4 => ok_ret (hR 13 (by decide) ?_ _ _ (by simp) hg)) (fun a4 => hL ?_ _ _ (by simp [h0]) (by simp [hw]) hg))))
      · rw [chk1, if_pos (by simpa using a1)]
      · rw [chk1, if_neg (by simpa using a1), if_pos a2]
      · rw [chk1, if_neg (by simpa using a1), if_neg (by simp [a2]), if_pos (by simp at a3; omega)]
      · rw [chk1, if_neg (by simpa using a1), if_neg (by simp [a2]), if_neg (by simp at a3; omega), dif_pos hi0, if_pos a4]
      · rw [chk1, if_neg (by simpa using a1), if_neg (by simp [a2]), if_neg (by simp at a3; omega), dif_pos hi0, if_neg (by simp only [a4]; decide)]
    · rw [gval_lp]
      simp -implicitDefEqProofs [h0, h3, hi, hv.len, hget, hpo, hp1, hpv, hi0, pstep, putCells]
      refine ok_br (fun a1 => ok_ret (hR 8 (by decide) ?_ _ _ (by simp) hg)) (fun a1 => ok_br (fun a2 => ok_ret (hR 2 (by decide) ?_ _ _ (by simp) hg)) (fun a2 => ok_br (fun a3 => ok_ret (hR 3 (by decide) ?_ _ _ (by simp) hg))
        (fun a3 => hL ?_ _ _ (by simp [h0]) (by simp [hw]) hg)))
      · rw [chk1, if_pos (by simpa using a1)]
      · rw [chk1, if_neg (by simpa using a1), if_pos a2]
      · rw [chk1, if_neg (by simpa using a1), if_neg (by simp [a2]), if_pos (by simp at a3; omega)]
      · rw [chk1, if_neg (by simpa using a1), if_neg (by simp [a2]), if_neg (by simp at a3; omega), dif_neg hi0]

theorem check_val {l : List Lab} {v : PV} (hv : Reads1 2 v (l.map labV)) (hn : ∀ x ∈ l, x.1.length ≤ maxLen) (hl : l.length ≤ maxLen) (S : St) : cval T 40 [v] S = some (.int .i64 (checkN l), S) := by
  refine cval_ok' fn_40 rfl ?_
  simp -implicitDefEqProofs [label_Check, hv.len]
  refine ok_br (fun a => ?_) (fun a => ?_)
  · have h : checkN l = 3 := by rw [checkN, if_pos (by simp at a; omega)]
    simp [h]
  · have h : checkN l = chkIdx l 0 := by rw [checkN, if_neg (by simp at a; omega)]
    refine check_loop hv hn hl l.length 0 (by omega) (by omega) _ S (by simp) (by simp) (by simp) (by simp) (Grows.refl S) (fun hz fr' S' gg => ?_) (fun hz fr' S' gg g2 => ?_)
    · simp [gg, h, hz]
    · simp [gg, g2, h]

theorem rcheck_val {l : List Lab} {v : PV} (hv : Reads1 2 v (l.map labV)) (hn : ∀ x ∈ l, x.1.length ≤ maxLen) (hl : l.length ≤ maxLen) (S : St) : cval T 98 [v] S = some (.int .i64 (checkN l), S) := by
  refine cval_ok' fn_98 rfl ?_
  simp -implicitDefEqProofs [ref06_Check, hv.len]
  refine ok_br (fun a => ?_) (fun a => ?_)
  · have h : checkN l = 3 := by rw [checkN, if_pos (by simp at a; omega)]
    simp [h]
  · have h : checkN l = chkIdx l 0 := by rw [checkN, if_neg (by simp at a; omega)]
    refine rcheck_loop hv hn hl l.length 0 (by omega) (by omega) _ S (by simp) (by simp) (Grows.refl S) (fun hz fr' S' gg => ?_) (fun hz fr' S' gg g2 => ?_)
    · simp [gg, h, hz]
    · simp [gg, g2, h]

end Ps
