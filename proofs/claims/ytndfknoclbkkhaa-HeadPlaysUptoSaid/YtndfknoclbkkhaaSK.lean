/- The head: Series: copies of the series; those without samples left out. -/
import Derived.Test.YtndfknoclbkkhaaSI
namespace Ps
set_option linter.unusedSimpArgs false
set_option linter.unusedVariables false
open Go
theorem fn_286 : T.fn 286 = some (.code z20) := rfl

def pdqD (lim : Nat) (wb wp : Bool) (d2 : Array Sr) (a b pv : Nat) (hint : Sort.Hint) : Array Sr :=
 if (wb && wp && decide (hint = .increasing)) = true then
  (if (Sort.partialInsertionSort ltS d2 a b).2 = true then (Sort.partialInsertionSort ltS d2 a b).1 else pdqE lim wb wp (Sort.partialInsertionSort ltS d2 a b).1 a b pv)
 else pdqE lim wb wp d2 a b pv
def pdqC (lim : Nat) (wb wp : Bool) (d1 : Array Sr) (a b : Nat) : Array Sr :=
 if (Sort.choosePivot ltS d1 a b).2 = .decreasing then pdqD lim wb wp (Sort.reverseRange d1 a b) a b ((b - 1) - ((Sort.choosePivot ltS d1 a b).1 - a)) .increasing
 else pdqD lim wb wp d1 a b (Sort.choosePivot ltS d1 a b).1 (Sort.choosePivot ltS d1 a b).2

theorem pdq_split {d : Array Sr} {a b lim : Nat} {wb wp : Bool} (h12 : ¬ b - a ≤ 12) (hlim : lim ≠ 0) :
  Sort.pdq ltS d a b lim wb wp = if wb = true then pdqC lim wb wp d a b else pdqC (lim - 1) wb wp (Sort.breakPatterns d a b) a b := by
 rw [Sort.pdq, if_neg h12, if_neg hlim]
 unfold pdqC pdqD pdqE
 cases wb with
 | true =>
  simp only [Bool.not_true, Bool.false_eq_true, if_false, if_true, Bool.true_and]
  by_cases hd : (Sort.choosePivot ltS d a b).2 = .decreasing
  ·simp only [if_pos hd, decide_true, Bool.and_true]
   cases wp with
   | true => simp only [if_true]
   | false => simp only [Bool.false_eq_true, if_false]
  ·simp only [if_neg hd]
   by_cases hw : (wp && decide ((Sort.choosePivot ltS d a b).2 = .increasing)) = true
   ·simp only [if_pos hw]
   ·simp only [if_neg hw, Bool.false_eq_true, if_false]
 | false =>
  simp only [Bool.not_false, Bool.false_eq_true, if_false, if_true, Bool.false_and]
  by_cases hd : (Sort.choosePivot ltS (Sort.breakPatterns d a b) a b).2 = .decreasing
  ·simp only [if_pos hd]
  ·simp only [if_neg hd]

theorem pdD_go {S : St} {id n : Nat} {t : List PV} {m : Nat} {K : List Kt} {Q : Fr → St → Prop} (ihl : IHL S id n t m K Q) (ihc : IHC S id n t m) {a b lim pv : Nat} {wb wp : Bool} {hint : Sort.Hint} {d : Array Sr} {fr : Fr} {S1 : St} (hm : b - a ≤ m) (hab : a + 12 < b) (hb : b ≤ n) (hlim : lim ≤ 100)
  (h : Srt S id n t S1 d) (f : PQ id n a b lim wb wp fr) (f12 : fr 12 = .int .i64 ((b - a : Nat) : Int)) (f13 : fr 13 = .int .i64 (pv : Int)) (f14 : fr 14 = .int .i64 (hintI hint)) (hpa : a ≤ pv) (hpb : pv < b)
  (k : ∀ fr2 S2, Srt S id n t S2 (pdqD lim wb wp d a b pv hint) → Q fr2 S2) :
  Ok (gval T (.code pdD :: .blk 1 :: .lp z10_l0 :: .blk 0 :: K) fr S1) Q := by
 have hE := fun (fr2 : Fr) (d3 : Array Sr) (S3 : St) (x3 : Srt S id n t S3 d3) F g12 g13 (hk : pdqD lim wb wp d a b pv hint = pdqE lim wb wp d3 a b pv) =>
  pdE_go ihl ihc hm hab hb hlim (fr := fr2) x3 F g12 g13 hpa hpb (fun fr2 S2 x => k fr2 S2 (by rw [hk]; exact x))
 obtain ⟨f0, f1, f2, f3, f4, f10, f11⟩ := f
 by_cases hc : (wb && wp && decide (hint = .increasing)) = true
 ·simp only [Bool.and_eq_true, decide_eq_true_eq] at hc
  obtain ⟨⟨rfl, rfl⟩, rfl⟩ := hc
  obtain ⟨S2, c1, x1⟩ := pis_val h (a := a) (b := b) (by omega) hb
  cases hp : (Sort.partialInsertionSort ltS d a b).2 with
  | true =>
   have hk : pdqD lim true true d a b pv .increasing = (Sort.partialInsertionSort ltS d a b).1 := by simp [pdqD, hp]
   rw [hk] at k
   rw [hp] at c1
   clear hE ihl ihc
   simp -implicitDefEqProofs [-z10_r17_go, pdD, f0, f1, f2, f3, f4, f10, f11, f14, hintI, c1]
   exact k _ S2 x1
  | false =>
   have hk : pdqD lim true true d a b pv .increasing = pdqE lim true true (Sort.partialInsertionSort ltS d a b).1 a b pv := by simp [pdqD, hp]
   have hB := fun fr2 F g12 g13 => hE fr2 _ S2 x1 F g12 g13 hk
   rw [hp] at c1
   clear hE ihl ihc k
   simp -implicitDefEqProofs [-z10_r17_go, pdE] at hB
   simp -implicitDefEqProofs [-z10_r17_go, pdD, f0, f1, f2, f3, f4, f10, f11, f14, hintI, c1]
   exact hB _ ⟨by simp [f0], by simp [f1], by simp [f2], by simp [f3], by simp [f4], by simp [f10], by simp [f11]⟩ (by simp [f12]) (by simp [f13])
 ·have hk : pdqD lim wb wp d a b pv hint = pdqE lim wb wp d a b pv := by rw [pdqD, if_neg hc]
  have hB := fun fr2 F g12 g13 => hE fr2 d S1 h F g12 g13 hk
  clear hE ihl ihc k
  simp -implicitDefEqProofs [-z10_r17_go, pdE] at hB
  cases wb with
  | false =>
   simp -implicitDefEqProofs [-z10_r17_go, pdD, f0, f1, f2, f3, f4, f10, f11, f14]
   exact hB _ ⟨by simp [f0], by simp [f1], by simp [f2], by simp [f3], by simp [f4], by simp [f10], by simp [f11]⟩ (by simp [f12]) (by simp [f13])
  | true =>
   cases wp with
   | false =>
    simp -implicitDefEqProofs [-z10_r17_go, pdD, f0, f1, f2, f3, f4, f10, f11, f14]
    exact hB _ ⟨by simp [f0], by simp [f1], by simp [f2], by simp [f3], by simp [f4], by simp [f10], by simp [f11]⟩ (by simp [f12]) (by simp [f13])
   | true =>
    have hne : (hintI hint == 1) = false := by cases hint <;> first | rfl | (simp at hc)
    simp -implicitDefEqProofs [-z10_r17_go, pdD, f0, f1, f2, f3, f4, f10, f11, f14, hne]
    exact hB _ ⟨by simp [f0], by simp [f1], by simp [f2], by simp [f3], by simp [f4], by simp [f10], by simp [f11]⟩ (by simp [f12]) (by simp [f13])

theorem pdC_go {S : St} {id n : Nat} {t : List PV} (hid : id < S.objs.length) {m : Nat} {K : List Kt} {Q : Fr → St → Prop} (ihl : IHL S id n t m K Q) (ihc : IHC S id n t m) {a b lim : Nat} {wb wp : Bool} {d : Array Sr} {fr : Fr} {S1 : St} (hm : b - a ≤ m) (hab : a + 12 < b) (hb : b ≤ n) (hlim : lim ≤ 100)
  (h : Srt S id n t S1 d) (f : PQ id n a b lim wb wp fr) (f12 : fr 12 = .int .i64 ((b - a : Nat) : Int))
  (k : ∀ fr2 S2, Srt S id n t S2 (pdqC lim wb wp d a b) → Q fr2 S2) :
  Ok (gval T (.code pdC :: .blk 1 :: .lp z10_l0 :: .blk 0 :: K) fr S1) Q := by
 have hle := h.le
 obtain ⟨f0, f1, f2, f3, f4, f10, f11⟩ := f
 obtain ⟨r, hr⟩ : ∃ r, r = Sort.choosePivot ltS d a b := ⟨_, rfl⟩
 obtain ⟨S2, c1, x1⟩ := pivot_val h hid hab hb hr
 obtain ⟨r1, r2⟩ := Sort.choosePivot_holds ltS d a b (by omega)
 rw [← hr] at r1 r2
 by_cases hd : r.2 = .decreasing
 ·obtain ⟨S3, c2, x2⟩ := rev_val x1 (a := a) (b := b) (by omega) hb
  obtain ⟨pv, hpv⟩ : ∃ pv, pv = (b - 1) - (r.1 - a) := ⟨_, rfl⟩
  have hk : pdqC lim wb wp d a b = pdqD lim wb wp (Sort.reverseRange d a b) a b pv .increasing := by rw [pdqC, ← hr, if_pos hd, hpv]
  rw [hk] at k
  have hB := fun fr2 F g12 g13 g14 => pdD_go ihl ihc hm hab hb hlim (fr := fr2) (pv := pv) (hint := .increasing) x2 F g12 g13 g14 (by omega) (by omega) k
  clear ihl ihc k
  simp -implicitDefEqProofs [-z10_r15_go, pdD] at hB
  have e1 : IntKind.i64.wrap ((b : Int) - 1) = ((b - 1 : Nat) : Int) := by rw [wrap_i64 (by omega) (by omega)]; omega
  have e2 : IntKind.i64.wrap ((r.1 : Int) - (a : Int)) = ((r.1 - a : Nat) : Int) := by rw [wrap_i64 (by omega) (by omega)]; omega
  obtain ⟨q1, hq1⟩ : ∃ q, q = b - 1 := ⟨_, rfl⟩
  obtain ⟨q2, hq2⟩ : ∃ q, q = r.1 - a := ⟨_, rfl⟩
  rw [← hq1] at e1
  rw [← hq2] at e2
  have e3 : IntKind.i64.wrap ((q1 : Int) - (q2 : Int)) = (pv : Int) := by rw [wrap_i64 (by omega) (by omega)]; omega
  rw [hd] at c1
  simp -implicitDefEqProofs [-z10_r15_go, pdC, f0, f1, f2, f3, f4, f10, f11, c1, c2, hintI, e1, e2, e3]
  exact hB _ ⟨by simp [f0], by simp [f1], by simp [f2], by simp [f3], by simp [f4], by simp [f10], by simp [f11]⟩ (by simp [f12]) (by simp) (by simp [hintI])
 ·have hk : pdqC lim wb wp d a b = pdqD lim wb wp d a b r.1 r.2 := by rw [pdqC, ← hr, if_neg hd]
  rw [hk] at k
  have hB := fun fr2 F g12 g13 g14 => pdD_go ihl ihc hm hab hb hlim (fr := fr2) (pv := r.1) (hint := r.2) x1 F g12 g13 g14 (by omega) (by omega) k
  clear ihl ihc k
  simp -implicitDefEqProofs [-z10_r15_go, pdD] at hB
  have hne : (hintI r.2 == 2) = false := by
   cases hh : r.2 with
   | unknown => rfl
   | increasing => rfl
   | decreasing => exact absurd hh hd
  simp -implicitDefEqProofs [-z10_r15_go, pdC, f0, f1, f2, f3, f4, f10, f11, c1, hne]
  exact hB _ ⟨by simp [f0], by simp [f1], by simp [f2], by simp [f3], by simp [f4], by simp [f10], by simp [f11]⟩ (by simp [f12]) (by simp) (by simp)

theorem pdq_loop {S : St} {id n : Nat} {t : List PV} (hid : id < S.objs.length) : ∀ (m : Nat) {K : List Kt} {Q : Fr → St → Prop}, IHL S id n t m K Q := by
 intro m
 induction m with
 | zero => intro K Q a b lim wb wp d fr S1 hm; omega
 | succ m ih =>
  have ihc : IHC S id n t m := by
   intro a b lim d S1 hm hab hb hlim h
   obtain ⟨v, S2, hc, h2⟩ := cval_ex (T := T) fn_346 (args := [.osl id 0 n 2, .int .i64 (a : Int), .int .i64 (b : Int), .int .i64 (lim : Int), .fn 287 []]) (S := S1) rfl (R := fun v S2 => v = .tup [] ∧ Srt S id n t S2 (Sort.pdq ltS d a b lim true true)) (by
    simp -implicitDefEqProofs [z10, resAll]
    refine ih a b lim true true d _ S1 hm hab hb hlim h ⟨by simp, by simp, by simp, by simp, by simp, by simp, by simp⟩ (fun fr2 S2 x => ?_)
    rw [fin_raw]; exact ⟨rfl, x⟩)
   exact ⟨S2, by rw [hc, h2.1], h2.2⟩
  intro K Q a b lim wb wp d fr S1 hm hab hb hlim h f k
  have hle := h.le
  obtain ⟨f0, f1, f2, f3, f4, f10, f11⟩ := f
  obtain ⟨l, hl⟩ : ∃ l, l = b - a := ⟨_, rfl⟩
  have el : IntKind.i64.wrap ((b : Int) - (a : Int)) = (l : Int) := by rw [wrap_i64 (by omega) (by omega)]; omega
  by_cases h12 : b - a ≤ 12
  ·have h12' : (l : Int) ≤ 12 := by omega
   have hp : Sort.pdq ltS d a b lim wb wp = Sort.insertionSort ltS d a b := by rw [Sort.pdq, if_pos h12]
   rw [hp] at k
   obtain ⟨S2, c1, x1⟩ := ins_val h hab hb
   clear ih ihc
   rw [gval_lp]
   simp -implicitDefEqProofs [-z10_r5_go, f0, f1, f2, f3, f4, f10, f11, el, h12', c1]
   exact k _ S2 x1
  have h12' : ¬ (l : Int) ≤ 12 := by omega
  by_cases hz : lim = 0
  ·subst hz
   have hp : Sort.pdq ltS d a b 0 wb wp = Sort.heapSort ltS d a b := by rw [Sort.pdq, if_neg h12, if_pos rfl]
   rw [hp] at k
   obtain ⟨S2, c1, x1⟩ := heap_val h (a := a) (b := b) (by omega) hb
   clear ih ihc
   rw [gval_lp]
   simp -implicitDefEqProofs [-z10_r7_go, f0, f1, f2, f3, f4, f10, f11, el, h12', c1]
   exact k _ S2 x1
  have hz' : ((lim : Int) == 0) = false := by rw [beq_eq_false_iff_ne]; omega
  rw [pdq_split h12 hz] at k
  cases wb with
  | true =>
   simp only [if_true] at k
   have hB := fun fr2 F g12 => pdC_go hid (K := K) (Q := Q) ih ihc (by omega) (by omega) hb hlim (fr := fr2) h F g12 k
   clear ih ihc k
   simp -implicitDefEqProofs [-z10_r10_go, pdC] at hB
   rw [gval_lp]
   simp -implicitDefEqProofs [-z10_r10_go, f0, f1, f2, f3, f4, f10, f11, el, h12', hz, hz']
   exact hB _ ⟨by simp [f0], by simp [f1], by simp [f2], by simp [f3], by simp [f4], by simp [f10], by simp [f11]⟩ (by simp [hl])
  | false =>
   simp only [Bool.false_eq_true, if_false] at k
   obtain ⟨S2, c1, x1⟩ := brk_val h hid (a := a) (b := b) (by omega) hb
   have hB := fun fr2 F g12 => pdC_go hid (K := K) (Q := Q) ih ihc (lim := lim - 1) (by omega) (by omega) hb (by omega) (fr := fr2) x1 F g12 k
   clear ih ihc k
   have ew : IntKind.i64.wrap ((lim : Int) - 1) = ((lim - 1 : Nat) : Int) := by rw [wrap_i64 (by omega) (by omega)]; omega
   simp -implicitDefEqProofs [-z10_r10_go, pdC] at hB
   rw [gval_lp]
   simp -implicitDefEqProofs [-z10_r10_go, f0, f1, f2, f3, f4, f10, f11, el, h12', hz, hz', c1]
   exact hB _ ⟨by simp [f0], by simp [f1], by simp [f2], by simp [ew], by simp [f4], by simp [f10], by simp [f11]⟩ (by simp [hl])

theorem sort_val {S : St} {id n : Nat} {t : List PV} {d : Array Sr} (h : Srt S id n t S d) :
  ∃ S2 d2, cval T 286 [.osl id 0 n 2, .fn 287 []] S = some (.tup [], S2) ∧ Srt S id n t S2 d2 ∧ Sort.PermIn 0 n d d2 ∧ Sort.SortedIn ltS 0 n d2 := by
 have hle := h.le
 have hid := (List.getElem?_eq_some_iff.1 h.mem).1
 have hb := bits_small ⟨n, by omega⟩
 simp only at hb
 have hlp := len_pval (n := n) hle
 have hwu : IntKind.u64.wrap (n : Int) = (n : Int) := by rw [wrap_u64e]; omega
 obtain ⟨L, hL⟩ : ∃ L, L = Sort.bitsLen n := ⟨_, rfl⟩
 rw [← hL] at hlp hb
 obtain ⟨v, S2, hc, h2⟩ := cval_ex (T := T) fn_346 (args := [.osl id 0 n 2, .int .i64 ((0 : Nat) : Int), .int .i64 (n : Int), .int .i64 (L : Int), .fn 287 []]) (S := S) rfl (R := fun v S2 => v = .tup [] ∧ Srt S id n t S2 (Sort.pdq ltS d 0 n L true true)) (by
  simp -implicitDefEqProofs [z10, resAll]
  refine pdq_loop hid (n + 1) 0 n L true true d _ S (by omega) (Nat.zero_le _) (Nat.le_refl _) (by omega) h ⟨by simp, by simp, by simp, by simp, by simp, by simp, by simp⟩ (fun fr2 S2 x => ?_)
  rw [fin_raw]; exact ⟨rfl, x⟩)
 have hs := Sort.pdq_sorts ltS swo_ltS d 0 n L true true (Nat.zero_le _) (by rw [h.sz]; exact Nat.le_refl _) (.inl rfl)
 refine ⟨S2, _, cval_ok' fn_286 rfl ?_, h2.2, hs.1, hs.2⟩
 rw [h2.1] at hc
 simp only [Int.natCast_zero] at hc
 simp -implicitDefEqProofs [z20, hwu, hlp, hc, ends_nil]
 rfl
end Ps
namespace Ps
set_option linter.unusedSimpArgs false
set_option linter.unusedVariables false
open Go
theorem fn_187 : T.fn 187 = some (.code z70) := rfl
theorem fn_283 : T.fn 283 = some (.code z26) := rfl

theorem chunk_sm (t : List PV) : ∀ l : List (Int × Int), chunk 2 l.length (smC l ++ t) = l.map smE
 | [] => rfl
 | q :: l => by
  have ih := chunk_sm t l
  simp only [List.length_cons, chunk, smC, List.flatMap_cons, List.map_cons, List.cons_append, List.nil_append, List.append_assoc, List.take_succ_cons, List.take_zero, List.drop_succ_cons, List.drop_zero, mkE] at ih ⊢
  rw [ih]; rfl
theorem app_sm {S : St} {id : Nat} {l : List (Int × Int)} {t : List PV} (h : S.objs[id]? = some (smC l ++ t)) : appendedS S 2 (.osl id 0 l.length 2) = some (l.map smE) := by
 have hl := smC_len l
 have htk : (smC l ++ t).take (l.length * 2) = smC l := by rw [List.take_append_of_le_length (by omega), List.take_of_length_le (by omega)]
 simp only [appendedS, h, List.drop_zero]
 rw [if_pos ⟨trivial, by decide, by rw [List.length_append]; omega, by rw [htk]; exact smC_one l⟩, chunk_sm]

theorem smE_cells (l : List (Int × Int)) : ∀ e ∈ l.map smE, e.cells.length = 2 := by
 intro e he
 obtain ⟨x, _, rfl⟩ := List.mem_map.1 he; rfl
theorem smE_free (l : List (Int × Int)) : PV.freeL (l.map smE) = true := freeL_map _ (fun _ => rfl) l
theorem smE_frz (l : List (Int × Int)) : PV.frzL (l.map smE) = l.map smE := frzL_map' _ (fun _ => rfl) l

theorem clone_sm {S : St} {sv : PV} {l : List (Int × Int)} (hs : SmAt S sv l) (hl : l.length ≤ 65536) :
  ∃ v' x, cval T 283 [sv] S = some (v', ⟨S.objs ++ x, S.tips⟩) ∧ ((x = [] ∧ (v' = .nils ∨ v' = .emp) ∧ l = []) ∨ (x = [smC l] ∧ l ≠ [] ∧ v' = .osl S.objs.length 0 l.length 2)) := by
 have he0 : ∀ v : PV, lenP false v = some (.int .i64 0) → appendedS S 2 v = some [] → eqnP false .s v = some (.bool false) → cval T 283 [v] S = some (.emp, S) := fun v h1 h2 h3 => by
  refine cval_ok' fn_283 rfl ?_
  have : gappTo 2 16 S .emp [] = some (.emp, S) := rfl
  simp -implicitDefEqProofs [z26, h3, pstep, h2, this]
  rfl
 rcases hs with ⟨rfl | rfl, rfl⟩ | ⟨id, t, rfl, ho⟩
 ·refine ⟨.nils, [], cval_ok' fn_283 rfl ?_, .inl ⟨rfl, .inl rfl, rfl⟩⟩
  have : eqnP false .s .nils = some (.bool true) := rfl
  simp -implicitDefEqProofs [z26, this]
  rfl
 ·exact ⟨.emp, [], by rw [he0 .emp rfl rfl rfl]; simp, .inl ⟨rfl, .inr rfl, rfl⟩⟩
 ·cases hh : l with
  | nil =>
   subst hh
   refine ⟨.emp, [], ?_, .inl ⟨rfl, .inr rfl, rfl⟩⟩
   show cval T 283 [.osl id 0 0 2] S = _
   rw [he0 (.osl id 0 0 2) rfl (by simpa using app_sm ho) rfl]; simp
  | cons q l' =>
   rw [← hh]
   have hne : l ≠ [] := by rw [hh]; simp
   have hap := app_sm ho
   refine ⟨.osl S.objs.length 0 l.length 2, [smC l], cval_ok' fn_283 rfl ?_, .inr ⟨rfl, hne, rfl⟩⟩
   have h1 : eqnP false .s (.osl id 0 l.length 2) = some (.bool false) := rfl
   have h2 : gappTo 2 16 S .emp (l.map smE) = some (.osl S.objs.length 0 l.length 2, ⟨S.objs ++ [smC l], S.tips⟩) := by
    unfold gappTo
    have hie : (l.map smE).isEmpty = false := by rw [hh]; rfl
    have hfl : ∀ m : List (Int × Int), (m.map smE).flatMap PV.cells = smC m := fun m => by
     induction m with
     | nil => rfl
     | cons x m ih => simp only [List.map_cons, List.flatMap_cons, ih]; rfl
    simp only [hie, Bool.false_eq_true, if_false, List.length_map]
    rw [if_pos (by omega)]
    simp [newG, hfl]
   simp -implicitDefEqProofs [z26, h1, pstep, hap, h2]
   rfl

theorem serC_flat (l : List Sr) : (l.map serE).flatMap PV.cells = serC l := by
 induction l with
 | nil => rfl
 | cons x l ih => simp only [List.map_cons, List.flatMap_cons, ih]; rfl

structure SmN (S S' : St) (v : PV) (cs : List Sr) : Prop where
 sam : ∀ x ∈ cs, SmAt S' x.sv x.sm
 pos : ∀ x ∈ cs, ∀ i, gidV x.sv = some i → S.objs.length ≤ i ∧ gidV v ≠ some i ∧ ∃ c, S'.objs[i]? = some c ∧ c ≠ []
 dis : (gls cs).Nodup

theorem SmAt.mono {S S' : St} {sv : PV} {l : List (Int × Int)} (h : SmAt S sv l) (hk : ∀ i, gidV sv = some i → ∀ x, S.objs[i]? = some x → S'.objs[i]? = some x) : SmAt S' sv l := by
 rcases h with w | ⟨id, t, e, w⟩
 ·exact .inl w
 ·exact .inr ⟨id, t, e, hk id (by rw [e]; rfl) _ w⟩
theorem SmN.lt {S S' : St} {v : PV} {cs : List Sr} (h : SmN S S' v cs) {x : Sr} (hx : x ∈ cs) {i : Nat} (hi : gidV x.sv = some i) : i < S'.objs.length := by
 obtain ⟨_, _, c, hc, _⟩ := h.pos x hx i hi
 exact (List.getElem?_eq_some_iff.1 hc).1
theorem SmN.mono {S S' S2 : St} {v v2 : PV} {cs : List Sr} (h : SmN S S' v cs) (hk : ∀ x ∈ cs, ∀ i, gidV x.sv = some i → ∀ c, S'.objs[i]? = some c → S2.objs[i]? = some c) (hv : ∀ x ∈ cs, ∀ i, gidV x.sv = some i → gidV v2 ≠ some i) : SmN S S2 v2 cs where
 sam := fun x hx => (h.sam x hx).mono (hk x hx)
 pos := fun x hx i hi => by
  obtain ⟨a, b, c, hc, hn⟩ := h.pos x hx i hi
  exact ⟨a, hv x hx i hi, c, hk x hx i hi c hc, hn⟩
 dis := h.dis

theorem copied_val {S : St} {o : Nat} {H : Hd} (h : HOk S o H) : ∃ v S' cs, cval T 187 [H.hv] S = some (v, S') ∧ GAcc S 2 S' v (cs.map serE) ∧ Grows S S' ∧ abs cs = abs H.ser ∧ (∀ x ∈ cs, SeOk x) ∧ SmN S S' v cs := by
 have hle := h.szs
 have hlen := hv_len h
 obtain ⟨v, S', hc, cs, h1, h2, h3, h4, h5⟩ := cval_ex (T := T) fn_187 (args := [H.hv]) (S := S) rfl (R := fun v S' => ∃ cs : List Sr, GAcc S 2 S' v (cs.map serE) ∧ Grows S S' ∧ abs cs = abs H.ser ∧ (∀ x ∈ cs, SeOk x) ∧ SmN S S' v cs) (by
  simp -implicitDefEqProofs [z70, hlen]
  refine lp_up H.ser.length (fun j fr S' => fr 6 = H.hv ∧ fr 7 = .int .i64 H.ser.length ∧ fr 8 = .int .i64 (j : Int) ∧
   ∃ cs : List Sr, GAcc S 2 S' (fr 3) (cs.map serE) ∧ Grows S S' ∧ abs cs = abs (H.ser.take j) ∧ (∀ x ∈ cs, SeOk x) ∧ SmN S S' (fr 3) cs) ?_ ?_ 0 (Nat.zero_le _) _ _
   ⟨by simp, by simp, by simp, [], by simpa using (⟨.inl ⟨.inr rfl, rfl⟩, by simp⟩ : GAcc S 2 S .nils []), Grows.refl S, rfl, by simp, ⟨by simp, by simp, by simp [gls]⟩⟩
  ·rintro j fr S' hj ⟨f6, f7, f8, cs, g1, g2, g3, g4, g5⟩ k
   have hlt : (j : Int) < (H.ser.length : Int) := by omega
   have hw : IntKind.i64.wrap ((j : Int) + 1) = ((j + 1 : Nat) : Int) := by rw [wrap_i64 (by omega) (by omega)]; omega
   obtain ⟨si, hhv, hsi, hs⟩ := hv_cases h hj
   have hgr : ∀ (i : Nat) (x : List PV), S.objs[i]? = some x → S'.objs[i]? = some x := fun i x hx => by
    obtain ⟨a, b, rfl⟩ := g2
    simp only
    rw [List.getElem?_append_left (List.getElem?_eq_some_iff.1 hx).1]; exact hx
   obtain ⟨r, hr⟩ : ∃ r, r = H.ser[j] := ⟨_, rfl⟩
   have hr0 := h.all r (by rw [hr]; exact List.getElem_mem hj)
   have hld : loadP S' true 2 (.ptr si (j * 2)) = some (.agg [r.lv, r.sv]) := by
    have := serC_at (l := H.ser) hj []
    rw [List.append_nil] at this
    rw [loadP_ptr (hgr _ _ hs), this, hr]; exact part2
   have ho := hr0.at_.one.1
   have hl1 := isl_one hr0.lab.1.isl
   -- the copies
   obtain ⟨S1, hS1⟩ : ∃ S1 : St, S1 = ⟨S'.objs ++ [[r.lv, r.sv]], S'.tips⟩ := ⟨_, rfl⟩
   have hg1 : ∀ (i : Nat) (x : List PV), S'.objs[i]? = some x → S1.objs[i]? = some x := fun i x hx => by
    rw [hS1]; simp only; rw [List.getElem?_append_left (List.getElem?_eq_some_iff.1 hx).1]; exact hx
   have h5 : S1.objs[S'.objs.length]? = some [r.lv, r.sv] := by rw [hS1]; simp
   have l50 : loadP S1 false 1 (.ptr S'.objs.length 0) = some r.lv := by rw [loadP_ptr h5]; exact part1
   have l51 : loadP S1 false 1 (.ptr S'.objs.length 1) = some r.sv := by rw [loadP_ptr h5]; exact part1
   obtain ⟨lv, cl, sl, _⟩ := clone_lab hr0.lab.1.isl (by have := hr0.lab.2.1; omega) St0
   have hpl : pval T 130 [r.lv] = some lv := pval_st cl sl.free sl.frz
   have hsm1 : SmAt S1 r.sv r.sm := hr0.at_.mono fun i _ x hx => hg1 _ _ (hgr _ _ hx)
   have hrl : r.sm.length ≤ 65536 := by
    have := h.tot
    have := sm_le_total (r := r) (l := H.ser) (by rw [hr]; exact List.getElem_mem hj)
    omega
   obtain ⟨sv, x, c2, s2⟩ := clone_sm hsm1 hrl
   obtain ⟨S1b, hS1b⟩ : ∃ S1b : St, S1b = ⟨S1.objs ++ x, S1.tips⟩ := ⟨_, rfl⟩
   rw [← hS1b] at c2
   have hg1b : ∀ (i : Nat) (x : List PV), S'.objs[i]? = some x → S1b.objs[i]? = some x := fun i x hx => by
    have := hg1 i x hx
    rw [hS1b]; simp only; rw [List.getElem?_append_left (List.getElem?_eq_some_iff.1 this).1]; exact this
   have hl1b : S1.objs.length = S'.objs.length + 1 := by rw [hS1]; simp
   have hsmb : SmAt S1b sv r.sm ∧ (∀ i, gidV sv = some i → i = S1.objs.length ∧ S1b.objs[i]? = some (smC r.sm) ∧ r.sm ≠ [] ∧ i < S1b.objs.length) ∧ lenP false sv = some (.int .i64 r.sm.length) ∧ sv.one = true ∧ sv.cells = [sv] := by
    rcases s2 with ⟨rfl, hv, e⟩ | ⟨rfl, hn, rfl⟩
    ·refine ⟨.inl ⟨hv, e⟩, fun i hi => ?_, ?_, ?_, ?_⟩
     ·rcases hv with rfl | rfl <;> cases hi
     ·rw [e]; rcases hv with rfl | rfl <;> rfl
     ·rcases hv with rfl | rfl <;> rfl
     ·rcases hv with rfl | rfl <;> rfl
    ·have hh : S1b.objs[S1.objs.length]? = some (smC r.sm) := by rw [hS1b]; simp
     exact ⟨.inr ⟨_, [], rfl, by rw [List.append_nil]; exact hh⟩, fun i hi => by cases hi; exact ⟨rfl, hh, hn, (List.getElem?_eq_some_iff.1 hh).1⟩, rfl, rfl, rfl⟩
   obtain ⟨m1, m2, m3, m4, m5⟩ := hsmb
   have hx : SeOk ⟨lv, sv, r.sm, r.lb⟩ := ⟨⟨sl, hr0.lab.2⟩, m3, m4, hrl⟩
   have hlv1 := isl_one sl.isl
   have hlvc : lv.cells = [lv] := by cases lv <;> first | rfl | (simp [PV.one] at hlv1)
   have hcl : cs.length = j := by
    have := congrArg List.length g3
    rw [abs_len, abs_len, List.length_take] at this; omega
   have gg : Grows S ⟨S1b.objs, S1b.tips ++ [(1, 2)]⟩ := by rw [hS1b, hS1]; exact ((g2.objs _).objs _).arrs _
   have ga : GAcc S 2 ⟨S1b.objs, S1b.tips ++ [(1, 2)]⟩ (fr 3) (cs.map serE) := by
    refine ⟨?_, g1.ok⟩
    rcases g1.acc with w | ⟨id, w1, w2, w3, w4⟩
    ·exact .inl w
    ·exact .inr ⟨id, w1, w2, hg1b _ _ w3, w4⟩
   have hvid : ∀ i, gidV (fr 3) = some i → i < S'.objs.length := fun i hi => by
    rcases g1.acc with ⟨w | w, _⟩ | ⟨id, w1, w2, w3, w4⟩
    ·rw [w] at hi; cases hi
    ·rw [w] at hi; cases hi
    ·rw [w2] at hi; cases hi; exact (List.getElem?_eq_some_iff.1 w3).1
   obtain ⟨v', S2, p1, p2, p3, p4, p5, p6, p7, _⟩ := ga.app gg (by decide) (new := [.agg [lv, sv]]) (fun e he => by
    simp only [List.mem_singleton] at he; subst he; exact ⟨rfl, by simp [PV.cells, hlv1, m4]⟩) (bytes := 48) (by simp; omega)
   have hL := fun fr' => k fr' S2
   clear k
   rw [gval_lp]
   simp -implicitDefEqProofs [-z70_r5_go, f6, f7, f8, hlt, hj, hhv, hld, pstep, putCells, ho, hl1]
   rw [← hS1]
   simp -implicitDefEqProofs [f6, f7, f8, l50, l51, hr0.lab.1.free, hr0.lab.1.frz, hpl, c2, pstep, peval, fillParts, putCells, elems, setParts, newArr, hlv1, hlvc, m4, m5, p1, szOk]
   refine hL _ ⟨by simp [f6, hhv], by simp [f7], by simp [hw], cs ++ [⟨lv, sv, r.sm, r.lb⟩], ?_, p3, ?_, fun x hx' => ?_, ?_⟩
   ·simpa [serE] using p2
   ·rw [abs_app, g3, List.take_add_one, List.getElem?_eq_getElem hj, ← hr, Option.toList_some, abs_app]; rfl
   ·rcases List.mem_append.1 hx' with w | w
    ·exact g4 x w
    ·simp only [List.mem_singleton] at w; rw [w]; exact hx
   ·have hold := g5.mono (S2 := S2) (v2 := v') (fun x hx i hi c hc => p6 i c (hg1b i c hc) (g5.pos x hx i hi).2.1) (fun x hx i hi e => by
     have hil := g5.lt hx hi
     have : S'.objs.length ≤ S1b.objs.length := by rw [hS1b]; simp; omega
     exact (g5.pos x hx i hi).2.1 (p7 i e (by simp only; omega)))
    have hnew : ∀ i, gidV sv = some i → S2.objs[i]? = some (smC r.sm) ∧ gidV v' ≠ some i ∧ S'.objs.length ≤ i ∧ r.sm ≠ [] := fun i hi => by
     obtain ⟨e1, e2, e3, e4⟩ := m2 i hi
     refine ⟨p6 i _ e2 (fun e => ?_), fun e => ?_, by omega, e3⟩
     ·have := hvid i e; omega
     ·have := hvid i (p7 i e e4); omega
    refine ⟨fun x hx => ?_, fun x hx i hi => ?_, ?_⟩
    ·rcases List.mem_append.1 hx with w | w
     ·exact hold.sam x w
     ·simp only [List.mem_singleton] at w; rw [w]
      exact m1.mono fun i hi c hc => by
       have := (hnew i hi).1
       rw [(m2 i hi).2.1] at hc; cases hc; exact this
    ·rcases List.mem_append.1 hx with w | w
     ·exact hold.pos x w i hi
     ·simp only [List.mem_singleton] at w; rw [w] at hi
      obtain ⟨q1, q2, q3, q4⟩ := hnew i hi
      have : S.objs.length ≤ S'.objs.length := by obtain ⟨a, b, rfl⟩ := g2; simp
      refine ⟨by omega, q2, _, q1, fun e => q4 ?_⟩
      have := smC_len r.sm
      rw [e] at this
      simp at this
      exact List.length_eq_zero_iff.1 (by omega)
    ·rw [gls_app]
     refine List.nodup_append.2 ⟨g5.dis, by simpa [gls] using gl_nodup sv, fun i hi j' hj' e => ?_⟩
     subst e
     obtain ⟨x, hx, hi⟩ := List.mem_flatMap.1 hi
     have h1 := g5.lt hx (mem_gl.1 hi)
     simp only [gls, List.flatMap_cons, List.flatMap_nil, List.append_nil] at hj'
     have h2 := (hnew i (mem_gl.1 hj')).2.2.1
     omega
  ·rintro fr S' ⟨f6, f7, f8, cs, g1, g2, g3, g4, g5⟩
   rw [List.take_length] at g3
   rw [gval_lp]
   simp -implicitDefEqProofs [f6, f7, f8]
   rw [fin_raw]
   exact ⟨cs, g1, g2, g3, g4, g5⟩)
 exact ⟨v, S', cs, hc, h1, h2, h3, h4, h5⟩
end Ps
