/- The head: New. -/
import Derived.Test.YtndfknoclbkkhaaHD
namespace Ps
set_option linter.unusedSimpArgs false
set_option linter.unusedVariables false
open Go

def kept (low high : Int) (l : List (Int × Int)) : List (Int × Int) := l.filter fun q => !inTm low high q
theorem get_set {l : List (List PV)} {o : Nat} {c d : List PV} (h : l[o]? = some c) : (l.set o d)[o]? = some d := List.getElem?_set_self (List.getElem?_eq_some_iff.1 h).1
theorem smC_app (a b : List (Int × Int)) : smC (a ++ b) = smC a ++ smC b := by simp [smC]

theorem delete_loop {S : St} {id ro : Nat} {l : List (Int × Int)} (hl : l.length ≤ 1048576) (hid : id < S.objs.length) (hne : ro ≠ id) {t : List PV} {a b c d : PV} {low high : Int} (hro : S.objs[ro]? = some [a, b, c, d, .int .i64 low, .int .i64 high])
    {KK : List Kt} {Q : Fr → St → Prop}
    (hK : ∀ fr S' rest, fr 0 = .osl id 0 l.length 2 → fr 5 = .int .i64 (kept low high l).length → S'.objs[id]? = some (smC (kept low high l) ++ rest) → rest.length + 2 * (kept low high l).length = 2 * l.length + t.length → (kept low high l).length < l.length →
      (∀ (i : Nat) (x : List PV), i ≠ id → S.objs[i]? = some x → S'.objs[i]? = some x) → S'.tips = S.tips → S.objs.length ≤ S'.objs.length → Ok (gval T KK fr S') Q)
    (j0 : Nat) (hj0 : j0 ≤ l.length) (fr0 : Fr) (S0 : St) (mid0 : List PV) (g0 : fr0 0 = .osl id 0 l.length 2) (g1 : fr0 1 = .fn 280 [.ptr ro 0]) (g5 : fr0 5 = .int .i64 (kept low high (l.take j0)).length) (g6 : fr0 6 = .int .i64 j0)
    (gm : S0.objs[id]? = some (smC (kept low high (l.take j0)) ++ mid0 ++ (smC (l.drop j0) ++ t))) (gl : mid0.length + 2 * (kept low high (l.take j0)).length = 2 * j0) (gj : (kept low high (l.take j0)).length < j0)
    (gk : ∀ (i : Nat) (x : List PV), i ≠ id → S.objs[i]? = some x → S0.objs[i]? = some x) (gt : S0.tips = S.tips) (gle : S.objs.length ≤ S0.objs.length) :
    Ok (gval T (.lp slices_DeleteFunc_Sample_l0 :: .blk 0 :: KK) fr0 S0) Q := by
  have hl' : l.length ≤ maxLen := by unfold maxLen; omega
  refine lp_up l.length (fun j fr S' => fr 0 = .osl id 0 l.length 2 ∧ fr 1 = .fn 280 [.ptr ro 0] ∧ fr 5 = .int .i64 (kept low high (l.take j)).length ∧ fr 6 = .int .i64 (j : Int) ∧ (∃ mid, S'.objs[id]? = some (smC (kept low high (l.take j)) ++ mid ++ (smC (l.drop j) ++ t)) ∧ mid.length + 2 * (kept low high (l.take j)).length = 2 * j) ∧ (kept low high (l.take j)).length < j ∧
      (∀ (i : Nat) (x : List PV), i ≠ id → S.objs[i]? = some x → S'.objs[i]? = some x) ∧ S'.tips = S.tips ∧ S.objs.length ≤ S'.objs.length) ?_ ?_ j0 hj0 _ _ ⟨g0, g1, g5, g6, ⟨mid0, gm, gl⟩, gj, gk, gt, gle⟩
  · rintro j fr S' hj ⟨f0, f1, f5, f6, ⟨mid, hm, hml⟩, hkj, hk, htp, hle⟩ k
    have hw := wrap_up hj hl'
    have hlt : (j : Int) < (l.length : Int) := by omega
    obtain ⟨q, hq⟩ : ∃ q, q = l[j] := ⟨_, rfl⟩
    have hd : l.drop j = q :: l.drop (j + 1) := by rw [hq]; exact List.drop_eq_getElem_cons hj
    have ht : l.take (j + 1) = l.take j ++ [q] := by rw [List.take_add_one, List.getElem?_eq_getElem hj, hq]; rfl
    obtain ⟨ks, hks⟩ : ∃ ks, ks = kept low high (l.take j) := ⟨_, rfl⟩
    rw [← hks] at f5 hm hml hkj
    have hkept : kept low high (l.take (j + 1)) = ks ++ (if inTm low high q then [] else [q]) := by
      rw [ht, hks]; unfold kept; rw [List.filter_append]
      cases hcc : inTm low high q <;> simp [hcc]
    have hsl := smC_len ks
    have hcs : smC (q :: l.drop (j + 1)) = .int .i64 q.1 :: .int .i64 q.2 :: smC (l.drop (j + 1)) := by simp [smC]
    rw [hd, hcs] at hm
    have hdr : (smC ks ++ mid ++ (.int .i64 q.1 :: .int .i64 q.2 :: smC (l.drop (j + 1)) ++ t)).drop (j * 2) = .int .i64 q.1 :: .int .i64 q.2 :: (smC (l.drop (j + 1)) ++ t) := by
      rw [List.drop_append_of_le_length (by rw [List.length_append]; omega), List.drop_eq_nil_of_le (by rw [List.length_append]; omega)]; rfl
    have hload : loadP S' true 2 (.ptr id (j * 2)) = some (.agg [.int .i64 q.1, .int .i64 q.2]) := by
      rw [loadP_ptr hm, hdr, part2]
    obtain ⟨S1, hS1⟩ : ∃ S1 : St, S1 = ⟨S'.objs ++ [[.int .i64 q.1, .int .i64 q.2]], S'.tips⟩ := ⟨_, rfl⟩
    have hid' : id < S'.objs.length := by omega
    have hm1 : S1.objs[id]? = some (smC ks ++ mid ++ (.int .i64 q.1 :: .int .i64 q.2 :: smC (l.drop (j + 1)) ++ t)) := by
      rw [hS1]; simp only; rw [List.getElem?_append_left hid']; exact hm
    have hk1 : ∀ (i : Nat) (x : List PV), i ≠ id → S.objs[i]? = some x → S1.objs[i]? = some x := fun i x hi hx => by
      have := hk i x hi hx
      rw [hS1]; simp only; rw [List.getElem?_append_left (List.getElem?_eq_some_iff.1 this).1]; exact this
    have hro1 := hk1 ro _ hne hro
    have hask := ask_val (S := S1) hro1 q
    have ho7 : S1.objs[S'.objs.length]? = some [.int .i64 q.1, .int .i64 q.2] := by rw [hS1]; simp
    have hld7 : loadP S1 true 2 (.ptr S'.objs.length 0) = some (.agg [.int .i64 q.1, .int .i64 q.2]) := by rw [loadP_ptr ho7, List.drop_zero, part2]
    have hle1 : S.objs.length ≤ S1.objs.length := by rw [hS1]; simp; omega
    have htp1 : S1.tips = S.tips := by rw [hS1]; exact htp
    have hL := fun (fr' : Fr) (S2 : St) => k fr' S2
    rw [hkept] at hL
    clear k
    have hkw : IntKind.i64.wrap ((ks.length : Int) + 1) = (ks.length : Int) + 1 := wrap_up (by omega : ks.length < l.length) hl'
    simp only [smE] at hask
    cases hc : inTm low high q with
    | true =>
      rw [hc] at hask
      rw [gval_lp]
      simp -implicitDefEqProofs [-slices_DeleteFunc_Sample_r8_go, f0, f1, f5, f6, hlt, hj, hload, pstep, putCells]
      rw [← hS1]
      simp -implicitDefEqProofs [f0, f1, f5, f6, hld7, hask, pstep]
      refine hL _ _ ⟨by simp [f0], by simp [f1], by simp [hc, f5], by simp [hw], ⟨mid ++ [.int .i64 q.1, .int .i64 q.2], ?_, ?_⟩, ?_, hk1, htp1, hle1⟩
      · rw [hm1]; simp [hc]
      · simp [hc]; omega
      · simp [hc]; omega
    | false =>
      rw [hc] at hask
      obtain ⟨cs, hcs0⟩ : ∃ cs, cs = smC ks ++ mid ++ (.int .i64 q.1 :: .int .i64 q.2 :: smC (l.drop (j + 1)) ++ t) := ⟨_, rfl⟩
      rw [← hcs0] at hm1
      have hks2 : (ks.length : Int) < (l.length : Int) := by omega
      have hle2 : ks.length * 2 + 2 ≤ cs.length := by rw [hcs0]; simp only [List.length_append, List.length_cons]; omega
      rw [gval_lp]
      simp -implicitDefEqProofs [-slices_DeleteFunc_Sample_r8_go, f0, f1, f5, f6, hlt, hj, hload, pstep, putCells]
      rw [← hS1]
      simp -implicitDefEqProofs [f0, f1, f5, f6, hld7, hask, pstep, putCells, hm1, hks2, hle2]
      refine hL _ _ ⟨by simp [f0], by simp [f1], by simp [hc, hkw], by simp [hw], ⟨mid.drop 2 ++ [.int .i64 q.1, .int .i64 q.2], ?_, ?_⟩, ?_, fun i x hi hx => ?_, htp1, by simpa using hle1⟩
      · simp only
        refine (get_set hm1).trans ?_
        rw [hcs0]
        obtain ⟨X, hX⟩ : ∃ X, X = (PV.int .i64 q.1 :: .int .i64 q.2 :: smC (l.drop (j + 1)) ++ t) := ⟨_, rfl⟩
        rw [← hX]
        have e1 : (smC ks ++ mid ++ X).take (ks.length * 2) = smC ks := by
          rw [List.append_assoc, List.take_append_of_le_length (by omega), List.take_of_length_le (by omega)]
        have e0 : (smC ks ++ mid ++ X).drop (ks.length * 2) = mid ++ X := by
          rw [List.append_assoc, List.drop_append_of_le_length (by omega), List.drop_eq_nil_of_le (by omega), List.nil_append]
        have e2 : (smC ks ++ mid ++ X).drop (ks.length * 2 + 2) = mid.drop 2 ++ X := by
          rw [← List.drop_drop, e0, List.drop_append_of_le_length (by omega)]
        rw [e1, e2, hX]
        simp [hc, smC_app, smC]
      · simp [hc]; omega
      · simp [hc]; omega
      · simp only
        rw [List.getElem?_set_ne (Ne.symm hi)]; exact hk1 i x hi hx
  · rintro fr S' ⟨f0, f1, f5, f6, ⟨mid, hm, hml⟩, hkj, hk, htp, hle⟩
    rw [List.take_length] at f5 hm hml hkj
    rw [List.drop_length] at hm
    have hL := fun (fr' : Fr) (z0 : fr' 0 = .osl id 0 l.length 2) (z5 : fr' 5 = .int .i64 (kept low high l).length) => hK fr' S' (mid ++ t) z0 z5 (by rw [hm]; simp [smC]) (by rw [List.length_append]; omega) hkj hk htp hle
    clear hK
    rw [gval_lp]
    simp -implicitDefEqProofs [f0, f1, f5, f6]
    exact hL _ (by simp [f0]) (by simp [f5])

end Ps
namespace Ps
set_option linter.unusedSimpArgs false
set_option linter.unusedVariables false
open Go

theorem fin_osl' {S S1 : St} {id n sz : Nat} (h : id < S.objs.length) : finish false S S1 (.osl id 0 n sz) = (.osl id 0 n sz, S1) := by
  have hs : sol S1.objs S.objs.length solFuel (.osl id 0 n sz) = none := by
    show sol S1.objs S.objs.length (39 + 1) _ = none
    rw [sol]
    have : ¬ S.objs.length ≤ id := by omega
    simp [PV.free, this]
  unfold finish
  simp only [Bool.false_eq_true, if_false, hs]

theorem delete_val {S : St} {sv : PV} {l : List (Int × Int)} (hs : SmAt S sv l) (hl : l.length ≤ 1048576) {ro : Nat} (hne : gidV sv ≠ some ro) {a b c d : PV} {low high : Int} (hro : S.objs[ro]? = some [a, b, c, d, .int .i64 low, .int .i64 high]) :
    ∃ sv' S', cval T 279 [sv, .fn 280 [.ptr ro 0]] S = some (sv', S') ∧ SmAt S' sv' (kept low high l) ∧ (sv' = sv ∨ ∃ id, gidV sv = some id ∧ sv' = .osl id 0 (kept low high l).length 2) ∧
      (∀ (i : Nat) (x : List PV), gidV sv ≠ some i → S.objs[i]? = some x → S'.objs[i]? = some x) ∧ S'.tips = S.tips ∧ S.objs.length ≤ S'.objs.length ∧
      (∀ i c, gidV sv = some i → S.objs[i]? = some c → ∃ c', S'.objs[i]? = some c' ∧ c'.length = c.length) := by
  have hix := index_val hs hl hro
  cases hf : l.findIdx? (inTm low high) with
  | none =>
    rw [hf] at hix
    have hk : kept low high l = l := by
      unfold kept
      rw [List.filter_eq_self]
      intro q hq
      have := (List.findIdx?_eq_none_iff.1 hf) q hq
      simp [this]
    refine ⟨sv, S, cval_ok' fn_279 rfl ?_, by rw [hk]; exact hs, .inl rfl, fun i x _ h => h, rfl, Nat.le_refl _, fun i c _ h => ⟨c, h, rfl⟩⟩
    have hfin : finish false S S sv = (sv, S) := by
      rcases hs with ⟨rfl, _⟩ | ⟨id, t, rfl, ho⟩
      · rw [fin_free (Grows.refl S) rfl]; rfl
      · exact fin_osl' (List.getElem?_eq_some_iff.1 ho).1
    simp -implicitDefEqProofs [slices_DeleteFunc_Sample, hix, hfin]
  | some i0 =>
    rw [hf] at hix
    obtain ⟨hi0, hp0, hb0⟩ := List.findIdx?_eq_some_iff_getElem.1 hf
    rcases hs with ⟨_, e⟩ | ⟨id, t, rfl, ho⟩
    · rw [e] at hi0; exact absurd hi0 (by simp)
    · have hid := (List.getElem?_eq_some_iff.1 ho).1
      have hne' : ro ≠ id := fun e => hne (by rw [e]; rfl)
      have ht0 : l.take (i0 + 1) = l.take i0 ++ [l[i0]] := by rw [List.take_add_one, List.getElem?_eq_getElem hi0]; rfl
      have hk0 : kept low high (l.take (i0 + 1)) = l.take i0 := by
        rw [ht0]; unfold kept
        rw [List.filter_append]
        have e1 : (l.take i0).filter (fun q => !inTm low high q) = l.take i0 := by
          rw [List.filter_eq_self]
          intro q hq
          obtain ⟨i, hi, rfl⟩ := List.mem_take_iff_getElem.1 hq
          have := hb0 i (by omega)
          simpa using this
        rw [e1]; simp [hp0]
      have hsplit : smC l = smC (l.take i0) ++ [.int .i64 l[i0].1, .int .i64 l[i0].2] ++ smC (l.drop (i0 + 1)) := by
        have e : l = l.take i0 ++ (l[i0] :: l.drop (i0 + 1)) := by rw [← List.drop_eq_getElem_cons hi0, List.take_append_drop]
        refine (congrArg smC e).trans ?_
        rw [smC_app]
        show smC (l.take i0) ++ (.int .i64 l[i0].1 :: .int .i64 l[i0].2 :: smC (l.drop (i0 + 1))) = _
        simp only [List.append_assoc, List.cons_append, List.nil_append]
      have hw0 : IntKind.i64.wrap ((i0 : Int) + 1) = (i0 : Int) + 1 := wrap_up hi0 (by unfold maxLen; omega)
      have hloop := fun (KK : List Kt) (Q : Fr → St → Prop) hK (fr0 : Fr) g0 g1 g5 g6 => delete_loop (S := S) hl hid hne' (t := t) hro (KK := KK) (Q := Q) hK (i0 + 1) (by omega) fr0 S [.int .i64 l[i0].1, .int .i64 l[i0].2] g0 g1 g5 g6 (by rw [hk0, ho, hsplit]; simp) (by rw [hk0, List.length_take]; simp; omega) (by rw [hk0, List.length_take]; omega) (fun i x _ h => h) rfl (Nat.le_refl _)
      obtain ⟨r, S2, hc, h2⟩ := cval_ex (T := T) fn_279 (args := [.osl id 0 l.length 2, .fn 280 [.ptr ro 0]]) (S := S) rfl (R := fun r S2 => SmAt S2 r (kept low high l) ∧ r = .osl id 0 (kept low high l).length 2 ∧ (∀ (i : Nat) (x : List PV), i ≠ id → S.objs[i]? = some x → S2.objs[i]? = some x) ∧ S2.tips = S.tips ∧ S.objs.length ≤ S2.objs.length ∧ ∃ c', S2.objs[id]? = some c' ∧ c'.length = (smC l ++ t).length) (by
        simp -implicitDefEqProofs [slices_DeleteFunc_Sample, hix]
        refine hloop _ _ ?_ _ (by simp) (by simp) (by simp [hk0]; omega) (by simp [hw0])
        intro fr S' rest f0 f5 hm hr hlt hk htp hle
        obtain ⟨n, hn⟩ : ∃ n, n = (kept low high l).length := ⟨_, rfl⟩
        rw [← hn] at f5 hr hlt
        have hsl := smC_len (kept low high l)
        rw [← hn] at hsl
        have hb1 : bounds l.length l.length (some (.int .i64 (n : Int))) none = some (n, l.length) := bounds_lo (by omega)
        have hb2 : bounds l.length l.length none (some (.int .i64 (n : Int))) = some (0, n) := bounds_hi (by omega)
        obtain ⟨cs, hcs⟩ : ∃ cs, cs = smC (kept low high l) ++ rest := ⟨_, rfl⟩
        rw [← hcs] at hm
        have hle2 : n * 2 + (l.length - n) * 2 ≤ cs.length := by rw [hcs, List.length_append, hsl]; omega
        simp -implicitDefEqProofs [f0, f5, hb1, hb2, hlt, pstep, hm, hle2, putCells]
        rw [← hn]
        rw [fin_osl' hid]
        have htk : cs.take (n * 2) = smC (kept low high l) := by
          rw [hcs, List.take_append_of_le_length (by omega), List.take_of_length_le (by omega)]
        rw [htk]
        refine ⟨.inr ⟨id, _, by rw [← hn], get_set hm⟩, rfl, fun i x hi hx => ?_, htp, by simpa using hle, _, get_set hm, ?_⟩
        · simp only
          rw [List.getElem?_set_ne (Ne.symm hi)]; exact hk i x hi hx
        · have hsl2 := smC_len l
          simp only [List.length_append, List.length_drop, List.length_flatten, List.map_replicate, hcs, hsl]
          simp
          omega)
      obtain ⟨q1, rfl, q3, q4, q5, c', q6, q7⟩ := h2
      exact ⟨_, S2, hc, q1, .inr ⟨id, rfl, rfl⟩, fun i x hi h => q3 i x (fun e => hi (by rw [e]; rfl)) h, q4, q5, fun i c hi hc => by
        cases hi
        rw [ho] at hc; cases hc
        exact ⟨c', q6, q7⟩⟩

end Ps
namespace Ps
set_option linter.unusedSimpArgs false
set_option linter.unusedVariables false
open Go

def Rises (l : List (Int × Int)) : Prop := l.Pairwise fun a b => a.1 < b.1

theorem kept_two {low high lo hi : Int} (hlh : low ≤ high) : ∀ {l : List (Int × Int)}, Rises l → (∀ q ∈ l, lo ≤ q.1 ∧ q.1 ≤ hi) → kept low high l = l.filter (inTm lo (low - 1)) ++ l.filter (inTm (high + 1) hi)
  | [], _, _ => rfl
  | q :: l, hr, hb => by
    have ih := kept_two hlh (List.pairwise_cons.1 hr).2 (fun x hx => hb x (by simp [hx])) (lo := lo) (hi := hi)
    have hq := hb q (by simp)
    unfold kept at ih ⊢
    simp only [List.filter_cons]
    by_cases c1 : q.1 < low
    · have e1 : inTm low high q = false := by simp [inTm]; omega
      have e2 : inTm lo (low - 1) q = true := by simp [inTm]; omega
      have e3 : inTm (high + 1) hi q = false := by simp [inTm]; omega
      simp [e1, e2, e3, ih]
    · by_cases c2 : q.1 ≤ high
      · have e1 : inTm low high q = true := by simp [inTm]; omega
        have e2 : inTm lo (low - 1) q = false := by simp [inTm]; omega
        have e3 : inTm (high + 1) hi q = false := by simp [inTm]; omega
        simp [e1, e2, e3, ih]
      · have e1 : inTm low high q = false := by simp [inTm]; omega
        have e2 : inTm lo (low - 1) q = false := by simp [inTm]; omega
        have e3 : inTm (high + 1) hi q = true := by simp [inTm]; omega
        have e4 : l.filter (inTm lo (low - 1)) = [] := by
          rw [List.filter_eq_nil_iff]
          intro x hx
          have := (List.pairwise_cons.1 hr).1 x hx
          simp [inTm]; omega
        rw [e4, List.nil_append] at ih
        simp [e1, e2, e3, e4, ih]
theorem kept_none {low high : Int} (l : List (Int × Int)) : (kept low high l).filter (inTm low high) = [] := by
  rw [List.filter_eq_nil_iff]
  intro x hx
  have := (List.mem_filter.1 hx).2
  simpa using this
theorem kept_again {low high : Int} (l : List (Int × Int)) : kept low high (kept low high l) = kept low high l := by
  unfold kept
  rw [List.filter_filter]
  simp
theorem filter_all {lo hi : Int} {l : List (Int × Int)} (hb : ∀ q ∈ l, lo ≤ q.1 ∧ q.1 ≤ hi) : l.filter (inTm lo hi) = l := by
  rw [List.filter_eq_self]
  intro q hq
  have := hb q hq
  simp [inTm]; omega

end Ps
namespace Ps
set_option linter.unusedSimpArgs false
set_option linter.unusedVariables false
open Go

theorem new_fin : finish false St0 ⟨[[], [.nils, .map 0, .int .i64 0]], []⟩ (.ptr 1 0) = (.ptr 1 0, ⟨[[], [.nils, .map 0, .int .i64 0]], []⟩) := by
  have hs : sol [[], [PV.nils, .map 0, .int .i64 0]] St0.objs.length solFuel (.ptr 1 0) = none := rfl
  unfold finish
  simp only [Bool.false_eq_true, if_false]
  rw [hs]

theorem new_val : cval T 68 [] St0 = some (.ptr 1 0, ⟨[[], [.nils, .map 0, .int .i64 0]], []⟩) := by
  refine cval_ok' fn_68 rfl ?_
  simp -implicitDefEqProofs [head_New, pstep, peval, fillParts, putCells, newObj]
  exact new_fin
theorem new_at : HAt ⟨[[], [.nils, .map 0, .int .i64 0]], []⟩ 1 ⟨.nils, 0, [], [], 0⟩ where
  obj := rfl
  ids := rfl
  ser := .inl ⟨rfl, rfl⟩
  sam := fun r hr => by cases hr
  lab := fun r hr => by cases hr

end Ps
