/- Posting lists, samples, rows: whether they may be, both. -/
import Derived.Test.YtndfknoclbkkhaaGA
import Derived.Test.YtndfknoclbkkhaaLB
namespace Ps
set_option linter.unusedSimpArgs false
set_option linter.unusedVariables false
open Go
theorem part2 {a b : PV} {l : List PV} : partOf true 2 (a :: b :: l) = some (.agg [a, b]) := by simp [partOf]
theorem SmAt.one {S : St} {sv : PV} {l : List (Int × Int)} (h : SmAt S sv l) : sv.one = true ∧ sv.frz = sv := by
  rcases h with ⟨rfl, _⟩ | ⟨id, t, rfl, _⟩ <;> exact ⟨rfl, rfl⟩
end Ps
namespace Ps
set_option linter.unusedSimpArgs false
set_option linter.unusedVariables false
open Go
@[simp] theorem part1 {v : PV} {l : List PV} : partOf false 1 (v :: l) = some v := by simp [partOf]

def inTm (low high : Int) (p : Int × Int) : Bool := decide (low ≤ p.1) && decide (p.1 ≤ high)
end Ps
namespace Ps
set_option linter.unusedSimpArgs false
set_option linter.unusedVariables false
open Go
theorem fn_280 : T.fn 280 = some (.code head_Head_remove_1) := rfl
theorem fn_344 : T.fn 344 = some (.code slices_IndexFunc_Sample) := rfl
theorem fn_279 : T.fn 279 = some (.code slices_DeleteFunc_Sample) := rfl

theorem ask_val {S : St} {ro : Nat} {a b c d : PV} {low high : Int} (h : S.objs[ro]? = some [a, b, c, d, .int .i64 low, .int .i64 high]) (q : Int × Int) :
    cval T 280 [smE q, .ptr ro 0] S = some (.bool (inTm low high q), S) := by
  have l4 : loadP S false 1 (.ptr ro 4) = some (.int .i64 low) := by rw [loadP_ptr h]; rfl
  have l5 : loadP S false 1 (.ptr ro 5) = some (.int .i64 high) := by rw [loadP_ptr h]; rfl
  refine cval_ok' fn_280 rfl ?_
  simp only [smE]
  by_cases c1 : low ≤ q.1
  · simp -implicitDefEqProofs [head_Head_remove_1, pstep, l4, l5, c1, inTm]
  · simp -implicitDefEqProofs [head_Head_remove_1, pstep, l4, l5, c1, inTm]

theorem index_val {S : St} {sv : PV} {l : List (Int × Int)} (hs : SmAt S sv l) (hl : l.length ≤ 1048576) {ro : Nat} {a b c d : PV} {low high : Int} (h : S.objs[ro]? = some [a, b, c, d, .int .i64 low, .int .i64 high]) :
    cval T 344 [sv, .fn 280 [.ptr ro 0]] S = some (.int .i64 (match l.findIdx? (inTm low high) with | some i => (i : Int) | none => -1), S) := by
  have hl' : l.length ≤ maxLen := by unfold maxLen; omega
  have hlen : lenP false sv = some (.int .i64 l.length) := by
    rcases hs with ⟨e, e2⟩ | ⟨id, t, e, _⟩
    · rw [e, e2]; rfl
    · rw [e]; rfl
  refine cval_ok' fn_344 rfl ?_
  simp -implicitDefEqProofs [slices_IndexFunc_Sample, hlen]
  refine lp_up l.length (fun j fr S' => fr 0 = sv ∧ fr 1 = .fn 280 [.ptr ro 0] ∧ fr 7 = .int .i64 l.length ∧ fr 8 = .int .i64 (j : Int) ∧ (∀ q ∈ l.take j, inTm low high q = false) ∧ S' = S) ?_ ?_ 0 (Nat.zero_le _) _ _ ⟨by simp, by simp, by simp, by simp, by simp, rfl⟩
  · rintro j fr S' hj ⟨f0, f1, f7, f8, hn, rfl⟩ k
    have hw := wrap_up hj hl'
    have hlt : (j : Int) < (l.length : Int) := by omega
    obtain ⟨p, hp, hld⟩ : ∃ p, iaddrP 2 sv (.int .i64 (j : Int)) = some p ∧ loadP S' true 2 p = some (smE l[j]) := by
      rcases hs with ⟨_, e2⟩ | ⟨id, t, e, ho⟩
      · rw [e2] at hj; exact absurd hj (by simp)
      · refine ⟨.ptr id (j * 2), ?_, ?_⟩
        · rw [e, iaddrP_osl, if_pos (by omega)]; simp
        · rw [loadP_ptr ho, List.drop_append_of_le_length (by rw [smC_len]; omega), smC_drop, List.drop_eq_getElem_cons hj]
          exact part2
    have ht : l.take (j + 1) = l.take j ++ [l[j]] := by rw [List.take_add_one, List.getElem?_eq_getElem hj]; rfl
    have ha := ask_val h l[j]
    have hL : ∀ (fr' : Fr), fr' 0 = sv → fr' 1 = .fn 280 [.ptr ro 0] → fr' 7 = .int .i64 l.length → fr' 8 = .int .i64 ((j : Int) + 1) → inTm low high l[j] = false →
        Ok (gval T (.lp slices_IndexFunc_Sample_l0 :: .blk 0 :: [.code (.seq (.region slices_IndexFunc_Sample_r7) .ret)]) fr' S') _ := fun fr' g0 g1 g7 g8 hf => by
      refine k fr' S' ⟨g0, g1, g7, by simpa using g8, fun q hq => ?_, rfl⟩
      rw [ht] at hq
      rcases List.mem_append.1 hq with hq | hq
      · exact hn q hq
      · simp only [List.mem_singleton] at hq; rw [hq]; exact hf
    have hR : inTm low high l[j] = true → l.findIdx? (inTm low high) = some j := fun ht => by
      rw [List.findIdx?_eq_some_iff_getElem]
      refine ⟨hj, ht, fun i hi => ?_⟩
      have := hn l[i] (by rw [List.mem_take_iff_getElem]; exact ⟨i, by omega, rfl⟩)
      simp [this]
    clear k
    cases hc : inTm low high l[j] with
    | true =>
      rw [hR hc]
      rw [hc] at ha
      rw [gval_lp]
      simp -implicitDefEqProofs [f0, f1, f7, f8, hlt, hj, hp, hld, ha, pstep]
    | false =>
      rw [hc] at ha
      rw [gval_lp]
      simp -implicitDefEqProofs [f0, f1, f7, f8, hlt, hj, hp, hld, ha, pstep]
      exact hL _ (by simp [f0]) (by simp [f1]) (by simp [f7]) (by simp [hw]) hc
  · rintro fr S' ⟨f0, f1, f7, f8, hn, rfl⟩
    rw [List.take_length] at hn
    have : l.findIdx? (inTm low high) = none := by rw [List.findIdx?_eq_none_iff]; exact hn
    rw [this, gval_lp]
    simp -implicitDefEqProofs [f0, f1, f7, f8]
end Ps
namespace Ps
set_option linter.unusedSimpArgs false
set_option linter.unusedVariables false
open Go
def kept (low high : Int) (l : List (Int × Int)) : List (Int × Int) := l.filter fun q => !inTm low high q
theorem get_set {l : List (List PV)} {o : Nat} {c d : List PV} (h : l[o]? = some c) : (l.set o d)[o]? = some d := List.getElem?_set_self (List.getElem?_eq_some_iff.1 h).1
theorem smC_app (a b : List (Int × Int)) : smC (a ++ b) = smC a ++ smC b := by simp [smC]

theorem delete_loop {S : St} {id ro : Nat} {l : List (Int × Int)} (hl : l.length ≤ 1048576) (hid : id < S.objs.length) (hne : ro ≠ id) {t : List PV} {a b c d : PV} {low high : Int} (hro : S.objs[ro]? = some [a, b, c, d, .int .i64 low, .int .i64 high])
    {KK : List Kt} {Q : Fr → St → Prop}
    (hK : ∀ fr S' rest, fr 0 = .osl id 0 l.length 2 → fr 5 = .int .i64 (kept low high l).length → S'.objs[id]? = some (smC (kept low high l) ++ rest) → rest.length + 2 * (kept low high l).length = 2 * l.length + t.length → (kept low high l).length < l.length →
      (∀ (i : Nat) (x : List PV), i ≠ id → S.objs[i]? = some x → S'.objs[i]? = some x) → S'.tips = S.tips → S.objs.length ≤ S'.objs.length → Ok (gval T KK fr S') Q)
    (j0 : Nat) (hj0 : j0 ≤ l.length) (fr0 : Fr) (S0 : St) (mid0 : List PV) (g0 : fr0 0 = .osl id 0 l.length 2) (g1 : fr0 1 = .fn 280 [.ptr ro 0]) (g5 : fr0 5 = .int .i64 (kept low high (l.take j0)).length) (g6 : fr0 6 = .int .i64 j0)
    (gm : S0.objs[id]? = some (smC (kept low high (l.take j0)) ++ mid0 ++ (smC (l.drop j0) ++ t))) (gl : mid0.length + 2 * (kept low high (l.take j0)).length = 2 * j0) (gj : (kept low high (l.take j0)).length < j0)
    (gk : ∀ (i : Nat) (x : List PV), i ≠ id → S.objs[i]? = some x → S0.objs[i]? = some x) (gt : S0.tips = S.tips) (gle : S.objs.length ≤ S0.objs.length) :
    Ok (gval T (.lp slices_DeleteFunc_Sample_l0 :: .blk 0 :: KK) fr0 S0) Q := by
  have hl' : l.length ≤ maxLen := by unfold maxLen; omega
  refine lp_up l.length (fun j fr S' => fr 0 = .osl id 0 l.length 2 ∧ fr 1 = .fn 280 [.ptr ro 0] ∧ fr 5 = .int .i64 (kept low high (l.take j)).length ∧ fr 6 = .int .i64 (j : Int) ∧ (∃ mid, S'.objs[id]? = some (smC (kept low high (l.take j)) ++ mid ++ (smC (l.drop j) ++ t)) ∧ mid.length + 2 * (kept low high (l.take j)).length = 2 * j) ∧ (kept low high (l.take j)).length < j ∧
      (∀ (i : Nat) (x : List PV), i ≠ id → S.objs[i]? = some x → S'.objs[i]? = some x) ∧ S'.tips = S.tips ∧ S.objs.length ≤ S'.objs.length) ?_ ?_ j0 hj0 _ _ ⟨g0, g1, g5, g6, ⟨mid0, gm, gl⟩, gj, gk, gt, gle⟩
  · rintro j fr S' hj ⟨f0, f1, f5, f6, ⟨mid, hm, hml⟩, hkj, hk, htp, hle⟩ k
    have hw := wrap_up hj hl'
    have hlt : (j : Int) < (l.length : Int) := by omega
    obtain ⟨q, hq⟩ : ∃ q, q = l[j] := ⟨_, rfl⟩
    have hd : l.drop j = q :: l.drop (j + 1) := by rw [hq]; exact List.drop_eq_getElem_cons hj
    have ht : l.take (j + 1) = l.take j ++ [q] := by rw [List.take_add_one, List.getElem?_eq_getElem hj, hq]; rfl
    obtain ⟨ks, hks⟩ : ∃ ks, ks = kept low high (l.take j) := ⟨_, rfl⟩
    rw [← hks] at f5 hm hml hkj
    have hkept : kept low high (l.take (j + 1)) = ks ++ (if inTm low high q then [] else [q]) := by
      rw [ht, hks]; unfold kept; rw [List.filter_append]
      cases hcc : inTm low high q <;> simp [hcc]
    have hsl := smC_len ks
    have hcs : smC (q :: l.drop (j + 1)) = .int .i64 q.1 :: .int .i64 q.2 :: smC (l.drop (j + 1)) := by simp [smC]
    rw [hd, hcs] at hm
    have hdr : (smC ks ++ mid ++ (.int .i64 q.1 :: .int .i64 q.2 :: smC (l.drop (j + 1)) ++ t)).drop (j * 2) = .int .i64 q.1 :: .int .i64 q.2 :: (smC (l.drop (j + 1)) ++ t) := by
      rw [List.drop_append_of_le_length (by rw [List.length_append]; omega), List.drop_eq_nil_of_le (by rw [List.length_append]; omega)]; rfl
    have hload : loadP S' true 2 (.ptr id (j * 2)) = some (.agg [.int .i64 q.1, .int .i64 q.2]) := by
      rw [loadP_ptr hm, hdr, part2]
    obtain ⟨S1, hS1⟩ : ∃ S1 : St, S1 = ⟨S'.objs ++ [[.int .i64 q.1, .int .i64 q.2]], S'.tips⟩ := ⟨_, rfl⟩
    have hid' : id < S'.objs.length := by omega
    have hm1 : S1.objs[id]? = some (smC ks ++ mid ++ (.int .i64 q.1 :: .int .i64 q.2 :: smC (l.drop (j + 1)) ++ t)) := by
      rw [hS1]; simp only; rw [List.getElem?_append_left hid']; exact hm
    have hk1 : ∀ (i : Nat) (x : List PV), i ≠ id → S.objs[i]? = some x → S1.objs[i]? = some x := fun i x hi hx => by
      have := hk i x hi hx
      rw [hS1]; simp only; rw [List.getElem?_append_left (List.getElem?_eq_some_iff.1 this).1]; exact this
    have hro1 := hk1 ro _ hne hro
    have hask := ask_val (S := S1) hro1 q
    have ho7 : S1.objs[S'.objs.length]? = some [.int .i64 q.1, .int .i64 q.2] := by rw [hS1]; simp
    have hld7 : loadP S1 true 2 (.ptr S'.objs.length 0) = some (.agg [.int .i64 q.1, .int .i64 q.2]) := by rw [loadP_ptr ho7, List.drop_zero, part2]
    have hle1 : S.objs.length ≤ S1.objs.length := by rw [hS1]; simp; omega
    have htp1 : S1.tips = S.tips := by rw [hS1]; exact htp
    have hL := fun (fr' : Fr) (S2 : St) => k fr' S2
    rw [hkept] at hL
    clear k
    have hkw : IntKind.i64.wrap ((ks.length : Int) + 1) = (ks.length : Int) + 1 := wrap_up (by omega : ks.length < l.length) hl'
    simp only [smE] at hask
    cases hc : inTm low high q with
    | true =>
      rw [hc] at hask
      rw [gval_lp]
      simp -implicitDefEqProofs [-slices_DeleteFunc_Sample_r8_go, f0, f1, f5, f6, hlt, hj, hload, pstep, putCells]
      rw [← hS1]
      simp -implicitDefEqProofs [f0, f1, f5, f6, hld7, hask, pstep]
      refine hL _ _ ⟨by simp [f0], by simp [f1], by simp [hc, f5], by simp [hw], ⟨mid ++ [.int .i64 q.1, .int .i64 q.2], ?_, ?_⟩, ?_, hk1, htp1, hle1⟩
      · rw [hm1]; simp [hc]
      · simp [hc]; omega
      · simp [hc]; omega
    | false =>
      rw [hc] at hask
      obtain ⟨cs, hcs0⟩ : ∃ cs, cs = smC ks ++ mid ++ (.int .i64 q.1 :: .int .i64 q.2 :: smC (l.drop (j + 1)) ++ t) := ⟨_, rfl⟩
      rw [← hcs0] at hm1
      have hks2 : (ks.length : Int) < (l.length : Int) := by omega
      have hle2 : ks.length * 2 + 2 ≤ cs.length := by rw [hcs0]; simp only [List.length_append, List.length_cons]; omega
      rw [gval_lp]
      simp -implicitDefEqProofs [-slices_DeleteFunc_Sample_r8_go, f0, f1, f5, f6, hlt, hj, hload, pstep, putCells]
      rw [← hS1]
      simp -implicitDefEqProofs [f0, f1, f5, f6, hld7, hask, pstep, putCells, hm1, hks2, hle2]
      refine hL _ _ ⟨by simp [f0], by simp [f1], by simp [hc, hkw], by simp [hw], ⟨mid.drop 2 ++ [.int .i64 q.1, .int .i64 q.2], ?_, ?_⟩, ?_, fun i x hi hx => ?_, htp1, by simpa using hle1⟩
      · simp only
        refine (get_set hm1).trans ?_
        rw [hcs0]
        obtain ⟨X, hX⟩ : ∃ X, X = (PV.int .i64 q.1 :: .int .i64 q.2 :: smC (l.drop (j + 1)) ++ t) := ⟨_, rfl⟩
        rw [← hX]
        have e1 : (smC ks ++ mid ++ X).take (ks.length * 2) = smC ks := by
          rw [List.append_assoc, List.take_append_of_le_length (by omega), List.take_of_length_le (by omega)]
        have e0 : (smC ks ++ mid ++ X).drop (ks.length * 2) = mid ++ X := by
          rw [List.append_assoc, List.drop_append_of_le_length (by omega), List.drop_eq_nil_of_le (by omega), List.nil_append]
        have e2 : (smC ks ++ mid ++ X).drop (ks.length * 2 + 2) = mid.drop 2 ++ X := by
          rw [← List.drop_drop, e0, List.drop_append_of_le_length (by omega)]
        rw [e1, e2, hX]
        simp [hc, smC_app, smC]
      · simp [hc]; omega
      · simp [hc]; omega
      · simp only
        rw [List.getElem?_set_ne (Ne.symm hi)]; exact hk1 i x hi hx
  · rintro fr S' ⟨f0, f1, f5, f6, ⟨mid, hm, hml⟩, hkj, hk, htp, hle⟩
    rw [List.take_length] at f5 hm hml hkj
    rw [List.drop_length] at hm
    have hL := fun (fr' : Fr) (z0 : fr' 0 = .osl id 0 l.length 2) (z5 : fr' 5 = .int .i64 (kept low high l).length) => hK fr' S' (mid ++ t) z0 z5 (by rw [hm]; simp [smC]) (by rw [List.length_append]; omega) hkj hk htp hle
    clear hK
    rw [gval_lp]
    simp -implicitDefEqProofs [f0, f1, f5, f6]
    exact hL _ (by simp [f0]) (by simp [f5])
end Ps
namespace Ps
set_option linter.unusedSimpArgs false
set_option linter.unusedVariables false
open Go
theorem fin_osl' {S S1 : St} {id n sz : Nat} (h : id < S.objs.length) : finish false S S1 (.osl id 0 n sz) = (.osl id 0 n sz, S1) := by
  have hs : sol S1.objs S.objs.length solFuel (.osl id 0 n sz) = none := by
    show sol S1.objs S.objs.length (39 + 1) _ = none
    rw [sol]
    have : ¬ S.objs.length ≤ id := by omega
    simp [PV.free, this]
  unfold finish
  simp only [Bool.false_eq_true, if_false, hs]

theorem delete_val {S : St} {sv : PV} {l : List (Int × Int)} (hs : SmAt S sv l) (hl : l.length ≤ 1048576) {ro : Nat} (hne : gidV sv ≠ some ro) {a b c d : PV} {low high : Int} (hro : S.objs[ro]? = some [a, b, c, d, .int .i64 low, .int .i64 high]) :
    ∃ sv' S', cval T 279 [sv, .fn 280 [.ptr ro 0]] S = some (sv', S') ∧ SmAt S' sv' (kept low high l) ∧ (sv' = sv ∨ ∃ id, gidV sv = some id ∧ sv' = .osl id 0 (kept low high l).length 2) ∧
      (∀ (i : Nat) (x : List PV), gidV sv ≠ some i → S.objs[i]? = some x → S'.objs[i]? = some x) ∧ S'.tips = S.tips ∧ S.objs.length ≤ S'.objs.length ∧
      (∀ i c, gidV sv = some i → S.objs[i]? = some c → ∃ c', S'.objs[i]? = some c' ∧ c'.length = c.length) := by
  have hix := index_val hs hl hro
  cases hf : l.findIdx? (inTm low high) with
  | none =>
    rw [hf] at hix
    have hk : kept low high l = l := by
      unfold kept
      rw [List.filter_eq_self]
      intro q hq
      have := (List.findIdx?_eq_none_iff.1 hf) q hq
      simp [this]
    refine ⟨sv, S, cval_ok' fn_279 rfl ?_, by rw [hk]; exact hs, .inl rfl, fun i x _ h => h, rfl, Nat.le_refl _, fun i c _ h => ⟨c, h, rfl⟩⟩
    have hfin : finish false S S sv = (sv, S) := by
      rcases hs with ⟨rfl, _⟩ | ⟨id, t, rfl, ho⟩
      · rw [fin_free (Grows.refl S) rfl]; rfl
      · exact fin_osl' (List.getElem?_eq_some_iff.1 ho).1
    simp -implicitDefEqProofs [slices_DeleteFunc_Sample, hix, hfin]
  | some i0 =>
    rw [hf] at hix
    obtain ⟨hi0, hp0, hb0⟩ := List.findIdx?_eq_some_iff_getElem.1 hf
    rcases hs with ⟨_, e⟩ | ⟨id, t, rfl, ho⟩
    · rw [e] at hi0; exact absurd hi0 (by simp)
    · have hid := (List.getElem?_eq_some_iff.1 ho).1
      have hne' : ro ≠ id := fun e => hne (by rw [e]; rfl)
      have ht0 : l.take (i0 + 1) = l.take i0 ++ [l[i0]] := by rw [List.take_add_one, List.getElem?_eq_getElem hi0]; rfl
      have hk0 : kept low high (l.take (i0 + 1)) = l.take i0 := by
        rw [ht0]; unfold kept
        rw [List.filter_append]
        have e1 : (l.take i0).filter (fun q => !inTm low high q) = l.take i0 := by
          rw [List.filter_eq_self]
          intro q hq
          obtain ⟨i, hi, rfl⟩ := List.mem_take_iff_getElem.1 hq
          have := hb0 i (by omega)
          simpa using this
        rw [e1]; simp [hp0]
      have hsplit : smC l = smC (l.take i0) ++ [.int .i64 l[i0].1, .int .i64 l[i0].2] ++ smC (l.drop (i0 + 1)) := by
        have e : l = l.take i0 ++ (l[i0] :: l.drop (i0 + 1)) := by rw [← List.drop_eq_getElem_cons hi0, List.take_append_drop]
        refine (congrArg smC e).trans ?_
        rw [smC_app]
        show smC (l.take i0) ++ (.int .i64 l[i0].1 :: .int .i64 l[i0].2 :: smC (l.drop (i0 + 1))) = _
        simp only [List.append_assoc, List.cons_append, List.nil_append]
      have hw0 : IntKind.i64.wrap ((i0 : Int) + 1) = (i0 : Int) + 1 := wrap_up hi0 (by unfold maxLen; omega)
      have hloop := fun (KK : List Kt) (Q : Fr → St → Prop) hK (fr0 : Fr) g0 g1 g5 g6 => delete_loop (S := S) hl hid hne' (t := t) hro (KK := KK) (Q := Q) hK (i0 + 1) (by omega) fr0 S [.int .i64 l[i0].1, .int .i64 l[i0].2] g0 g1 g5 g6 (by rw [hk0, ho, hsplit]; simp) (by rw [hk0, List.length_take]; simp; omega) (by rw [hk0, List.length_take]; omega) (fun i x _ h => h) rfl (Nat.le_refl _)
      obtain ⟨r, S2, hc, h2⟩ := cval_ex (T := T) fn_279 (args := [.osl id 0 l.length 2, .fn 280 [.ptr ro 0]]) (S := S) rfl (R := fun r S2 => SmAt S2 r (kept low high l) ∧ r = .osl id 0 (kept low high l).length 2 ∧ (∀ (i : Nat) (x : List PV), i ≠ id → S.objs[i]? = some x → S2.objs[i]? = some x) ∧ S2.tips = S.tips ∧ S.objs.length ≤ S2.objs.length ∧ ∃ c', S2.objs[id]? = some c' ∧ c'.length = (smC l ++ t).length) (by
        simp -implicitDefEqProofs [slices_DeleteFunc_Sample, hix]
        refine hloop _ _ ?_ _ (by simp) (by simp) (by simp [hk0]; omega) (by simp [hw0])
        intro fr S' rest f0 f5 hm hr hlt hk htp hle
        obtain ⟨n, hn⟩ : ∃ n, n = (kept low high l).length := ⟨_, rfl⟩
        rw [← hn] at f5 hr hlt
        have hsl := smC_len (kept low high l)
        rw [← hn] at hsl
        have hb1 : bounds l.length l.length (some (.int .i64 (n : Int))) none = some (n, l.length) := bounds_lo (by omega)
        have hb2 : bounds l.length l.length none (some (.int .i64 (n : Int))) = some (0, n) := bounds_hi (by omega)
        obtain ⟨cs, hcs⟩ : ∃ cs, cs = smC (kept low high l) ++ rest := ⟨_, rfl⟩
        rw [← hcs] at hm
        have hle2 : n * 2 + (l.length - n) * 2 ≤ cs.length := by rw [hcs, List.length_append, hsl]; omega
        simp -implicitDefEqProofs [f0, f5, hb1, hb2, hlt, pstep, hm, hle2, putCells]
        rw [← hn]
        rw [fin_osl' hid]
        have htk : cs.take (n * 2) = smC (kept low high l) := by
          rw [hcs, List.take_append_of_le_length (by omega), List.take_of_length_le (by omega)]
        rw [htk]
        refine ⟨.inr ⟨id, _, by rw [← hn], get_set hm⟩, rfl, fun i x hi hx => ?_, htp, by simpa using hle, _, get_set hm, ?_⟩
        · simp only
          rw [List.getElem?_set_ne (Ne.symm hi)]; exact hk i x hi hx
        · have hsl2 := smC_len l
          simp only [List.length_append, List.length_drop, List.length_flatten, List.map_replicate, hcs, hsl]
          simp
          omega)
      obtain ⟨q1, rfl, q3, q4, q5, c', q6, q7⟩ := h2
      exact ⟨_, S2, hc, q1, .inr ⟨id, rfl, rfl⟩, fun i x hi h => q3 i x (fun e => hi (by rw [e]; rfl)) h, q4, q5, fun i c hi hc => by
        cases hi
        rw [ho] at hc; cases hc
        exact ⟨c', q6, q7⟩⟩
end Ps
namespace Ps
set_option linter.unusedSimpArgs false
set_option linter.unusedVariables false
open Go
def Rises (l : List (Int × Int)) : Prop := l.Pairwise fun a b => a.1 < b.1
end Ps
namespace Ps
set_option linter.unusedSimpArgs false
set_option linter.unusedVariables false
open Go

end Ps
namespace Ps
set_option linter.unusedSimpArgs false
set_option linter.unusedVariables false
open Go
theorem fn_318 : T.fn 318 = some (.code posting_Check) := rfl
theorem fn_260 : T.fn 260 = some (.code chunk_may) := rfl
theorem fn_154 : T.fn 154 = some (.code chunk_Check) := rfl
theorem fn_275 : T.fn 275 = some (.code wal_checkRows) := rfl
def nV (l : List Int) : List PV := l.map fun (n : Int) => PV.int .i64 n
theorem nV_len (l : List Int) : (nV l).length = l.length := by simp [nV]
theorem nV_get {l p r : List Int} {n : Int} {v : PV} (hv : Reads1 1 v (nV l)) (hl : l = p ++ n :: r) {k : IntKind} : iaddrP 1 v (.int k (p.length : Int)) = some (.ref [.int .i64 n]) := by
  have hlt : p.length < (nV l).length := by rw [nV_len, hl]; simp
  have := hv.get p.length hlt k
  have e : (nV l)[p.length] = .int .i64 n := by simp [nV, hl]
  rw [e] at this
  exact this

def postR (prev : Option Int) : List Int → Nat
  | [] => 0
  | n :: l => if n < 0 ∨ 1099511627776 < n then 2 else if (match prev with | some q => decide (n ≤ q) | none => false) then 13 else postR (some n) l
theorem postR_cons (prev : Option Int) (n : Int) (l : List Int) : postR prev (n :: l) = if n < 0 ∨ 1099511627776 < n then 2 else if (match prev with | some q => decide (n ≤ q) | none => false) then 13 else postR (some n) l := rfl
def postN (l : List Int) : Nat := if 1024 < l.length then 3 else postR none l

theorem pchk_loop {l : List Int} (hl : l.length ≤ 1024) {v : PV} (hv : Reads1 1 v (nV l)) {K : List Kt} {Q : Fr → St → Prop} {S : St} : ∀ (r p : List Int) (fr : Fr), l = p ++ r →
    fr 0 = v → fr 8 = v → fr 9 = .int .i64 l.length → fr 10 = .int .i64 p.length →
    (∀ fr', fr' 2 = .int .i64 (postR p.getLast? r) → Q fr' S) → (postR p.getLast? r = 0 → ∀ fr', Ok (gval T K fr' S) Q) →
    Ok (gval T (.lp posting_Check_l0 :: .blk 0 :: K) fr S) Q := by
  intro r
  induction r with
  | nil =>
    intro p fr hp h0 h8 h9 h10 k1 k2
    rw [List.append_nil] at hp
    subst hp
    rw [gval_lp]
    simp -implicitDefEqProofs [h9, h10]
    exact k2 rfl _
  | cons n r ih =>
    intro p fr hp h0 h8 h9 h10 k1 k2
    have hplt : p.length < l.length := by rw [hp]; simp
    have hlt : (p.length : Int) < (l.length : Int) := by omega
    have hg := nV_get hv hp (k := .i64)
    have hp1 : partOf false 1 [PV.int .i64 n] = some (.int .i64 n) := rfl
    have hw := wrap_len (a := p.length) (by omega)
    have hlast : (p ++ [n]).getLast? = some n := by simp
    have hnext : postR p.getLast? (n :: r) = postR (some n) r → ∀ fr' : Fr, fr' 0 = v → fr' 8 = v → fr' 9 = .int .i64 l.length → fr' 10 = .int .i64 ((p ++ [n]).length : Nat) → Ok (gval T (.lp posting_Check_l0 :: .blk 0 :: K) fr' S) Q := by
      intro e fr' c0 c8 c9 c10
      refine ih (p ++ [n]) fr' (by simp [hp]) c0 c8 c9 c10 (fun fr2 h2 => k1 fr2 (by rw [e]; rw [hlast] at h2; exact h2)) (fun h2 fr2 => k2 (by rw [e]; rw [hlast] at h2; exact h2) fr2)
    rw [gval_lp]
    by_cases hb : n < 0 ∨ 1099511627776 < n
    · have hr : postR p.getLast? (n :: r) = 2 := by rw [postR_cons, if_pos hb]
      have hb' : (decide (n < 0) || decide (1099511627776 < n)) = true := by simpa using hb
      simp -implicitDefEqProofs [h0, h8, h9, h10, hlt, hg, hp1]
      refine ok_br (fun _ => ok_ret (k1 _ (by rw [hr]; simp))) (fun q => ?_)
      rw [hb'] at q; cases q
    · have hb' : (decide (n < 0) || decide (1099511627776 < n)) = false := by
        rw [Bool.or_eq_false_iff]; simp only [decide_eq_false_iff_not]; omega
      rcases List.eq_nil_or_concat p with hnil | ⟨p0, z, hz⟩
      · have hr : postR p.getLast? (n :: r) = postR (some n) r := by rw [postR_cons, if_neg hb, hnil]; rfl
        have hd0 : ¬ 0 < p.length := by rw [hnil]; simp
        simp -implicitDefEqProofs [h0, h8, h9, h10, hlt, hg, hp1]
        refine ok_br (fun q => ?_) (fun _ => ?_)
        · rw [hb'] at q; cases q
        · simp -implicitDefEqProofs [h0, h8, h9, h10, hd0, hw]
          exact hnext hr _ (by simp [h0]) (by simp [h8]) (by simp [h9]) (by simp [hw])
      · have hz' : p = p0 ++ [z] := by simpa using hz
        have hlz : p.getLast? = some z := by rw [hz']; simp
        have hd0 : 0 < p.length := by rw [hz']; simp
        have hwp : IntKind.i64.wrap ((p.length : Int) - 1) = (p0.length : Int) := by
          rw [hz', List.length_append]
          simp only [List.length_cons, List.length_nil]
          rw [hz'] at hplt
          simp only [List.length_append, List.length_cons, List.length_nil] at hplt
          rw [wrap_i64 (by omega) (by omega)]; omega
        have hg0 := nV_get hv (show l = p0 ++ z :: (n :: r) by rw [hp, hz']; simp) (k := .i64)
        have hp2 : partOf false 1 [PV.int .i64 z] = some (.int .i64 z) := rfl
        simp -implicitDefEqProofs [h0, h8, h9, h10, hlt, hg, hp1]
        refine ok_br (fun q => ?_) (fun _ => ?_)
        · rw [hb'] at q; cases q
        · simp -implicitDefEqProofs [h0, h8, h9, h10, hd0, hw, hwp, hg0, hp2]
          refine ok_br (fun q => ok_ret ?_) (fun q => ?_)
          · have hq : n ≤ z := by simpa using q
            have hr : postR p.getLast? (n :: r) = 13 := by rw [postR_cons, if_neg hb, hlz]; simp [hq]
            exact k1 _ (by rw [hr]; simp)
          · have hq : ¬ n ≤ z := by simpa using q
            have hr : postR p.getLast? (n :: r) = postR (some n) r := by rw [postR_cons, if_neg hb, hlz]; simp [hq]
            exact hnext hr _ (by simp [h0]) (by simp [h8]) (by simp [h9]) (by simp [hw])
theorem pcheck_val {l : List Int} {v : PV} (hv : Reads1 1 v (nV l)) (S : St) : cval T 318 [v] S = some (.int .i64 (postN l), S) := by
  have hlen := hv.len
  rw [nV_len] at hlen
  refine cval_ok' fn_318 rfl ?_
  by_cases hl : 1024 < l.length
  · have hl' : (1024 : Int) < (l.length : Int) := by omega
    have hr : postN l = 3 := by unfold postN; rw [if_pos hl]
    rw [hr]
    simp -implicitDefEqProofs [posting_Check, hlen, hl']
  · have hl' : ¬ (1024 : Int) < (l.length : Int) := by omega
    have hr : postN l = postR none l := by unfold postN; rw [if_neg hl]
    rw [hr]
    simp -implicitDefEqProofs [posting_Check, hlen, hl']
    refine pchk_loop (by omega) hv l [] _ rfl (by simp) (by simp) (by simp) (by simp) (fun fr' h2 => ?_) (fun h2 fr' => ?_)
    · rw [ends1, h2]; exact fin_gi (Grows.refl S)
    · have h2' : postR none l = 0 := h2
      rw [h2']
      simp

def mayB (t v : Int) : Bool := decide (0 ≤ t) && decide (t ≤ 1099511627776) && decide (-1152921504606846976 ≤ v) && decide (v ≤ 1152921504606846976)
def smpV (t v : Int) : PV := .agg [.int .i64 t, .int .i64 v]
theorem may_val (t v : Int) (S : St) : cval T 260 [smpV t v] S = some (.bool (mayB t v), S) := by
  refine cval_ok' fn_260 rfl ?_
  have hp1 : ∀ (a : PV) (m : List PV), partOf false 1 (a :: m) = some a := fun a m => by simp [partOf]
  simp -implicitDefEqProofs [chunk_may, smpV, pstep, hp1, mayB]
end Ps
