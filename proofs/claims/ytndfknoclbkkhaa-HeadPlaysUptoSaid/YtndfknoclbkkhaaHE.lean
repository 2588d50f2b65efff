/- The head: DeleteFunc. -/
import Derived.Test.YtndfknoclbkkhaaGA
namespace Ps
set_option linter.unusedSimpArgs false
set_option linter.unusedVariables false
open Go
theorem fn_291 : T.fn 291 = some (.code z56) := rfl

theorem ser_drop : ∀ (l : List Sr) (i : Nat), (l.flatMap fun r => [r.lv, r.sv]).drop (i * 2) = (l.drop i).flatMap fun r => [r.lv, r.sv]
 | l, 0 => by simp
 | [], i + 1 => by simp
 | p :: l, i + 1 => by
  rw [show (i + 1) * 2 = 2 + i * 2 by omega, ← List.drop_drop]
  have : ((p :: l).flatMap fun r => [r.lv, r.sv]).drop 2 = l.flatMap fun r => [r.lv, r.sv] := by simp
  rw [this, ser_drop l i]; rfl

theorem part2 {a b : PV} {l : List PV} : partOf true 2 (a :: b :: l) = some (.agg [a, b]) := by simp [partOf]
theorem SmAt.one {S : St} {sv : PV} {l : List (Int × Int)} (h : SmAt S sv l) : sv.one = true ∧ sv.frz = sv := by
 rcases h with ⟨rfl | rfl, _⟩ | ⟨id, t, rfl, _⟩ <;> exact ⟨rfl, rfl⟩

theorem at_val {S : St} {o : Nat} {H : Hd} (h : HAt S o H) {i : Nat} {r : Sr} (hr : H.ser[i]? = some r) (hi : i ≤ maxLen) :
  ∃ S1, Grows S S1 ∧ cval T 291 [.ptr o 0, .int .i64 (i : Int)] S = some (.tup [.agg [r.lv, r.sv], .int .i64 0], S1) := by
 have hob := h.obj
 have hm := List.mem_of_getElem? hr
 have hil := (List.getElem?_eq_some_iff.1 hr).1
 obtain ⟨l1, l2, l3⟩ := h.lab r hm
 have hs := h.sam r hm
 obtain ⟨s1, s2⟩ := hs.one
 rcases h.ser with ⟨_, e⟩ | ⟨si, e, hso⟩
 ·rw [e] at hil; exact absurd hil (by simp)
 ·have g2 : finish true S ⟨S.objs ++ [[r.lv, r.sv]], S.tips⟩ (.tup [.agg [r.lv, r.sv], .int .i64 0]) = (.tup [.agg [r.lv, r.sv], .int .i64 0], ⟨S.objs ++ [[r.lv, r.sv]], S.tips⟩) := rfl
  refine ⟨⟨S.objs ++ [[r.lv, r.sv]], S.tips⟩, (Grows.refl S).objs _, cval_ok' fn_291 rfl ?_⟩
  have hd : (H.ser.flatMap fun r => [r.lv, r.sv]).drop (i * 2) = r.lv :: r.sv :: (H.ser.drop (i + 1)).flatMap fun r => [r.lv, r.sv] := by
   rw [ser_drop, List.drop_eq_getElem_cons hil]
   have : H.ser[i] = r := by rw [List.getElem?_eq_getElem hil] at hr; cases hr; rfl
   rw [this]; rfl
  have hlt : (i : Int) < (H.ser.length : Int) := by omega
  have hso' : (S.objs ++ [[PV.nils, PV.nils]])[si]? = some (H.ser.flatMap fun r => [r.lv, r.sv]) := by
   rw [List.getElem?_append_left (List.getElem?_eq_some_iff.1 hso).1]; exact hso
  have hob' : (S.objs ++ [[PV.nils, PV.nils]])[o]? = some [H.hv, .map H.mi, .int .i64 H.count] := by
   rw [List.getElem?_append_left (List.getElem?_eq_some_iff.1 hob).1]; exact hob
  have hload : loadP ⟨S.objs ++ [[PV.nils, PV.nils]], S.tips⟩ true 2 (.ptr si (i * 2)) = some (.agg [r.lv, r.sv]) := by
   rw [loadP_ptr hso', hd, part2]
  have hload0 : loadP ⟨S.objs ++ [[PV.nils, PV.nils]], S.tips⟩ false 1 (.ptr o 0) = some (.osl si 0 H.ser.length 2) := by
   rw [loadP_ptr hob', e]; rfl
  have hn0 : ¬ ((i : Int) < 0) := by omega
  have hn1 : ¬ H.ser.length ≤ i := by omega
  simp -implicitDefEqProofs [z56, pstep, putCells, hload0, hload, hlt, hil, l3, s1, hn0, hn1]
  refine ends_ct ?_ ?_ g2
  ·first | rfl | (simp [part2] <;> done) | (simp [part2, loadP] <;> rfl)
  ·first | rfl | (simp <;> done)
end Ps
namespace Ps
set_option linter.unusedSimpArgs false
set_option linter.unusedVariables false
open Go
theorem fn_289 : T.fn 289 = some (.code z32) := rfl

@[simp] theorem part1 {v : PV} {l : List PV} : partOf false 1 (v :: l) = some v := by simp [partOf]

theorem AccG.sl0t {S0 S : St} {sz : Nat} {v : PV} {es : List PV} (h : AccG S0 sz S v es) (hs : ∀ e ∈ es, e.cells.length = sz) (hf : PV.freeL es = true) (hz : PV.frzL es = es) (e : Int) :
  finish false S0 S (.tup [v, .int .i64 e]) = (.tup [slF v es, .int .i64 e], S0) := by
 rcases h.acc with ⟨rfl, rfl⟩ | ⟨id, _, rfl, _⟩
 ·rw [fin_free h.grows rfl]; rfl
 ·rw [fin_free h.grows (by simp [PV.free, PV.freeL, hf])]
  simp [PV.frz, PV.frzL, slF, hz]

def inTm (low high : Int) (p : Int × Int) : Bool := decide (low ≤ p.1) && decide (p.1 ≤ high)

theorem select_val {S : St} {o : Nat} {H : Hd} (h : HAt S o H) {i : Nat} {r : Sr} (hr : H.ser[i]? = some r) (hi : i ≤ maxLen) (hl : r.sm.length ≤ 1048576) {low high : Int} :
  ∃ v, cval T 289 [.ptr o 0, .int .i64 (i : Int), .int .i64 low, .int .i64 high] S = some (.tup [v, .int .i64 0], S) ∧ Sl0 2 v ((r.sm.filter (inTm low high)).map smE) := by
 obtain ⟨S1, hg1, hat⟩ := at_val h hr hi
 have hm := List.mem_of_getElem? hr
 obtain ⟨l1, l2, l3⟩ := h.lab r hm
 have hs := h.sam r hm
 obtain ⟨s1, s2⟩ := hs.one
 have hl' : r.sm.length ≤ maxLen := by unfold maxLen; omega
 have hlen : lenP false r.sv = some (.int .i64 r.sm.length) := by
  rcases hs with ⟨e | e, e2⟩ | ⟨id, t, e, _⟩
  ·rw [e, e2]; rfl
  ·rw [e, e2]; rfl
  ·rw [e]; rfl
 have hel : ∀ (S' : St), Grows S S' → ∀ j (hj : j < r.sm.length), ∃ p, iaddrP 2 r.sv (.int .i64 (j : Int)) = some p ∧ loadP S' true 2 p = some (smE r.sm[j]) := by
  intro S' hg j hj
  rcases hs with ⟨_, e2⟩ | ⟨id, t, e, ho⟩
  ·rw [e2] at hj; exact absurd hj (by simp)
  ·obtain ⟨x, y, rfl⟩ := hg
   refine ⟨.ptr id (j * 2), ?_, ?_⟩
   ·rw [e, iaddrP_osl, if_pos (by omega)]; simp
   ·have ho' : (S.objs ++ x)[id]? = some (smC r.sm ++ t) := by rw [List.getElem?_append_left (List.getElem?_eq_some_iff.1 ho).1]; exact ho
    rw [loadP_ptr ho', List.drop_append_of_le_length (by rw [smC_len]; omega), smC_drop, List.drop_eq_getElem_cons hj]
    exact part2
 obtain ⟨v, S2, hc, h2, h3⟩ := cval_ex (T := T) fn_289 (args := [.ptr o 0, .int .i64 (i : Int), .int .i64 low, .int .i64 high]) (S := S) rfl (R := fun v S2 => S2 = S ∧ ∃ v', v = .tup [v', .int .i64 0] ∧ Sl0 2 v' ((r.sm.filter (inTm low high)).map smE)) (by
  simp -implicitDefEqProofs [z32, hat, pstep, putCells, l3, s1, hlen]
  refine lp_up r.sm.length (fun j fr S' => fr 2 = .int .i64 low ∧ fr 3 = .int .i64 high ∧ fr 25 = r.sv ∧ fr 26 = .int .i64 r.sm.length ∧ fr 27 = .int .i64 (j : Int) ∧ AccG S 2 S' (fr 12) (((r.sm.take j).filter (inTm low high)).map smE)) ?_ ?_ 0 (Nat.zero_le _) _ _ ⟨by simp, by simp, by simp, by simp, by simp, by simpa using accg_nil 2 (hg1.objs _)⟩
  ·rintro j fr S' hj ⟨f2, f3, f25, f26, f27, ha⟩ k
   have hw := wrap_up hj hl'
   have hlt : (j : Int) < (r.sm.length : Int) := by omega
   obtain ⟨p, hp, hld⟩ := hel S' ha.grows j hj
   have ht : r.sm.take (j + 1) = r.sm.take j ++ [r.sm[j]] := by rw [List.take_add_one, List.getElem?_eq_getElem hj]; rfl
   obtain ⟨q, hq⟩ : ∃ q, q = r.sm[j] := ⟨_, rfl⟩
   rw [← hq] at hld ht
   have hL : ∀ (fr' : Fr) (S2 : St), fr' 2 = .int .i64 low → fr' 3 = .int .i64 high → fr' 25 = r.sv → fr' 26 = .int .i64 r.sm.length → fr' 27 = .int .i64 ((j : Int) + 1) → AccG S 2 S2 (fr' 12) (((r.sm.take j).filter (inTm low high)).map smE ++ (if inTm low high q then [smE q] else [])) →
     Ok (gval T (.lp z32_l0 :: .blk 0 :: [.code (.seq (.clr [(46, 47)] (.region z32_r11)) .ret)]) fr' S2) _ := fun fr' S2 g2 g3 g25 g26 g27 ga => by
    refine k fr' S2 ⟨g2, g3, g25, g26, by simpa using g27, ?_⟩
    rw [ht, List.filter_append, List.map_append]
    cases hc : inTm low high q with
    | true => rw [hc] at ga; simpa [hc] using ga
    | false => rw [hc] at ga; simpa [hc] using ga
   clear k
   have hlen2 : (((r.sm.take j).filter (inTm low high)).map smE).length ≤ 1048576 := by
    have := List.length_filter_le (inTm low high) (r.sm.take j)
    rw [List.length_take] at this
    rw [List.length_map]; omega
   by_cases c1 : low ≤ q.1
   ·by_cases c2 : q.1 ≤ high
    ·obtain ⟨v', S2, a1, a2, a3⟩ := (ha.objs [[.int .i64 q.1, .int .i64 q.2]]).push (bytes := 16) (smE q) (by omega)
     have hin : inTm low high q = true := by simp [inTm, c1, c2]
     rw [hin] at hL
     simp only [smE] at a1 hld
     rw [gval_lp]
     simp -implicitDefEqProofs [f2, f3, f25, f26, f27, hlt, hj, hp, hld, pstep, putCells, c1, c2, elems, setParts, part2, a1]
     exact hL _ _ (by simp [f2]) (by simp [f3]) (by simp [f25]) (by simp [f26]) (by simp [hw]) (by simpa using a2)
    ·have hin : inTm low high q = false := by simp [inTm, c1, c2]
     rw [hin] at hL
     simp only [smE] at hld
     rw [gval_lp]
     simp -implicitDefEqProofs [f2, f3, f25, f26, f27, hlt, hj, hp, hld, pstep, putCells, c1, c2, part2]
     exact hL _ _ (by simp [f2]) (by simp [f3]) (by simp [f25]) (by simp [f26]) (by simp [hw]) (by simpa using ha.objs [[.int .i64 q.1, .int .i64 q.2]])
   ·have hin : inTm low high q = false := by simp [inTm, c1]
    rw [hin] at hL
    simp only [smE] at hld
    rw [gval_lp]
    simp -implicitDefEqProofs [f2, f3, f25, f26, f27, hlt, hj, hp, hld, pstep, putCells, c1, part2]
    exact hL _ _ (by simp [f2]) (by simp [f3]) (by simp [f25]) (by simp [f26]) (by simp [hw]) (by simpa using ha.objs [[.int .i64 q.1, .int .i64 q.2]])
  ·rintro fr S' ⟨f2, f3, f25, f26, f27, ha⟩
   rw [List.take_length] at ha
   have hs2 : ∀ e ∈ (r.sm.filter (inTm low high)).map smE, e.cells.length = 2 := fun e he => by obtain ⟨x, _, rfl⟩ := List.mem_map.1 he; rfl
   have hf2 : PV.freeL ((r.sm.filter (inTm low high)).map smE) = true := freeL_map _ (fun _ => rfl) _
   have hz2 : PV.frzL ((r.sm.filter (inTm low high)).map smE) = (r.sm.filter (inTm low high)).map smE := frzL_map' _ (fun _ => rfl) _
   have e1 := ha.sl0t hs2 hf2 hz2 0
   have e2 := (ha.sl0 hs2 hf2 hz2).2
   rw [gval_lp]
   simp -implicitDefEqProofs [f2, f3, f25, f26, f27, e1]
   exact e2)
 obtain ⟨v', rfl, h4⟩ := h3
 subst h2
 exact ⟨v', hc, h4⟩
end Ps
namespace Ps
set_option linter.unusedSimpArgs false
set_option linter.unusedVariables false
open Go
theorem fn_280 : T.fn 280 = some (.code z30) := rfl
theorem fn_344 : T.fn 344 = some (.code z19) := rfl
theorem fn_279 : T.fn 279 = some (.code z16) := rfl

theorem ask_val {S : St} {ro : Nat} {a b c d : PV} {low high : Int} (h : S.objs[ro]? = some [a, b, c, d, .int .i64 low, .int .i64 high]) (q : Int × Int) :
  cval T 280 [smE q, .ptr ro 0] S = some (.bool (inTm low high q), S) := by
 have l4 : loadP S false 1 (.ptr ro 4) = some (.int .i64 low) := by rw [loadP_ptr h]; rfl
 have l5 : loadP S false 1 (.ptr ro 5) = some (.int .i64 high) := by rw [loadP_ptr h]; rfl
 refine cval_ok' fn_280 rfl ?_
 simp only [smE]
 by_cases c1 : low ≤ q.1
 ·simp -implicitDefEqProofs [z30, pstep, l4, l5, c1, inTm]
 ·simp -implicitDefEqProofs [z30, pstep, l4, l5, c1, inTm]

theorem index_val {S : St} {sv : PV} {l : List (Int × Int)} (hs : SmAt S sv l) (hl : l.length ≤ 1048576) {ro : Nat} {a b c d : PV} {low high : Int} (h : S.objs[ro]? = some [a, b, c, d, .int .i64 low, .int .i64 high]) :
  cval T 344 [sv, .fn 280 [.ptr ro 0]] S = some (.int .i64 (match l.findIdx? (inTm low high) with | some i => (i : Int) | none => -1), S) := by
 have hl' : l.length ≤ maxLen := by unfold maxLen; omega
 have hlen : lenP false sv = some (.int .i64 l.length) := by
  rcases hs with ⟨e | e, e2⟩ | ⟨id, t, e, _⟩
  ·rw [e, e2]; rfl
  ·rw [e, e2]; rfl
  ·rw [e]; rfl
 refine cval_ok' fn_344 rfl ?_
 simp -implicitDefEqProofs [z19, hlen]
 refine lp_up l.length (fun j fr S' => fr 0 = sv ∧ fr 1 = .fn 280 [.ptr ro 0] ∧ fr 7 = .int .i64 l.length ∧ fr 8 = .int .i64 (j : Int) ∧ (∀ q ∈ l.take j, inTm low high q = false) ∧ S' = S) ?_ ?_ 0 (Nat.zero_le _) _ _ ⟨by simp, by simp, by simp, by simp, by simp, rfl⟩
 ·rintro j fr S' hj ⟨f0, f1, f7, f8, hn, rfl⟩ k
  have hw := wrap_up hj hl'
  have hlt : (j : Int) < (l.length : Int) := by omega
  obtain ⟨p, hp, hld⟩ : ∃ p, iaddrP 2 sv (.int .i64 (j : Int)) = some p ∧ loadP S' true 2 p = some (smE l[j]) := by
   rcases hs with ⟨_, e2⟩ | ⟨id, t, e, ho⟩
   ·rw [e2] at hj; exact absurd hj (by simp)
   ·refine ⟨.ptr id (j * 2), ?_, ?_⟩
    ·rw [e, iaddrP_osl, if_pos (by omega)]; simp
    ·rw [loadP_ptr ho, List.drop_append_of_le_length (by rw [smC_len]; omega), smC_drop, List.drop_eq_getElem_cons hj]
     exact part2
  have ht : l.take (j + 1) = l.take j ++ [l[j]] := by rw [List.take_add_one, List.getElem?_eq_getElem hj]; rfl
  have ha := ask_val h l[j]
  have hL : ∀ (fr' : Fr), fr' 0 = sv → fr' 1 = .fn 280 [.ptr ro 0] → fr' 7 = .int .i64 l.length → fr' 8 = .int .i64 ((j : Int) + 1) → inTm low high l[j] = false →
    Ok (gval T (.lp z19_l0 :: .blk 0 :: [.code (.seq (.region z19_r7) .ret)]) fr' S') _ := fun fr' g0 g1 g7 g8 hf => by
   refine k fr' S' ⟨g0, g1, g7, by simpa using g8, fun q hq => ?_, rfl⟩
   rw [ht] at hq
   rcases List.mem_append.1 hq with hq | hq
   ·exact hn q hq
   ·simp only [List.mem_singleton] at hq; rw [hq]; exact hf
  have hR : inTm low high l[j] = true → l.findIdx? (inTm low high) = some j := fun ht => by
   rw [List.findIdx?_eq_some_iff_getElem]
   refine ⟨hj, ht, fun i hi => ?_⟩
   have := hn l[i] (by rw [List.mem_take_iff_getElem]; exact ⟨i, by omega, rfl⟩)
   simp [this]
  clear k
  cases hc : inTm low high l[j] with
  | true =>
   rw [hR hc]
   rw [hc] at ha
   rw [gval_lp]
   simp -implicitDefEqProofs [f0, f1, f7, f8, hlt, hj, hp, hld, ha, pstep]
  | false =>
   rw [hc] at ha
   rw [gval_lp]
   simp -implicitDefEqProofs [f0, f1, f7, f8, hlt, hj, hp, hld, ha, pstep]
   exact hL _ (by simp [f0]) (by simp [f1]) (by simp [f7]) (by simp [hw]) hc
 ·rintro fr S' ⟨f0, f1, f7, f8, hn, rfl⟩
  rw [List.take_length] at hn
  have : l.findIdx? (inTm low high) = none := by rw [List.findIdx?_eq_none_iff]; exact hn
  rw [this, gval_lp]
  simp -implicitDefEqProofs [f0, f1, f7, f8]
end Ps
namespace Ps
set_option linter.unusedSimpArgs false
set_option linter.unusedVariables false
open Go
def kept (low high : Int) (l : List (Int × Int)) : List (Int × Int) := l.filter fun q => !inTm low high q
theorem get_set {l : List (List PV)} {o : Nat} {c d : List PV} (h : l[o]? = some c) : (l.set o d)[o]? = some d := List.getElem?_set_self (List.getElem?_eq_some_iff.1 h).1
theorem smC_app (a b : List (Int × Int)) : smC (a ++ b) = smC a ++ smC b := by simp [smC]

theorem delete_loop {S : St} {id ro : Nat} {l : List (Int × Int)} (hl : l.length ≤ 1048576) (hid : id < S.objs.length) (hne : ro ≠ id) {t : List PV} {a b c d : PV} {low high : Int} (hro : S.objs[ro]? = some [a, b, c, d, .int .i64 low, .int .i64 high])
  {KK : List Kt} {Q : Fr → St → Prop}
  (hK : ∀ fr S' rest, fr 0 = .osl id 0 l.length 2 → fr 5 = .int .i64 (kept low high l).length → S'.objs[id]? = some (smC (kept low high l) ++ rest) → rest.length + 2 * (kept low high l).length = 2 * l.length + t.length → (kept low high l).length < l.length →
   (∀ (i : Nat) (x : List PV), i ≠ id → S.objs[i]? = some x → S'.objs[i]? = some x) → S'.tips = S.tips → S.objs.length ≤ S'.objs.length → Ok (gval T KK fr S') Q)
  (j0 : Nat) (hj0 : j0 ≤ l.length) (fr0 : Fr) (S0 : St) (mid0 : List PV) (g0 : fr0 0 = .osl id 0 l.length 2) (g1 : fr0 1 = .fn 280 [.ptr ro 0]) (g5 : fr0 5 = .int .i64 (kept low high (l.take j0)).length) (g6 : fr0 6 = .int .i64 j0)
  (gm : S0.objs[id]? = some (smC (kept low high (l.take j0)) ++ mid0 ++ (smC (l.drop j0) ++ t))) (gl : mid0.length + 2 * (kept low high (l.take j0)).length = 2 * j0) (gj : (kept low high (l.take j0)).length < j0)
  (gk : ∀ (i : Nat) (x : List PV), i ≠ id → S.objs[i]? = some x → S0.objs[i]? = some x) (gt : S0.tips = S.tips) (gle : S.objs.length ≤ S0.objs.length) :
  Ok (gval T (.lp z16_l0 :: .blk 0 :: KK) fr0 S0) Q := by
 have hl' : l.length ≤ maxLen := by unfold maxLen; omega
 refine lp_up l.length (fun j fr S' => fr 0 = .osl id 0 l.length 2 ∧ fr 1 = .fn 280 [.ptr ro 0] ∧ fr 5 = .int .i64 (kept low high (l.take j)).length ∧ fr 6 = .int .i64 (j : Int) ∧ (∃ mid, S'.objs[id]? = some (smC (kept low high (l.take j)) ++ mid ++ (smC (l.drop j) ++ t)) ∧ mid.length + 2 * (kept low high (l.take j)).length = 2 * j) ∧ (kept low high (l.take j)).length < j ∧
   (∀ (i : Nat) (x : List PV), i ≠ id → S.objs[i]? = some x → S'.objs[i]? = some x) ∧ S'.tips = S.tips ∧ S.objs.length ≤ S'.objs.length) ?_ ?_ j0 hj0 _ _ ⟨g0, g1, g5, g6, ⟨mid0, gm, gl⟩, gj, gk, gt, gle⟩
 ·rintro j fr S' hj ⟨f0, f1, f5, f6, ⟨mid, hm, hml⟩, hkj, hk, htp, hle⟩ k
  have hw := wrap_up hj hl'
  have hlt : (j : Int) < (l.length : Int) := by omega
  obtain ⟨q, hq⟩ : ∃ q, q = l[j] := ⟨_, rfl⟩
  have hd : l.drop j = q :: l.drop (j + 1) := by rw [hq]; exact List.drop_eq_getElem_cons hj
  have ht : l.take (j + 1) = l.take j ++ [q] := by rw [List.take_add_one, List.getElem?_eq_getElem hj, hq]; rfl
  obtain ⟨ks, hks⟩ : ∃ ks, ks = kept low high (l.take j) := ⟨_, rfl⟩
  rw [← hks] at f5 hm hml hkj
  have hkept : kept low high (l.take (j + 1)) = ks ++ (if inTm low high q then [] else [q]) := by
   rw [ht, hks]; unfold kept; rw [List.filter_append]
   cases hcc : inTm low high q <;> simp [hcc]
  have hsl := smC_len ks
  have hcs : smC (q :: l.drop (j + 1)) = .int .i64 q.1 :: .int .i64 q.2 :: smC (l.drop (j + 1)) := by simp [smC]
  rw [hd, hcs] at hm
  have hdr : (smC ks ++ mid ++ (.int .i64 q.1 :: .int .i64 q.2 :: smC (l.drop (j + 1)) ++ t)).drop (j * 2) = .int .i64 q.1 :: .int .i64 q.2 :: (smC (l.drop (j + 1)) ++ t) := by
   rw [List.drop_append_of_le_length (by rw [List.length_append]; omega), List.drop_eq_nil_of_le (by rw [List.length_append]; omega)]; rfl
  have hload : loadP S' true 2 (.ptr id (j * 2)) = some (.agg [.int .i64 q.1, .int .i64 q.2]) := by
   rw [loadP_ptr hm, hdr, part2]
  obtain ⟨S1, hS1⟩ : ∃ S1 : St, S1 = ⟨S'.objs ++ [[.int .i64 q.1, .int .i64 q.2]], S'.tips⟩ := ⟨_, rfl⟩
  have hid' : id < S'.objs.length := by omega
  have hm1 : S1.objs[id]? = some (smC ks ++ mid ++ (.int .i64 q.1 :: .int .i64 q.2 :: smC (l.drop (j + 1)) ++ t)) := by
   rw [hS1]; simp only; rw [List.getElem?_append_left hid']; exact hm
  have hk1 : ∀ (i : Nat) (x : List PV), i ≠ id → S.objs[i]? = some x → S1.objs[i]? = some x := fun i x hi hx => by
   have := hk i x hi hx
   rw [hS1]; simp only; rw [List.getElem?_append_left (List.getElem?_eq_some_iff.1 this).1]; exact this
  have hro1 := hk1 ro _ hne hro
  have hask := ask_val (S := S1) hro1 q
  have ho7 : S1.objs[S'.objs.length]? = some [.int .i64 q.1, .int .i64 q.2] := by rw [hS1]; simp
  have hld7 : loadP S1 true 2 (.ptr S'.objs.length 0) = some (.agg [.int .i64 q.1, .int .i64 q.2]) := by rw [loadP_ptr ho7, List.drop_zero, part2]
  have hle1 : S.objs.length ≤ S1.objs.length := by rw [hS1]; simp; omega
  have htp1 : S1.tips = S.tips := by rw [hS1]; exact htp
  have hL := fun (fr' : Fr) (S2 : St) => k fr' S2
  rw [hkept] at hL
  clear k
  have hkw : IntKind.i64.wrap ((ks.length : Int) + 1) = (ks.length : Int) + 1 := wrap_up (by omega : ks.length < l.length) hl'
  simp only [smE] at hask
  cases hc : inTm low high q with
  | true =>
   rw [hc] at hask
   rw [gval_lp]
   simp -implicitDefEqProofs [-z16_r8_go, f0, f1, f5, f6, hlt, hj, hload, pstep, putCells]
   rw [← hS1]
   simp -implicitDefEqProofs [f0, f1, f5, f6, hld7, hask, pstep]
   refine hL _ _ ⟨by simp [f0], by simp [f1], by simp [hc, f5], by simp [hw], ⟨mid ++ [.int .i64 q.1, .int .i64 q.2], ?_, ?_⟩, ?_, hk1, htp1, hle1⟩
   ·rw [hm1]; simp [hc]
   ·simp [hc]; omega
   ·simp [hc]; omega
  | false =>
   rw [hc] at hask
   obtain ⟨cs, hcs0⟩ : ∃ cs, cs = smC ks ++ mid ++ (.int .i64 q.1 :: .int .i64 q.2 :: smC (l.drop (j + 1)) ++ t) := ⟨_, rfl⟩
   rw [← hcs0] at hm1
   have hks2 : (ks.length : Int) < (l.length : Int) := by omega
   have hle2 : ks.length * 2 + 2 ≤ cs.length := by rw [hcs0]; simp only [List.length_append, List.length_cons]; omega
   rw [gval_lp]
   simp -implicitDefEqProofs [-z16_r8_go, f0, f1, f5, f6, hlt, hj, hload, pstep, putCells]
   rw [← hS1]
   simp -implicitDefEqProofs [f0, f1, f5, f6, hld7, hask, pstep, putCells, hm1, hks2, hle2]
   refine hL _ _ ⟨by simp [f0], by simp [f1], by simp [hc, hkw], by simp [hw], ⟨mid.drop 2 ++ [.int .i64 q.1, .int .i64 q.2], ?_, ?_⟩, ?_, fun i x hi hx => ?_, htp1, by simpa using hle1⟩
   ·simp only
    refine (get_set hm1).trans ?_
    rw [hcs0]
    obtain ⟨X, hX⟩ : ∃ X, X = (PV.int .i64 q.1 :: .int .i64 q.2 :: smC (l.drop (j + 1)) ++ t) := ⟨_, rfl⟩
    rw [← hX]
    have e1 : (smC ks ++ mid ++ X).take (ks.length * 2) = smC ks := by
     rw [List.append_assoc, List.take_append_of_le_length (by omega), List.take_of_length_le (by omega)]
    have e0 : (smC ks ++ mid ++ X).drop (ks.length * 2) = mid ++ X := by
     rw [List.append_assoc, List.drop_append_of_le_length (by omega), List.drop_eq_nil_of_le (by omega), List.nil_append]
    have e2 : (smC ks ++ mid ++ X).drop (ks.length * 2 + 2) = mid.drop 2 ++ X := by
     rw [← List.drop_drop, e0, List.drop_append_of_le_length (by omega)]
    rw [e1, e2, hX]
    simp [hc, smC_app, smC]
   ·simp [hc]; omega
   ·simp [hc]; omega
   ·simp only
    rw [List.getElem?_set_ne (Ne.symm hi)]; exact hk1 i x hi hx
 ·rintro fr S' ⟨f0, f1, f5, f6, ⟨mid, hm, hml⟩, hkj, hk, htp, hle⟩
  rw [List.take_length] at f5 hm hml hkj
  rw [List.drop_length] at hm
  have hL := fun (fr' : Fr) (z0 : fr' 0 = .osl id 0 l.length 2) (z5 : fr' 5 = .int .i64 (kept low high l).length) => hK fr' S' (mid ++ t) z0 z5 (by rw [hm]; simp [smC]) (by rw [List.length_append]; omega) hkj hk htp hle
  clear hK
  rw [gval_lp]
  simp -implicitDefEqProofs [f0, f1, f5, f6]
  exact hL _ (by simp [f0]) (by simp [f5])
end Ps
