/- The head: Series: those without samples are left out. -/
import Derived.Test.YtndfknoclbkkhaaSK
namespace Ps
set_option linter.unusedSimpArgs false
set_option linter.unusedVariables false
open Go
theorem fn_284 : T.fn 284 = some (.code z17) := rfl
theorem fn_285 : T.fn 285 = some (.code z31) := rfl
theorem fn_345 : T.fn 345 = some (.code z18) := rfl

def noSm (x : Sr) : Bool := x.sm.length == 0
def keptS (l : List Sr) : List Sr := l.filter fun x => !noSm x

theorem nosm_val {x : Sr} (h : SeOk x) (S : St) : cval T 285 [serE x] S = some (.bool (noSm x), S) := by
 have hl := h.slen
 have hq : ((x.sm.length : Int) == 0) = noSm x := by
  unfold noSm
  cases x.sm with
  | nil => rfl
  | cons a l => simp; omega
 refine cval_ok' fn_285 rfl ?_
 unfold serE
 simp -implicitDefEqProofs [z31, pstep, h.one.1, h.one.2, part1, hl]
 rw [hq]

theorem indexS_val {S : St} {id : Nat} {l : List Sr} {t : List PV} (ho : S.objs[id]? = some (serC l ++ t)) (hl : l.length ≤ 256) (hok : ∀ x ∈ l, SeOk x) :
  cval T 345 [.osl id 0 l.length 2, .fn 285 []] S = some (.int .i64 (match l.findIdx? noSm with | some i => (i : Int) | none => -1), S) := by
 refine cval_ok' fn_345 rfl ?_
 simp -implicitDefEqProofs [z18]
 refine lp_up l.length (fun j fr S' => fr 0 = .osl id 0 l.length 2 ∧ fr 1 = .fn 285 [] ∧ fr 7 = .int .i64 l.length ∧ fr 8 = .int .i64 (j : Int) ∧ (∀ q ∈ l.take j, noSm q = false) ∧ S' = S) ?_ ?_ 0 (Nat.zero_le _) _ _ ⟨by simp, by simp, by simp, by simp, by simp, rfl⟩
 ·rintro j fr S' hj ⟨f0, f1, f7, f8, hn, rfl⟩ k
  have hw : IntKind.i64.wrap ((j : Int) + 1) = (j : Int) + 1 := wrap_i64 (by omega) (by omega)
  have hlt : (j : Int) < (l.length : Int) := by omega
  have hld : loadP S' true 2 (.ptr id (j * 2)) = some (serE l[j]) := by
   rw [loadP_ptr ho, serC_at hj]; exact part2
  have ht : l.take (j + 1) = l.take j ++ [l[j]] := by rw [List.take_add_one, List.getElem?_eq_getElem hj]; rfl
  have ha := nosm_val (hok _ (List.getElem_mem hj)) S'
  have hL : ∀ (fr' : Fr), fr' 0 = .osl id 0 l.length 2 → fr' 1 = .fn 285 [] → fr' 7 = .int .i64 l.length → fr' 8 = .int .i64 ((j : Int) + 1) → noSm l[j] = false →
    Ok (gval T (.lp z18_l0 :: .blk 0 :: [.code (.seq (.region z18_r7) .ret)]) fr' S') _ := fun fr' g0 g1 g7 g8 hf => by
   refine k fr' S' ⟨g0, g1, g7, by simpa using g8, fun q hq => ?_, rfl⟩
   rw [ht] at hq
   rcases List.mem_append.1 hq with hq | hq
   ·exact hn q hq
   ·simp only [List.mem_singleton] at hq; rw [hq]; exact hf
  have hR : noSm l[j] = true → l.findIdx? noSm = some j := fun ht => by
   rw [List.findIdx?_eq_some_iff_getElem]
   refine ⟨hj, ht, fun i hi => ?_⟩
   have := hn l[i] (by rw [List.mem_take_iff_getElem]; exact ⟨i, by omega, rfl⟩)
   simp [this]
  clear k
  obtain ⟨q, hq⟩ : ∃ q, q = l[j] := ⟨_, rfl⟩
  rw [← hq] at hld ha hL hR
  cases hc : noSm q with
  | true =>
   rw [hR hc]
   rw [hc] at ha
   rw [gval_lp]
   simp -implicitDefEqProofs [f0, f1, f7, f8, hlt, hj, hld, ha, pstep]
  | false =>
   rw [hc] at ha
   rw [gval_lp]
   simp -implicitDefEqProofs [f0, f1, f7, f8, hlt, hj, hld, ha, pstep]
   exact hL _ (by simp [f0]) (by simp [f1]) (by simp [f7]) (by simp [hw]) hc
 ·rintro fr S' ⟨f0, f1, f7, f8, hn, rfl⟩
  rw [List.take_length] at hn
  have : l.findIdx? noSm = none := by rw [List.findIdx?_eq_none_iff]; exact hn
  rw [this, gval_lp]
  simp -implicitDefEqProofs [f0, f1, f7, f8]

theorem delS_loop {S : St} {id : Nat} {l : List Sr} (hl : l.length ≤ 256) (hid : id < S.objs.length) (hok : ∀ x ∈ l, SeOk x) {t : List PV}
  {KK : List Kt} {Q : Fr → St → Prop}
  (hK : ∀ fr S' rest, fr 0 = .osl id 0 l.length 2 → fr 5 = .int .i64 (keptS l).length → S'.objs[id]? = some (serC (keptS l) ++ rest) → rest.length + 2 * (keptS l).length = 2 * l.length + t.length → (keptS l).length < l.length →
   (∀ (i : Nat) (x : List PV), i ≠ id → S.objs[i]? = some x → S'.objs[i]? = some x) → S.objs.length ≤ S'.objs.length → Ok (gval T KK fr S') Q)
  (j0 : Nat) (hj0 : j0 ≤ l.length) (fr0 : Fr) (S0 : St) (mid0 : List PV) (g0 : fr0 0 = .osl id 0 l.length 2) (g1 : fr0 1 = .fn 285 []) (g5 : fr0 5 = .int .i64 (keptS (l.take j0)).length) (g6 : fr0 6 = .int .i64 j0)
  (gm : S0.objs[id]? = some (serC (keptS (l.take j0)) ++ mid0 ++ (serC (l.drop j0) ++ t))) (gl : mid0.length + 2 * (keptS (l.take j0)).length = 2 * j0) (gj : (keptS (l.take j0)).length < j0)
  (gk : ∀ (i : Nat) (x : List PV), i ≠ id → S.objs[i]? = some x → S0.objs[i]? = some x) (gle : S.objs.length ≤ S0.objs.length) :
  Ok (gval T (.lp z17_l0 :: .blk 0 :: KK) fr0 S0) Q := by
 refine lp_up l.length (fun j fr S' => fr 0 = .osl id 0 l.length 2 ∧ fr 1 = .fn 285 [] ∧ fr 5 = .int .i64 (keptS (l.take j)).length ∧ fr 6 = .int .i64 (j : Int) ∧ (∃ mid, S'.objs[id]? = some (serC (keptS (l.take j)) ++ mid ++ (serC (l.drop j) ++ t)) ∧ mid.length + 2 * (keptS (l.take j)).length = 2 * j) ∧ (keptS (l.take j)).length < j ∧
   (∀ (i : Nat) (x : List PV), i ≠ id → S.objs[i]? = some x → S'.objs[i]? = some x) ∧ S.objs.length ≤ S'.objs.length) ?_ ?_ j0 hj0 _ _ ⟨g0, g1, g5, g6, ⟨mid0, gm, gl⟩, gj, gk, gle⟩
 ·rintro j fr S' hj ⟨f0, f1, f5, f6, ⟨mid, hm, hml⟩, hkj, hk, hle⟩ k
  have hw : IntKind.i64.wrap ((j : Int) + 1) = (j : Int) + 1 := wrap_i64 (by omega) (by omega)
  have hlt : (j : Int) < (l.length : Int) := by omega
  obtain ⟨q, hq⟩ : ∃ q, q = l[j] := ⟨_, rfl⟩
  have hqo := hok q (by rw [hq]; exact List.getElem_mem hj)
  have hd : l.drop j = q :: l.drop (j + 1) := by rw [hq]; exact List.drop_eq_getElem_cons hj
  have ht : l.take (j + 1) = l.take j ++ [q] := by rw [List.take_add_one, List.getElem?_eq_getElem hj, hq]; rfl
  obtain ⟨ks, hks⟩ : ∃ ks, ks = keptS (l.take j) := ⟨_, rfl⟩
  rw [← hks] at f5 hm hml hkj
  have hkept : keptS (l.take (j + 1)) = ks ++ (if noSm q then [] else [q]) := by
   rw [ht, hks]; unfold keptS; rw [List.filter_append]
   cases hcc : noSm q <;> simp [hcc]
  have hsl := serC_len ks
  have hcs : serC (q :: l.drop (j + 1)) = q.lv :: q.sv :: serC (l.drop (j + 1)) := by simp [serC]
  rw [hd, hcs] at hm
  have hdr : (serC ks ++ mid ++ (q.lv :: q.sv :: serC (l.drop (j + 1)) ++ t)).drop (j * 2) = q.lv :: q.sv :: (serC (l.drop (j + 1)) ++ t) := by
   rw [List.drop_append_of_le_length (by rw [List.length_append]; omega), List.drop_eq_nil_of_le (by rw [List.length_append]; omega)]; rfl
  have hload : loadP S' true 2 (.ptr id (j * 2)) = some (serE q) := by
   rw [loadP_ptr hm, hdr, part2]; rfl
  obtain ⟨S1, hS1⟩ : ∃ S1 : St, S1 = ⟨S'.objs ++ [[q.lv, q.sv]], S'.tips⟩ := ⟨_, rfl⟩
  have hid' : id < S'.objs.length := by omega
  have hm1 : S1.objs[id]? = some (serC ks ++ mid ++ (q.lv :: q.sv :: serC (l.drop (j + 1)) ++ t)) := by
   rw [hS1]; simp only; rw [List.getElem?_append_left hid']; exact hm
  have hk1 : ∀ (i : Nat) (x : List PV), i ≠ id → S.objs[i]? = some x → S1.objs[i]? = some x := fun i x hi hx => by
   have := hk i x hi hx
   rw [hS1]; simp only; rw [List.getElem?_append_left (List.getElem?_eq_some_iff.1 this).1]; exact this
  have hask := nosm_val hqo S1
  have ho7 : S1.objs[S'.objs.length]? = some [q.lv, q.sv] := by rw [hS1]; simp
  have hld7 : loadP S1 true 2 (.ptr S'.objs.length 0) = some (serE q) := by rw [loadP_ptr ho7, List.drop_zero, part2]; rfl
  have hle1 : S.objs.length ≤ S1.objs.length := by rw [hS1]; simp; omega
  have hone := hqo.one
  have hL := fun (fr' : Fr) (S2 : St) => k fr' S2
  rw [hkept] at hL
  clear k
  have hkw : IntKind.i64.wrap ((ks.length : Int) + 1) = (ks.length : Int) + 1 := wrap_i64 (by omega) (by omega)
  cases hc : noSm q with
  | true =>
   rw [hc] at hask
   rw [gval_lp]
   simp -implicitDefEqProofs [-z17_r8_go, f0, f1, f5, f6, hlt, hj, hload, pstep, putCells, hone]
   rw [← hS1]
   simp -implicitDefEqProofs [f0, f1, f5, f6, hld7, hask, pstep]
   refine hL _ _ ⟨by simp [f0], by simp [f1], by simp [hc, f5], by simp [hw], ⟨mid ++ [q.lv, q.sv], ?_, ?_⟩, ?_, hk1, hle1⟩
   ·rw [hm1]; simp [hc]
   ·simp [hc]; omega
   ·simp [hc]; omega
  | false =>
   rw [hc] at hask
   obtain ⟨cs, hcs0⟩ : ∃ cs, cs = serC ks ++ mid ++ (q.lv :: q.sv :: serC (l.drop (j + 1)) ++ t) := ⟨_, rfl⟩
   rw [← hcs0] at hm1
   have hks2 : (ks.length : Int) < (l.length : Int) := by omega
   have hle2 : ks.length * 2 + 2 ≤ cs.length := by rw [hcs0]; simp only [List.length_append, List.length_cons]; omega
   rw [gval_lp]
   simp -implicitDefEqProofs [-z17_r8_go, f0, f1, f5, f6, hlt, hj, hload, pstep, putCells, hone]
   rw [← hS1]
   simp -implicitDefEqProofs [f0, f1, f5, f6, hld7, hask, pstep, putCells, hm1, hks2, hle2, hone]
   refine hL _ _ ⟨by simp [f0], by simp [f1], by simp [hc, hkw], by simp [hw], ⟨mid.drop 2 ++ [q.lv, q.sv], ?_, ?_⟩, ?_, fun i x hi hx => ?_, by simpa using hle1⟩
   ·simp only
    refine (get_set hm1).trans ?_
    rw [hcs0]
    obtain ⟨X, hX⟩ : ∃ X, X = (q.lv :: q.sv :: serC (l.drop (j + 1)) ++ t) := ⟨_, rfl⟩
    rw [← hX]
    have e1 : (serC ks ++ mid ++ X).take (ks.length * 2) = serC ks := by
     rw [List.append_assoc, List.take_append_of_le_length (by omega), List.take_of_length_le (by omega)]
    have e0 : (serC ks ++ mid ++ X).drop (ks.length * 2) = mid ++ X := by
     rw [List.append_assoc, List.drop_append_of_le_length (by omega), List.drop_eq_nil_of_le (by omega), List.nil_append]
    have e2 : (serC ks ++ mid ++ X).drop (ks.length * 2 + 2) = mid.drop 2 ++ X := by
     rw [← List.drop_drop, e0, List.drop_append_of_le_length (by omega)]
    rw [e1, e2, hX]
    simp [hc, serC_app, serC]
   ·simp [hc]; omega
   ·simp [hc]; omega
   ·simp only
    rw [List.getElem?_set_ne (Ne.symm hi)]; exact hk1 i x hi hx
 ·rintro fr S' ⟨f0, f1, f5, f6, ⟨mid, hm, hml⟩, hkj, hk, hle⟩
  rw [List.take_length] at f5 hm hml hkj
  rw [List.drop_length] at hm
  have hL := fun (fr' : Fr) (z0 : fr' 0 = .osl id 0 l.length 2) (z5 : fr' 5 = .int .i64 (keptS l).length) => hK fr' S' (mid ++ t) z0 z5 (by rw [hm]; simp [serC]) (by rw [List.length_append]; omega) hkj hk hle
  clear hK
  rw [gval_lp]
  simp -implicitDefEqProofs [f0, f1, f5, f6]
  exact hL _ (by simp [f0]) (by simp [f5])

theorem delS_val {S : St} {id : Nat} {l : List Sr} {t : List PV} (ho : S.objs[id]? = some (serC l ++ t)) (hl : l.length ≤ 256) (hok : ∀ x ∈ l, SeOk x) :
  ∃ S' rest, cval T 284 [.osl id 0 l.length 2, .fn 285 []] S = some (.osl id 0 (keptS l).length 2, S') ∧ S'.objs[id]? = some (serC (keptS l) ++ rest) ∧
   (∀ (i : Nat) (x : List PV), i ≠ id → S.objs[i]? = some x → S'.objs[i]? = some x) ∧ S.objs.length ≤ S'.objs.length := by
 have hix := indexS_val ho hl hok
 have hid := (List.getElem?_eq_some_iff.1 ho).1
 cases hf : l.findIdx? noSm with
 | none =>
  rw [hf] at hix
  have hk : keptS l = l := by
   unfold keptS
   rw [List.filter_eq_self]
   intro q hq
   have := (List.findIdx?_eq_none_iff.1 hf) q hq
   simp [this]
  rw [hk]
  refine ⟨S, t, cval_ok' fn_284 rfl ?_, ho, fun i x _ h => h, Nat.le_refl _⟩
  simp -implicitDefEqProofs [z17, hix]
  rfl
 | some i0 =>
  rw [hf] at hix
  obtain ⟨hi0, hp0, hb0⟩ := List.findIdx?_eq_some_iff_getElem.1 hf
  have ht0 : l.take (i0 + 1) = l.take i0 ++ [l[i0]] := by rw [List.take_add_one, List.getElem?_eq_getElem hi0]; rfl
  have hk0 : keptS (l.take (i0 + 1)) = l.take i0 := by
   rw [ht0]; unfold keptS
   rw [List.filter_append]
   have e1 : (l.take i0).filter (fun q => !noSm q) = l.take i0 := by
    rw [List.filter_eq_self]
    intro q hq
    obtain ⟨i, hi, rfl⟩ := List.mem_take_iff_getElem.1 hq
    have := hb0 i (by omega)
    simpa using this
   rw [e1]; simp [hp0]
  have hsplit : serC l = serC (l.take i0) ++ [l[i0].lv, l[i0].sv] ++ serC (l.drop (i0 + 1)) := by
   have e : l = l.take i0 ++ (l[i0] :: l.drop (i0 + 1)) := by rw [← List.drop_eq_getElem_cons hi0, List.take_append_drop]
   refine (congrArg serC e).trans ?_
   rw [serC_app]
   show serC (l.take i0) ++ (l[i0].lv :: l[i0].sv :: serC (l.drop (i0 + 1))) = _
   simp only [List.append_assoc, List.cons_append, List.nil_append]
  have hw0 : IntKind.i64.wrap ((i0 : Int) + 1) = (i0 : Int) + 1 := wrap_i64 (by omega) (by omega)
  have hloop := fun (KK : List Kt) (Q : Fr → St → Prop) hK (fr0 : Fr) g0 g1 g5 g6 => delS_loop (S := S) hl hid hok (t := t) (KK := KK) (Q := Q) hK (i0 + 1) (by omega) fr0 S [l[i0].lv, l[i0].sv] g0 g1 g5 g6 (by rw [hk0, ho, hsplit]; simp) (by rw [hk0, List.length_take]; simp; omega) (by rw [hk0, List.length_take]; omega) (fun i x _ h => h) (Nat.le_refl _)
  obtain ⟨r, S2, hc, h2⟩ := cval_ex (T := T) fn_284 (args := [.osl id 0 l.length 2, .fn 285 []]) (S := S) rfl (R := fun r S2 => r = .osl id 0 (keptS l).length 2 ∧ (∃ rest2, S2.objs[id]? = some (serC (keptS l) ++ rest2)) ∧ (∀ (i : Nat) (x : List PV), i ≠ id → S.objs[i]? = some x → S2.objs[i]? = some x) ∧ S.objs.length ≤ S2.objs.length) (by
   simp -implicitDefEqProofs [z17, hix]
   refine hloop _ _ ?_ _ (by simp) (by simp) (by simp [hk0]; omega) (by simp [hw0])
   intro fr S' rest f0 f5 hm hr hlt hk hle
   obtain ⟨n, hn⟩ : ∃ n, n = (keptS l).length := ⟨_, rfl⟩
   rw [← hn] at f5 hr hlt
   have hsl := serC_len (keptS l)
   rw [← hn] at hsl
   have hb1 : bounds l.length l.length (some (.int .i64 (n : Int))) none = some (n, l.length) := bounds_lo (by omega)
   have hb2 : bounds l.length l.length none (some (.int .i64 (n : Int))) = some (0, n) := bounds_hi (by omega)
   obtain ⟨cs, hcs⟩ : ∃ cs, cs = serC (keptS l) ++ rest := ⟨_, rfl⟩
   rw [← hcs] at hm
   have hle2 : n * 2 + (l.length - n) * 2 ≤ cs.length := by rw [hcs, List.length_append, hsl]; omega
   simp -implicitDefEqProofs [f0, f5, hb1, hb2, hlt, pstep, hm, hle2, putCells]
   rw [fin_raw]
   have htk : cs.take (n * 2) = serC (keptS l) := by
    rw [hcs, List.take_append_of_le_length (by omega), List.take_of_length_le (by omega)]
   refine ⟨by rw [hn], ⟨_, (get_set hm).trans (by rw [htk])⟩, fun i x hi hx => ?_, by simpa using hle⟩
   simp only
   rw [List.getElem?_set_ne (Ne.symm hi)]; exact hk i x hi hx)
  obtain ⟨rfl, ⟨rest2, q1⟩, q2, q3⟩ := h2
  exact ⟨S2, rest2, hc, q1, q2, q3⟩
end Ps
