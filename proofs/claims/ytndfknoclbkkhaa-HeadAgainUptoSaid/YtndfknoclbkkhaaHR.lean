/- The head: records as they come in; the law HeadGone. -/
import Derived.Test.YtndfknoclbkkhaaHO
import Derived.Test.YtndfknoclbkkhaaTie
namespace Ps
set_option linter.unusedSimpArgs false
set_option linter.unusedVariables false
open Go
theorem fn_70 : T.fn 70 = some (.code head_Head_Do) := rfl

theorem cval_defx {T : Tbl} {f : Nat} {c : PDef} (hf : T.fn f = some (.codeD c)) {args : List PV} {S S1 S2 : St} {fr1 fr2 : Fr} {cf : Nat} {caps : List PV} {R : PV → St → Prop} (ha : args.length = c.params)
    (hpre : PreTo T c.pre (argsFr args) S fr1 S1) (hclo : gval T [.ops [c.clo]] fr1 S1 = some (fr2, S2)) (ht : fr2 c.t = .fn cf caps) (hcf : isCodeF (T.fn cf) = true)
    (h : Ok (gval T [.code c.rest] fr2 S2) (fun fr3 S3 => ∃ r SF, R r SF ∧ ∃ r4 S4, cval T cf caps S3 = some (r4, S4) ∧ Ends c.results c.raw S r SF fr3 S4)) : ∃ r SF, cval T f args S = some (r, SF) ∧ R r SF := by
  obtain ⟨x, hx, r, SF, hR, rest⟩ := h
  exact ⟨r, SF, cval_def hf ha hpre hclo ht hcf ⟨x, hx, rest⟩, hR⟩

theorem rowsR_facts : ∀ {l : List RowM}, rowsR l = 0 → ∀ x ∈ l, (0 ≤ x.1 ∧ x.1 ≤ 1099511627776) ∧ mayB x.2.1 x.2.2 = true
  | [], _ => by simp
  | y :: l, h => by
    rw [rowsR_cons] at h
    split at h
    · omega
    · split at h
      · omega
      · rename_i h1 h2
        intro x hx
        rcases List.mem_cons.1 hx with rfl | hx
        · exact ⟨by omega, by simpa using h2⟩
        · exact rowsR_facts h x hx
theorem rowsN_facts {l : List RowM} (h : rowsN l = 0) : 0 < l.length ∧ l.length ≤ 64 ∧ ∀ x ∈ l, (0 ≤ x.1 ∧ x.1 ≤ 1099511627776) ∧ (0 ≤ x.2.1 ∧ x.2.1 ≤ 1099511627776) := by
  unfold rowsN at h
  split at h
  · omega
  · refine ⟨by omega, by omega, fun x hx => ?_⟩
    obtain ⟨a, b⟩ := rowsR_facts h x hx
    simp [mayB] at b
    exact ⟨a, by omega⟩

def rowsGo : List RowM → Ab → Ab × Nat
  | [], A => (A, 0)
  | x :: l, A => match rowStep x A with | some e => (A, e) | none => rowsGo l (pushA x A)
def doRows (l : List RowM) (A : Ab) : Ab × Nat := if (rowsGo l A).2 = 0 then rowsGo l A else (A, (rowsGo l A).2)
theorem rowStep_ne {x : RowM} {A : Ab} {e : Nat} (h : rowStep x A = some e) : e ≠ 0 := by
  unfold rowStep at h
  split at h
  · cases h; decide
  · split at h
    · cases h; decide
    · split at h
      · cases h; decide
      · cases h

theorem rows_pre {S : St} {o : Nat} {vr : PV} (hvr : vr.one = true) :
    PreTo T head_Head_rows.pre (argsFr [.ptr o 0, vr]) S
      (upd (upd (upd (upd (argsFr [.ptr o 0, vr]) 2 (.ptr S.objs.length 0)) 3 (.ptr (S.objs.length + 1) 0)) 4 (.ptr (S.objs.length + 2) 0)) 5 (.ptr (S.objs.length + 3) 0))
      ⟨S.objs ++ [[.ptr o 0], [vr], [.int .i64 0], [.int .i64 0]], S.tips⟩ := by
  have hc : vr.cells = [vr] := by cases vr <;> first | rfl | (simp [PV.one] at hvr)
  refine ⟨upd (upd (upd (argsFr [.ptr o 0, vr]) 2 (.ptr S.objs.length 0)) 3 (.ptr (S.objs.length + 1) 0)) 4 (.ptr (S.objs.length + 2) 0), ⟨S.objs ++ [[.ptr o 0], [vr], [.int .i64 0]], S.tips⟩, fun K => ?_,
    upd (upd (upd (upd (argsFr [.ptr o 0, vr]) 2 (.ptr S.objs.length 0)) 3 (.ptr (S.objs.length + 1) 0)) 4 (.ptr (S.objs.length + 2) 0)) 5 (.ptr (S.objs.length + 3) 0), ⟨S.objs ++ [[.ptr o 0], [vr], [.int .i64 0], [.int .i64 0]], S.tips⟩, fun K => ?_, rfl, rfl⟩
  · simp -implicitDefEqProofs [pstep, hc, hvr, newObj]
  · simp -implicitDefEqProofs [pstep, putCells, newObj]

theorem rows_val13 {S : St} {o : Nat} {H : Hd} (h : HOk S o H) {rows : List RowM} {vr : PV} (hv : IsSl 3 vr (rows.map rowV)) (hr : rowsN rows = 0) :
    ∃ S' H', cval T 181 [.ptr o 0, vr] S = some (.int .i64 ((doRows rows (abs H.ser)).2 : Nat), S') ∧ HOk S' o H' ∧ Stp o S H S' H' ∧ abs H'.ser = (doRows rows (abs H.ser)).1 := by
  obtain ⟨hr0, hrl, hrf⟩ := rowsN_facts hr
  have hone := isl_one hv
  have hvr := hv.reads
  have hlen := hv.len
  rw [List.length_map] at hlen
  obtain ⟨S1, hS1⟩ : ∃ S1 : St, S1 = ⟨S.objs ++ [[.ptr o 0], [vr], [.int .i64 0], [.int .i64 0]], S.tips⟩ := ⟨_, rfl⟩
  have hi1 : RInv S o H vr S1 H 0 ((0 : Nat) : Int) := by
    have hk : ∀ (i : Nat) (c : List PV), S.objs[i]? = some c → S1.objs[i]? = some c := fun i c hc => by
      rw [hS1]; simp only; rw [List.getElem?_append_left (List.getElem?_eq_some_iff.1 hc).1]; exact hc
    refine ⟨h.grow hk, fun i x _ hx => hk i x hx, fun i hi => .inl hi, by rw [hS1]; simp, ?_, ?_, ?_, ?_⟩ <;> rw [hS1] <;> simp
  have hpre := rows_pre (S := S) (o := o) hone
  rw [← hS1] at hpre
  obtain ⟨fr2, hfr2⟩ : ∃ fr2, fr2 = upd (upd (upd (upd (upd (argsFr [.ptr o 0, vr]) 2 (.ptr S.objs.length 0)) 3 (.ptr (S.objs.length + 1) 0)) 4 (.ptr (S.objs.length + 2) 0)) 5 (.ptr (S.objs.length + 3) 0)) 9 (.fn 277 [.ptr (S.objs.length + 2) 0, .ptr (S.objs.length + 3) 0, .ptr S.objs.length 0, .ptr (S.objs.length + 1) 0]) := ⟨_, rfl⟩
  obtain ⟨r, SF, hc, hR1, H', hR⟩ := cval_defx (T := T) fn_181 (args := [.ptr o 0, vr]) (S := S) (S1 := S1) (S2 := S1) (fr2 := fr2) (cf := 277) (caps := [.ptr (S.objs.length + 2) 0, .ptr (S.objs.length + 3) 0, .ptr S.objs.length 0, .ptr (S.objs.length + 1) 0])
    (R := fun r SF => r = .int .i64 ((doRows rows (abs H.ser)).2 : Nat) ∧ ∃ H', HOk SF o H' ∧ Stp o S H SF H' ∧ abs H'.ser = (doRows rows (abs H.ser)).1) rfl hpre
    (by rw [hfr2]; simp -implicitDefEqProofs [head_Head_rows]) (by rw [hfr2]; simp [head_Head_rows]) rfl (by
      have fin : ∀ (e : Nat) (n : Nat) (fr' : Fr) (S2 : St) (H2 : Hd), n ≤ rows.length → (∀ i (hi : i < rows.length), i < n → rowStep rows[i] (asR rows (abs H.ser) i) = none) →
          RInv S o H vr S2 H2 (e : Int) (n : Int) → abs H2.ser = asR rows (abs H.ser) n → (e = 0 → n = rows.length) → (e ≠ 0 → ∃ h : n < rows.length, rowStep rows[n] (asR rows (abs H.ser) n) = some e) → fr' 4 = .ptr (S.objs.length + 2) 0 →
          ∃ r SF, (r = .int .i64 ((doRows rows (abs H.ser)).2 : Nat) ∧ ∃ H', HOk SF o H' ∧ Stp o S H SF H' ∧ abs H'.ser = (doRows rows (abs H.ser)).1) ∧
            ∃ r4 S4, cval T 277 [.ptr (S.objs.length + 2) 0, .ptr (S.objs.length + 3) 0, .ptr S.objs.length 0, .ptr (S.objs.length + 1) 0] S2 = some (r4, S4) ∧ Ends [PRes.cell 4 false 1] true S r SF fr' S4 := by
        intro e n fr' S2 H2 hn hok hi ha he0 he1 f4
        have hgo : ∀ k, k ≤ n → rowsGo rows (abs H.ser) = rowsGo (rows.drop k) (asR rows (abs H.ser) k) := by
          intro k
          induction k with
          | zero => intro _; simp [asR]
          | succ k ih =>
            intro hk
            have hkl : k < rows.length := by omega
            rw [ih (by omega), List.drop_eq_getElem_cons hkl, rowsGo, hok k hkl (by omega), asR_succ hkl]
        obtain ⟨S4, H4, hc, hu⟩ := undo_val h hvr hrl hn (A := abs H.ser) (fun i hi2 hin => by
          have w := hok i hi2 hin
          refine ⟨(hrf _ (List.getElem_mem hi2)).1.1, ?_⟩
          unfold rowStep at w
          rw [asR_len] at w
          split at w
          · cases w
          · omega) hi ha
        by_cases he : e = 0
        · have hnn := he0 he
          subst he
          simp only [Int.natCast_zero, if_true] at hu
          obtain ⟨rfl, rfl⟩ := hu
          have hg := hgo n (Nat.le_refl _)
          rw [hnn, List.drop_length] at hg
          simp only [rowsGo] at hg
          have hdo : doRows rows (abs H.ser) = (asR rows (abs H.ser) rows.length, 0) := by simp [doRows, hg]
          refine ⟨_, S4, ⟨rfl, H4, hi.ok, ⟨hi.keep, fun i hi' => ?_, ?_⟩, by rw [hdo, ha, hnn]⟩, _, _, hc, ?_⟩
          · rcases hi.own i hi' with q | q
            · exact .inl q
            · exact .inr (by omega)
          · have := hi.len; omega
          · rw [hdo]
            exact ends_c (v := .int .i64 ((0 : Nat) : Int)) (by rw [f4, loadP_ptr hi.b2]; exact part1) rfl
        · have hez : ¬ ((e : Int) = 0) := by omega
          obtain ⟨hnl, hst⟩ := he1 he
          rw [if_neg hez] at hu
          obtain ⟨u1, u2⟩ := hu
          have hg := hgo n (Nat.le_refl _)
          rw [List.drop_eq_getElem_cons hnl, rowsGo, hst] at hg
          have hdo : doRows rows (abs H.ser) = (abs H.ser, e) := by simp [doRows, hg, he]
          refine ⟨_, S4, ⟨rfl, H4, u1.ok, ⟨u1.keep, fun i hi' => ?_, ?_⟩, by rw [hdo, u2]⟩, _, _, hc, ?_⟩
          · rcases u1.own i hi' with q | q
            · exact .inl q
            · exact .inr (by omega)
          · have := u1.len; omega
          · rw [hdo]
            exact ends_c (v := .int .i64 (e : Int)) (by rw [f4, loadP_ptr u1.b2]; exact part1) rfl
      have l13 : loadP S1 false 1 (.ptr (S.objs.length + 1) 0) = some vr := by rw [loadP_ptr hi1.b1]; exact part1
      rw [hfr2]
      simp -implicitDefEqProofs [head_Head_rows, l13, hlen]
      refine lp_up rows.length (fun j fr S' => fr 2 = .ptr S.objs.length 0 ∧ fr 3 = .ptr (S.objs.length + 1) 0 ∧ fr 4 = .ptr (S.objs.length + 2) 0 ∧ fr 5 = .ptr (S.objs.length + 3) 0 ∧
        fr 10 = vr ∧ fr 11 = .int .i64 rows.length ∧ fr 12 = .int .i64 (j : Int) ∧
        (∀ i (hi : i < rows.length), i < j → rowStep rows[i] (asR rows (abs H.ser) i) = none) ∧ ∃ H', RInv S o H vr S' H' 0 (j : Int) ∧ abs H'.ser = asR rows (abs H.ser) j) ?_ ?_ 0 (Nat.zero_le _) _ _
        ⟨by simp, by simp, by simp, by simp, by simp, by simp, by simp, fun i _ hi => absurd hi (by omega), H, hi1, rfl⟩
      · rintro j fr S' hj ⟨f2, f3, f4, f5, f10, f11, f12, hok, H', x1, x2⟩ k
        obtain ⟨r1, r2⟩ := hrf _ (List.getElem_mem hj)
        refine row_round h hvr hrl hj r1 r2 x1 f2 f3 f4 f5 f10 f11 f12 (fun e fr' S2 hst y1 g4 => ?_) (fun fr' S2 H2 hst y1 y2 g2 g3 g4 g5 g10 g11 g12 => ?_)
        · exact fin e j fr' S2 H' (by omega) hok y1 x2 (fun w => absurd w (rowStep_ne hst)) (fun _ => ⟨hj, by rw [← x2]; exact hst⟩) g4
        · refine k fr' S2 ⟨g2, g3, g4, g5, g10, g11, by simpa using g12, fun i hi hij => ?_, H2, by simpa using y1, by rw [y2, x2, asR_succ hj]⟩
          by_cases hij' : i < j
          · exact hok i hi hij'
          · have : i = j := by omega
            subst this
            rw [← x2]; exact hst
      · rintro fr S' ⟨f2, f3, f4, f5, f10, f11, f12, hok, H', x1, x2⟩
        have b2 := x1.b2
        have hb := x1.box h 0 (rows.length : Int) (S2 := ⟨S'.objs.set (S.objs.length + 2) [.int .i64 0], S'.tips⟩) (by
          simp only
          have : (S'.objs.set (S.objs.length + 2) [PV.int .i64 0])[S.objs.length + 3]? = some [.int .i64 (rows.length : Int)] := by rw [List.getElem?_set_ne (by omega)]; exact x1.b3
          obtain ⟨hl, he⟩ := List.getElem?_eq_some_iff.1 this
          rw [← he, List.set_getElem_self])
        have fin' := fun fr' => fin 0 rows.length fr' _ H' (Nat.le_refl _) hok hb x2 (fun _ => rfl) (fun w => absurd rfl w)
        clear fin
        rw [gval_lp]
        simp -implicitDefEqProofs [f4, f11, f12, pstep, b2, putCells]
        exact fin' _ (by simp [f4]))
  subst hR1
  obtain ⟨x1, x2, x3⟩ := hR
  exact ⟨SF, H', hc, x1, x2, x3⟩
end Ps
namespace Ps
set_option linter.unusedSimpArgs false
set_option linter.unusedVariables false
open Go
theorem fn_177 : T.fn 177 = some (.code ref05_Same) := rfl
theorem recC_all {r : RecM} {cs : List PV} (h : RecC r cs) : cs.length = 6 ∧ cs.all PV.one = true := by
  obtain ⟨⟨vl, vr, vi, rfl, h1, h2, h3⟩, _⟩ := h
  exact ⟨rfl, cells_one h1 h2 h3⟩
theorem pt_all {cs : List PV} (h : cs.length = 6) : partOf true 6 cs = some (.agg cs) := by
  simp only [partOf, h, Nat.le_refl, if_true]
  rw [← h, List.take_length]

def doA (r : RecM) (A : Ab) : Ab × Nat :=
  if recN r ≠ 0 then (A, recN r) else if r.kind = 1 then doAdd r.labs A else if r.kind = 2 then doRows r.rows A else doRem r A

theorem recN_kinds {r : RecM} (h : recN r = 0) : (r.kind = 1 ∧ Right r.labs) ∨ (r.kind = 2 ∧ rowsN r.rows = 0) ∨ (r.kind = 3 ∧ delN r = 0) := by
  unfold recN at h
  split at h
  · rename_i c; exact .inl ⟨c.1, checkN_zero.1 h⟩
  · split at h
    · rename_i c; exact .inr (.inl ⟨c.1, h⟩)
    · split at h
      · rename_i c; exact .inr (.inr ⟨c.1, h⟩)
      · omega

theorem do_val {S : St} {o : Nat} {H : Hd} (h : HOk S o H) {r : RecM} {cs : List PV} (hc : RecC r cs) :
    ∃ S' H', cval T 70 [.ptr o 0, .agg cs] S = some (.int .i64 ((doA r (abs H.ser)).2 : Nat), S') ∧ HOk S' o H' ∧ Stp o S H S' H' ∧ abs H'.ser = (doA r (abs H.ser)).1 := by
  have hck := reccheck_val hc S
  obtain ⟨c6, c1⟩ := recC_all hc
  have hpt := pt_all c6
  by_cases hz : recN r = 0
  · rcases recN_kinds hz with ⟨hk, hr⟩ | ⟨hk, hr⟩ | ⟨hk, hr⟩
    · have e1 : doA r (abs H.ser) = doAdd r.labs (abs H.ser) := by simp [doA, hz, hk]
      obtain ⟨⟨vl, vr, vi, rfl, i1, i2, i3⟩, _⟩ := hc
      obtain ⟨S', H', a1, a2, a3, a4⟩ := add_val h i1 hr
      rw [e1]
      refine ⟨S', H', cval_ok' fn_70 rfl ?_, a2, a3, a4⟩
      rw [hz, hk] at hck
      rw [hk] at hpt
      simp -implicitDefEqProofs [head_Head_Do, pstep, isl_one i1, isl_one i2, isl_one i3, hpt, hck, part1, hk, a1]
      rfl
    · have e1 : doA r (abs H.ser) = doRows r.rows (abs H.ser) := by simp [doA, hz, hk]
      obtain ⟨⟨vl, vr, vi, rfl, i1, i2, i3⟩, _⟩ := hc
      obtain ⟨S', H', a1, a2, a3, a4⟩ := rows_val13 h i2 hr
      rw [e1]
      refine ⟨S', H', cval_ok' fn_70 rfl ?_, a2, a3, a4⟩
      rw [hz, hk] at hck
      rw [hk] at hpt
      simp -implicitDefEqProofs [head_Head_Do, pstep, isl_one i1, isl_one i2, isl_one i3, hpt, hck, part1, hk, a1]
      rfl
    · have e1 : doA r (abs H.ser) = doRem r (abs H.ser) := by simp [doA, hz, hk]
      obtain ⟨S', H', a1, a2, a3, a4⟩ := remove_val h hc hr
      obtain ⟨⟨vl, vr, vi, rfl, i1, i2, i3⟩, _⟩ := hc
      rw [e1]
      refine ⟨S', H', cval_ok' fn_70 rfl ?_, a2, a3, a4⟩
      rw [hk] at a1
      rw [hz, hk] at hck
      rw [hk] at hpt
      simp -implicitDefEqProofs [head_Head_Do, pstep, isl_one i1, isl_one i2, isl_one i3, hpt, hck, part1, hk, a1]
      rfl
  · have e1 : doA r (abs H.ser) = (abs H.ser, recN r) := by simp [doA, hz]
    rw [e1]
    refine ⟨S, H, cval_ok' fn_70 rfl ?_, h, Stp.refl, rfl⟩
    have hz' : ((recN r : Int) != 0) = true := by rw [bne_iff_ne]; omega
    have c1' : (∀ x, x ∈ cs → x.one = true) = True := eq_true (by simpa using c1)
    simp -implicitDefEqProofs [head_Head_Do, pstep, c1, c1', hpt, hck, hz', hz]
    rfl

theorem smE_get {l : List (Int × Int)} {v : PV} (hv : Reads1 2 v (l.map smE)) {i : Nat} (hi : i < l.length) {k : IntKind} : iaddrP 2 v (.int k (i : Int)) = some (.ref [.int .i64 l[i].1, .int .i64 l[i].2]) := by
  have := hv.get i (by simpa using hi) k
  rw [this]; simp [smE, PV.cells]

theorem csame_val {l : List (Int × Int)} {v1 v2 : PV} (h1 : Reads1 2 v1 (l.map smE)) (h2 : Reads1 2 v2 (l.map smE)) (hl : l.length ≤ 1048576) (S : St) : cval T 177 [v1, v2] S = some (.bool true, S) := by
  have hl1 := h1.len
  have hl2 := h2.len
  rw [List.length_map] at hl1 hl2
  refine cval_ok' fn_177 rfl ?_
  simp -implicitDefEqProofs [ref05_Same, hl1, hl2]
  refine lp_up l.length (fun j fr S' => fr 0 = v1 ∧ fr 1 = v2 ∧ fr 5 = .int .i64 (j : Int) ∧ S' = S) ?_ ?_ 0 (Nat.zero_le _) _ _ ⟨by simp, by simp, by simp, rfl⟩
  · rintro j fr S' hj ⟨f0, f1, f5, rfl⟩ k
    have hw := wrap_up hj (by unfold maxLen; omega : l.length ≤ maxLen)
    have hlt : (j : Int) < (l.length : Int) := by omega
    have g1 := smE_get h1 hj (k := .i64)
    have g2 := smE_get h2 hj (k := .i64)
    have hL := fun fr' => k fr' S'
    clear k
    rw [gval_lp]
    simp -implicitDefEqProofs [f0, f1, f5, hl1, hlt, hj, g1, g2, part2, eqCells]
    exact hL _ ⟨by simp [f0], by simp [f1], by simp [hw], rfl⟩
  · rintro fr S' ⟨f0, f1, f5, rfl⟩
    rw [gval_lp]
    simp -implicitDefEqProofs [f0, f1, f5, hl1]

theorem new_val' (S : St) : cval T 68 [] S = some (.ptr (S.objs.length + 1) 0, ⟨S.objs ++ [[], [.nils, .map S.objs.length, .int .i64 0]], S.tips⟩) := by
  have hf : finish false S ⟨S.objs ++ [[], [.nils, .map S.objs.length, .int .i64 0]], S.tips⟩ (.ptr (S.objs.length + 1) 0) = (.ptr (S.objs.length + 1) 0, ⟨S.objs ++ [[], [.nils, .map S.objs.length, .int .i64 0]], S.tips⟩) := by
    have hs : sol (S.objs ++ [[], [.nils, .map S.objs.length, .int .i64 0]]) S.objs.length solFuel (.ptr (S.objs.length + 1) 0) = none := by
      have h1 : (S.objs ++ [[], [PV.nils, .map S.objs.length, .int .i64 0]])[S.objs.length + 1]? = some [PV.nils, .map S.objs.length, .int .i64 0] := by simp
      have hm : sol (S.objs ++ [[], [PV.nils, .map S.objs.length, .int .i64 0]]) S.objs.length 39 (.map S.objs.length) = none := by
        show sol _ _ (38 + 1) _ = none
        rw [sol]
        · rfl
        all_goals simp
      have hn : sol (S.objs ++ [[], [PV.nils, .map S.objs.length, .int .i64 0]]) S.objs.length 39 .nils = some .nils := sol_id rfl
      show sol _ _ (39 + 1) _ = none
      rw [sol]
      simp only [PV.free, Bool.false_eq_true, if_false, h1, List.drop_zero, mapO, hn, hm]
      simp
    unfold finish
    simp only [Bool.false_eq_true, if_false]
    rw [hs]
  refine cval_ok' fn_68 rfl ?_
  simp -implicitDefEqProofs [head_New, pstep, peval, fillParts, putCells, newObj]
  exact hf
theorem new_hok (S : St) : HOk ⟨S.objs ++ [[], [.nils, .map S.objs.length, .int .i64 0]], S.tips⟩ (S.objs.length + 1) ⟨.nils, S.objs.length, [], [], 0⟩ where
  obj := by simp
  ids := by simp [idsL]
  ser := .inl ⟨rfl, rfl⟩
  all := fun r hr => by cases hr
  dis := by simp [ownH, gl, gidV, gls]
  idk := rfl
  cnt := rfl
  szs := by simp
  tot := by simp [total]
end Ps
namespace Ps
set_option linter.unusedSimpArgs false
open Go
theorem lives_run : pcall T 3000 76 [] St0 = some (.bool true, St0) := by kernel_rfl
end Ps
namespace Ps
set_option linter.unusedSimpArgs false
set_option linter.unusedVariables false
open Go
def RecsI (es : List PV) : Prop := ∀ e ∈ es, ∃ r cs, e = .agg cs ∧ RecC r cs
theorem maxLen_ge {n : Nat} (h : n ≤ 1048576) : n ≤ maxLen := by unfold maxLen; omega
abbrev tyRow : Ty := .st (.pair (.int .i64) (.pair (.st (.pair (.int .i64) (.pair (.int .i64) .unit))) .unit))
abbrev tyRec : Ty := .st (.pair (.int .i64) (.pair (.sl tyLab) (.pair (.sl tyRow) (.pair (.sl (.int .i64)) (.pair (.int .i64) (.pair (.int .i64) .unit))))))

def inS {e : Ty} (x : (Ty.sl e).den) : List e.den := match x with | none => [] | some q => q.1
theorem inS_isl {e : Ty} (he : e.isTy = true) (x : (Ty.sl e).den) : IsSl e.n ((Ty.sl e).pv x) ((inS x).map e.pv) := by
  cases x with
  | none => exact .inl ⟨rfl, rfl⟩
  | some q =>
    obtain ⟨es, sp⟩ := q
    refine .inr ⟨none, sp.map e.pv, rfl, fun v hv => ?_⟩
    rcases List.mem_append.1 hv with hv | hv
    · obtain ⟨y, _, rfl⟩ := List.mem_map.1 hv
      rw [pv_cells he, emb_len]
    · obtain ⟨y, _, rfl⟩ := List.mem_map.1 hv
      rw [pv_cells he, emb_len]
theorem inS_len {e : Ty} (h : ∀ x : e.den, 1 ≤ e.bulk x) (x : (Ty.sl e).den) : (inS x).length ≤ (Ty.sl e).bulk x := by
  cases x with
  | none => exact Nat.zero_le _
  | some q =>
    obtain ⟨es, sp⟩ := q
    have := len_le_bulk e h es
    show es.length ≤ (es.map e.bulk).sum + (sp.map e.bulk).sum + 1
    omega
def inRow (x : tyRow.den) : RowM := (x.1, x.2.1.1, x.2.1.2.1)
def inR (x : tyRec.den) : RecM := ⟨x.1, inLW x.2.1, (inS x.2.2.1).map inRow, inS x.2.2.2.1, x.2.2.2.2.1, x.2.2.2.2.2.1⟩
theorem inR_rec {x : tyRec.den} (h : tyRec.wf x) (hb : tyRec.bulk x ≤ 1048576) : (∃ cs, tyRec.pv x = .agg cs ∧ RecC (inR x) cs) ∧ (inR x).labs.length ≤ 1048576 ∧ (inR x).rows.length ≤ 1048576 ∧ (inR x).ids.length ≤ 1048576 := by
  obtain ⟨k, l, rows, ids, lo, hi, u⟩ := x
  obtain ⟨_, wl, _⟩ := h
  have hb' : 1 + ((Ty.sl tyLab).bulk l + ((Ty.sl tyRow).bulk rows + ((Ty.sl (.int .i64)).bulk ids + (1 + (1 + 0))))) + 1 ≤ 1048576 := hb
  have b1 := inL_len l
  have b2 := inS_len (e := tyRow) (fun _ => Nat.succ_le_succ (Nat.zero_le _)) rows
  have b3 := inS_len (e := .int .i64) (fun _ => Nat.le_refl _) ids
  obtain ⟨_, wn⟩ := inL_wf wl
  have e1 : (inR (k, l, rows, ids, lo, hi, u)).labs.length = (inLW l).length := rfl
  have e2 : (inR (k, l, rows, ids, lo, hi, u)).rows.length = (inS rows).length := List.length_map ..
  have e3 : (inR (k, l, rows, ids, lo, hi, u)).ids.length = (inS ids).length := rfl
  refine ⟨⟨_, rfl, ⟨(Ty.sl tyLab).pv l, (Ty.sl tyRow).pv rows, (Ty.sl (.int .i64)).pv ids, ?_, ?_, ?_, ?_⟩, ?_⟩, by omega, by omega, by omega⟩
  · have q : ∀ (e : Ty) (y : (Ty.sl e).den), (Ty.sl e).emb y = [(Ty.sl e).pv y] := fun e y => by cases y <;> rfl
    show [PV.int .i64 k] ++ ((Ty.sl tyLab).emb l ++ ((Ty.sl tyRow).emb rows ++ ((Ty.sl (.int .i64)).emb ids ++ ([PV.int .i64 lo] ++ ([PV.int .i64 hi] ++ []))))) = _
    rw [q, q, q]; rfl
  · have := inS_isl (e := tyLab) rfl l
    have e : (inS l).map tyLab.pv = (inLW l).map labV := by cases l <;> rfl
    rw [e] at this; exact this
  · have := inS_isl (e := tyRow) rfl rows
    have e : (inS rows).map tyRow.pv = ((inS rows).map inRow).map rowV := by
      rw [List.map_map]
      apply List.map_congr_left
      intro y _
      rfl
    rw [e] at this; exact this
  · exact inS_isl (e := .int .i64) rfl ids
  · refine ⟨maxLen_ge (by omega), maxLen_ge (by omega), maxLen_ge (by omega), fun y hy => (wn y hy).1⟩

theorem inRs_ok {x : (Ty.sl tyRec).den} (h : (Ty.sl tyRec).wf x) (hb : (Ty.sl tyRec).bulk x ≤ 1048576) : ∃ xs, Reads1 6 ((Ty.sl tyRec).pv x) xs ∧ RecsI xs ∧ xs.length ≤ 2000000 := by
  have hisl := inS_isl (e := tyRec) rfl x
  have hln := inS_len (e := tyRec) (fun y => by show 1 ≤ _ + 1; omega) x
  refine ⟨_, hisl.reads, ?_, by rw [List.length_map]; omega⟩
  intro e he
  obtain ⟨y, hy, rfl⟩ := List.mem_map.1 he
  cases x with
  | none => simp [inS] at hy
  | some q =>
    obtain ⟨es, sp⟩ := q
    have hw : tyRec.wf y := h.2.1 y hy
    have hmem : ∀ (l : List tyRec.den), y ∈ l → tyRec.bulk y ≤ (l.map tyRec.bulk).sum := by
      intro l
      induction l with
      | nil => intro h; simp at h
      | cons z l ih =>
        intro h
        simp only [List.map_cons, List.sum_cons]
        rcases List.mem_cons.1 h with rfl | h
        · omega
        · have := ih h; omega
    have hyb := hmem es hy
    have hb2 : (es.map tyRec.bulk).sum + (sp.map tyRec.bulk).sum + 1 ≤ 1048576 := hb
    obtain ⟨⟨cs, e1, e2⟩, _⟩ := inR_rec hw (by omega)
    exact ⟨_, cs, e1, e2⟩


theorem lives_pval : pval T 76 [] = some (.bool true) := pval_st (cval_of 3000 lives_run) rfl rfl
theorem sm_le_total {r : Sr} : ∀ {l : List Sr}, r ∈ l → r.sm.length ≤ total l
  | x :: l, h => by
    rw [total_cons]
    rcases List.mem_cons.1 h with rfl | h
    · omega
    · have := sm_le_total h; omega
end Ps
