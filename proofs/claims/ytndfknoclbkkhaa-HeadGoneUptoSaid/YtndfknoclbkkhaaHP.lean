/- The head: rows whole; Do. -/
import Derived.Test.YtndfknoclbkkhaaHO
namespace Ps
set_option linter.unusedSimpArgs false
set_option linter.unusedVariables false
open Go

theorem fn_70 : T.fn 70 = some (.code head_Head_Do) := rfl

theorem cval_defx {T : Tbl} {f : Nat} {c : PDef} (hf : T.fn f = some (.codeD c)) {args : List PV} {S S1 S2 : St} {fr1 fr2 : Fr} {cf : Nat} {caps : List PV} {R : PV → St → Prop} (ha : args.length = c.params)
    (hpre : PreTo T c.pre (argsFr args) S fr1 S1) (hclo : gval T [.ops [c.clo]] fr1 S1 = some (fr2, S2)) (ht : fr2 c.t = .fn cf caps) (hcf : isCodeF (T.fn cf) = true)
    (h : Ok (gval T [.code c.rest] fr2 S2) (fun fr3 S3 => ∃ r SF, R r SF ∧ ∃ r4 S4, cval T cf caps S3 = some (r4, S4) ∧ Ends c.results c.raw S r SF fr3 S4)) : ∃ r SF, cval T f args S = some (r, SF) ∧ R r SF := by
  obtain ⟨x, hx, r, SF, hR, rest⟩ := h
  exact ⟨r, SF, cval_def hf ha hpre hclo ht hcf ⟨x, hx, rest⟩, hR⟩

theorem rowsR_facts : ∀ {l : List RowM}, rowsR l = 0 → ∀ x ∈ l, (0 ≤ x.1 ∧ x.1 ≤ 1099511627776) ∧ mayB x.2.1 x.2.2 = true
  | [], _ => by simp
  | y :: l, h => by
    rw [rowsR_cons] at h
    split at h
    · omega
    · split at h
      · omega
      · rename_i h1 h2
        intro x hx
        rcases List.mem_cons.1 hx with rfl | hx
        · exact ⟨by omega, by simpa using h2⟩
        · exact rowsR_facts h x hx
theorem rowsN_facts {l : List RowM} (h : rowsN l = 0) : 0 < l.length ∧ l.length ≤ 64 ∧ ∀ x ∈ l, (0 ≤ x.1 ∧ x.1 ≤ 1099511627776) ∧ (0 ≤ x.2.1 ∧ x.2.1 ≤ 1099511627776) := by
  unfold rowsN at h
  split at h
  · omega
  · refine ⟨by omega, by omega, fun x hx => ?_⟩
    obtain ⟨a, b⟩ := rowsR_facts h x hx
    simp [mayB] at b
    exact ⟨a, by omega⟩

def rowsGo : List RowM → Ab → Ab × Nat
  | [], A => (A, 0)
  | x :: l, A => match rowStep x A with | some e => (A, e) | none => rowsGo l (pushA x A)
def doRows (l : List RowM) (A : Ab) : Ab × Nat := if (rowsGo l A).2 = 0 then rowsGo l A else (A, (rowsGo l A).2)
theorem rowStep_ne {x : RowM} {A : Ab} {e : Nat} (h : rowStep x A = some e) : e ≠ 0 := by
  unfold rowStep at h
  split at h
  · cases h; decide
  · split at h
    · cases h; decide
    · split at h
      · cases h; decide
      · cases h

theorem rows_pre {S : St} {o : Nat} {vr : PV} (hvr : vr.one = true) :
    PreTo T head_Head_rows.pre (argsFr [.ptr o 0, vr]) S
      (upd (upd (upd (upd (argsFr [.ptr o 0, vr]) 2 (.ptr S.objs.length 0)) 3 (.ptr (S.objs.length + 1) 0)) 4 (.ptr (S.objs.length + 2) 0)) 5 (.ptr (S.objs.length + 3) 0))
      ⟨S.objs ++ [[.ptr o 0], [vr], [.int .i64 0], [.int .i64 0]], S.tips⟩ := by
  have hc : vr.cells = [vr] := by cases vr <;> first | rfl | (simp [PV.one] at hvr)
  refine ⟨upd (upd (upd (argsFr [.ptr o 0, vr]) 2 (.ptr S.objs.length 0)) 3 (.ptr (S.objs.length + 1) 0)) 4 (.ptr (S.objs.length + 2) 0), ⟨S.objs ++ [[.ptr o 0], [vr], [.int .i64 0]], S.tips⟩, fun K => ?_,
    upd (upd (upd (upd (argsFr [.ptr o 0, vr]) 2 (.ptr S.objs.length 0)) 3 (.ptr (S.objs.length + 1) 0)) 4 (.ptr (S.objs.length + 2) 0)) 5 (.ptr (S.objs.length + 3) 0), ⟨S.objs ++ [[.ptr o 0], [vr], [.int .i64 0], [.int .i64 0]], S.tips⟩, fun K => ?_, rfl, rfl⟩
  · simp -implicitDefEqProofs [pstep, hc, hvr, newObj]
  · simp -implicitDefEqProofs [pstep, putCells, newObj]

theorem rows_val13 {S : St} {o : Nat} {H : Hd} (h : HOk S o H) {rows : List RowM} {vr : PV} (hv : IsSl 3 vr (rows.map rowV)) (hr : rowsN rows = 0) :
    ∃ S' H', cval T 181 [.ptr o 0, vr] S = some (.int .i64 ((doRows rows (abs H.ser)).2 : Nat), S') ∧ HOk S' o H' ∧ Stp o S H S' H' ∧ abs H'.ser = (doRows rows (abs H.ser)).1 := by
  obtain ⟨hr0, hrl, hrf⟩ := rowsN_facts hr
  have hone := isl_one hv
  have hvr := hv.reads
  have hlen := hv.len
  rw [List.length_map] at hlen
  obtain ⟨S1, hS1⟩ : ∃ S1 : St, S1 = ⟨S.objs ++ [[.ptr o 0], [vr], [.int .i64 0], [.int .i64 0]], S.tips⟩ := ⟨_, rfl⟩
  have hi1 : RInv S o H vr S1 H 0 ((0 : Nat) : Int) := by
    have hk : ∀ (i : Nat) (c : List PV), S.objs[i]? = some c → S1.objs[i]? = some c := fun i c hc => by
      rw [hS1]; simp only; rw [List.getElem?_append_left (List.getElem?_eq_some_iff.1 hc).1]; exact hc
    refine ⟨h.grow hk, fun i x _ hx => hk i x hx, fun i hi => .inl hi, by rw [hS1]; simp, ?_, ?_, ?_, ?_⟩ <;> rw [hS1] <;> simp
  have hpre := rows_pre (S := S) (o := o) hone
  rw [← hS1] at hpre
  obtain ⟨fr2, hfr2⟩ : ∃ fr2, fr2 = upd (upd (upd (upd (upd (argsFr [.ptr o 0, vr]) 2 (.ptr S.objs.length 0)) 3 (.ptr (S.objs.length + 1) 0)) 4 (.ptr (S.objs.length + 2) 0)) 5 (.ptr (S.objs.length + 3) 0)) 9 (.fn 277 [.ptr (S.objs.length + 2) 0, .ptr (S.objs.length + 3) 0, .ptr S.objs.length 0, .ptr (S.objs.length + 1) 0]) := ⟨_, rfl⟩
  obtain ⟨r, SF, hc, hR1, H', hR⟩ := cval_defx (T := T) fn_181 (args := [.ptr o 0, vr]) (S := S) (S1 := S1) (S2 := S1) (fr2 := fr2) (cf := 277) (caps := [.ptr (S.objs.length + 2) 0, .ptr (S.objs.length + 3) 0, .ptr S.objs.length 0, .ptr (S.objs.length + 1) 0])
    (R := fun r SF => r = .int .i64 ((doRows rows (abs H.ser)).2 : Nat) ∧ ∃ H', HOk SF o H' ∧ Stp o S H SF H' ∧ abs H'.ser = (doRows rows (abs H.ser)).1) rfl hpre
    (by rw [hfr2]; simp -implicitDefEqProofs [head_Head_rows]) (by rw [hfr2]; simp [head_Head_rows]) rfl (by
      have fin : ∀ (e : Nat) (n : Nat) (fr' : Fr) (S2 : St) (H2 : Hd), n ≤ rows.length → (∀ i (hi : i < rows.length), i < n → rowStep rows[i] (asR rows (abs H.ser) i) = none) →
          RInv S o H vr S2 H2 (e : Int) (n : Int) → abs H2.ser = asR rows (abs H.ser) n → (e = 0 → n = rows.length) → (e ≠ 0 → ∃ h : n < rows.length, rowStep rows[n] (asR rows (abs H.ser) n) = some e) → fr' 4 = .ptr (S.objs.length + 2) 0 →
          ∃ r SF, (r = .int .i64 ((doRows rows (abs H.ser)).2 : Nat) ∧ ∃ H', HOk SF o H' ∧ Stp o S H SF H' ∧ abs H'.ser = (doRows rows (abs H.ser)).1) ∧
            ∃ r4 S4, cval T 277 [.ptr (S.objs.length + 2) 0, .ptr (S.objs.length + 3) 0, .ptr S.objs.length 0, .ptr (S.objs.length + 1) 0] S2 = some (r4, S4) ∧ Ends [PRes.cell 4 false 1] true S r SF fr' S4 := by
        intro e n fr' S2 H2 hn hok hi ha he0 he1 f4
        have hgo : ∀ k, k ≤ n → rowsGo rows (abs H.ser) = rowsGo (rows.drop k) (asR rows (abs H.ser) k) := by
          intro k
          induction k with
          | zero => intro _; simp [asR]
          | succ k ih =>
            intro hk
            have hkl : k < rows.length := by omega
            rw [ih (by omega), List.drop_eq_getElem_cons hkl, rowsGo, hok k hkl (by omega), asR_succ hkl]
        obtain ⟨S4, H4, hc, hu⟩ := undo_val h hvr hrl hn (A := abs H.ser) (fun i hi2 hin => by
          have w := hok i hi2 hin
          refine ⟨(hrf _ (List.getElem_mem hi2)).1.1, ?_⟩
          unfold rowStep at w
          rw [asR_len] at w
          split at w
          · cases w
          · omega) hi ha
        by_cases he : e = 0
        · have hnn := he0 he
          subst he
          simp only [Int.natCast_zero, if_true] at hu
          obtain ⟨rfl, rfl⟩ := hu
          have hg := hgo n (Nat.le_refl _)
          rw [hnn, List.drop_length] at hg
          simp only [rowsGo] at hg
          have hdo : doRows rows (abs H.ser) = (asR rows (abs H.ser) rows.length, 0) := by simp [doRows, hg]
          refine ⟨_, S4, ⟨rfl, H4, hi.ok, ⟨hi.keep, fun i hi' => ?_, ?_⟩, by rw [hdo, ha, hnn]⟩, _, _, hc, ?_⟩
          · rcases hi.own i hi' with q | q
            · exact .inl q
            · exact .inr (by omega)
          · have := hi.len; omega
          · rw [hdo]
            exact ends_c (v := .int .i64 ((0 : Nat) : Int)) (by rw [f4, loadP_ptr hi.b2]; exact part1) rfl
        · have hez : ¬ ((e : Int) = 0) := by omega
          obtain ⟨hnl, hst⟩ := he1 he
          rw [if_neg hez] at hu
          obtain ⟨u1, u2⟩ := hu
          have hg := hgo n (Nat.le_refl _)
          rw [List.drop_eq_getElem_cons hnl, rowsGo, hst] at hg
          have hdo : doRows rows (abs H.ser) = (abs H.ser, e) := by simp [doRows, hg, he]
          refine ⟨_, S4, ⟨rfl, H4, u1.ok, ⟨u1.keep, fun i hi' => ?_, ?_⟩, by rw [hdo, u2]⟩, _, _, hc, ?_⟩
          · rcases u1.own i hi' with q | q
            · exact .inl q
            · exact .inr (by omega)
          · have := u1.len; omega
          · rw [hdo]
            exact ends_c (v := .int .i64 (e : Int)) (by rw [f4, loadP_ptr u1.b2]; exact part1) rfl
      have l13 : loadP S1 false 1 (.ptr (S.objs.length + 1) 0) = some vr := by rw [loadP_ptr hi1.b1]; exact part1
      rw [hfr2]
      simp -implicitDefEqProofs [head_Head_rows, l13, hlen]
      refine lp_up rows.length (fun j fr S' => fr 2 = .ptr S.objs.length 0 ∧ fr 3 = .ptr (S.objs.length + 1) 0 ∧ fr 4 = .ptr (S.objs.length + 2) 0 ∧ fr 5 = .ptr (S.objs.length + 3) 0 ∧
        fr 10 = vr ∧ fr 11 = .int .i64 rows.length ∧ fr 12 = .int .i64 (j : Int) ∧
        (∀ i (hi : i < rows.length), i < j → rowStep rows[i] (asR rows (abs H.ser) i) = none) ∧ ∃ H', RInv S o H vr S' H' 0 (j : Int) ∧ abs H'.ser = asR rows (abs H.ser) j) ?_ ?_ 0 (Nat.zero_le _) _ _
        ⟨by simp, by simp, by simp, by simp, by simp, by simp, by simp, fun i _ hi => absurd hi (by omega), H, hi1, rfl⟩
      · rintro j fr S' hj ⟨f2, f3, f4, f5, f10, f11, f12, hok, H', x1, x2⟩ k
        obtain ⟨r1, r2⟩ := hrf _ (List.getElem_mem hj)
        refine row_round h hvr hrl hj r1 r2 x1 f2 f3 f4 f5 f10 f11 f12 (fun e fr' S2 hst y1 g4 => ?_) (fun fr' S2 H2 hst y1 y2 g2 g3 g4 g5 g10 g11 g12 => ?_)
        · exact fin e j fr' S2 H' (by omega) hok y1 x2 (fun w => absurd w (rowStep_ne hst)) (fun _ => ⟨hj, by rw [← x2]; exact hst⟩) g4
        · refine k fr' S2 ⟨g2, g3, g4, g5, g10, g11, by simpa using g12, fun i hi hij => ?_, H2, by simpa using y1, by rw [y2, x2, asR_succ hj]⟩
          by_cases hij' : i < j
          · exact hok i hi hij'
          · have : i = j := by omega
            subst this
            rw [← x2]; exact hst
      · rintro fr S' ⟨f2, f3, f4, f5, f10, f11, f12, hok, H', x1, x2⟩
        have b2 := x1.b2
        have hb := x1.box h 0 (rows.length : Int) (S2 := ⟨S'.objs.set (S.objs.length + 2) [.int .i64 0], S'.tips⟩) (by
          simp only
          have : (S'.objs.set (S.objs.length + 2) [PV.int .i64 0])[S.objs.length + 3]? = some [.int .i64 (rows.length : Int)] := by rw [List.getElem?_set_ne (by omega)]; exact x1.b3
          obtain ⟨hl, he⟩ := List.getElem?_eq_some_iff.1 this
          rw [← he, List.set_getElem_self])
        have fin' := fun fr' => fin 0 rows.length fr' _ H' (Nat.le_refl _) hok hb x2 (fun _ => rfl) (fun w => absurd rfl w)
        clear fin
        rw [gval_lp]
        simp -implicitDefEqProofs [f4, f11, f12, pstep, b2, putCells]
        exact fin' _ (by simp [f4]))
  subst hR1
  obtain ⟨x1, x2, x3⟩ := hR
  exact ⟨SF, H', hc, x1, x2, x3⟩

end Ps
