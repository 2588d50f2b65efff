/- Reading a pattern, and checking one. -/
import Derived.Test.YtmhigcjhjmcpcaaRxJ
namespace Ps
set_option linter.unusedSimpArgs false
set_option linter.unusedVariables false
open Go

theorem fn_122 : T.fn 122 = some (.code regex_read) := rfl
theorem fn_125 : T.fn 125 = some (.code regex_Check) := rfl

/-- What is wrong with a pattern. -/
def chkP (p : List UInt8) : Nat := if 64 < p.length then 3 else match patW p with | some (_, d, []) => if 8 < d then 15 else 0 | _ => 14
/-- A pattern's tree as a value. -/
def ReadsV (p : List UInt8) (v : PV) : Prop := if chkP p = 0 then ∃ x d, patW p = some (x, d, []) ∧ NdR x v else v = .nili

mutual
theorem frz_frz : ∀ v : PV, v.frz.frz = v.frz
  | .und => rfl
  | .int .. => rfl
  | .bool .. => rfl
  | .str .. => rfl
  | .nilp => rfl
  | .nils => rfl
  | .nili => rfl
  | .nilf => rfl
  | .ptr .. => rfl
  | .osl .. => rfl
  | .ref cs => by simp only [PV.frz, frz_frzL cs]
  | .sl t a b => by simp only [PV.frz, frz_frzL a, frz_frzL b]
  | .iface t v => by simp only [PV.frz, frz_frz v]
  | .agg cs => by simp only [PV.frz, frz_frzL cs]
  | .tup cs => by simp only [PV.frz, frz_frzL cs]
  | .fn f cs => by simp only [PV.frz, frz_frzL cs]
theorem frz_frzL : ∀ l : List PV, PV.frzL (PV.frzL l) = PV.frzL l
  | [] => rfl
  | v :: l => by simp only [PV.frzL, frz_frz v, frz_frzL l]
end

theorem read_val (p : List UInt8) : ∃ v, pval T 122 [.str p] = some (.tup [v, .int .i64 (chkP p)]) ∧ v.free = true ∧ v.frz = v ∧ ReadsV p v := by
  have key : ∃ v, v.free = true ∧ ReadsV p v ∧ cval T 122 [.str p] St0 = some (.tup [v.frz, .int .i64 (chkP p)], St0) := by
    have hb : ∀ q : Prop, q → q := fun _ h => h
    by_cases h64 : 64 < p.length
    · have hc : chkP p = 3 := by unfold chkP; rw [if_pos h64]
      refine ⟨.nili, rfl, ?_, ?_⟩
      · unfold ReadsV; rw [hc]; rfl
      refine cval_ok' fn_122 rfl ?_
      have h64' : (64 : Int) < (p.length : Int) := by omega
      rw [hc]
      simp -implicitDefEqProofs [regex_read, h64']
    · obtain ⟨v, r', t, e1, f1, f2, o1⟩ := patOk p 0 0 [] (by omega) (by omega) (by omega)
      have h64' : ¬ (64 : Int) < (p.length : Int) := by omega
      rw [List.nil_append] at e1
      have e1' : cval T 222 [.ptr 0 0] ⟨[[.str p, .int .i64 0, .int .i64 0, .bool false]], []⟩ = some (v, ⟨[rc r'], t⟩) := e1
      have fin : ∀ (S1 : St) (e : Int) (w : PV), w.free = true → finish false ⟨[], []⟩ S1 (.tup [w, .int .i64 e]) = (.tup [w.frz, .int .i64 e], ⟨[], []⟩) := by
        intro S1 e w hw
        have := finish_pur_free (S1 := S1) (r := .tup [w, .int .i64 e]) (by simp [PV.free, PV.freeL, hw])
        simpa [PV.frz, PV.frzL, St0] using this
      by_cases hp : ∃ x d, patW p = some (x, d, [])
      · obtain ⟨x, d, hp⟩ := hp
        rw [hp] at o1
        obtain ⟨rfl, o2⟩ := o1
        have hc : chkP p = if 8 < d then 15 else 0 := by unfold chkP; rw [if_neg h64, hp]
        by_cases h8 : 8 < d
        · rw [if_pos h8] at hc
          refine ⟨.nili, rfl, by unfold ReadsV; rw [hc]; rfl, ?_⟩
          refine cval_ok' fn_122 rfl ?_
          have h8' : (8 : Int) < max 0 (0 + (d : Int)) := by omega
          have h8'' : (8 : Int) < (d : Int) := by omega
          rw [hc]
          simp -implicitDefEqProofs [regex_read, h64', peval, fillParts, putCells, pstep, St0, e1', h8', h8'']
          exact fin _ _ .nili rfl
        · rw [if_neg h8] at hc
          refine ⟨v, f1, by unfold ReadsV; rw [if_pos hc]; exact ⟨x, d, hp, o2⟩, ?_⟩
          refine cval_ok' fn_122 rfl ?_
          have h8' : ¬ (8 : Int) < max 0 (0 + (d : Int)) := by omega
          have h8'' : ¬ (8 : Int) < (d : Int) := by omega
          rw [hc]
          simp -implicitDefEqProofs [regex_read, h64', peval, fillParts, putCells, pstep, St0, e1', h8', h8'']
          exact fin _ _ v f1
      · have hc : chkP p = 14 := by
          unfold chkP; rw [if_neg h64]
          split
          · rename_i x d q; exact absurd ⟨x, d, q⟩ hp
          · rfl
        refine ⟨.nili, rfl, by unfold ReadsV; rw [hc]; rfl, ?_⟩
        refine cval_ok' fn_122 rfl ?_
        rw [hc]
        have hbad : r'.bad = true ∨ (r'.bad = false ∧ r'.p ≠ []) := by
          cases hq : patW p with
          | none => rw [hq] at o1; exact .inl o1
          | some q =>
            obtain ⟨x, d, rr⟩ := q
            rw [hq] at o1
            refine .inr ⟨by rw [o1.1], ?_⟩
            rw [o1.1]
            simp only
            rintro rfl
            exact hp ⟨x, d, hq⟩
        rcases hbad with hb | ⟨hb, hne⟩
        · simp -implicitDefEqProofs [regex_read, h64', peval, fillParts, putCells, pstep, St0, e1', hb]
          exact fin _ _ .nili rfl
        · simp -implicitDefEqProofs [regex_read, h64', peval, fillParts, putCells, pstep, St0, e1', hb, hne, show r'.p.isEmpty = false from (by simpa using hne)]
          exact fin _ _ .nili rfl
  obtain ⟨v, h1, h2, h3⟩ := key
  refine ⟨v.frz, ?_, frz_free _ h1, ?_, ?_⟩
  · exact pval_st h3 (by simp [PV.free, PV.freeL, frz_free _ h1]) (by simp [PV.frz, PV.frzL, frz_frz])
  · exact frz_frz v
  · unfold ReadsV at h2 ⊢
    split at h2
    · rename_i q
      rw [if_pos q]
      obtain ⟨x, d, a, b⟩ := h2
      exact ⟨x, d, a, b.frz⟩
    · rename_i q
      rw [if_neg q]
      rw [h2]; rfl

theorem check_pval (p : List UInt8) : pval T 125 [.str p] = some (.int .i64 (chkP p)) := by
  obtain ⟨v, h1, h2, h3, _⟩ := read_val p
  refine pval_st ?_ rfl rfl
  refine cval_ok' fn_125 rfl ?_
  simp -implicitDefEqProofs [regex_Check, h1]
end Ps
