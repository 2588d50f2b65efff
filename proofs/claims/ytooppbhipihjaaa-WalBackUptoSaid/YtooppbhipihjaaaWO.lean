/- The law that records are read back. -/
import Derived.Test.YtooppbhipihjaaaWN
namespace Ps
set_option linter.unusedSimpArgs false
set_option linter.unusedVariables false
open Go

theorem law_WalBack (xs : denL [tyRec, .sl (.int .u8)]) (h : wfL [tyRec, .sl (.int .u8)] xs) (hb : bulkL [tyRec, .sl (.int .u8)] xs ≤ 1048576) : ∃ S', cval T 488 (pvL [tyRec, .sl (.int .u8)] xs) St0 = some (.bool true, S') := by
  obtain ⟨x, b, u⟩ := xs
  obtain ⟨wx, wb, _⟩ := h
  have hb' : tyRec.bulk x + ((Ty.sl (.int .u8)).bulk b + 0) ≤ 1048576 := hb
  have b1 := inB_len b
  have hvb := inB_isl wb
  obtain ⟨⟨cs, hcs, hR⟩, l1, l2, l3⟩ := inR_rec wx (by omega)
  refine ⟨St0, ?_⟩
  show cval T 488 [tyRec.pv x, (Ty.sl (.int .u8)).pv b] St0 = _
  rw [hcs]
  generalize (Ty.sl (.int .u8)).pv b = v2 at hvb
  generalize inR x = r at *
  generalize inB b = B at *
  obtain ⟨c6, ca⟩ := recC_all hR
  have cp6 := pt_all c6
  have chk1 := reccheck_val hR
  have s0 : St0.objs = [] := rfl
  have s0t : St0.tips = [] := rfl
  obtain ⟨q1, f1, f2⟩ := of_val hvb (by omega) St0
  have f3 := ofIs_of f2
  -- what follows the first reading
  have rest : ∀ cs1 : List PV, cs1.length = 6 → cs1.all PV.one = true → ∀ fr : Fr, fr 2 = .ref cs →
      Ok (gval T [.ops law11_WalBack_r6, .clr [(34, 39)], .code (.seq (.seq (.clr [(39, 40)] (.region law11_WalBack_r7)) (.cond (.tmp 40) (.seq (.clr [(41, 53)] (.region law11_WalBack_r8)) .ret) .skip)) (.seq (.clr [(53, 58)] (.region law11_WalBack_r9)) (.seq (.clr [(58, 68)] (.region law11_WalBack_r10)) .ret)))] fr ⟨[cs1], []⟩) (Ends [.tmp 4] false St0 (.bool true) St0) := by
    intro cs1 d6 da fr h2
    have hge1 : Grows St0 ⟨[cs1], []⟩ := ⟨[cs1], [], rfl⟩
    by_cases hN : recN r = 0
    · obtain ⟨w, e1, e2⟩ := recB_ok hR hN ⟨[cs1], []⟩
      have hl := recB_len hN
      obtain ⟨q, g1, g2⟩ := of_val e2.isl (by omega) ⟨[cs1], []⟩
      rcases ofIs_of g2 with ⟨r', cs2, k1, k2, k3, rfl⟩ | ⟨k1, rfl⟩
      · have := recB_inj k1 hN k2
        subst this
        obtain ⟨i6, ia⟩ := recC_all k3
        have ip6 := pt_all i6
        have puti : putCells [.int .i64 0, .nils, .nils, .nils, .int .i64 0, .int .i64 0] 0 cs2 = cs2 := put_all (by rw [i6]; rfl)
        have ld1 : ∀ (tp : List (Nat × Nat)), loadP ⟨[cs1, cs2], tp⟩ true 6 (.ptr 1 0) = some (.agg cs2) := fun tp => by
          have := loadP_ptr (S := ⟨[cs1, cs2], tp⟩) (ag := true) (n := 6) (id := 1) (off := 0) (cs := cs2) rfl
          rw [this]; exact ip6
        have hsame := same11_val k3 hR ⟨by omega, by omega⟩
        have hge : Grows St0 ⟨[cs1, cs2], []⟩ := ⟨[cs1, cs2], [], rfl⟩
        simp -implicitDefEqProofs [-List.all_eq_true, h2, cp6, e1, g1, pstep, ia, i6, puti, ld1, hsame, lives_pval]
        exact fin_gb hge
      · exact absurd rfl (k1 r hN)
    · have e1 := recB_no hR hN ⟨[cs1], []⟩
      have hn1 : ((recN r : Int) != 0) = true := by simpa using hN
      simp -implicitDefEqProofs [-List.all_eq_true, h2, cp6, e1, hn1, chk1, lives_pval]
      exact fin_gb hge1
  refine cval_ok' fn_493 rfl ?_
  rcases f3 with ⟨r', cs1, k1, k2, k3, rfl⟩ | ⟨k1, rfl⟩
  · obtain ⟨e6, ea⟩ := recC_all k3
    have ep6 := pt_all e6
    have pute : putCells [.int .i64 0, .nils, .nils, .nils, .int .i64 0, .int .i64 0] 0 cs1 = cs1 := put_all (by rw [e6]; rfl)
    have ld0 : ∀ (tp : List (Nat × Nat)), loadP ⟨[cs1], tp⟩ true 6 (.ptr 0 0) = some (.agg cs1) := fun tp => by
      have := loadP_ptr (S := ⟨[cs1], tp⟩) (ag := true) (n := 6) (id := 0) (off := 0) (cs := cs1) rfl
      rw [this]; exact ep6
    obtain ⟨w, y1, y2⟩ := recB_ok k3 k1 ⟨[cs1], []⟩
    have t1 := toStr_of y2.isl
    have t2 := toStr_of hvb
    rw [k2] at t1
    simp -implicitDefEqProofs [-List.all_eq_true, -law11_WalBack_r6_go, law11_WalBack, ca, c6, s0, s0t, f1, pstep, ea, e6, pute, ld0, y1, t1, t2]
    refine rest cs1 e6 ea _ (by simp)
  · have pute : putCells [.int .i64 0, .nils, .nils, .nils, .int .i64 0, .int .i64 0] 0 emptyC = emptyC := rfl
    have e6 : emptyC.length = 6 := rfl
    have ea : emptyC.all PV.one = true := rfl
    simp -implicitDefEqProofs [-List.all_eq_true, -law11_WalBack_r6_go, law11_WalBack, ca, c6, s0, s0t, f1, pstep, ea, e6, pute]
    refine rest emptyC e6 ea _ (by simp)
end Ps
