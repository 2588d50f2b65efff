/- The law of LabelTexts. -/
import Derived.Test.YtfimbhaiegkkeaaLX
namespace Ps
set_option linter.unusedSimpArgs false
open Go

theorem rparse_val {s : List UInt8} (hs : s.length ≤ 10000000) (S : St) : ∃ r, cval T 23 [.str s] S = some (r, S) ∧ ParsesTo (rparL s) r := by
  have key := cval_ex (T := T) (f := 23) (c := ref06_Parse) fn_23 (args := [.str s]) (S := S) rfl (R := fun r S2 => S2 = S ∧ ParsesTo (rparL s) r) ?_
  · obtain ⟨r, S2, h1, rfl, h2⟩ := key
    exact ⟨r, h1, h2⟩
  generalize hR : rparL s = R
  unfold rparL at hR
  have fin_no : ∀ (S' : St), R = none → Grows S S' → (finish false S S' (.tup [.nils, .int .i64 14])).2 = S ∧ ParsesTo R (finish false S S' (.tup [.nils, .int .i64 14])).1 := by
    intro S' hR hg
    rw [fin_free hg rfl]
    exact ⟨rfl, .nils, by rw [hR]; rfl, by rw [hR]; exact nilL⟩
  cases s with
  | nil =>
    have hck := rcheck_val (l := []) (v := .nils) (reads_nils 2) (fun x hx => by simp at hx) (by simp) S
    have hpr := rprint_val (l := []) (v := .nils) (reads_nils 2) (by simp [wid]) S
    have c0 : checkN [] = 0 := by rw [checkN, if_neg (by decide), chkIdx, dif_neg (by decide)]
    rw [c0] at hck
    have hck' : cval T 98 [.nils] S = some (.int .i64 0, S) := hck
    have hpr' : cval T 25 [.nils] S = some (.str [123, 125], S) := hpr
    have hRn : R = none := by rw [← hR]; simp [printT]
    simp -implicitDefEqProofs [ref06_Parse]
    rw [gval_lp]
    simp -implicitDefEqProofs [hck', hpr']
    exact fin_no S hRn (Grows.refl S)
  | cons c r =>
    rw [if_neg (by simp)] at hR
    simp only [List.length_cons, List.drop_succ_cons, List.drop_zero] at hR hs
    simp -implicitDefEqProofs [ref06_Parse]
    refine rpa_loop (s := c :: r) (by simp; omega) (S0 := S) (r.length + 1 + 1) r [c] [] rfl (by omega) (by simp [wid]; omega) _ _ (by simp) (by simp) (by simpa using accg_nil 2 (Grows.refl S)) (fun l' g gw fr' S' x0' xa => ?_) (fun g fr' S' xg x2 x3 => ?_)
    · rw [g] at hR
      simp only at hR
      have hre := (xa.isSl (labs_cells _)).reads
      have hwl := wid_len l'
      have hck := rcheck_val hre (fun x hx => by have := wid_mem hx; unfold maxLen; omega) (by unfold maxLen; omega) S'
      have hpr := rprint_val hre (by omega) S'
      by_cases c1 : checkN l' = 0
      · rw [c1] at hck
        by_cases c2 : printT l' = c :: r
        · rw [if_pos ⟨c1, c2⟩] at hR
          rw [c2] at hpr
          have hck' : cval T 98 [fr' 4] S' = some (.int .i64 0, S') := hck
          have hfin := res_fin2 (e := 0) xa
          have hfin' : finish false S S' (.tup [fr' 4, .int .i64 0]) = (.tup [slF (fr' 4) (l'.map labV), .int .i64 0], S) := hfin
          simp -implicitDefEqProofs [x0', hck', hpr, hfin']
          exact ⟨_, by rw [← hR]; rfl, by rw [← hR]; exact slF_lab xa⟩
        · rw [if_neg (fun q => c2 q.2)] at hR
          have c2' : (printT l' == c :: r) = false := by simpa using c2
          have hck' : cval T 98 [fr' 4] S' = some (.int .i64 0, S') := hck
          simp -implicitDefEqProofs [x0', hck', hpr, c2']
          exact fin_no S' hR.symm xa.grows
      · rw [if_neg (fun q => c1 q.1)] at hR
        have c1' : ((checkN l' : Int) != 0) = true := by simpa using c1
        simp -implicitDefEqProofs [x0', hck, c1']
        exact fin_no S' hR.symm xa.grows
    · rw [g] at hR
      simp only at hR
      simp -implicitDefEqProofs [x2, x3]
      exact fin_no S' hR.symm xg

theorem bulk_lab (x : Lab) : Ty.bulk tyLab x = (x.1.length + 1) + ((x.2.1.length + 1) + Ty.bulk .unit x.2.2) + 1 := rfl
theorem wid_bulk : ∀ l : List Lab, wid l ≤ 5 * (l.map (Ty.bulk tyLab)).sum
  | [] => by simp [wid]
  | x :: l => by
    have := wid_bulk l
    have h : x.1.length + 4 * x.2.1.length + 5 ≤ 5 * Ty.bulk tyLab x := by rw [bulk_lab]; omega
    show x.1.length + 4 * x.2.1.length + 5 + wid l ≤ 5 * (Ty.bulk tyLab x + (l.map (Ty.bulk tyLab)).sum)
    omega
theorem inL_wid (x : (Ty.sl tyLab).den) : wid (inL x) ≤ 5 * (Ty.sl tyLab).bulk x := by
  cases x with
  | none => exact Nat.zero_le _
  | some q =>
    obtain ⟨es, sp⟩ := q
    have h : wid es ≤ 5 * (es.map (Ty.bulk tyLab)).sum := wid_bulk es
    show wid es ≤ 5 * ((es.map (Ty.bulk tyLab)).sum + (sp.map (Ty.bulk tyLab)).sum + 1)
    omega

theorem parses_pv {f : Nat} {s : List UInt8} {x : Option (List Lab)} (h : ∃ r, cval T f [.str s] St0 = some (r, St0) ∧ ParsesTo x r) : ∃ v, pval T f [.str s] = some (.tup [v, .int .i64 (okN x : Int)]) ∧ SlL v (x.getD []) := by
  obtain ⟨r, h1, v, rfl, h2⟩ := h
  exact ⟨v, pval_st h1 (by simp [PV.free, PV.freeL, h2.free]) (by simp [PV.frz, PV.frzL, h2.frz]), h2⟩

theorem fn_4 : T.fn 4 = some (.code law06_LabelTexts) := rfl
theorem rparse_same {s : List UInt8} (hs : s.length ≤ 10000000) (S : St) : ∃ r, cval T 23 [.str s] S = some (r, S) ∧ ParsesTo (parL s) r := by
  have := rparse_val hs S
  rw [par_same] at this
  exact this

theorem law_LabelTexts (xs : denL [.sl tyLab, .str]) (h : wfL [.sl tyLab, .str] xs) (hb : bulkL [.sl tyLab, .str] xs ≤ 1048576) : ∃ S', cval T 4 (pvL [.sl tyLab, .str] xs) St0 = some (.bool true, S') := by
  obtain ⟨l, s, u⟩ := xs
  have hb' : (Ty.sl tyLab).bulk l + ((s.length + 1) + 0) ≤ 1048576 := hb
  have b2 := inL_wid l
  have hv := inL_reads l
  refine ⟨St0, ?_⟩
  show cval T 4 [(Ty.sl tyLab).pv l, .str s] St0 = _
  generalize (Ty.sl tyLab).pv l = v at hv
  generalize inL l = L at *
  have p1' := print_val hv (by omega) St0
  have p2' := rprint_val hv (by omega) St0
  obtain ⟨v1, q1, s1⟩ := parses_pv (parse_val (s := s) (by omega) St0)
  have hrp := rparse_same (s := s) (by omega) St0
  obtain ⟨v2, q2, s2⟩ := parses_pv hrp
  have hlen : ((parL s).getD []).length ≤ maxLen := by
    cases h : parL s with
    | none => simp
    | some l' =>
      have := (checkN_zero.1 (parL_some h).1).1
      unfold maxLen; simp; omega
  have hsm := same_val s1.reads s2.reads hlen St0
  rw [cmpL_zero.2 rfl] at hsm
  have hsm' : cval T 26 [v1, v2] St0 = some (.bool true, St0) := hsm
  refine cval_ok' fn_4 rfl ?_
  simp -implicitDefEqProofs [law06_LabelTexts, q1, q2, p1', p2', hsm', lives_pval]
end Ps
