/- The law LabelPicks. -/
import Derived.Test.YtfimbhaiegkkeaaLF
namespace Ps
set_option linter.unusedSimpArgs false
open Go

def behindL : Lab := ([98, 101, 104, 105, 110, 100], [], ())
def ownV (l : List Lab) : PV := .sl none (l.map labV) [labV behindL]

theorem own_val {l : List Lab} {v : PV} (ha : appended 2 v = some (l.map labV)) (hl : lenP false v = some (.int .i64 l.length)) (hn : l.length ≤ 1048576) (S : St) : cval T 33 [v] S = some (ownV l, S) := by
  obtain ⟨v1, S1, a1, a2, a3⟩ := (accg_new 2 [] (Grows.refl S)).app (bytes := 32) (l.map labV) (by simp; omega)
  obtain ⟨v2, S2, b1, b2, b3⟩ := (a2.arrs [(1, 2)]).app (bytes := 32) [labV behindL] (by simp; omega)
  have hv2 : ∃ id, v2 = .sl (some (id, (l.map labV).length + 1)) (l.map labV ++ [labV behindL]) [] := by
    rcases b2.acc with ⟨_, h⟩ | ⟨id, _, h, _⟩
    · simp at h
    · exact ⟨id, by rw [h]; simp⟩
  obtain ⟨id, rfl⟩ := hv2
  simp only [List.length_nil] at a1
  have hb : labV behindL = .agg [.str [98, 101, 104, 105, 110, 100], .str []] := rfl
  rw [hb] at b1
  refine cval_ok' fn_33 rfl ?_
  have hz : szOk 2 (l.map labV ++ [labV behindL]) = true := by cases l <;> rfl
  rw [hb] at hz
  simp -implicitDefEqProofs [law06_own, pstep, elems, setParts, ha, hl, a1, peval, fillParts, putCells, b1, hz, bounds_hi (len := l.length + 1) (cap := l.length + 1) (h := l.length) (by omega)]
  have hgr := b2.grows
  rw [fin_free hgr (by simp [PV.free, labs_free, PV.freeL])]
  simp [PV.frz, PV.frzL, labs_frz, ownV, hb]

theorem own_reads (l : List Lab) : Reads1 2 (ownV l) (l.map labV) := reads_sl (labs_cells l)

theorem kept_val {l : List Lab} {v : PV} (hv : Reads1 2 v (l.map labV)) (hn : l.length ≤ 1048576) (S : St) : cval T 39 [ownV l, v] S = some (.bool true, S) := by
  refine cval_ok' fn_39 rfl ?_
  have hs := same_val (own_reads l) hv (by unfold maxLen; omega) S
  have hc : cmpL l l = 0 := cmpL_zero.2 rfl
  rw [hc] at hs
  have hw := wrap_len (a := l.length) (by omega)
  have hlen := hv.len
  rw [List.length_map] at hlen
  have hz : szOk 2 (l.map labV ++ [labV behindL]) = true := by cases l <;> rfl
  have hb : labV behindL = .agg [.str [98, 101, 104, 105, 110, 100], .str []] := rfl
  have hbo : bounds l.length (l.length + 1) none (some (.int .i64 ((l.length : Int) + 1))) = some (0, l.length + 1) := bounds_hi (len := l.length) (cap := l.length + 1) (h := l.length + 1) (k := .i64) (by omega)
  simp -implicitDefEqProofs [law06_kept, hs, hlen, hw]
  simp -implicitDefEqProofs [ownV, hz, hbo]
  have he : (l.map labV ++ [labV behindL])[l.length]? = some (labV behindL) := by simp
  simp -implicitDefEqProofs [hb, p1]
  rfl

/-- Texts as they come in. -/
def inS (x : (Ty.sl .str).den) : List (List UInt8) := match x with | none => [] | some q => q.1
theorem inS_reads (x : (Ty.sl .str).den) : Reads1 1 ((Ty.sl .str).pv x) (strsV (inS x)) ∧ ((Ty.sl .str).pv x).cells = [(Ty.sl .str).pv x] ∧ ((Ty.sl .str).pv x).one = true := by
  cases x with
  | none => exact ⟨reads_nils 1, rfl, rfl⟩
  | some q =>
    obtain ⟨es, sp⟩ := q
    refine ⟨reads_sl (es := strsV es) (fun e he => ?_), rfl, rfl⟩
    obtain ⟨x, _, rfl⟩ := List.mem_map.1 he
    rfl
theorem len_le_bulk (t : Ty) (h : ∀ x : t.den, 1 ≤ t.bulk x) : ∀ l : List t.den, l.length ≤ (l.map t.bulk).sum
  | [] => Nat.le_refl _
  | x :: l => by
    have := len_le_bulk t h l
    have := h x
    simp only [List.length_cons, List.map_cons, List.sum_cons]; omega
theorem inS_len (x : (Ty.sl .str).den) : (inS x).length ≤ (Ty.sl .str).bulk x := by
  cases x with
  | none => exact Nat.zero_le _
  | some q =>
    obtain ⟨es, sp⟩ := q
    have h : es.length ≤ (es.map (Ty.bulk .str)).sum := len_le_bulk .str (fun _ => Nat.succ_le_succ (Nat.zero_le _)) es
    show es.length ≤ (es.map (Ty.bulk .str)).sum + (sp.map (Ty.bulk .str)).sum + 1
    omega
theorem inL_len (x : (Ty.sl tyLab).den) : (inL x).length ≤ (Ty.sl tyLab).bulk x := by
  cases x with
  | none => exact Nat.zero_le _
  | some q =>
    obtain ⟨es, sp⟩ := q
    have h : es.length ≤ (es.map (Ty.bulk tyLab)).sum := len_le_bulk tyLab (fun _ => Nat.succ_le_succ (Nat.zero_le _)) es
    show es.length ≤ (es.map (Ty.bulk tyLab)).sum + (sp.map (Ty.bulk tyLab)).sum + 1
    omega
theorem inL_app (x : (Ty.sl tyLab).den) : appended 2 ((Ty.sl tyLab).pv x) = some ((inL x).map labV) := by
  cases x with
  | none => rfl
  | some q =>
    obtain ⟨es, sp⟩ := q
    have : szOk 2 (es.map labV) = true := szOk_labs es
    show (if szOk 2 (es.map labV) then some (es.map labV) else none) = _
    rw [if_pos this]; rfl

theorem fn_7 : T.fn 7 = some (.code law06_LabelPicks) := rfl

theorem law_LabelPicks (xs : denL [.sl tyLab, .sl .str, .str]) (h : wfL [.sl tyLab, .sl .str, .str] xs) (hb : bulkL [.sl tyLab, .sl .str, .str] xs ≤ 1048576) : ∃ S', cval T 7 (pvL [.sl tyLab, .sl .str, .str] xs) St0 = some (.bool true, S') := by
  obtain ⟨l, m, s, u⟩ := xs
  have hb' : (Ty.sl tyLab).bulk l + ((Ty.sl .str).bulk m + (Ty.str.bulk s + 0)) ≤ 1048576 := hb
  have b1 := inL_len l
  have b2 := inS_len m
  have hv := inL_reads l
  have hva := inL_app l
  obtain ⟨hm, hm1, hm2⟩ := inS_reads m
  refine ⟨St0, ?_⟩
  show cval T 7 [(Ty.sl tyLab).pv l, (Ty.sl .str).pv m, .str s] St0 = _
  generalize (Ty.sl tyLab).pv l = v at hv hva
  generalize (Ty.sl .str).pv m = v2 at hm hm1 hm2
  generalize hl : inL l = L at *
  generalize hn : inS m = N at *
  have hL : L.length ≤ 1048576 := by omega
  have hL2 : L.length ≤ maxLen := by unfold maxLen; omega
  have hN : N.length ≤ maxLen := by unfold maxLen; omega
  have hlen := hv.len
  rw [List.length_map] at hlen
  have o1 := own_val hva hlen hL St0
  have g1 := get_val (name := s) (own_reads L) hL2 St0
  have g2 := rget_val (name := s) hv hL2 St0
  obtain ⟨k1, ke, kr⟩ := keep_val (own_reads L) hL hm hN hm1 hm2 St0
  obtain ⟨d1, de, dr⟩ := drop_val (own_reads L) hL hm hN hm1 hm2 St0
  obtain ⟨p1v, pe, pr⟩ := pick_val (b := true) hv hL hm hN St0
  obtain ⟨p2v, qe, qr⟩ := pick_val (b := false) hv hL hm hN St0
  have e1 : (L.filter fun x => N.contains x.1 == true) = L.filter fun x => N.contains x.1 := by congr 1; funext x; simp
  have e2 : (L.filter fun x => N.contains x.1 == false) = L.filter fun x => !N.contains x.1 := by congr 1; funext x; simp
  rw [e1] at pr
  rw [e2] at qr
  have l1 : (L.filter fun x => N.contains x.1).length ≤ maxLen := Nat.le_trans (List.length_filter_le _ _) hL2
  have l2 : (L.filter fun x => !N.contains x.1).length ≤ maxLen := Nat.le_trans (List.length_filter_le _ _) hL2
  have s1 := same_val kr.reads pr.reads l1 St0
  have s2 := same_val dr.reads qr.reads l2 St0
  rw [cmpL_zero.2 rfl] at s1 s2
  have kk := kept_val hv hL St0
  generalize ownV L = ov at *
  refine cval_ok' fn_7 rfl ?_
  simp -implicitDefEqProofs [law06_LabelPicks, o1, g1, g2, ke, de, pe, qe, s1, s2, kk, lives_pval]
end Ps
