/- The laws on records and their bytes, whole. -/
import Derived.Test.YtooppbhipihjaaaWM
namespace Ps
set_option linter.unusedSimpArgs false
set_option linter.unusedVariables false
open Go

abbrev tyRow : Ty := .st (.pair (.int .i64) (.pair (.st (.pair (.int .i64) (.pair (.int .i64) .unit))) .unit))
abbrev tyRec : Ty := .st (.pair (.int .i64) (.pair (.sl tyLab) (.pair (.sl tyRow) (.pair (.sl (.int .i64)) (.pair (.int .i64) (.pair (.int .i64) .unit))))))

def inS {e : Ty} (x : (Ty.sl e).den) : List e.den := match x with | none => [] | some q => q.1
theorem inS_isl {e : Ty} (he : e.isTy = true) (x : (Ty.sl e).den) : IsSl e.n ((Ty.sl e).pv x) ((inS x).map e.pv) := by
  cases x with
  | none => exact .inl ⟨rfl, rfl⟩
  | some q =>
    obtain ⟨es, sp⟩ := q
    refine .inr ⟨none, sp.map e.pv, rfl, fun v hv => ?_⟩
    rcases List.mem_append.1 hv with hv | hv
    · obtain ⟨y, _, rfl⟩ := List.mem_map.1 hv
      rw [pv_cells he, emb_len]
    · obtain ⟨y, _, rfl⟩ := List.mem_map.1 hv
      rw [pv_cells he, emb_len]
theorem inS_len {e : Ty} (h : ∀ x : e.den, 1 ≤ e.bulk x) (x : (Ty.sl e).den) : (inS x).length ≤ (Ty.sl e).bulk x := by
  cases x with
  | none => exact Nat.zero_le _
  | some q =>
    obtain ⟨es, sp⟩ := q
    have := len_le_bulk e h es
    show es.length ≤ (es.map e.bulk).sum + (sp.map e.bulk).sum + 1
    omega
def inRow (x : tyRow.den) : RowM := (x.1, x.2.1.1, x.2.1.2.1)
def inR (x : tyRec.den) : RecM := ⟨x.1, inL x.2.1, (inS x.2.2.1).map inRow, inS x.2.2.2.1, x.2.2.2.2.1, x.2.2.2.2.2.1⟩
theorem inR_rec {x : tyRec.den} (h : tyRec.wf x) (hb : tyRec.bulk x ≤ 1048576) : (∃ cs, tyRec.pv x = .agg cs ∧ RecC (inR x) cs) ∧ (inR x).labs.length ≤ 1048576 ∧ (inR x).rows.length ≤ 1048576 ∧ (inR x).ids.length ≤ 1048576 := by
  obtain ⟨k, l, rows, ids, lo, hi, u⟩ := x
  obtain ⟨_, wl, _⟩ := h
  have hb' : 1 + ((Ty.sl tyLab).bulk l + ((Ty.sl tyRow).bulk rows + ((Ty.sl (.int .i64)).bulk ids + (1 + (1 + 0))))) + 1 ≤ 1048576 := hb
  have b1 := inL_len l
  have b2 := inS_len (e := tyRow) (fun _ => Nat.succ_le_succ (Nat.zero_le _)) rows
  have b3 := inS_len (e := .int .i64) (fun _ => Nat.le_refl _) ids
  obtain ⟨_, wn⟩ := inL_wf wl
  have e1 : (inR (k, l, rows, ids, lo, hi, u)).labs.length = (inL l).length := rfl
  have e2 : (inR (k, l, rows, ids, lo, hi, u)).rows.length = (inS rows).length := List.length_map ..
  have e3 : (inR (k, l, rows, ids, lo, hi, u)).ids.length = (inS ids).length := rfl
  refine ⟨⟨_, rfl, ⟨(Ty.sl tyLab).pv l, (Ty.sl tyRow).pv rows, (Ty.sl (.int .i64)).pv ids, ?_, ?_, ?_, ?_⟩, ?_⟩, by omega, by omega, by omega⟩
  · have q : ∀ (e : Ty) (y : (Ty.sl e).den), (Ty.sl e).emb y = [(Ty.sl e).pv y] := fun e y => by cases y <;> rfl
    show [PV.int .i64 k] ++ ((Ty.sl tyLab).emb l ++ ((Ty.sl tyRow).emb rows ++ ((Ty.sl (.int .i64)).emb ids ++ ([PV.int .i64 lo] ++ ([PV.int .i64 hi] ++ []))))) = _
    rw [q, q, q]; rfl
  · have := inS_isl (e := tyLab) rfl l
    have e : (inS l).map tyLab.pv = (inL l).map labV := by cases l <;> rfl
    rw [e] at this; exact this
  · have := inS_isl (e := tyRow) rfl rows
    have e : (inS rows).map tyRow.pv = ((inS rows).map inRow).map rowV := by
      rw [List.map_map]
      apply List.map_congr_left
      intro y _
      rfl
    rw [e] at this; exact this
  · exact inS_isl (e := .int .i64) rfl ids
  · refine ⟨maxLen_ge (by omega), maxLen_ge (by omega), maxLen_ge (by omega), fun y hy => (wn y hy).1⟩

theorem recB_len {r : RecM} (h : recN r = 0) : (recB r).length ≤ 100000 := by
  rcases recN_full h with ⟨l, rfl, z⟩ | ⟨l, rfl, z⟩ | ⟨l, x, y, rfl, z, z1, z2, z3⟩
  · obtain ⟨h1, h2, _⟩ := checkN_zero.1 z
    have a := labs_flat_len h2
    have b := uintB_le9 (n := l.length) (by omega)
    have c := uintB_le9 (n := 1) (by omega)
    have he : recB ⟨1, l, [], [], 0, 0⟩ = uintB 1 ++ (uintB l.length ++ l.flatMap lab1B) := by simp [recB, labsB]
    rw [he]; simp only [List.length_append]; omega
  · obtain ⟨y1, y2, y3⟩ := rowsN_ok z
    have a : ∀ l : List RowM, (∀ x ∈ l, rowOk x) → (l.flatMap rowB).length ≤ 27 * l.length := by
      intro l
      induction l with
      | nil => intro _; simp
      | cons x l ih =>
        intro h
        have := ih (fun y hy => h y (by simp [hy]))
        have := rowB_len (h x (by simp))
        simp only [List.flatMap_cons, List.length_append, List.length_cons]; omega
    have := a l y3
    have b := uintB_le9 (n := l.length) (by omega)
    have c := uintB_le9 (n := 2) (by omega)
    have he : recB ⟨2, [], l, [], 0, 0⟩ = uintB 2 ++ (uintB l.length ++ l.flatMap rowB) := by simp [recB]
    rw [he]; simp only [List.length_append]; omega
  · obtain ⟨p1, p2⟩ := postN_asc z
    have q1 := postD_len l 0 (by omega) p2
    have q2 := uintB_le9 (n := l.length) (by omega)
    have q3 := uintB_le9 (n := x.toNat) (by omega)
    have q4 := uintB_le9 (n := y.toNat) (by omega)
    have c := uintB_le9 (n := 3) (by omega)
    have he : recB ⟨3, [], [], l, x, y⟩ = uintB 3 ++ (uintB l.length ++ (postD 0 l ++ (uintB x.toNat ++ uintB y.toNat))) := by simp [recB, postB]
    rw [he]; simp only [List.length_append]; omega

theorem recC_lens {r : RecM} (h : recN r = 0) : r.labs.length ≤ 100000000 ∧ r.rows.length ≤ 100000000 ∧ r.ids.length ≤ 100000000 := by
  rcases recN_full h with ⟨l, rfl, z⟩ | ⟨l, rfl, z⟩ | ⟨l, x, y, rfl, z, z1, z2, z3⟩
  · obtain ⟨h1, h2, _⟩ := checkN_zero.1 z
    simp; omega
  · obtain ⟨y1, y2, y3⟩ := rowsN_ok z
    simp; omega
  · obtain ⟨p1, p2⟩ := postN_asc z
    simp; omega
theorem rec0_C : RecC ⟨0, [], [], [], 0, 0⟩ emptyC := rec_nil 0

/-- Two records that were read are the same. -/
theorem ofIs_two {s : List UInt8} {x y : PV} (h : OfIs s x) (k : OfIs s y) : ∃ r cs ds e, x = .tup [.agg cs, .int .i64 e] ∧ y = .tup [.agg ds, .int .i64 e] ∧ RecC r cs ∧ RecC r ds ∧ r.rows.length ≤ 100000000 ∧ r.ids.length ≤ 100000000 := by
  rcases h with ⟨r, cs, h1, h2, h3, rfl⟩ | ⟨h1, rfl⟩
  · rcases k with ⟨r', ds, k1, k2, k3, rfl⟩ | ⟨k1, rfl⟩
    · have := recB_inj h1 k1 (by rw [h2, k2])
      subst this
      exact ⟨r, cs, ds, 0, rfl, rfl, h3, k3, (recC_lens h1).2⟩
    · exact absurd h2 (k1 r h1)
  · rcases k with ⟨r', ds, k1, k2, k3, rfl⟩ | ⟨k1, rfl⟩
    · exact absurd k2 (h1 r' k1)
    · exact ⟨_, emptyC, emptyC, 5, rfl, rfl, rec0_C, rec0_C, by simp, by simp⟩

theorem law_WalRecords (xs : denL [tyRec, .sl (.int .u8)]) (h : wfL [tyRec, .sl (.int .u8)] xs) (hb : bulkL [tyRec, .sl (.int .u8)] xs ≤ 1048576) : ∃ S', cval T 492 (pvL [tyRec, .sl (.int .u8)] xs) St0 = some (.bool true, S') := by
  obtain ⟨x, b, u⟩ := xs
  obtain ⟨wx, wb, _⟩ := h
  have hb' : tyRec.bulk x + ((Ty.sl (.int .u8)).bulk b + 0) ≤ 1048576 := hb
  have b1 := inB_len b
  have hvb := inB_isl wb
  obtain ⟨⟨cs, hcs, hR⟩, l1, l2, l3⟩ := inR_rec wx (by omega)
  refine ⟨St0, ?_⟩
  show cval T 492 [tyRec.pv x, (Ty.sl (.int .u8)).pv b] St0 = _
  rw [hcs]
  generalize (Ty.sl (.int .u8)).pv b = v2 at hvb
  generalize inR x = r at *
  generalize inB b = B at *
  obtain ⟨ds, own1, hD⟩ := rown_val hR ⟨by omega, by omega, by omega⟩ St0
  obtain ⟨c6, ca⟩ := recC_all hR
  obtain ⟨d6, da⟩ := recC_all hD
  have cp6 := pt_all c6
  have dp6 := pt_all d6
  have putd : putCells [.int .i64 0, .nils, .nils, .nils, .int .i64 0, .int .i64 0] 0 ds = ds := put_all (by rw [d6]; rfl)
  have chk1 := reccheck_val hD
  have chk2 := rreccheck_val hR
  have hsame := same11_val hD hR ⟨by omega, by omega⟩
  -- the bytes, both
  have hby : ∃ (w1 w2 : St → PV) (s : List UInt8), (∀ S, cval T 142 [.agg ds] S = some (.tup [w1 S, .int .i64 (recN r)], S)) ∧ (∀ S, cval T 254 [.agg cs] S = some (.tup [w2 S, .int .i64 (recN r)], S)) ∧ (∀ S, toStrP (w1 S) = some (.str s)) ∧ (∀ S, toStrP (w2 S) = some (.str s)) := by
    by_cases hN : recN r = 0
    · refine ⟨fun S => Classical.choose (recB_ok hD hN S), fun S => Classical.choose (rrecB_ok hR hN S), recB r, fun S => ?_, fun S => ?_, fun S => ?_, fun S => ?_⟩
      · rw [hN]; exact (Classical.choose_spec (recB_ok hD hN S)).1
      · rw [hN]; exact (Classical.choose_spec (rrecB_ok hR hN S)).1
      · exact toStr_of (Classical.choose_spec (recB_ok hD hN S)).2.isl
      · exact toStr_of (Classical.choose_spec (rrecB_ok hR hN S)).2.isl
    · exact ⟨fun _ => .nils, fun _ => .nils, [], fun S => recB_no hD hN S, fun S => rrecB_no hR hN S, fun _ => rfl, fun _ => rfl⟩
  obtain ⟨w1, w2, sb, y1, y2, t1, t2⟩ := hby
  obtain ⟨w3, S2, a1, a2, a3⟩ := (accg_new (S0 := ⟨[ds], []⟩) 1 [] (Grows.refl _)).app (bytes := 1) (ofBytes B) (by rw [ofBytes_len]; simp; omega)
  simp only [List.length_nil, List.nil_append] at a1 a2
  obtain ⟨o2, tp2⟩ := S2
  simp only at a3
  subst a3
  obtain ⟨q1, f1, f2⟩ := of_val (a2.isSl (ofBytes_cells _)) (by omega) ⟨[ds], tp2⟩
  have f3 := ofIs_of f2
  obtain ⟨q2, g1, g2⟩ := rof_val hvb (by omega) ⟨[ds, (match q1 with | .tup [.agg cs, _] => cs | _ => [])], tp2⟩
  obtain ⟨r', cs1, cs2, e, rfl, rfl, k1, k2, k3⟩ := ofIs_two f3 g2
  simp only at g1
  obtain ⟨e6, ea⟩ := recC_all k1
  obtain ⟨i6, ia⟩ := recC_all k2
  have ep6 := pt_all e6
  have ip6 := pt_all i6
  have pute : putCells [.int .i64 0, .nils, .nils, .nils, .int .i64 0, .int .i64 0] 0 cs1 = cs1 := put_all (by rw [e6]; rfl)
  have puti : putCells [.int .i64 0, .nils, .nils, .nils, .int .i64 0, .int .i64 0] 0 cs2 = cs2 := put_all (by rw [i6]; rfl)
  have hsame2 := same11_val k1 k2 k3
  have s0 : St0.objs = [] := rfl
  have s0t : St0.tips = [] := rfl
  refine cval_ok' fn_492 rfl ?_
  have ld0 : ∀ (l : List (List PV)) (tp : List (Nat × Nat)), loadP ⟨ds :: l, tp⟩ true 6 (.ptr 0 0) = some (.agg ds) := fun l tp => by
    have := loadP_ptr (S := ⟨ds :: l, tp⟩) (ag := true) (n := 6) (id := 0) (off := 0) (cs := ds) rfl
    rw [this]; exact dp6
  have ld1 : ∀ (tp : List (Nat × Nat)), loadP ⟨[ds, cs1, cs2], tp⟩ true 6 (.ptr 1 0) = some (.agg cs1) := fun tp => by
    have := loadP_ptr (S := ⟨[ds, cs1, cs2], tp⟩) (ag := true) (n := 6) (id := 1) (off := 0) (cs := cs1) rfl
    rw [this]; exact ep6
  have ld2 : ∀ (tp : List (Nat × Nat)), loadP ⟨[ds, cs1, cs2], tp⟩ true 6 (.ptr 2 0) = some (.agg cs2) := fun tp => by
    have := loadP_ptr (S := ⟨[ds, cs1, cs2], tp⟩) (ag := true) (n := 6) (id := 2) (off := 0) (cs := cs2) rfl
    rw [this]; exact ip6
  have a1' : appendTo 1 1 ⟨[ds], [(0, 1)]⟩ (.sl (some (0, 0)) [] []) (ofBytes B) = some (w3, ⟨[ds], tp2⟩) := a1
  have hge : Grows St0 ⟨[ds, cs1, cs2], tp2⟩ := ⟨[ds, cs1, cs2], tp2, rfl⟩
  simp -implicitDefEqProofs [-List.all_eq_true, -law11_WalRecords_r6_go, law11_WalRecords, ca, c6, cp6, s0, s0t, pstep, own1, da, d6, dp6, putd, y1, y2, chk1, chk2, t1, t2, hsame, ld0]
  simp -implicitDefEqProofs [-List.all_eq_true, pstep, elems, setParts, hvb.appd, a1', f1, ea, e6, pute, g1, ia, i6, puti, ld1, ld2, hsame2, lives_pval]
  exact fin_gb hge
end Ps
