/- The head: a copy. -/
import Derived.Test.YtndfknoclbkkhaaTG
namespace Ps
set_option linter.unusedSimpArgs false
set_option linter.unusedVariables false
open Go
def OwnO.f (v : PV) (es : List PV) : PV := .sl none es []
theorem chunk_els {sz : Nat} (hsz : 1 < sz ∨ sz = 1) : ∀ {es : List PV}, (∀ e ∈ es, ∃ cs, e = .agg cs ∧ cs.length = sz ∧ 1 < sz) → chunk sz es.length (es.flatMap PV.cells) = es
 | [], _ => rfl
 | e :: es, h => by
  obtain ⟨cs, rfl, hl, h1⟩ := h e (by simp)
  have ih := chunk_els hsz (es := es) fun x hx => h x (by simp [hx])
  have ht : (cs ++ es.flatMap PV.cells).take sz = cs := by rw [List.take_append_of_le_length (by omega), List.take_of_length_le (by omega)]
  have hd : (cs ++ es.flatMap PV.cells).drop sz = es.flatMap PV.cells := by rw [List.drop_append_of_le_length (by omega), List.drop_of_length_le (by omega), List.nil_append]
  simp only [List.length_cons, chunk, List.flatMap_cons, PV.cells]
  rw [ht, hd]
  have hm : mkE sz cs = .agg cs := by
   cases cs with
   | nil => rfl
   | cons a l => cases l with
    | nil => simp at hl; omega
    | cons => rfl
  rw [hm]
  exact congrArg _ ih
theorem OwnO.sol {n0 n sz k : Nat} {S : St} {v : PV} {es : List PV} (h : OwnO n sz S v es) (hn : n0 ≤ n) (he : ∀ e ∈ es, ∃ cs, e = .agg cs ∧ cs.length = sz ∧ 1 < sz) (hf : PV.freeL es = true) (ho : ∀ e ∈ es, e.cells.all PV.one = true) :
  Ps.sol S.objs n0 (k + 2) v = some (.sl none es []) := by
 rcases h with ⟨rfl, rfl⟩ | ⟨id, a, rfl, c, d⟩
 ·exact sol_emp
 ·obtain ⟨e0, he0⟩ : ∃ e, e ∈ es := by cases es with | nil => exact absurd rfl d | cons x l => exact ⟨x, by simp⟩
  obtain ⟨_, _, _, h1⟩ := he e0 he0
  have hfl := flatl (sz := sz) (es := es) (fun e hx => by obtain ⟨cs, rfl, hl, _⟩ := he e hx; exact hl)
  have htk : (es.flatMap PV.cells).take (es.length * sz) = es.flatMap PV.cells := List.take_of_length_le (by omega)
  have hfr : PV.freeL (es.flatMap PV.cells) = true := by
   refine freeL_of_mem fun v hv => ?_
   obtain ⟨e, hx, hv⟩ := List.mem_flatMap.1 hv
   obtain ⟨cs, rfl, _, _⟩ := he e hx
   have := freeL_mem hf _ hx
   simp only [PV.free] at this
   exact freeL_mem this v hv
  have hm : mapO (Ps.sol S.objs n0 (k + 1)) (es.flatMap PV.cells) = some (es.flatMap PV.cells) := mapO_free' hfr
  have hch := chunk_els (sz := sz) (.inl h1) he
  have h2 := flat_all ho
  have hid : n0 ≤ id := by omega
  show Ps.sol S.objs n0 ((k + 1) + 1) _ = _
  unfold Ps.sol
  simp only [PV.free, Bool.false_eq_true, if_false, hid, c, List.drop_zero, htk, h2, hm, hch]
  simp [hfl]
  omega

theorem lab_agg (l : List Lab) : ∀ e ∈ l.map labV, ∃ cs, e = .agg cs ∧ cs.length = 2 ∧ 1 < 2 := fun e he => by
 obtain ⟨x, _, rfl⟩ := List.mem_map.1 he; exact ⟨_, rfl, rfl, by decide⟩
theorem row_agg (l : List RowM) : ∀ e ∈ l.map rowV, ∃ cs, e = .agg cs ∧ cs.length = 3 ∧ 1 < 3 := fun e he => by
 obtain ⟨x, _, rfl⟩ := List.mem_map.1 he; exact ⟨_, rfl, rfl, by decide⟩

theorem rows_flat (l : List RowM) : (l.map rowV).flatMap PV.cells = l.flatMap fun x => [PV.int .i64 x.1, .int .i64 x.2.1, .int .i64 x.2.2] := by
 induction l with
 | nil => rfl
 | cons x l ih => simp only [List.map_cons, List.flatMap_cons, ih]; rfl

theorem clone_own {n : Nat} {S : St} {v : PV} {l : List Lab} (h : OwnO n 2 S v (l.map labV)) (hl : l.length ≤ 1048576) : ∃ v', cval T 130 [v] S = some (v', S) ∧ SlL v' l := by
 have hap : appendedS ⟨S.objs, S.tips ++ [(0, 2)]⟩ 2 v = some (l.map labV) := by
  rcases h with ⟨rfl, e⟩ | ⟨id, a, rfl, c, d⟩
  ·rw [e]; rfl
  ·have hfl := flatl (sz := 2) (es := l.map labV) (fun e he => (labV_ok l e he).1)
   have htk : ((l.map labV).flatMap PV.cells).take ((l.map labV).length * 2) = (l.map labV).flatMap PV.cells := List.take_of_length_le (by omega)
   have hch := chunk_els (sz := 2) (.inl (by decide)) (lab_agg l)
   have h2 := flat_all fun e he => (labV_ok l e he).2
   simp only [appendedS, c, List.drop_zero]
   rw [if_pos ⟨trivial, by decide, by omega, by rw [htk]; exact h2⟩, hch]
 obtain ⟨w, S', e1, a2, _⟩ := (accg_new 2 [] (Grows.refl S)).app (bytes := 32) (l.map labV) (by simp; omega)
 simp only [List.length_nil, List.nil_append] at e1 a2
 have hf := a2.fin (labs_free l) (labs_frz l)
 refine ⟨slF w (l.map labV), cval_ok' fn_130 rfl ?_, slF_lab a2⟩
 have hn : eqnP false .s v = some (.bool false) := by rcases h with ⟨rfl, _⟩ | ⟨id, _, rfl, _⟩ <;> rfl
 obtain ⟨A, hA⟩ : ∃ A, A = l.map labV := ⟨_, rfl⟩
 rw [← hA] at hap e1 hf
 rw [← hA]
 simp -implicitDefEqProofs [z28, hn, pstep, elems, setParts, newArr, appP, hap, e1, hf]

theorem snap_of {S : St} {f : Nat} {v w r : PV} {S1 : St} (hs : sol S.objs 0 solFuel v = some w) (hc : cval T f [w.frz] St0 = some (r, S1)) (hr : r.scal = true) : aCall (cval T) .snap f [v] S = some (r, S) := by
 simp only [aCall, snapCall, mapO, hs, PV.frzL, hc, hr, if_true, withSt]

theorem RecW.o {n : Nat} {S : St} {o : Nat} {H : Hd} {r : RecM} {vl vr vi : PV} (h : RecW n S r vl vr vi) (hn : ∀ i ∈ ownH o H, i < n) (h1 : r.labs.length ≤ 1048576) (h2 : r.rows.length ≤ 1048576) (h3 : r.ids.length ≤ 1048576) (h4 : ∀ x ∈ r.labs, x.1.length ≤ maxLen) : RecO S o H r vl vr vi where
 o1 := h.hl.one.1
 o2 := h.hr.one.1
 i3 := h.hi
 rl := by have := h.hr.len; rwa [List.length_map] at this
 ra := by
  rcases h.hr with ⟨rfl, e⟩ | ⟨id, a, rfl, c, d⟩
  ·have : r.rows = [] := by simpa using e
   rw [this]
   exact fun j hj => absurd hj (by simp)
  ·rw [rows_flat] at c
   rw [List.length_map]
   exact RwAt.obj (t := []) (by rw [List.append_nil]; exact c) (fun hi => by have := hn id hi; omega)
 pr := fun hr => by
  have hs := h.hl.sol (n0 := 0) (k := 38) (by omega) (lab_agg _) (labs_free _) (fun e he => (labV_ok _ e he).2)
  refine snap_of hs (r := .str (printT r.labs)) (S1 := St0) ?_ rfl
  have : (PV.sl none (r.labs.map labV) []).frz = .sl none (r.labs.map labV) [] := by simp only [PV.frz, labs_frz, PV.frzL]
  rw [this]
  exact print_val (reads_sl (labs_cells _)) (right_wid hr).1 St0
 cl := fun hr S' hk => by
  refine clone_own (n := n) (h.hl.mono fun id x hid hg hx => hk id x (fun hi => by have := hn id hi; omega) hx) h1
 ck := by
  have s1 := h.hl.sol (n0 := 0) (k := 37) (by omega) (lab_agg _) (labs_free _) (fun e he => (labV_ok _ e he).2)
  have s2 := h.hr.sol (n0 := 0) (k := 37) (by omega) (row_agg _) (rowV_free _) (fun e he => (rowV_ok _ e he).2)
  have s3 : sol S.objs 0 39 vi = some vi := sol_id h.fi
  have i0 : ∀ k : Int, sol S.objs 0 39 (.int .i64 k) = some (.int .i64 k) := fun k => sol_id rfl
  have hs : sol S.objs 0 solFuel (.agg [.int .i64 r.kind, vl, vr, vi, .int .i64 r.low, .int .i64 r.high]) = some (.agg [.int .i64 r.kind, .sl none (r.labs.map labV) [], .sl none (r.rows.map rowV) [], vi, .int .i64 r.low, .int .i64 r.high]) := by
   show sol S.objs 0 (39 + 1) _ = _
   unfold sol
   simp only [PV.free, PV.freeL, h.hl.one.2.2, Bool.false_and, Bool.true_and, Bool.false_eq_true, if_false, mapO, i0, s1, s2, s3]
  have hz : (PV.agg [.int .i64 r.kind, .sl none (r.labs.map labV) [], .sl none (r.rows.map rowV) [], vi, .int .i64 r.low, .int .i64 r.high]).frz = .agg [.int .i64 r.kind, .sl none (r.labs.map labV) [], .sl none (r.rows.map rowV) [], vi.frz, .int .i64 r.low, .int .i64 r.high] := by
   simp only [PV.frz, PV.frzL, labs_frz, rowV_frz]
  refine snap_of hs (r := .int .i64 (recN r)) (S1 := St0) ?_ rfl
  rw [hz]
  refine reccheck_val ⟨⟨_, _, _, rfl, .inr ⟨none, [], rfl, by simpa using labs_cells r.labs⟩, .inr ⟨none, [], rfl, fun e he => ?_⟩, h.zi⟩, ⟨by unfold maxLen; omega, by unfold maxLen; omega, by unfold maxLen; omega, h4⟩⟩ St0
  rw [List.append_nil] at he
  exact (rowV_ok _ e he).1

theorem snap_free {S : St} {f : Nat} {v r : PV} {S1 : St} (hf : v.free = true) (hz : v.frz = v) (hc : cval T f [v] St0 = some (r, S1)) (hr : r.scal = true) : aCall (cval T) .snap f [v] S = some (r, S) :=
 snap_of (sol_id hf) (by rw [hz]; exact hc) hr

theorem recO_del {S : St} {o : Nat} {H : Hd} {r : RecM} {vi : PV} (hr : r.labs = [] ∧ r.rows = []) (hi : IsSl 1 vi (nV r.ids)) (fi : vi.free = true) (zi : IsSl 1 vi.frz (nV r.ids)) (hl : r.ids.length ≤ 1048576) : RecO S o H r .nils .nils vi where
 o1 := rfl
 o2 := rfl
 i3 := hi
 rl := by rw [hr.2]; rfl
 ra := by rw [hr.2]; exact fun j hj => absurd hj (by simp)
 pr := fun _ => by
  rw [hr.1]
  exact snap_free (r := .str (printT [])) rfl rfl (print_val (l := []) (reads_nils 2) (by decide) St0) rfl
 cl := fun _ S' _ => by
  rw [hr.1]
  obtain ⟨v', a, b, _⟩ := clone_lab (l := []) (v := .nils) (.inl ⟨rfl, rfl⟩) (by simp) S'
  exact ⟨v', a, b⟩
 ck := by
  have hs : sol S.objs 0 solFuel (.agg [.int .i64 r.kind, .nils, .nils, vi, .int .i64 r.low, .int .i64 r.high]) = some (.agg [.int .i64 r.kind, .nils, .nils, vi, .int .i64 r.low, .int .i64 r.high]) := sol_id (by simp [PV.free, PV.freeL, fi])
  refine snap_of hs (r := .int .i64 (recN r)) (S1 := St0) ?_ rfl
  have hz : (PV.agg [.int .i64 r.kind, .nils, .nils, vi, .int .i64 r.low, .int .i64 r.high]).frz = .agg [.int .i64 r.kind, .nils, .nils, vi.frz, .int .i64 r.low, .int .i64 r.high] := by
   simp only [PV.frz, PV.frzL]
  rw [hz]
  exact reccheck_val ⟨⟨_, _, _, rfl, .inl ⟨rfl, by rw [hr.1]; rfl⟩, .inl ⟨rfl, by rw [hr.2]; rfl⟩, zi⟩, ⟨by rw [hr.1]; unfold maxLen; simp, by rw [hr.2]; unfold maxLen; simp, by unfold maxLen; omega, by rw [hr.1]; simp⟩⟩ St0

theorem recO_row {S : St} {o : Nat} {H : Hd} {x : RowM} : RecO S o H ⟨2, [], [x], [], 0, 0⟩ .nils (.sl none [rowV x] []) .nils where
 o1 := rfl
 o2 := rfl
 i3 := .inl ⟨rfl, rfl⟩
 rl := rfl
 ra := RwAt.reads (reads_sl (rows_cells1 x))
 pr := fun _ => snap_free (r := .str (printT [])) rfl rfl (print_val (l := []) (reads_nils 2) (by decide) St0) rfl
 cl := fun _ S' _ => by
  obtain ⟨v', a, b, _⟩ := clone_lab (l := []) (v := .nils) (.inl ⟨rfl, rfl⟩) (by simp) S'
  exact ⟨v', a, b⟩
 ck := by
  refine snap_free (r := .int .i64 (recN ⟨2, [], [x], [], 0, 0⟩)) (S1 := St0) rfl rfl ?_ rfl
  exact reccheck_val (r := ⟨2, [], [x], [], 0, 0⟩) ⟨⟨_, _, _, rfl, .inl ⟨rfl, rfl⟩, .inr ⟨none, [], rfl, rows_cells1 x⟩, .inl ⟨rfl, rfl⟩⟩, ⟨by unfold maxLen; simp, by unfold maxLen; simp, by unfold maxLen; simp, by simp⟩⟩ St0
where
 rows_cells1 (x : RowM) : ∀ e ∈ [x].map rowV ++ [], e.cells.length = 3 := fun e he => by
  simp only [List.map_cons, List.map_nil, List.append_nil, List.mem_singleton] at he
  subst he; rfl

theorem spoil_val {n : Nat} {S : St} {r : RecM} {vl vr vi : PV} (h : RecW n S r vl vr vi) (h1 : r.labs.length ≤ 1048576) (h2 : r.rows.length ≤ 1048576) :
  ∃ S', cval T 72 [.agg [.int .i64 r.kind, vl, vr, vi, .int .i64 r.low, .int .i64 r.high]] S = some (.tup [], S') ∧ (∀ (i : Nat) (x : List PV), gidV vl ≠ some i → gidV vr ≠ some i → S.objs[i]? = some x → S'.objs[i]? = some x) ∧ S.objs.length ≤ S'.objs.length := by
 have hx1 := h.hl.len
 have hx2 := h.hr.len
 rw [List.length_map] at hx1 hx2
 have o1 := h.hl.one.1
 have o2 := h.hr.one.1
 have o3 := isl_one h.hi
 have hob1 : ∀ id, gidV vl = some id → ∃ c, S.objs[id]? = some c ∧ c.length = 2 * r.labs.length := fun id hid => by
  rcases h.hl with ⟨rfl, _⟩ | ⟨i, a, rfl, c, d⟩
  ·cases hid
  ·cases hid
   refine ⟨_, c, ?_⟩
   rw [flatl (sz := 2) (fun e he => (labV_ok _ e he).1), List.length_map]; omega
 have hob2 : ∀ id, gidV vr = some id → ∃ c, S.objs[id]? = some c ∧ c.length = 3 * r.rows.length := fun id hid => by
  rcases h.hr with ⟨rfl, _⟩ | ⟨i, a, rfl, c, d⟩
  ·cases hid
  ·cases hid
   refine ⟨_, c, ?_⟩
   rw [flatl (sz := 3) (fun e he => (rowV_ok _ e he).1), List.length_map]; omega
 have hia1 : ∀ j, j < r.labs.length → ∃ id, gidV vl = some id ∧ iaddrP 2 vl (.int .i64 (j : Int)) = some (.ptr id (j * 2)) := fun j hj => by
  rcases h.hl with ⟨rfl, e⟩ | ⟨i, a, rfl, c, d⟩
  ·have : r.labs = [] := by simpa using e
   rw [this] at hj; simp at hj
  ·refine ⟨i, rfl, ?_⟩
   rw [iaddrP_osl, if_pos (by rw [List.length_map]; omega)]; simp
 have hia2 : ∀ j, j < r.rows.length → ∃ id, gidV vr = some id ∧ iaddrP 3 vr (.int .i64 (j : Int)) = some (.ptr id (j * 3)) := fun j hj => by
  rcases h.hr with ⟨rfl, e⟩ | ⟨i, a, rfl, c, d⟩
  ·have : r.rows = [] := by simpa using e
   rw [this] at hj; simp at hj
  ·refine ⟨i, rfl, ?_⟩
   rw [iaddrP_osl, if_pos (by rw [List.length_map]; omega)]; simp
 obtain ⟨v, S2, hc, rfl, h5, h6⟩ := cval_ex (T := T) fn_72 (args := [.agg [.int .i64 r.kind, vl, vr, vi, .int .i64 r.low, .int .i64 r.high]]) (S := S) rfl
  (R := fun v S2 => v = .tup [] ∧ (∀ (i : Nat) (x : List PV), gidV vl ≠ some i → gidV vr ≠ some i → S.objs[i]? = some x → S2.objs[i]? = some x) ∧ S.objs.length ≤ S2.objs.length) (by
  have fin : ∀ (fr : Fr) (S' : St), (∀ (i : Nat) (x : List PV), gidV vl ≠ some i → gidV vr ≠ some i → S.objs[i]? = some x → S'.objs[i]? = some x) → S.objs.length ≤ S'.objs.length →
    (fun v S2 => v = PV.tup [] ∧ (∀ (i : Nat) (x : List PV), gidV vl ≠ some i → gidV vr ≠ some i → S.objs[i]? = some x → S2.objs[i]? = some x) ∧ S.objs.length ≤ S2.objs.length) (finish true S S' (.tup [])).1 (finish true S S' (.tup [])).2 := fun fr S' hk hl =>
   ⟨rfl, hk, hl⟩
  simp -implicitDefEqProofs [z68, pstep, o1, o2, o3]
  refine lp_up r.labs.length (fun j fr S' => fr 1 = .ref [.int .i64 r.kind, vl, vr, vi, .int .i64 r.low, .int .i64 r.high] ∧ fr 2 = .int .i64 (j : Int) ∧
   (∀ (i : Nat) (x : List PV), gidV vl ≠ some i → S.objs[i]? = some x → S'.objs[i]? = some x) ∧ S.objs.length ≤ S'.objs.length ∧ ∀ id, gidV vl = some id → ∃ c, S'.objs[id]? = some c ∧ c.length = 2 * r.labs.length) ?_ ?_ 0 (Nat.zero_le _) _ _
   ⟨by simp, by simp, fun i x _ hx => hx, Nat.le_refl _, hob1⟩
  ·rintro j fr S' hj ⟨f1, f2, x1, x2, x3⟩ k
   have hw : IntKind.i64.wrap ((j : Int) + 1) = ((j + 1 : Nat) : Int) := by rw [wrap_i64 (by omega) (by omega)]; omega
   have hlt : (j : Int) < (r.labs.length : Int) := by omega
   obtain ⟨id, hid, hp⟩ := hia1 j hj
   obtain ⟨c, hcc, hcl⟩ := x3 id hid
   have hle : j * 2 + 2 ≤ c.length := by omega
   have hL := fun fr' S2 => k fr' S2
   clear k
   rw [gval_lp]
   simp -implicitDefEqProofs [f1, f2, part1, hx1, hlt, hj, pstep, peval, fillParts, putCells, hp, hcc, hle]
   refine hL _ _ ⟨by simp [f1], by simp [hw], fun i x hi hx => ?_, by simpa using x2, fun id' hid' => ?_⟩
   ·simp only
    rw [List.getElem?_set_ne (fun e => hi (by rw [← e]; exact hid))]; exact x1 i x hi hx
   ·rw [hid] at hid'; cases hid'
    refine ⟨_, get_set hcc, ?_⟩
    simp; omega
  ·rintro fr S' ⟨f1, f2, x1, x2, x3⟩
   rw [gval_lp]
   simp -implicitDefEqProofs [f1, f2, part1, hx1]
   refine lp_up r.rows.length (fun j fr S' => fr 1 = .ref [.int .i64 r.kind, vl, vr, vi, .int .i64 r.low, .int .i64 r.high] ∧ fr 3 = .int .i64 (j : Int) ∧
    (∀ (i : Nat) (x : List PV), gidV vl ≠ some i → gidV vr ≠ some i → S.objs[i]? = some x → S'.objs[i]? = some x) ∧ S.objs.length ≤ S'.objs.length ∧ ∀ id, gidV vr = some id → ∃ c, S'.objs[id]? = some c ∧ c.length = 3 * r.rows.length) ?_ ?_ 0 (Nat.zero_le _) _ _
    ⟨by simp [f1], by simp, fun i x hi _ hx => x1 i x hi hx, x2, fun id hid => by
     obtain ⟨c, hcc, hcl⟩ := hob2 id hid
     exact ⟨c, x1 id c (fun e => h.ne id e hid) hcc, hcl⟩⟩
   ·rintro j fr S' hj ⟨f1, f2, x1, x2, x3⟩ k
    have hw : IntKind.i64.wrap ((j : Int) + 1) = ((j + 1 : Nat) : Int) := by rw [wrap_i64 (by omega) (by omega)]; omega
    have hlt : (j : Int) < (r.rows.length : Int) := by omega
    obtain ⟨id, hid, hp⟩ := hia2 j hj
    obtain ⟨c, hcc, hcl⟩ := x3 id hid
    have hle : j * 3 + 3 ≤ c.length := by omega
    have hL := fun fr' S2 => k fr' S2
    clear k
    rw [gval_lp]
    simp -implicitDefEqProofs [f1, f2, part1, hx2, hlt, hj, pstep, peval, fillParts, putCells, hp, hcc, hle]
    refine hL _ _ ⟨by simp [f1], by simp [hw], fun i x hi hi2 hx => ?_, by simpa using x2, fun id' hid' => ?_⟩
    ·simp only
     rw [List.getElem?_set_ne (fun e => hi2 (by rw [← e]; exact hid))]; exact x1 i x hi hi2 hx
    ·rw [hid] at hid'; cases hid'
     refine ⟨_, get_set hcc, ?_⟩
     simp; omega
   ·rintro fr S' ⟨f1, f2, x1, x2, x3⟩
    rw [gval_lp]
    simp -implicitDefEqProofs [f1, f2, part1, hx2, resAll]
    first
     | exact fin fr S' x1 x2
     | (have := fin fr S' x1 x2; simpa using this))
 exact ⟨S2, hc, h5, h6⟩
end Ps
namespace Ps
set_option linter.unusedSimpArgs false
set_option linter.unusedVariables false
open Go
theorem fn_73 : T.fn 73 = some (.code z44) := rfl

theorem gapp_gen {S : St} {hv : PV} {l : List Sr} (h : (hv = .nils ∧ l = []) ∨ ∃ si, hv = .osl si 0 l.length 2 ∧ S.objs[si]? = some (serC l) ∧ l ≠ []) (ho : ∀ x ∈ l, SeOk x) (hl : l.length ≤ 1000) {x : Sr} :
  ∃ ni S2, gappTo 2 48 S hv [.agg [x.lv, x.sv]] = some (.osl ni 0 (l.length + 1) 2, S2) ∧ ni = S.objs.length ∧ S2.objs[ni]? = some (serC (l ++ [x])) ∧ S2.tips = S.tips ∧ S.objs.length ≤ S2.objs.length ∧
   ∀ (i : Nat) (y : List PV), gidV hv ≠ some i → S.objs[i]? = some y → S2.objs[i]? = some y := by
 unfold gappTo
 simp only [List.isEmpty_cons, Bool.false_eq_true, if_false, List.length_singleton]
 rcases h with ⟨rfl, rfl⟩ | ⟨si, rfl, hs, hn⟩
 ·simp only [Nat.one_mul]
  rw [if_pos (by omega)]
  refine ⟨S.objs.length, ⟨S.objs ++ [[x.lv, x.sv]], S.tips⟩, by simp [newG], rfl, by simp [serC, PV.cells], rfl, by simp, fun i y _ hy => ?_⟩
  simp only
  rw [List.getElem?_append_left (List.getElem?_eq_some_iff.1 hy).1]; exact hy
 ·simp only [hs]
  have hlen := serC_len l
  have hpos : 0 < l.length := List.length_pos_iff.2 hn
  have htk : (serC l).take (l.length * 2) = serC l := List.take_of_length_le (by omega)
  rw [if_pos ⟨trivial, trivial, by omega, by omega, by rw [htk]; exact serC_one ho, by omega⟩, htk]
  refine ⟨S.objs.length, _, rfl, rfl, by simp [PV.cells, serC], rfl, by simp, fun i y hi hy => ?_⟩
  have hil := (List.getElem?_eq_some_iff.1 hy).1
  simp only
  rw [List.getElem?_append_left (by simpa using hil), List.getElem?_set_ne (fun w => hi (by rw [w]; rfl))]
  exact hy

theorem idx_none {l : List Sr} {x : Sr} (h : ((l.map fun r => printT r.lb) ++ [printT x.lb]).Nodup) : idxT (printT x.lb) (abs l) = none := by
 unfold idxT abs
 rw [List.findIdx?_map, List.findIdx?_eq_none_iff]
 intro r hr
 simp only [Function.comp, beq_eq_false_iff_ne]
 intro e
 exact (List.nodup_append.1 h).2.2 (printT r.lb) (List.mem_map.2 ⟨r, hr, rfl⟩) (printT x.lb) (by simp) e

theorem copy_val {S : St} {o : Nat} {H : Hd} (h : HOk S o H) (hd : DistA (abs H.ser)) :
    ∃ S' o' H', cval T 73 [.ptr o 0] S = some (.ptr o' 0, S') ∧ HOk S' o' H' ∧ abs H'.ser = abs H.ser ∧ (∀ (i : Nat) (x : List PV), S.objs[i]? = some x → S'.objs[i]? = some x) ∧ S.objs.length ≤ S'.objs.length ∧ ∀ i ∈ ownH o' H', S.objs.length ≤ i := by
  obtain ⟨n, hn⟩ : ∃ n, n = S.objs.length := ⟨_, rfl⟩
  have hnew := new_val' S
  rw [← hn] at hnew
  obtain ⟨S0, hS0⟩ : ∃ S0 : St, S0 = ⟨S.objs ++ [[], [.nils, .map n, .int .i64 0]], S.tips⟩ := ⟨_, rfl⟩
  rw [← hS0] at hnew
  have hg0 : ∀ (i : Nat) (x : List PV), S.objs[i]? = some x → S0.objs[i]? = some x := fun i x hx => by
    rw [hS0]; simp only; rw [List.getElem?_append_left (List.getElem?_eq_some_iff.1 hx).1]; exact hx
  have hl0 : S0.objs.length = n + 2 := by rw [hS0, hn]; simp
  have h0 := h.grow hg0
  have hob := h0.obj
  have lo0 : loadP S0 false 1 (.ptr o 0) = some H.hv := by rw [loadP_ptr hob]; exact part1
  obtain ⟨v, S1, cs, c1, g1, g2, g3, g4, g5⟩ := copied_val h0
  have hcl : cs.length = H.ser.length := by have := congrArg List.length g3; rwa [abs_len, abs_len] at this
  have hle := h.szs
  have hg1 : ∀ (i : Nat) (x : List PV), S0.objs[i]? = some x → S1.objs[i]? = some x := fun i x hx => g2.get hx
  have hl1 : n + 2 ≤ S1.objs.length := by obtain ⟨a, b, rfl⟩ := g2; simp; omega
  have hv0 : S1.objs[n]? = some [] := hg1 _ _ (by rw [hS0, hn]; simp)
  have hv1 : S1.objs[n + 1]? = some [.nils, .map n, .int .i64 0] := hg1 _ _ (by rw [hS0, hn]; simp)
  have hvlen : lenP false v = some (.int .i64 cs.length) := by
    rcases g1.acc with ⟨w | w, e⟩ | ⟨id, a, b, c, d⟩
    · have : cs = [] := by simpa using e
      rw [w, this]; rfl
    · have : cs = [] := by simpa using e
      rw [w, this]; rfl
    · rw [b, List.length_map]; rfl
  have hvid : ∀ j, j < cs.length → ∃ id, v = .osl id 0 cs.length 2 ∧ n + 2 ≤ id ∧ S1.objs[id]? = some (serC cs) := fun j hj => by
    rcases g1.acc with ⟨_, e⟩ | ⟨id, a, b, c, d⟩
    · have : cs = [] := by simpa using e
      rw [this] at hj; simp at hj
    · rw [List.length_map] at b
      rw [serC_flat] at c
      exact ⟨id, b, by omega, c⟩
  have htot : total cs = total H.ser := by rw [← totA_abs, ← totA_abs, g3]
  have htt := h.tot
  have hdn : (cs.map fun r => printT r.lb).Nodup := by
    have : (abs cs).map (fun p => printT p.1) = cs.map fun r => printT r.lb := by simp [abs]
    rw [← this, g3]; exact hd
  obtain ⟨r, S2, hc, hv, f1, f2, f3, f4, f5⟩ := cval_ex (T := T) fn_73 (args := [.ptr o 0]) (S := S) rfl
    (R := fun r S2 => ∃ hv, r = .ptr (n + 1) 0 ∧ S2.objs[n + 1]? = some [hv, .map n, .int .i64 (total cs : Nat)] ∧ S2.objs[n]? = some (idsL 0 cs) ∧
      ((hv = .nils ∧ cs = []) ∨ ∃ si, hv = .osl si 0 cs.length 2 ∧ S1.objs.length ≤ si ∧ S2.objs[si]? = some (serC cs) ∧ cs ≠ []) ∧
      (∀ (i : Nat) (x : List PV), i ≠ n → i ≠ n + 1 → S1.objs[i]? = some x → S2.objs[i]? = some x)) (by
    simp -implicitDefEqProofs [z44, hnew, lo0, c1, hvlen]
    refine lp_up cs.length (fun j fr S' => fr 3 = .ptr (n + 1) 0 ∧ fr 13 = v ∧ fr 14 = .int .i64 cs.length ∧ fr 15 = .int .i64 (j : Int) ∧ ∃ hv, S'.objs[n + 1]? = some [hv, .map n, .int .i64 (total (cs.take j) : Nat)] ∧ S'.objs[n]? = some (idsL 0 (cs.take j)) ∧
      ((hv = .nils ∧ cs.take j = []) ∨ ∃ si, hv = .osl si 0 (cs.take j).length 2 ∧ S1.objs.length ≤ si ∧ S'.objs[si]? = some (serC (cs.take j)) ∧ cs.take j ≠ []) ∧
      (∀ (i : Nat) (x : List PV), i ≠ n → i ≠ n + 1 → S1.objs[i]? = some x → S'.objs[i]? = some x) ∧ S1.objs.length ≤ S'.objs.length) ?_ ?_ 0 (Nat.zero_le _) _ _
      ⟨by simp, by simp, by simp, by simp, .nils, by simpa [total] using hv1, by simpa [idsL] using hv0, .inl ⟨rfl, by simp⟩, fun i x _ _ hx => hx, Nat.le_refl _⟩
    · rintro j fr S' hj ⟨f3, f13, f14, f15, hv, x1, x2, x3, x4, x5⟩ k
      have hw : IntKind.i64.wrap ((j : Int) + 1) = ((j + 1 : Nat) : Int) := by rw [wrap_i64 (by omega) (by omega)]; omega
      have hlt : (j : Int) < (cs.length : Int) := by omega
      obtain ⟨id, hve, hid1, hid2⟩ := hvid j hj
      obtain ⟨x, hx⟩ : ∃ x, x = cs[j] := ⟨_, rfl⟩
      have hxo := g4 x (by rw [hx]; exact List.getElem_mem hj)
      obtain ⟨xo1, xo2⟩ := hxo.one
      have hld : loadP S' true 2 (.ptr id (j * 2)) = some (.agg [x.lv, x.sv]) := by
        have := serC_at (l := cs) hj []
        rw [List.append_nil] at this
        rw [loadP_ptr (x4 _ _ (by omega) (by omega) hid2), this, hx]; exact part2
      have ht : cs.take (j + 1) = cs.take j ++ [x] := by rw [List.take_add_one, List.getElem?_eq_getElem hj, hx]; rfl
      have htl : (cs.take j).length = j := by rw [List.length_take]; omega
      rw [htl] at x3
      rw [hve] at f13
      -- the box
      obtain ⟨S2, hS2⟩ : ∃ S2 : St, S2 = ⟨S'.objs ++ [[x.lv, x.sv]], S'.tips⟩ := ⟨_, rfl⟩
      obtain ⟨m, hm⟩ : ∃ m, m = S'.objs.length := ⟨_, rfl⟩
      have k2 : ∀ (i : Nat) (y : List PV), S'.objs[i]? = some y → S2.objs[i]? = some y := fun i y hy => by
        rw [hS2]; simp only; rw [List.getElem?_append_left (List.getElem?_eq_some_iff.1 hy).1]; exact hy
      have b2 : S2.objs[m]? = some [x.lv, x.sv] := by rw [hS2, hm]; simp
      have l2m0 : loadP S2 false 1 (.ptr m 0) = some x.lv := by rw [loadP_ptr b2]; exact part1
      have l2c1 : loadP S2 false 1 (.ptr (n + 1) 1) = some (.map n) := by rw [loadP_ptr (k2 _ _ x1)]; exact part1
      have l2c0 : loadP S2 false 1 (.ptr (n + 1) 0) = some hv := by rw [loadP_ptr (k2 _ _ x1)]; exact part1
      have hpr := fun S => print_val (hxo.lab.1.reads) (right_wid hxo.lab.2).1 S
      have hpp : pval T 24 [x.lv] = some (.str (printT x.lb)) := pval_st (hpr St0) rfl rfl
      have hhl : lenP false hv = some (.int .i64 (j : Int)) := by
        rcases x3 with ⟨e, e2⟩ | ⟨si, e, _⟩
        · have : j = 0 := by rw [← htl, e2]; rfl
          rw [e, this]; rfl
        · rw [e]; rfl
      have hix : idxT (printT x.lb) (abs (cs.take j)) = none := by
        refine idx_none ?_
        have hsub : ((cs.take (j + 1)).map fun r => printT r.lb).Sublist (cs.map fun r => printT r.lb) := (List.take_sublist _ _).map _
        have := hsub.nodup hdn
        rw [ht, List.map_append] at this
        simpa using this
      have hmp := mput_ids (printT x.lb) (.int .i64 (j : Int)) 0 (cs.take j) hix
      have hb2n := k2 _ _ x2
      obtain ⟨S3, hS3⟩ : ∃ S3 : St, S3 = ⟨S2.objs.set n (idsL 0 (cs.take j) ++ [.str (printT x.lb), .int .i64 (j : Int)]), S2.tips⟩ := ⟨_, rfl⟩
      have k3 : ∀ (i : Nat) (y : List PV), i ≠ n → S2.objs[i]? = some y → S3.objs[i]? = some y := fun i y hi hy => by rw [hS3]; simp only; rw [List.getElem?_set_ne (Ne.symm hi)]; exact hy
      have hl3 : S3.objs.length = m + 1 := by rw [hS3, hS2, hm]; simp
      have hnm : n + 1 < m := by rw [hm]; omega
      have b3 := k3 m _ (by omega) b2
      have l3m : loadP S3 true 2 (.ptr m 0) = some (.agg [x.lv, x.sv]) := by rw [loadP_ptr b3]; exact part2
      have c3 := k3 (n + 1) _ (by omega) (k2 _ _ x1)
      have l3c0 : loadP S3 false 1 (.ptr (n + 1) 0) = some hv := by rw [loadP_ptr c3]; exact part1
      obtain ⟨S4, hS4⟩ : ∃ S4 : St, S4 = ⟨S3.objs, S3.tips ++ [(1, 2)]⟩ := ⟨_, rfl⟩
      have ob4 : S4.objs = S3.objs := by rw [hS4]
      have hcase : (hv = .nils ∧ cs.take j = []) ∨ ∃ si, hv = .osl si 0 (cs.take j).length 2 ∧ S4.objs[si]? = some (serC (cs.take j)) ∧ cs.take j ≠ [] := by
        rcases x3 with w | ⟨si, a, b, c, d⟩
        · exact .inl w
        · exact .inr ⟨si, by rw [htl]; exact a, by rw [ob4]; exact k3 _ _ (by omega) (k2 _ _ c), d⟩
      obtain ⟨ni, S5, p1, p2, p3, p4, p5, p6⟩ := gapp_gen (S := S4) hcase (fun y hy => g4 y (List.mem_of_mem_take hy)) (by omega) (x := x)
      rw [htl] at p1
      have hvne : ∀ i, gidV hv = some i → S1.objs.length ≤ i := fun i hi => by
        rcases x3 with ⟨e, _⟩ | ⟨si, a, b, _⟩
        · rw [e] at hi; cases hi
        · rw [a] at hi; cases hi; exact b
      have c5 : S5.objs[n + 1]? = some [hv, .map n, .int .i64 (total (cs.take j) : Nat)] := p6 _ _ (fun e => by have := hvne _ e; omega) (by rw [ob4]; exact c3)
      have n5 : S5.objs[n]? = some (idsL 0 (cs.take j) ++ [.str (printT x.lb), .int .i64 (j : Int)]) := p6 _ _ (fun e => by have := hvne _ e; omega) (by rw [ob4, hS3]; exact get_set hb2n)
      have m5 : S5.objs[m]? = some [x.lv, x.sv] := p6 _ _ (fun e => by
        rcases x3 with ⟨w, _⟩ | ⟨si, a, b, c, _⟩
        · rw [w] at e; cases e
        · rw [a] at e; cases e
          have := (List.getElem?_eq_some_iff.1 c).1
          omega) (by rw [ob4]; exact b3)
      obtain ⟨S6, hS6⟩ : ∃ S6 : St, S6 = ⟨S5.objs.set (n + 1) [.osl ni 0 (j + 1) 2, .map n, .int .i64 (total (cs.take j) : Nat)], S5.tips⟩ := ⟨_, rfl⟩
      have c6 : S6.objs[n + 1]? = some [.osl ni 0 (j + 1) 2, .map n, .int .i64 (total (cs.take j) : Nat)] := by rw [hS6]; exact get_set c5
      have k6 : ∀ (i : Nat) (y : List PV), i ≠ n + 1 → S5.objs[i]? = some y → S6.objs[i]? = some y := fun i y hi hy => by rw [hS6]; simp only; rw [List.getElem?_set_ne (Ne.symm hi)]; exact hy
      have l6c2 : loadP S6 false 1 (.ptr (n + 1) 2) = some (.int .i64 (total (cs.take j) : Nat)) := by rw [loadP_ptr c6]; exact part1
      have l6m1 : loadP S6 false 1 (.ptr m 1) = some x.sv := by rw [loadP_ptr (k6 _ _ (by omega) m5)]; exact part1
      have hsl := hxo.slen
      have httj : total (cs.take (j + 1)) = total (cs.take j) + x.sm.length := by
        rw [ht, total_app]; simp [total]
      have httl : total (cs.take (j + 1)) ≤ total cs := by
        have : total cs = total (cs.take (j + 1)) + total (cs.drop (j + 1)) := by rw [← total_app, List.take_append_drop]
        omega
      rw [httj] at httl
      have hw2 : IntKind.i64.wrap ((total (cs.take j) : Int) + (x.sm.length : Int)) = ((total (cs.take j) + x.sm.length : Nat) : Int) := by rw [wrap_i64 (by omega) (by omega)]; omega
      obtain ⟨t0, ht0⟩ : ∃ t0, t0 = total (cs.take j) := ⟨_, rfl⟩
      obtain ⟨S7, hS7⟩ : ∃ S7 : St, S7 = ⟨S6.objs.set (n + 1) [.osl ni 0 (j + 1) 2, .map n, .int .i64 ((t0 + x.sm.length : Nat) : Int)], S6.tips⟩ := ⟨_, rfl⟩
      rw [← ht0] at hw2 l6c2 c6 c5 hS6 httl httj
      have k7 : ∀ (i : Nat) (y : List PV), i ≠ n + 1 → S6.objs[i]? = some y → S7.objs[i]? = some y := fun i y hi hy => by rw [hS7]; simp only; rw [List.getElem?_set_ne (Ne.symm hi)]; exact hy
      have hL := fun fr' => k fr' S7
      clear k
      obtain ⟨tx, htx⟩ : ∃ tx, tx = printT x.lb := ⟨_, rfl⟩
      rw [← htx] at hpp hmp hS3 n5
      have hij : isKeyP true (.str tx) = true := rfl
      rw [gval_lp]
      simp -implicitDefEqProofs [-z44_r7_go, f3, f13, f14, f15, hlt, hj, hld, pstep, putCells, xo1, xo2]
      rw [← hS2, ← hm]
      simp -implicitDefEqProofs [-z44_r8_go, f3, f13, f14, f15, l2m0, l2c1, l2c0, hxo.lab.1.free, hxo.lab.1.frz, hpp, hhl, pstep, hb2n, hmp, hij]
      rw [← hS3]
      simp -implicitDefEqProofs [-z44_r9_go, f3, f13, f14, f15, l3m, l3c0, pstep, elems, setParts, newArr, xo1, xo2, szOk]
      rw [← hS4, p1]
      simp -implicitDefEqProofs [-z44_r9_go, f3, f13, f14, f15, pstep, c5, putCells]
      rw [← hS6]
      simp -implicitDefEqProofs [f3, f13, f14, f15, l6c2, l6m1, hsl, hw2, pstep, c6, putCells]
      first
        | rw [← hS7]
        | (have e7 : ((t0 + x.sm.length : Nat) : Int) = (t0 : Int) + (x.sm.length : Int) := by omega
           rw [e7] at hS7
           rw [← hS7])
      refine hL _ ⟨by simp [f3], by simp [f13, hve], by simp [f14], by simp [hw], .osl ni 0 (j + 1) 2, ?_, ?_, .inr ⟨ni, by rw [ht, List.length_append, htl]; rfl, ?_, ?_, by rw [ht]; simp⟩, fun i y h1 h2 hy => ?_, ?_⟩
      · rw [httj, hS7]
        first
          | exact get_set c6
          | (have := get_set c6 (y := [.osl ni 0 (j + 1) 2, .map n, .int .i64 ((t0 : Int) + (x.sm.length : Int))]); simpa using this)
      · rw [ht, idsL_app, Nat.zero_add, htl]
        exact k7 _ _ (by omega) (k6 _ _ (by omega) (by rw [n5, htx]; rfl))
      · rw [p2, ob4, hl3]; omega
      · rw [ht]
        exact k7 _ _ (by rw [p2, ob4, hl3]; omega) (k6 _ _ (by rw [p2, ob4, hl3]; omega) p3)
      · refine k7 _ _ h2 (k6 _ _ h2 (p6 _ _ (fun e => ?_) (by rw [ob4]; exact k3 _ _ h1 (k2 _ _ (x4 i y h1 h2 hy)))))
        have := hvne _ e
        have := (List.getElem?_eq_some_iff.1 hy).1
        omega
      · have : S7.objs.length = S5.objs.length := by rw [hS7, hS6]; simp
        rw [this]
        rw [ob4, hl3] at p5
        omega
    · rintro fr S' ⟨f3, f13, f14, f15, hv, x1, x2, x3, x4, x5⟩
      rw [List.take_length] at x1 x2 x3
      rw [gval_lp]
      simp -implicitDefEqProofs [f3, f13, f14, f15]
      rw [fin_raw]
      exact ⟨rfl, hv, x1, x2, x3, x4⟩)
  subst f1
  have hsam : ∀ x ∈ cs, ∀ i, gidV x.sv = some i → n + 2 ≤ i ∧ i < S1.objs.length := fun x hx i hi => by
    have := (g5.pos x hx i hi).1
    have := g5.lt hx hi
    omega
  have hmem : ∀ x ∈ cs, ∃ r ∈ H.ser, r.lb = x.lb ∧ r.sm = x.sm := fun x hx => by
    have : (x.lb, x.sm) ∈ abs H.ser := by rw [← g3]; exact List.mem_map.2 ⟨x, hx, rfl⟩
    obtain ⟨r, hr, e⟩ := List.mem_map.1 this
    simp only [Prod.mk.injEq] at e
    exact ⟨r, hr, e.1, e.2⟩
  refine ⟨S2, n + 1, ⟨hv, n, cs, idsL 0 cs, (total cs : Nat)⟩, hc, ?_, g3, fun i x hx => ?_, ?_, ?_⟩
  · exact {
      obj := f2
      ids := f3
      ser := by
        rcases f4 with w | ⟨si, a, b, c, d⟩
        · exact .inl w
        · exact .inr ⟨si, a, c, d⟩
      all := fun x hx => by
        have hk : ∀ i, gidV x.sv = some i → ∀ c, S1.objs[i]? = some c → S2.objs[i]? = some c := fun i hi c hc => by
          have := hsam x hx i hi
          exact f5 i c (by omega) (by omega) hc
        obtain ⟨r, hr, e1, e2⟩ := hmem x hx
        refine ⟨(g5.sam x hx).mono hk, fun i hi => ?_, (g4 x hx).lab, ?_⟩
        · obtain ⟨_, _, c, hc, hn⟩ := g5.pos x hx i hi
          exact ⟨c, hk i hi c hc, hn⟩
        · rw [← e2]; exact (h.all r hr).rise
      dis := by
        have hgls : ∀ i ∈ gls cs, n + 2 ≤ i ∧ i < S1.objs.length := fun i hi => by
          obtain ⟨x, hx, hi⟩ := List.mem_flatMap.1 hi
          exact hsam x hx i (mem_gl.1 hi)
        have hgh : ∀ i ∈ gl hv, S1.objs.length ≤ i := fun i hi => by
          have hi := mem_gl.1 hi
          rcases f4 with ⟨e, _⟩ | ⟨si, a, b, _⟩
          · rw [e] at hi; cases hi
          · rw [a] at hi; cases hi; exact b
        simp only [ownH, List.nodup_cons, List.mem_cons, List.mem_append, not_or]
        refine ⟨⟨by omega, fun hi => ?_, fun hi => ?_⟩, ⟨fun hi => ?_, fun hi => ?_⟩, List.nodup_append.2 ⟨gl_nodup _, g5.dis, fun i hi j hj e => ?_⟩⟩
        · have := hgh _ hi; omega
        · have := hgls _ hi; omega
        · have := hgh _ hi; omega
        · have := hgls _ hi; omega
        · have := hgh _ hi; have := hgls _ hj; omega
      idk := rfl
      cnt := rfl
      szs := by simp only; omega
      tot := by simp only; omega }
  · have hil := (List.getElem?_eq_some_iff.1 hx).1
    rw [← hn] at hil
    exact f5 i x (by omega) (by omega) (hg1 _ _ (hg0 _ _ hx))
  · have := (List.getElem?_eq_some_iff.1 f2).1
    omega
  · intro i hi
    simp only [ownH, List.mem_cons, List.mem_append] at hi
    rw [← hn]
    rcases hi with rfl | rfl | hi | hi
    · omega
    · omega
    · have hi := mem_gl.1 hi
      rcases f4 with ⟨e, _⟩ | ⟨si, a, b, _⟩
      · rw [e] at hi; cases hi
      · rw [a] at hi; cases hi; omega
    · obtain ⟨x, hx, hi⟩ := List.mem_flatMap.1 hi
      have := hsam x hx i (mem_gl.1 hi)
      omega
end Ps
