/- A log's own calls. -/
import Derived.Test.YtppjibgophfdfaaFC
import Derived.Test.YtppjibgophfdfaaArgs
import Derived.Test.YtppjibgophfdfaaLives
namespace Ps
set_option linter.unusedSimpArgs false
set_option linter.unusedVariables false
open Go
theorem fn_253 : T.fn 253 = some (.code ref11_Same) := rfl
theorem fn_175 : T.fn 175 = some (.code ref09_Same) := rfl
theorem lives_pval : pval T 57 [] = some (.bool true) := pval_st (cval_of 3000 lives_run) rfl rfl

theorem psame_loop {l : List Int} {v1 v2 : PV} (h1 : Reads1 1 v1 (nV l)) (h2 : Reads1 1 v2 (nV l)) (hm : l.length ≤ 100000000) {K : List Kt} {Q : Fr → St → Prop} {S : St} : ∀ (r p : List Int) (fr : Fr), l = p ++ r →
    fr 0 = v1 → fr 1 = v2 → fr 5 = .int .i64 p.length → (∀ fr', Ok (gval T K fr' S) Q) → Ok (gval T (.lp ref09_Same_l0 :: .blk 0 :: K) fr S) Q := by
  have hlen := h1.len
  rw [nV_len] at hlen
  intro r
  induction r with
  | nil =>
    intro p fr e f0 f1 f5 k
    rw [List.append_nil] at e; subst e
    rw [gval_lp]
    simp -implicitDefEqProofs [f0, f5, hlen]
    exact k _
  | cons n r ih =>
    intro p fr e f0 f1 f5 k
    have hlt : p.length < l.length := by rw [e]; simp
    have g1 := nV_get h1 e (k := .i64)
    have g2 := nV_get h2 e (k := .i64)
    have hw := wrap_len (a := p.length) (by omega)
    rw [gval_lp]
    simp -implicitDefEqProofs [f0, f1, f5, hlen, hlt, g1, g2, pt1, hw]
    exact ih (p ++ [n]) _ (by simp [e]) (by simp [f0]) (by simp [f1]) (by simp [hw]) k
theorem psame_val {l : List Int} {v1 v2 : PV} (h1 : Reads1 1 v1 (nV l)) (h2 : Reads1 1 v2 (nV l)) (hm : l.length ≤ 100000000) (S : St) : cval T 175 [v1, v2] S = some (.bool true, S) := by
  have l1 := h1.len
  have l2 := h2.len
  rw [nV_len] at l1 l2
  refine cval_ok' fn_175 rfl ?_
  simp -implicitDefEqProofs [ref09_Same, l1, l2]
  refine psame_loop h1 h2 hm l [] _ rfl (by simp) (by simp) (by simp) (fun fr' => ?_)
  simp

theorem same11_loop {l : List RowM} {v1 v2 : PV} (h1 : Reads1 3 v1 (l.map rowV)) (h2 : Reads1 3 v2 (l.map rowV)) (hm : l.length ≤ 100000000) {c0 c1 c3 c4 c5 d0 d1 d3 d4 d5 : PV} {K : List Kt} {Q : Fr → St → Prop} {S : St} : ∀ (r p : List RowM) (fr : Fr), l = p ++ r →
    fr 2 = .ref [c0, c1, v1, c3, c4, c5] → fr 3 = .ref [d0, d1, v2, d3, d4, d5] → fr 5 = .int .i64 p.length → (∀ fr', Ok (gval T K fr' S) Q) → Ok (gval T (.lp ref11_Same_l0 :: .blk 0 :: K) fr S) Q := by
  have hlen := h1.len
  rw [List.length_map] at hlen
  intro r
  induction r with
  | nil =>
    intro p fr e f2 f3 f5 k
    rw [List.append_nil] at e; subst e
    rw [gval_lp]
    simp -implicitDefEqProofs [f2, f5, hlen, pt1]
    exact k _
  | cons n r ih =>
    intro p fr e f2 f3 f5 k
    have hlt : p.length < l.length := by rw [e]; simp
    have g1 := row_get h1 e (k := .i64)
    have g2 := row_get h2 e (k := .i64)
    have hw := wrap_len (a := p.length) (by omega)
    rw [gval_lp]
    simp -implicitDefEqProofs [f2, f3, f5, hlen, hlt, g1, g2, pt1, pt3, hw, eqCells]
    exact ih (p ++ [n]) _ (by simp [e]) (by simp [f2]) (by simp [f3]) (by simp [hw]) k
theorem same11_val {r : RecM} {cs ds : List PV} (h : RecC r cs) (k : RecC r ds) (hm : r.rows.length ≤ 100000000 ∧ r.ids.length ≤ 100000000) (S : St) : cval T 253 [.agg cs, .agg ds] S = some (.bool true, S) := by
  obtain ⟨⟨vl, vr, vi, rfl, h1, h2, h3⟩, hlens⟩ := h
  obtain ⟨⟨wl, wr, wi, rfl, k1, k2, k3⟩, _⟩ := k
  have hal : ([.int .i64 r.kind, vl, vr, vi, .int .i64 r.low, .int .i64 r.high] : List PV).all PV.one = true := cells_one h1 h2 h3
  have kal : ([.int .i64 r.kind, wl, wr, wi, .int .i64 r.low, .int .i64 r.high] : List PV).all PV.one = true := cells_one k1 k2 k3
  have l1 := h1.len
  have l2 := h2.len
  have m1 := k1.len
  have m2 := k2.len
  rw [List.length_map] at l1 l2 m1 m2
  have s1 := psame_val h3.reads k3.reads hm.2 S
  have s2 := same_val h1.reads k1.reads hlens.1 S
  rw [cmpL_zero.2 rfl] at s2
  have s2' : cval T 26 [vl, wl] S = some (.bool true, S) := s2
  refine cval_ok' fn_253 rfl ?_
  simp -implicitDefEqProofs [-List.all_eq_true, ref11_Same, hal, kal, pstep, pt1, s1, s2', l1, l2, m1, m2]
  refine same11_loop (c0 := .int .i64 r.kind) (c1 := vl) (c3 := vi) (c4 := .int .i64 r.low) (c5 := .int .i64 r.high) (d0 := .int .i64 r.kind) (d1 := wl) (d3 := wi) (d4 := .int .i64 r.low) (d5 := .int .i64 r.high) h2.reads k2.reads hm.1 r.rows [] _ rfl (by simp) (by simp) (by simp) (fun fr' => ?_)
  simp

abbrev tyRow : Ty := .st (.pair (.int .i64) (.pair (.st (.pair (.int .i64) (.pair (.int .i64) .unit))) .unit))
abbrev tyRec : Ty := .st (.pair (.int .i64) (.pair (.sl tyLab) (.pair (.sl tyRow) (.pair (.sl (.int .i64)) (.pair (.int .i64) (.pair (.int .i64) .unit))))))

def inS {e : Ty} (x : (Ty.sl e).den) : List e.den := match x with | none => [] | some q => q.1
theorem inS_isl {e : Ty} (he : e.isTy = true) (x : (Ty.sl e).den) : IsSl e.n ((Ty.sl e).pv x) ((inS x).map e.pv) := by
  cases x with
  | none => exact .inl ⟨rfl, rfl⟩
  | some q =>
    obtain ⟨es, sp⟩ := q
    refine .inr ⟨none, sp.map e.pv, rfl, fun v hv => ?_⟩
    rcases List.mem_append.1 hv with hv | hv
    · obtain ⟨y, _, rfl⟩ := List.mem_map.1 hv
      rw [pv_cells he, emb_len]
    · obtain ⟨y, _, rfl⟩ := List.mem_map.1 hv
      rw [pv_cells he, emb_len]
theorem inS_len {e : Ty} (h : ∀ x : e.den, 1 ≤ e.bulk x) (x : (Ty.sl e).den) : (inS x).length ≤ (Ty.sl e).bulk x := by
  cases x with
  | none => exact Nat.zero_le _
  | some q =>
    obtain ⟨es, sp⟩ := q
    have := len_le_bulk e h es
    show es.length ≤ (es.map e.bulk).sum + (sp.map e.bulk).sum + 1
    omega
def inRow (x : tyRow.den) : RowM := (x.1, x.2.1.1, x.2.1.2.1)
def inR (x : tyRec.den) : RecM := ⟨x.1, inLW x.2.1, (inS x.2.2.1).map inRow, inS x.2.2.2.1, x.2.2.2.2.1, x.2.2.2.2.2.1⟩
theorem inR_rec {x : tyRec.den} (h : tyRec.wf x) (hb : tyRec.bulk x ≤ 1048576) : (∃ cs, tyRec.pv x = .agg cs ∧ RecC (inR x) cs) ∧ (inR x).labs.length ≤ 1048576 ∧ (inR x).rows.length ≤ 1048576 ∧ (inR x).ids.length ≤ 1048576 := by
  obtain ⟨k, l, rows, ids, lo, hi, u⟩ := x
  obtain ⟨_, wl, _⟩ := h
  have hb' : 1 + ((Ty.sl tyLab).bulk l + ((Ty.sl tyRow).bulk rows + ((Ty.sl (.int .i64)).bulk ids + (1 + (1 + 0))))) + 1 ≤ 1048576 := hb
  have b1 := inL_len l
  have b2 := inS_len (e := tyRow) (fun _ => Nat.succ_le_succ (Nat.zero_le _)) rows
  have b3 := inS_len (e := .int .i64) (fun _ => Nat.le_refl _) ids
  obtain ⟨_, wn⟩ := inL_wf wl
  have e1 : (inR (k, l, rows, ids, lo, hi, u)).labs.length = (inLW l).length := rfl
  have e2 : (inR (k, l, rows, ids, lo, hi, u)).rows.length = (inS rows).length := List.length_map ..
  have e3 : (inR (k, l, rows, ids, lo, hi, u)).ids.length = (inS ids).length := rfl
  refine ⟨⟨_, rfl, ⟨(Ty.sl tyLab).pv l, (Ty.sl tyRow).pv rows, (Ty.sl (.int .i64)).pv ids, ?_, ?_, ?_, ?_⟩, ?_⟩, by omega, by omega, by omega⟩
  · have q : ∀ (e : Ty) (y : (Ty.sl e).den), (Ty.sl e).emb y = [(Ty.sl e).pv y] := fun e y => by cases y <;> rfl
    show [PV.int .i64 k] ++ ((Ty.sl tyLab).emb l ++ ((Ty.sl tyRow).emb rows ++ ((Ty.sl (.int .i64)).emb ids ++ ([PV.int .i64 lo] ++ ([PV.int .i64 hi] ++ []))))) = _
    rw [q, q, q]; rfl
  · have := inS_isl (e := tyLab) rfl l
    have e : (inS l).map tyLab.pv = (inLW l).map labV := by cases l <;> rfl
    rw [e] at this; exact this
  · have := inS_isl (e := tyRow) rfl rows
    have e : (inS rows).map tyRow.pv = ((inS rows).map inRow).map rowV := by
      rw [List.map_map]
      apply List.map_congr_left
      intro y _
      rfl
    rw [e] at this; exact this
  · exact inS_isl (e := .int .i64) rfl ids
  · refine ⟨maxLen_ge (by omega), maxLen_ge (by omega), maxLen_ge (by omega), fun y hy => (wn y hy).1⟩

theorem recB_len {r : RecM} (h : recN r = 0) : (recB r).length ≤ 10000 := by
  rcases recN_full h with ⟨l, rfl, z⟩ | ⟨l, rfl, z⟩ | ⟨l, x, y, rfl, z, z1, z2, z3⟩
  · obtain ⟨h1, h2, _⟩ := checkN_zero.1 z
    have a := labs_flat_len h2
    have b := uintB_le9 (n := l.length) (by omega)
    have c := uintB_le9 (n := 1) (by omega)
    have he : recB ⟨1, l, [], [], 0, 0⟩ = uintB 1 ++ (uintB l.length ++ l.flatMap lab1B) := by simp [recB, labsB]
    rw [he]; simp only [List.length_append]; omega
  · obtain ⟨y1, y2, y3⟩ := rowsN_ok z
    have a : ∀ l : List RowM, (∀ x ∈ l, rowOk x) → (l.flatMap rowB).length ≤ 27 * l.length := by
      intro l
      induction l with
      | nil => intro _; simp
      | cons x l ih =>
        intro h
        have := ih (fun y hy => h y (by simp [hy]))
        have := rowB_len (h x (by simp))
        simp only [List.flatMap_cons, List.length_append, List.length_cons]; omega
    have := a l y3
    have b := uintB_le9 (n := l.length) (by omega)
    have c := uintB_le9 (n := 2) (by omega)
    have he : recB ⟨2, [], l, [], 0, 0⟩ = uintB 2 ++ (uintB l.length ++ l.flatMap rowB) := by simp [recB]
    rw [he]; simp only [List.length_append]; omega
  · obtain ⟨p1, p2⟩ := postN_asc z
    have q1 := postD_len l 0 (by omega) p2
    have q2 := uintB_le9 (n := l.length) (by omega)
    have q3 := uintB_le9 (n := x.toNat) (by omega)
    have q4 := uintB_le9 (n := y.toNat) (by omega)
    have c := uintB_le9 (n := 3) (by omega)
    have he : recB ⟨3, [], [], l, x, y⟩ = uintB 3 ++ (uintB l.length ++ (postD 0 l ++ (uintB x.toNat ++ uintB y.toNat))) := by simp [recB, postB]
    rw [he]; simp only [List.length_append]; omega

theorem recC_lens {r : RecM} (h : recN r = 0) : r.labs.length ≤ 100000000 ∧ r.rows.length ≤ 100000000 ∧ r.ids.length ≤ 100000000 := by
  rcases recN_full h with ⟨l, rfl, z⟩ | ⟨l, rfl, z⟩ | ⟨l, x, y, rfl, z, z1, z2, z3⟩
  · obtain ⟨h1, h2, _⟩ := checkN_zero.1 z
    simp; omega
  · obtain ⟨y1, y2, y3⟩ := rowsN_ok z
    simp; omega
  · obtain ⟨p1, p2⟩ := postN_asc z
    simp; omega
end Ps
namespace Ps
set_option linter.unusedSimpArgs false
set_option linter.unusedVariables false
open Go
theorem fn_148 : T.fn 148 = some (.code wal_Log_Append) := rfl
theorem fn_61 : T.fn 61 = some (.code wal_Log_Len) := rfl
theorem fn_62 : T.fn 62 = some (.code wal_Log_Size) := rfl
theorem fn_490 : T.fn 490 = some (.code law11_again) := rfl

theorem At.setx {S : St} {o K : Nat} {D : Dk} (h : At S o K D) {lo : Nat} {c : List PV} (h1 : lo ≠ o) (h2 : ¬ OwnsO D lo) : At ⟨S.objs.set lo c, S.tips⟩ o K D where
  obj := by rw [List.getElem?_set_ne h1]; exact h.obj
  base := by rw [List.getElem?_set_ne (fun e => h2 (.inl e))]; exact h.base
  live := by rw [List.getElem?_set_ne (fun e => h2 (.inr (.inl e)))]; exact h.live
  wv := h.wv
  file := fun f hf => by
    rw [List.getElem?_set_ne (fun e => h2 (.inr (.inr (by rw [e]; exact hf))))]
    exact h.file f hf
  inb := h.inb
  inw := h.inw
  nd := h.nd
  tw := h.tw
  tf := h.tf
  hist := h.hist
  nb := h.nb
  nw := h.nw
  rm := h.rm
  cnt := h.cnt
  dn := h.dn
  lf := h.lf

structure FraL (o lo : Nat) (S S' : St) (D D' : Dk) : Prop where
  t : FraT S S' D D'
  obj : ∀ (i : Nat) (c : List PV), S.objs[i]? = some c → i ≠ o → i ≠ lo → ¬ OwnsO D i → S'.objs[i]? = some c
  own : ∀ i, i < S.objs.length → i ≠ o → ¬ OwnsO D i → ¬ OwnsO D' i
  len : S.objs.length ≤ S'.objs.length
theorem Fra.toL {o lo : Nat} {S S' : St} {D D' : Dk} (h : Fra o S S' D D') (hl : S.objs.length ≤ S'.objs.length) : FraL o lo S S' D D' := ⟨h.t, fun i c hc hi _ hn => h.o.obj i c hc hi hn, h.o.own, hl⟩

theorem logapp_val {S : St} {o K lo n size : Nat} {D : Dk} (h : At S o K D) (hK : K ≤ 900) (lg : Lg S lo o D n size) (hn : n ≤ 1000) (hsz : size ≤ 10000000) {f : Nat} (hl : D.live = [(nLog, f)]) {r : RecM} {cs : List PV} (hr : RecC r cs) :
    ∃ (e : Int) (S' : St) (D' : Dk), cval T 148 [.ptr lo 0, .agg cs] S = some (.int .i64 e, S') ∧ At S' o (K + 1) D' ∧ FraL o lo S S' D D' ∧ D'.live = D.live ∧ D'.base = D.base ∧ D'.wait = D.wait ∧ D'.room = D.room ∧ D'.fs f = D.fs f ∧ (Free D → Free D') ∧
      (((e == 0) = false ∧ D'.fb f = D.fb f ∧ Lg S' lo o D' n size) ∨ (e = 0 ∧ recN r = 0 ∧ D'.fb f = D.fb f ++ frameB (recB r) ∧ Lg S' lo o D' (n + 1) (size + ((recB r).length + 6)))) := by
  have hob := lg.obj
  obtain ⟨c6, c1⟩ := recC_all hr
  have hp := pt_all c6
  have e0 : eqnP false .p (.ptr lo 0) = some (.bool false) := rfl
  have hlk : lk nLog D.live = some f := by rw [hl]; rfl
  by_cases hz : recN r = 0
  · obtain ⟨v1, a1, a2⟩ := recB_ok hr hz S
    have hrl := recB_len hz
    obtain ⟨v2, b1, b2⟩ := put_ok a2.isl (by omega) S
    have hfl := frameB_len (recB r)
    have hlen := b2.isl.len
    rw [ofBytes_len] at hlen
    by_cases he : appendE D nLog (frameB (recB r)) = 0
    · rcases stepR_cases D with hs | hs
      · obtain ⟨fv, S1, d1, d2, d3⟩ := append_ok h (by omega) (n := nLog) (by decide) hlen b2.isl.appd he hs hlk
        obtain ⟨s1, s2, s3, s4, s5, s6, s7, s8, s9, s10, s11⟩ := stepD_fields D
        obtain ⟨D1, hD1⟩ : ∃ D1, D1 = setF (stepD D) f fv (D.fb f ++ frameB (recB r)) (D.fs f) := ⟨_, rfl⟩
        rw [← hD1] at d2 d3
        have lg1 := lg.fra d3
        have hob1 := lg1.obj
        have w1 : IntKind.i64.wrap ((n : Int) + 1) = (n : Int) + 1 := wrap_i64 (by omega) (by omega)
        have w2 : IntKind.i64.wrap ((size : Int) + ((frameB (recB r)).length : Int)) = (size : Int) + ((frameB (recB r)).length : Int) := wrap_i64 (by omega) (by omega)
        have hat := d2.setx (c := [.ptr o 0, .str nLog, .int .i64 ((n : Int) + 1), .int .i64 ((size : Int) + ((frameB (recB r)).length : Int))]) lg1.ne lg1.own
        have hlt := (List.getElem?_eq_some_iff.1 hob1).1
        have hdone : D1.done = D.done + 1 := by rw [hD1]; show (stepD D).done = _; rw [stepD_ok hs]
        have hfin := fin_done h hat hdone (n := 0)
        refine ⟨0, _, D1, cval_ok' fn_148 rfl ?_, hat, ⟨⟨d3.t.len, d3.t.keep⟩, fun i c hc hi hi2 hn => ?_, d3.o.own, ?_⟩, by rw [hD1]; exact s4, by rw [hD1]; exact s3, by rw [hD1]; exact s5, by rw [hD1]; exact s11, by rw [hD1]; simp [setF], fun hf => by rw [hD1]; exact hf.step.2, .inr ⟨rfl, hz, by rw [hD1]; simp [setF], ⟨?_, lg1.ne, lg1.own⟩⟩⟩
        · simp -implicitDefEqProofs [wal_Log_Append, pstep, c1, hp, e0, a1, b1, loadP_ptr hob, q1, d1, loadP_ptr hob1, hob1, w1, putCells, get_set hob1, loadP_set hob1, hlen, w2, hfin]
        · simp only
          rw [List.getElem?_set_ne (Ne.symm hi2)]; exact d3.o.obj i c hc hi hn
        · simp only [List.length_set]
          by_cases hq : S.objs.length ≤ S1.objs.length
          · exact hq
          · exfalso
            have hlo := (List.getElem?_eq_some_iff.1 lg.obj).1
            -- the last object is still there
            have hj : S1.objs.length < S.objs.length := by omega
            by_cases ho : S1.objs.length = o
            · have := d2.lt.1; omega
            · by_cases hw : OwnsO D S1.objs.length
              · have b := d2.lt
                rcases hw with q | q | q
                · have : D1.bi = D.bi := by rw [hD1]; exact s1
                  omega
                · have : D1.li = D.li := by rw [hD1]; exact s2
                  omega
                · have hq2 : S1.objs.length ∈ D1.fl := by rw [hD1]; show _ ∈ (stepD D).fl; rw [s7]; exact q
                  have := b.2.2.2 _ hq2; omega
              · have := d3.o.obj _ _ (List.getElem?_eq_getElem hj) ho hw
                have := (List.getElem?_eq_some_iff.1 this).1; omega
        · simp only [List.getElem?_set_self hlt]
          rw [hfl]; push_cast; rfl
      · have d1 := append_dark h (by omega) (n := nLog) (by decide) hlen he hs
        obtain ⟨S1, hS1⟩ : ∃ S1 : St, S1 = ⟨S.objs.set o (dcells (stepD D)), S.tips⟩ := ⟨_, rfl⟩
        have d2 := (step_val h (by omega)).2
        have d3 := step_fra (S := S) (o := o) (D := D)
        have hfin := fin_step h (n := 6)
        rw [← hS1] at d1 d2 d3 hfin
        obtain ⟨s1, s2, s3, s4, s5, s6, s7, s8, s9, s10, s11⟩ := stepD_fields D
        refine ⟨6, S1, stepD D, cval_ok' fn_148 rfl ?_, d2, d3.toL (by rw [hS1]; simp), s4, s3, s5, s11, by rw [s9], fun hf => (by rw [hf.step.1] at hs; cases hs), .inl ⟨rfl, by rw [s8], lg.fra d3⟩⟩
        simp -implicitDefEqProofs [wal_Log_Append, pstep, c1, hp, e0, a1, b1, loadP_ptr hob, q1, d1, hfin]
    · have d1 := append_no h (by omega) (n := nLog) (by decide) hlen he
      have he' : (appendE D nLog (frameB (recB r)) != 0) = true := by simpa using he
      refine ⟨_, S, D, cval_ok' fn_148 rfl ?_, h.mono (by omega), (Fra.refl o S D).toL (Nat.le_refl _), rfl, rfl, rfl, rfl, rfl, fun hf => hf, .inl ⟨by simpa using he, rfl, lg⟩⟩
      simp -implicitDefEqProofs [wal_Log_Append, pstep, c1, hp, e0, a1, b1, loadP_ptr hob, q1, d1, he', fin_int]
  · have a1 := recB_no hr hz S
    have he' : (((recN r : Nat) : Int) != 0) = true := by simp; omega
    refine ⟨(recN r : Int), S, D, cval_ok' fn_148 rfl ?_, h.mono (by omega), (Fra.refl o S D).toL (Nat.le_refl _), rfl, rfl, rfl, rfl, rfl, fun hf => hf, .inl ⟨by simp; omega, rfl, lg⟩⟩
    simp -implicitDefEqProofs [wal_Log_Append, pstep, c1, hp, e0, a1, he', fin_int]

theorem len_val {S : St} {lo o n size : Nat} {D : Dk} (lg : Lg S lo o D n size) : cval T 61 [.ptr lo 0] S = some (.int .i64 (n : Int), S) := by
  have hob := lg.obj
  have e0 : eqnP false .p (.ptr lo 0) = some (.bool false) := rfl
  refine cval_ok' fn_61 rfl ?_
  simp -implicitDefEqProofs [wal_Log_Len, e0, loadP_ptr hob, q1, fin_int]
theorem size_val {S : St} {lo o n size : Nat} {D : Dk} (lg : Lg S lo o D n size) : cval T 62 [.ptr lo 0] S = some (.int .i64 (size : Int), S) := by
  have hob := lg.obj
  have e0 : eqnP false .p (.ptr lo 0) = some (.bool false) := rfl
  refine cval_ok' fn_62 rfl ?_
  simp -implicitDefEqProofs [wal_Log_Size, e0, loadP_ptr hob, q1, fin_int]

theorem again_val : ∃ S' o lo D F, cval T 490 [] St0 = some (.tup [.ptr o 0, .ptr lo 0, .bool true], S') ∧ At S' o 5 D ∧ Free D ∧ D.live = [(nLog, F)] ∧ D.base = [(nLog, F)] ∧ D.wait = [] ∧ D.fb F = [] ∧ D.fs F = 0 ∧ D.room = 4194304 ∧ Lg S' lo o D 0 0 := by
  have hn := new_ok (S := St0) (r := 4194304) (by omega) (by omega)
  have hA0 := new_at (S := St0) (r := 4194304) (by omega) (by omega)
  obtain ⟨S0, hS0⟩ : ∃ S0 : St, S0 = ⟨St0.objs ++ [[], [], dcells (newD 4194304 St0.objs.length)], St0.tips⟩ := ⟨_, rfl⟩
  rw [← hS0] at hn hA0
  obtain ⟨o, ho⟩ : ∃ o, o = St0.objs.length + 2 := ⟨_, rfl⟩
  rw [← ho] at hn hA0
  obtain ⟨S1, D1, F, lo, v, es, c1, g1, a1, r1, f1, l1, b1, w1, x1, y1, m1, lg, hle⟩ := open_new hA0 (by omega) (⟨rfl, rfl⟩) rfl
  refine ⟨S1, o, lo, D1, F, cval_ok' fn_490 rfl ?_, a1, f1, l1, b1, w1, x1, y1, m1, lg⟩
  have hfin : finish false St0 S1 (.tup [.ptr o 0, .ptr lo 0, .bool true]) = (.tup [.ptr o 0, .ptr lo 0, .bool true], S1) := by
    unfold finish
    have b2 := sol_at a1 (n := St0.objs.length) (Nat.zero_le _) 37
    have : sol S1.objs St0.objs.length solFuel (.tup [.ptr o 0, .ptr lo 0, .bool true]) = none := by
      show sol S1.objs St0.objs.length (39 + 1) (.tup [.ptr o 0, .ptr lo 0, .bool true]) = none
      rw [sol]
      simp only [PV.free, PV.freeL, Bool.false_and, Bool.false_eq_true, if_false]
      simp only [mapO, b2]
    simp only [Bool.false_eq_true, if_false, this]
  simp only [nLog] at c1
  simp -implicitDefEqProofs [law11_again, hn, c1, hfin]
end Ps
