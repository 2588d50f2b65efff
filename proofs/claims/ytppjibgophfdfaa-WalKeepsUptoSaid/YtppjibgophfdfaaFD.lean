/- A log's file laid down anew. -/
import Derived.Test.YtppjibgophfdfaaFC
import Derived.Test.YtppjibgophfdfaaDV
namespace Ps
set_option linter.unusedSimpArgs false
open Go
theorem fn_118 : T.fn 118 = some (.code z0) := rfl
theorem fn_221 : T.fn 221 = some (.code z2) := rfl
theorem fn_247 : T.fn 247 = some (.code z69) := rfl
theorem fn_250 : T.fn 250 = some (.code z68) := rfl
theorem fn_320 : T.fn 320 = some (.code z45) := rfl
theorem fn_321 : T.fn 321 = some (.code z46) := rfl
theorem fn_322 : T.fn 322 = some (.code z47) := rfl
theorem fn_323 : T.fn 323 = some (.code z50) := rfl
theorem fn_248 : T.fn 248 = some (.code z54) := rfl
def nLog : Nm := [108, 111, 103]
def nTmp : Nm := [116, 109, 112]
theorem named_log : namedB nLog = true := by decide
theorem named_tmp : namedB nTmp = true := by decide
theorem Fra.grow {o : Nat} {S : St} {D : Dk} (x : List (List PV)) (y : List (Nat × Nat)) : Fra o S ⟨S.objs ++ x, S.tips ++ y⟩ D D :=
  ⟨⟨by simp, fun k hk h => ⟨h, List.getElem?_append_left hk⟩⟩, ⟨fun i c hc _ _ => by simp only; rw [List.getElem?_append_left (List.getElem?_eq_some_iff.1 hc).1]; exact hc, fun _ _ _ h => h⟩⟩
theorem At.grown {S : St} {o K : Nat} {D : Dk} (h : At S o K D) (x : List (List PV)) (y : List (Nat × Nat)) : At ⟨S.objs ++ x, S.tips ++ y⟩ o K D :=
  h.grow (fun i c hc => by simp only; rw [List.getElem?_append_left (List.getElem?_eq_some_iff.1 hc).1]; exact hc) (fun i c hc => by simp only; rw [List.getElem?_append_left (List.getElem?_eq_some_iff.1 hc).1]; exact hc)
structure AccZ (sz : Nat) (S : St) (D : Dk) (v : PV) (es : List PV) : Prop where
  acc : (v = .nils ∧ es = []) ∨ ∃ id, v = .sl (some (id, es.length)) es [] ∧ S.tips[id]? = some (es.length, sz) ∧ ¬ Owns D id
  one : ∀ e ∈ es, e.cells.length = sz
theorem AccZ.fra {sz : Nat} {S S' : St} {D D' : Dk} {v : PV} {es : List PV} (h : AccZ sz S D v es) (f : FraT S S' D D') : AccZ sz S' D' v es := by
  refine ⟨?_, h.one⟩
  rcases h.acc with h | ⟨id, h1, h2, h3⟩
  · exact .inl h
  · obtain ⟨k1, k2⟩ := f.keep id (List.getElem?_eq_some_iff.1 h2).1 h3
    exact .inr ⟨id, h1, k2.trans h2, k1⟩
theorem AccZ.reads {sz : Nat} {S : St} {D : Dk} {v : PV} {es : List PV} (h : AccZ sz S D v es) : Reads1 sz v es := by
  rcases h.acc with ⟨rfl, rfl⟩ | ⟨id, rfl, _⟩
  · exact reads_nils sz
  · exact reads_sl h.one
theorem AccZ.push {sz b : Nat} {S : St} {o K : Nat} {D : Dk} (h : At S o K D) {v : PV} {es : List PV} (ha : AccZ sz S D v es) (hl : (es.length + 1) * b ≤ 140737488355328) {e : PV} (he : e.cells.length = sz) :
    ∃ v' S', appendTo sz b ⟨S.objs, S.tips ++ [(1, sz)]⟩ v [e] = some (v', S') ∧ At S' o K D ∧ AccZ sz S' D v' (es ++ [e]) ∧ S'.objs = S.objs := by
  have h1 := h.more [(1, sz)]
  have hone : ∀ x ∈ es ++ [e], x.cells.length = sz := fun x hx => by
    rcases List.mem_append.1 hx with hx | hx
    · exact ha.one x hx
    · simp at hx; rw [hx]; exact he
  rcases ha.acc with ⟨rfl, rfl⟩ | ⟨id, rfl, h2, h3⟩
  · refine ⟨_, _, appendTo_nils (by simp) (by simpa using hl), ?_, ?_, rfl⟩
    · exact h1.more _
    · refine ⟨.inr ⟨S.tips.length + 1, by simp [newArr], by simp [newArr], fun hk => by have := h.owns hk; omega⟩, by simpa using hone⟩
  · have hlt := (List.getElem?_eq_some_iff.1 h2).1
    refine ⟨_, _, appendTo_sl (by simp) (by simp only; rw [List.getElem?_append_left hlt]; exact h2) (by simpa using hl), ?_, ?_, rfl⟩
    · refine h.tips (fun k hk => ?_)
      have hne : id ≠ k := fun e => h3 (by rw [e]; exact hk)
      rw [List.getElem?_set_ne hne, List.getElem?_append_left (h.owns hk)]
    · refine ⟨.inr ⟨id, by simp, ?_, h3⟩, hone⟩
      simp only [List.length_append, List.length_cons, List.length_nil]
      exact List.getElem?_set_self (by rw [List.length_append]; omega)
theorem Fra.grows {o : Nat} {S S' : St} {D : Dk} (h : Grows S S') : Fra o S S' D D := by
  obtain ⟨x, y, rfl⟩ := h
  exact Fra.grow x y
theorem At.grows {S S' : St} {o K : Nat} {D : Dk} (h : At S o K D) (g : Grows S S') : At S' o K D := by
  obtain ⟨x, y, rfl⟩ := g
  exact h.grown x y
theorem AccZ.of {S S1 : St} {o K : Nat} {D : Dk} {sz : Nat} {v : PV} {es : List PV} (h : At S o K D) (ha : AccG S sz S1 v es) (hc : ∀ e ∈ es, e.cells.length = sz) : AccZ sz S1 D v es := by
  refine ⟨?_, hc⟩
  rcases ha.acc with q | ⟨id, q1, q2, q3⟩
  · exact .inl q
  · exact .inr ⟨id, q2, q3, fun hk => by have := h.owns hk; omega⟩
theorem AccZ.isSl {sz : Nat} {S : St} {D : Dk} {v : PV} {es : List PV} (h : AccZ sz S D v es) : IsSl sz v es := by
  rcases h.acc with ⟨rfl, rfl⟩ | ⟨id, rfl, _⟩
  · exact .inl ⟨rfl, rfl⟩
  · exact .inr ⟨_, [], rfl, by simpa using h.one⟩
theorem idx_val {S : St} : cval T 221 [.sl none [.str nLog] [], .str nTmp] S = some (.int .i64 (-1), S) := by
  refine cval_ok' fn_221 rfl ?_
  have e : (nTmp == nLog) = false := by decide
  simp -implicitDefEqProofs [z2, lenP]
  rw [gval_lp]
  simp -implicitDefEqProofs [q1, e]
  have w : IntKind.i64.wrap 1 = 1 := by decide
  rw [gval_lp]
  simp -implicitDefEqProofs [w, fin_int]
theorem con_val {S : St} : cval T 118 [.sl none [.str nLog] [], .str nTmp] S = some (.bool false, S) := by
  refine cval_ok' fn_118 rfl ?_
  simp -implicitDefEqProofs [z0, idx_val]
theorem names_log (f : Nat) : namesV [(nLog, f)] = .sl none [.str nLog] [] := by simp [namesV]
inductive EachRun : List PV → St → St → Prop where
  | nil (S : St) : EachRun [] S S
  | cons (f : PV) (fs : List PV) (S S1 S2 : St) (h : callvP T .std f [] S = some (.int .i64 0, S1)) (k : EachRun fs S1 S2) : EachRun (f :: fs) S S2
theorem each_loop {fs : List PV} {v : PV} (hv : Reads1 1 v fs) (h1 : ∀ f ∈ fs, f.cells = [f]) (hl : fs.length ≤ 1000) {K : List Kt} {Q : Fr → St → Prop} {S' : St} : ∀ (rest pre : List PV), fs = pre ++ rest → ∀ (fr : Fr) (S : St), EachRun rest S S' → fr 6 = v → fr 7 = .int .i64 fs.length → fr 8 = .int .i64 (pre.length : Int) →
    (∀ fr', Ok (gval T K fr' S') Q) → Ok (gval T (.lp z69_l0 :: .blk 0 :: K) fr S) Q := by
  intro rest
  induction rest with
  | nil =>
    intro pre hp fr S hr h6 h7 h8 k
    rw [List.append_nil] at hp; subst hp
    cases hr
    rw [gval_lp]
    simp -implicitDefEqProofs [h7, h8]
    exact k _
  | cons f rest ih =>
    intro pre hp fr S hr h6 h7 h8 k
    cases hr with
    | cons _ _ _ S1 _ hc hr =>
      have hi : pre.length < fs.length := by rw [hp]; simp
      have hg := hv.get pre.length hi .i64
      have hgx : fs[pre.length]'hi = f := by simp [hp]
      rw [hgx, h1 f (by rw [hp]; simp)] at hg
      have hw := wrap_len (a := pre.length) (by omega)
      have hL : ∀ fr', fr' 6 = v → fr' 7 = .int .i64 fs.length → fr' 8 = .int .i64 ((pre.length + 1 : Nat) : Int) → Ok (gval T (.lp z69_l0 :: .blk 0 :: K) fr' S1) Q := by
        intro fr' g6 g7 g8
        exact ih (pre ++ [f]) (by simp [hp]) fr' S1 hr g6 g7 (by simpa using g8) k
      clear k ih
      rw [gval_lp]
      simp -implicitDefEqProofs [h6, h7, h8, hi, hg, q1, hc, -callvP_fn, -callvP_bfn]
      exact hL _ (by simp [h6]) (by simp [h7]) (by simp [hw])
theorem each_val {fs : List PV} {v : PV} (hv : Reads1 1 v fs) (h1 : ∀ f ∈ fs, f.cells = [f]) (hl : fs.length ≤ 1000) {S S' : St} (hr : EachRun fs S S') (hfin : finish false S S' (.int .i64 0) = (.int .i64 0, S')) : cval T 247 [v] S = some (.int .i64 0, S') := by
  refine cval_ok' fn_247 rfl ?_
  simp -implicitDefEqProofs [z69, hv.len]
  refine each_loop hv h1 hl fs [] rfl _ S hr (by simp) (by simp) (by simp) (fun fr' => ?_)
  simp -implicitDefEqProofs [hfin]
theorem clo_create {S S' : St} {b o : Nat} {e : Int} (hb : S.objs[b]? = some [.ptr o 0]) (hc : cval T 77 [.ptr o 0, .str nTmp] S = some (.int .i64 e, S')) (hf : finish false S S' (.int .i64 e) = (.int .i64 e, S')) : cval T 320 [.ptr b 0] S = some (.int .i64 e, S') := by
  simp only [nTmp] at hc
  refine cval_ok' fn_320 rfl ?_
  simp -implicitDefEqProofs [z45, loadP_ptr hb, q1, hc, hf]
theorem clo_append {S S' : St} {b b2 o : Nat} {bv : PV} {e : Int} (hb : S.objs[b]? = some [.ptr o 0]) (hb2 : S.objs[b2]? = some [bv]) (hc : cval T 78 [.ptr o 0, .str nTmp, bv] S = some (.int .i64 e, S')) (hf : finish false S S' (.int .i64 e) = (.int .i64 e, S')) : cval T 321 [.ptr b 0, .ptr b2 0] S = some (.int .i64 e, S') := by
  simp only [nTmp] at hc
  refine cval_ok' fn_321 rfl ?_
  simp -implicitDefEqProofs [z46, loadP_ptr hb, loadP_ptr hb2, q1, hc, hf]
theorem clo_sync {S S' : St} {b o : Nat} {e : Int} (hb : S.objs[b]? = some [.ptr o 0]) (hc : cval T 84 [.ptr o 0, .str nTmp] S = some (.int .i64 e, S')) (hf : finish false S S' (.int .i64 e) = (.int .i64 e, S')) : cval T 322 [.ptr b 0] S = some (.int .i64 e, S') := by
  simp only [nTmp] at hc
  refine cval_ok' fn_322 rfl ?_
  simp -implicitDefEqProofs [z47, loadP_ptr hb, q1, hc, hf]
theorem clo_rename {S S' : St} {b b2 o : Nat} {n : Nm} {e : Int} (hb : S.objs[b]? = some [.ptr o 0]) (hb2 : S.objs[b2]? = some [.str n]) (hc : cval T 82 [.ptr o 0, .str nTmp, .str n] S = some (.int .i64 e, S')) (hf : finish false S S' (.int .i64 e) = (.int .i64 e, S')) : cval T 323 [.ptr b 0, .ptr b2 0] S = some (.int .i64 e, S') := by
  simp only [nTmp] at hc
  refine cval_ok' fn_323 rfl ?_
  simp -implicitDefEqProofs [z50, loadP_ptr hb, loadP_ptr hb2, q1, hc, hf]
theorem clo_open {S S' : St} {b b2 o : Nat} {n : Nm} {e : Int} (hb : S.objs[b]? = some [.ptr o 0]) (hb2 : S.objs[b2]? = some [.str n]) (hc : cval T 77 [.ptr o 0, .str n] S = some (.int .i64 e, S')) (hf : finish false S S' (.int .i64 e) = (.int .i64 e, S')) : cval T 248 [.ptr b 0, .ptr b2 0] S = some (.int .i64 e, S') := by
  refine cval_ok' fn_248 rfl ?_
  simp -implicitDefEqProofs [z54, loadP_ptr hb, loadP_ptr hb2, q1, hc, hf]
theorem anew_val {S : St} {o K : Nat} {D : Dk} (h : At S o K D) (hK : K ≤ 900) (hf : Free D) {f : Nat} (hl : D.live = [(nLog, f)]) {b : List UInt8} {bv : PV} (hbv : IsSl 1 bv (ofBytes b)) (hb1 : bv.cells = [bv]) (hb2 : bv.one = true)
    (hroom : (b.length : Int) + (D.fb f).length ≤ D.room) :
    ∃ S' D' F, cval T 250 [.ptr o 0, .str nLog, bv] S = some (.int .i64 0, S') ∧ At S' o (K + 10) D' ∧ Fra o S S' D D' ∧ Free D' ∧ D'.live = [(nLog, F)] ∧ D'.base = [(nLog, F)] ∧ D'.wait = [] ∧ D'.fb F = b ∧ D'.fs F = b.length ∧ D'.room = D.room ∧ D'.done = D.done + 5 := by
  obtain ⟨S1, hS1⟩ : ∃ S1 : St, S1 = ⟨S.objs ++ [[.ptr o 0], [.str nLog], [bv]], S.tips⟩ := ⟨_, rfl⟩
  obtain ⟨S2, hS2⟩ : ∃ S2 : St, S2 = ⟨S1.objs, S1.tips ++ [(5, 1)]⟩ := ⟨_, rfl⟩
  have hA1 : At S1 o K D := by have := h.grown [[.ptr o 0], [.str nLog], [bv]] []; rw [List.append_nil] at this; rw [hS1]; exact this
  have hA2 : At S2 o K D := by rw [hS2]; exact hA1.more _
  have hF2 : Fra o S S2 D D := by rw [hS2, hS1]; exact Fra.grow _ _
  have x0 : S2.objs[S.objs.length]? = some [.ptr o 0] := by rw [hS2, hS1]; simp
  have x1 : S2.objs[S.objs.length + 1]? = some [.str nLog] := by rw [hS2, hS1]; simp
  have x2 : S2.objs[S.objs.length + 2]? = some [bv] := by rw [hS2, hS1]; simp
  have hlt := h.lt
  have hno : ∀ j, j < 3 → S.objs.length + j ≠ o ∧ ¬ OwnsO D (S.objs.length + j) := by
    intro j hj
    refine ⟨by omega, ?_⟩
    rintro (q | q | q)
    · omega
    · omega
    · have := hlt.2.2.2 _ q; omega
  have hfm : f ∈ D.fl := h.inl (nLog, f) (by rw [hl]; simp)
  -- five calls
  obtain ⟨F, S3, D3, c3, a3, r3, f3, d3, nF, l3, b3, w3, e3, e3', o3, m3, mF⟩ := sum_create hA2 (by omega) hf named_tmp (by rw [hl]; rfl) (by rw [hl]; simp)
  have hfF : f ≠ F := fun e => nF (by rw [← e]; exact hfm)
  have l3 : D3.live = [(nLog, f), (nTmp, F)] := by rw [l3, hl]; rfl
  have k3 : lk nTmp D3.live = some F := by rw [l3]; rfl
  have s3 : sumB D3 D3.live = (D.fb f).length := by rw [l3]; simp [sumB, e3, (o3 f hfF).1]
  obtain ⟨S4, D4, c4, a4, r4, f4, d4, l4, b4, w4, e4, e4', o4, m4⟩ := sum_append a3 (by omega) f3 named_tmp k3 hbv (by rw [s3, m3]; omega)
  obtain ⟨S5, D5, c5, a5, r5, f5, d5, l5, b5, w5, e5, e5', o5, m5⟩ := sum_sync a4 (by omega) f4 named_tmp (by rw [l4]; exact k3)
  obtain ⟨S6, D6, c6, a6, r6, f6, d6, l6, b6, w6, e6, e6', m6⟩ := sum_rename a5 (by omega) f5 named_tmp named_log (f := F) (by rw [l5, l4]; exact k3)
  have l6 : D6.live = [(nLog, F)] := by rw [l6, l5, l4, l3]; rfl
  obtain ⟨S7, D7, c7, a7, r7, f7, d7, l7, b7, w7, e7, e7', m7⟩ := sum_syncdir a6 (by omega) f6
  -- boxes stay
  have keep : ∀ (Sx : St) (Dx : Dk), Fra o S2 Sx D Dx → Sx.objs[S.objs.length]? = some [.ptr o 0] ∧ Sx.objs[S.objs.length + 1]? = some [.str nLog] ∧ Sx.objs[S.objs.length + 2]? = some [bv] := fun Sx Dx hx =>
    ⟨hx.o.obj _ _ x0 (hno 0 (by omega)).1 (hno 0 (by omega)).2, hx.o.obj _ _ x1 (hno 1 (by omega)).1 (hno 1 (by omega)).2, hx.o.obj _ _ x2 (hno 2 (by omega)).1 (hno 2 (by omega)).2⟩
  have r24 := r3.trans r4
  have r25 := r24.trans r5
  have r26 := r25.trans r6
  have r27 := r26.trans r7
  have run : EachRun [.fn 320 [.ptr S.objs.length 0], .fn 321 [.ptr S.objs.length 0, .ptr (S.objs.length + 2) 0], .fn 322 [.ptr S.objs.length 0], .fn 323 [.ptr S.objs.length 0, .ptr (S.objs.length + 1) 0], .bfn 79 [.ptr o 0]] S2 S7 := by
    refine .cons _ _ _ S3 _ (clo_create x0 c3 (fin_done hA2 a3 d3)) (.cons _ _ _ S4 _ (clo_append (keep _ _ r3).1 (keep _ _ r3).2.2 c4 (fin_done a3 a4 d4)) (.cons _ _ _ S5 _ (clo_sync (keep _ _ r24).1 c5 (fin_done a4 a5 d5))
      (.cons _ _ _ S6 _ (clo_rename (keep _ _ r25).1 (keep _ _ r25).2.1 c6 (fin_done a5 a6 d6)) (.cons _ _ _ S7 _ ?_ (.nil _)))))
    simp only [callvP_bfn, aCall_std]
    exact c7
  have hne : ∀ (Sx : St), finish false Sx S7 (.int .i64 0) = (.int .i64 0, S7) ∨ True := fun _ => .inr trivial
  have dn : D7.done = D.done + 5 := by omega
  have hdd : dcells D ≠ dcells D7 := by
    intro e
    simp only [dcells, List.cons.injEq, PV.int.injEq, true_and] at e
    omega
  have fin2 : finish false S2 S7 (.int .i64 0) = (.int .i64 0, S7) := fin_diff hA2.obj a7.obj hdd (i := o) a7.obj hA2.lt.1 (dcells_free _)
  have fin0 : finish false S S7 (.int .i64 0) = (.int .i64 0, S7) := fin_diff h.obj a7.obj hdd (i := o) a7.obj h.lt.1 (dcells_free _)
  obtain ⟨fv, hfv⟩ : ∃ fv : PV, fv = .sl (some (S.tips.length, 5)) [.fn 320 [.ptr S.objs.length 0], .fn 321 [.ptr S.objs.length 0, .ptr (S.objs.length + 2) 0], .fn 322 [.ptr S.objs.length 0], .fn 323 [.ptr S.objs.length 0, .ptr (S.objs.length + 1) 0], .bfn 79 [.ptr o 0]] [] := ⟨_, rfl⟩
  have heach := each_val (v := fv) (by rw [hfv]; exact reads_sl (fun e he => by simp at he; rcases he with rfl | rfl | rfl | rfl | rfl <;> rfl)) (fun e he => by simp at he; rcases he with rfl | rfl | rfl | rfl | rfl <;> rfl) (by simp) run fin2
  have hlist := list_val hA1 (by omega)
  have hlv : listV D = .sl none [.str nLog] [] := by unfold listV; rw [hf.2, hl]; exact names_log f
  rw [hlv] at hlist
  have hcon := con_val (S := S1)
  simp only [nTmp] at hcon
  have hb0 : S1.objs[S.objs.length]? = some [.ptr o 0] := by rw [hS1]; simp
  refine ⟨S7, D7, F, cval_ok' fn_250 rfl ?_, a7.mono (by omega), hF2.trans r27, f7, by rw [l7, l6], by rw [b7, l6], w7, by rw [e7, e6, e5, e4, e3]; rfl, by rw [e7', e6', e5', e4, e3]; simp, by rw [m7, m6, m5, m4, m3], dn⟩
  have hS1' : St.mk (S.objs ++ [[.ptr o 0], [.str nLog], [bv]]) S.tips = S1 := hS1.symm
  have hlen1 : S1.tips = S.tips := by rw [hS1]
  have hplus : S.objs.length + 1 + 1 = S.objs.length + 2 := rfl
  simp -implicitDefEqProofs [z68, peval, hplus, pstep, newObj, hb1, hb2, hS1', loadP_ptr hb0, q1, hlist, hcon, elems, setParts, newArr, hlen1, ← hfv, ← hS2]
  have hS2' : St.mk S1.objs (S.tips ++ [(5, 1)]) = S2 := by rw [hS2, hlen1]
  simp -implicitDefEqProofs [hS2', heach]
  exact fin0
end Ps
