/- The disk: Create, Remove, Rename. -/
import Derived.Test.YtedmhhncckddmaaDC
namespace Ps
set_option linter.unusedSimpArgs false
set_option linter.unusedVariables false
open Go

theorem fn_77 : T.fn 77 = some (.code disk_Disk_Create) := rfl
theorem fn_82 : T.fn 82 = some (.code disk_Disk_Rename) := rfl
theorem fn_83 : T.fn 83 = some (.code disk_Disk_Remove) := rfl

theorem fin_app {S : St} {o : Nat} {c d : List PV} {k : IntKind} {n : Int} (hd : d = c) {x : List (List PV)} (h : S.objs[o]? = some c) : finish false S ⟨S.objs.set o d ++ x, S.tips⟩ (.int k n) = (.int k n, ⟨S.objs.set o d, S.tips⟩) := by
  subst hd
  rw [set_id h]
  unfold finish
  have : sol (S.objs ++ x) S.objs.length solFuel (.int k n) = some (.int k n) := rfl
  simp [this, List.take_length, beqLL_rfl, PV.frz]

theorem stepD_ok {D : Dk} (hr : stepR D = 0) : stepD D = { D with left := if D.left > 0 then D.left - 1 else D.left, done := D.done + 1 } := by
  unfold stepD
  unfold stepR at hr
  split at hr
  · cases hr
  · rename_i hc; rw [if_neg hc]
theorem stepD_no {D : Dk} (hr : stepR D = 6) : stepD D = { D with dark := true } := by
  unfold stepD
  unfold stepR at hr
  split at hr
  · rename_i hc; rw [if_pos hc]
  · cases hr

def addF (D : Dk) (F : Nat) : Dk := { D with fl := F :: D.fl, fb := fun f => if f = F then [] else D.fb f, fs := fun f => if f = F then 0 else D.fs f, fv := fun f => if f = F then .nils else D.fv f }

theorem At.lt {S : St} {o K : Nat} {D : Dk} (h : At S o K D) : o < S.objs.length ∧ D.bi < S.objs.length ∧ D.li < S.objs.length ∧ ∀ f ∈ D.fl, f < S.objs.length :=
  ⟨(List.getElem?_eq_some_iff.1 h.obj).1, (List.getElem?_eq_some_iff.1 h.base).1, (List.getElem?_eq_some_iff.1 h.live).1, fun f hf => (List.getElem?_eq_some_iff.1 (h.file f hf).1).1⟩

theorem At.add {S : St} {o K : Nat} {D : Dk} (h : At S o K D) : At ⟨S.objs ++ [[.nils, .int .i64 0]], S.tips⟩ o K (addF D S.objs.length) := by
  have hlt := h.lt
  have hg := h.grow (S' := ⟨S.objs ++ [[.nils, .int .i64 0]], S.tips⟩) (fun i c hc => by rw [List.getElem?_append_left (List.getElem?_eq_some_iff.1 hc).1]; exact hc) (fun _ _ hc => hc)
  have hne : ∀ f ∈ D.fl, f ≠ S.objs.length := fun f hf e => by have := hlt.2.2.2 f hf; omega
  exact {
    obj := hg.obj, base := hg.base, live := hg.live, wv := hg.wv
    file := fun f hf => by
      rcases List.mem_cons.1 hf with rfl | hf
      · simp only [addF, if_true]
        exact ⟨by simp, .inl ⟨rfl, rfl⟩, Nat.le_refl _, by have := h.rm; simp; omega⟩
      · simp only [addF, if_neg (hne f hf)]
        exact hg.file f hf
    inb := fun p hp => List.mem_cons_of_mem _ (h.inb p hp)
    inw := fun x hx f hf => List.mem_cons_of_mem _ (h.inw x hx f hf)
    nd := ⟨h.nd.1, h.nd.2.1, h.nd.2.2.1, fun f hf => by
      rcases List.mem_cons.1 hf with rfl | hf
      · simp only [addF]; omega
      · exact h.nd.2.2.2 f hf⟩
    tw := fun f hf k hk => by
      rcases List.mem_cons.1 hf with rfl | hf
      · simp [addF, tid]
      · simp only [addF, if_neg (hne f hf)]; exact h.tw f hf k hk
    tf := fun f hf g hgm hfg k hk => by
      rcases List.mem_cons.1 hf with rfl | hf
      · simp [addF, tid] at hk
      · rcases List.mem_cons.1 hgm with rfl | hgm
        · simp [addF, tid]
        · simp only [addF, if_neg (hne f hf)] at hk
          simp only [addF, if_neg (hne g hgm)]
          exact h.tf f hf g hgm hfg k hk
    hist := h.hist, nb := h.nb, nw := h.nw, rm := h.rm, cnt := h.cnt, dn := h.dn, lf := h.lf }

theorem addF_fra {S : St} {o : Nat} {D : Dk} {F : Nat} {c : List PV} (hFo : F = S.objs.length) (hF : ∀ f ∈ D.fl, f ≠ F) : Fra o S ⟨S.objs ++ [c], S.tips⟩ D (addF D F) := by
  refine ⟨⟨Nat.le_refl _, fun k hk ho => ⟨?_, rfl⟩⟩, ⟨fun i d hd _ _ => by simp only; rw [List.getElem?_append_left (List.getElem?_eq_some_iff.1 hd).1]; exact hd, fun i hi _ hn => ?_⟩⟩
  rotate_left
  · rintro (q | q | q)
    · exact hn (.inl q)
    · exact hn (.inr (.inl q))
    · rcases List.mem_cons.1 q with q | q
      · omega
      · exact hn (.inr (.inr q))
  rintro (hq | ⟨f, hf, hq⟩)
  · exact ho (.inl hq)
  · rcases List.mem_cons.1 hf with rfl | hf
    · simp [addF, tid] at hq
    · simp only [addF, if_neg (hF f hf)] at hq
      exact ho (.inr ⟨f, hf, hq⟩)

theorem stepR_add (D : Dk) (F : Nat) : stepR (addF D F) = stepR D := rfl

def createE (D : Dk) (n : Nm) : Int := if findE D n = 0 then 10 else if findE D n = 9 then (if 64 ≤ D.live.length then 7 else 0) else findE D n

theorem named_len {n : Nm} (h : namedB n = true) : n.length ≤ 24 := by
  simp [namedB] at h; exact h.2.2
theorem findE_cases (D : Dk) (n : Nm) : findE D n = 8 ∨ (findE D n = 9 ∧ namedB n = true ∧ lk n D.live = none) ∨ (findE D n = 0 ∧ namedB n = true ∧ ∃ f, lk n D.live = some f) := by
  unfold findE
  cases hb : namedB n with
  | false => simp
  | true =>
    cases hl : lk n D.live with
    | none => simp
    | some f => simp

theorem create_no {S : St} {o K : Nat} {D : Dk} (h : At S o K D) {n : Nm} (hn : n.length ≤ maxLen) (hK : K ≤ 1048570) (he : createE D n ≠ 0) :
    cval T 77 [.ptr o 0, .str n] S = some (.int .i64 (createE D n), S) := by
  have hf := find_val h hn
  have hob := h.obj
  simp only [dcells] at hob
  have hlv := h.live
  refine cval_ok' fn_77 rfl ?_
  rcases findE_cases D n with h8 | ⟨h9, _, _⟩ | ⟨h0, _, _⟩
  · rw [h8] at hf
    simp -implicitDefEqProofs [disk_Disk_Create, hf, aCall, createE, h8, fin_int]
  · rw [h9] at hf
    have hl : 64 ≤ D.live.length := by
      simp only [createE, h9] at he
      by_cases q : 64 ≤ D.live.length
      · exact q
      · simp [q] at he
    have hc : ((mcells D.live).length : Int) / 2 = (D.live.length : Int) := by rw [mcells_len]; omega
    have hl' : (64 : Int) ≤ (D.live.length : Int) := by omega
    simp -implicitDefEqProofs [disk_Disk_Create, hf, aCall, createE, h9, fin_int, loadP_ptr hob, pstep, hob, hlv, hc, hl, hl']
  · rw [h0] at hf
    simp -implicitDefEqProofs [disk_Disk_Create, hf, aCall, createE, h0, fin_int]

theorem create_dark {S : St} {o K : Nat} {D : Dk} (h : At S o K D) {n : Nm} (hn : n.length ≤ maxLen) (hK : K ≤ 1048570) (he : createE D n = 0) (hr : stepR D = 6) :
    ∃ S', cval T 77 [.ptr o 0, .str n] S = some (.int .i64 6, S') ∧ At S' o (K + 1) (stepD D) ∧ Fra o S S' D (stepD D) ∧ (dcells (stepD D) = dcells D → S' = S) := by
  have hf := find_val h hn
  have hob := h.obj
  simp only [dcells] at hob
  have hlv := h.live
  have hfe : findE D n = 9 ∧ ¬ 64 ≤ D.live.length := by
    rcases findE_cases D n with h8 | ⟨h9, _, _⟩ | ⟨h0, _, _⟩
    · simp [createE, h8] at he
    · refine ⟨h9, fun q => ?_⟩
      simp [createE, h9, q] at he
    · simp [createE, h0] at he
  obtain ⟨h9, hl⟩ := hfe
  rw [h9] at hf
  have hc : ((mcells D.live).length : Int) / 2 = (D.live.length : Int) := by rw [mcells_len]; omega
  have hl' : ¬ (64 : Int) ≤ (D.live.length : Int) := by omega
  obtain ⟨S1, hS1⟩ : ∃ S1 : St, S1 = ⟨S.objs ++ [[.nils, .int .i64 0]], S.tips⟩ := ⟨_, rfl⟩
  have hA := h.add
  rw [← hS1] at hA
  have hen := enter_no hA (by omega) ([], n, some S.objs.length) (by rw [stepR_add]; exact hr)
  simp only [entV, fptr] at hen
  have hstep := step_val h (by omega)
  have hdc : dcells (stepD (addF D S.objs.length)) = dcells (stepD D) := by
    by_cases hc : (D.dark || D.left == 0) = true
    · simp only [stepD, addF, hc, dcells, if_true]
    · simp only [stepD, addF, hc, dcells]; rfl
  rw [hdc] at hen
  have hlt := h.lt.1
  have hset : S1.objs.set o (dcells (stepD D)) = S.objs.set o (dcells (stepD D)) ++ [[.nils, .int .i64 0]] := by rw [hS1]; simp only; rw [List.set_append_left _ _ hlt]
  have hS1t : S1.tips = S.tips := by rw [hS1]
  rw [hset, hS1t] at hen
  by_cases hd : dcells (stepD D) = dcells D
  · refine ⟨⟨S.objs.set o (dcells (stepD D)), S.tips⟩, cval_ok' fn_77 rfl ?_, hstep.2, step_fra, fun e => by rw [e, set_id h.obj]⟩
    simp -implicitDefEqProofs [disk_Disk_Create, hf, aCall, createE, h9, fin_int, loadP_ptr hob, pstep, hob, hlv, hc, hl, hl', peval, fillParts, putCells, ← hS1, hen]
    exact fin_app hd h.obj
  · refine ⟨⟨S.objs.set o (dcells (stepD D)) ++ [[.nils, .int .i64 0]], S.tips⟩, cval_ok' fn_77 rfl ?_, hstep.2.grow (fun i c hc => by rw [List.getElem?_append_left (List.getElem?_eq_some_iff.1 hc).1]; exact hc) (fun _ _ hc => hc), ⟨⟨(step_fra (S := S) (o := o) (D := D)).len, (step_fra (S := S) (o := o) (D := D)).keep⟩, ⟨fun i c hc hi hn => by
      have := (step_fra (S := S) (o := o) (D := D)).o.obj i c hc hi hn
      simp only at this ⊢
      rw [List.getElem?_append_left (List.getElem?_eq_some_iff.1 this).1]; exact this, (step_fra (S := S) (o := o) (D := D)).o.own⟩⟩, fun e => absurd e hd⟩
    simp -implicitDefEqProofs [disk_Disk_Create, hf, aCall, createE, h9, fin_int, loadP_ptr hob, pstep, hob, hlv, hc, hl, hl', peval, fillParts, putCells, ← hS1, hen]
    have g1 : (S.objs.set o (dcells (stepD D)) ++ [[PV.nils, PV.int IntKind.i64 0]])[o]? = some (dcells (stepD D)) := by
      rw [List.getElem?_append_left (by simpa using hlt)]; exact get_set h.obj
    exact fin_diff h.obj g1 (Ne.symm hd) g1 hlt (dcells_free _)

theorem create_ok {S : St} {o K : Nat} {D : Dk} (h : At S o K D) {n : Nm} (hn : n.length ≤ maxLen) (hK : K ≤ 1048570) (he : createE D n = 0) (hr : stepR D = 0) :
    ∃ wv' S', cval T 77 [.ptr o 0, .str n] S = some (.int .i64 0, S') ∧ At S' o (K + 2) { stepD (addF D S.objs.length) with live := put n S.objs.length D.live, wait := D.wait ++ [([], n, some S.objs.length)], wv := wv' } ∧
      Fra o S S' D { stepD (addF D S.objs.length) with live := put n S.objs.length D.live, wait := D.wait ++ [([], n, some S.objs.length)], wv := wv' } := by
  have hf := find_val h hn
  have hob := h.obj
  simp only [dcells] at hob
  have hlv := h.live
  have hfe : findE D n = 9 ∧ namedB n = true ∧ ¬ 64 ≤ D.live.length := by
    rcases findE_cases D n with h8 | ⟨h9, hnm, _⟩ | ⟨h0, _, _⟩
    · simp [createE, h8] at he
    · refine ⟨h9, hnm, fun q => ?_⟩
      simp [createE, h9, q] at he
    · simp [createE, h0] at he
  obtain ⟨h9, hnm, hl⟩ := hfe
  have hne : n ≠ [] := fun e => by subst e; simp [namedB] at hnm
  rw [h9] at hf
  have hc : ((mcells D.live).length : Int) / 2 = (D.live.length : Int) := by rw [mcells_len]; omega
  have hl' : ¬ (64 : Int) ≤ (D.live.length : Int) := by omega
  obtain ⟨S1, hS1⟩ : ∃ S1 : St, S1 = ⟨S.objs ++ [[.nils, .int .i64 0]], S.tips⟩ := ⟨_, rfl⟩
  have hA := h.add
  rw [← hS1] at hA
  obtain ⟨wv', S', hen, hA', hF'⟩ := enter_ok hA hK ([], n, some S.objs.length) (fun e => by cases e) (fun f hf => by cases hf; exact List.mem_cons_self) (named_len hnm) (by rw [stepR_add]; exact hr)
  have hdo : doE ([], n, some S.objs.length) (addF D S.objs.length).live = put n S.objs.length D.live := by simp [doE, hne, addF]
  rw [hdo] at hA' hF'
  simp only [entV, fptr] at hen
  have hfl : ∀ f ∈ D.fl, f ≠ S.objs.length := fun f hf e => by have := h.lt.2.2.2 f hf; omega
  have hF0 : Fra o S S1 D (addF D S.objs.length) := by rw [hS1]; exact addF_fra rfl hfl
  refine ⟨wv', S', cval_ok' fn_77 rfl ?_, hA', hF0.trans hF'⟩
  simp -implicitDefEqProofs [disk_Disk_Create, hf, aCall, createE, h9, fin_int, loadP_ptr hob, pstep, hob, hlv, hc, hl, hl', peval, fillParts, putCells, ← hS1, hen]
  refine fin_diff h.obj hA'.obj ?_ (i := o) hA'.obj h.lt.1 (dcells_free _)
  intro e
  have hdd : (stepD (addF D S.objs.length)).done = D.done + 1 := by rw [stepD_ok (by rw [stepR_add]; exact hr)]; rfl
  simp only [dcells, List.cons.injEq, PV.int.injEq, true_and] at e
  omega

theorem remove_no {S : St} {o K : Nat} {D : Dk} (h : At S o K D) {n : Nm} (hn : n.length ≤ maxLen) (he : findE D n ≠ 0) : cval T 83 [.ptr o 0, .str n] S = some (.int .i64 (findE D n), S) := by
  have hf := find_val h hn
  refine cval_ok' fn_83 rfl ?_
  rcases findE_cases D n with h8 | ⟨h9, _, _⟩ | ⟨h0, _, _⟩
  · rw [h8] at hf
    simp -implicitDefEqProofs [disk_Disk_Remove, hf, aCall, h8, fin_int]
  · rw [h9] at hf
    simp -implicitDefEqProofs [disk_Disk_Remove, hf, aCall, h9, fin_int]
  · exact absurd h0 he
theorem fin_step {S : St} {o K : Nat} {D : Dk} (h : At S o K D) {n : Int} : finish false S ⟨S.objs.set o (dcells (stepD D)), S.tips⟩ (.int .i64 n) = (.int .i64 n, ⟨S.objs.set o (dcells (stepD D)), S.tips⟩) := fin_seti h.obj (dcells_free _)

theorem remove_dark {S : St} {o K : Nat} {D : Dk} (h : At S o K D) {n : Nm} (hn : n.length ≤ maxLen) (hK : K ≤ 1048570) (he : findE D n = 0) (hr : stepR D = 6) :
    cval T 83 [.ptr o 0, .str n] S = some (.int .i64 6, ⟨S.objs.set o (dcells (stepD D)), S.tips⟩) := by
  have hf := find_val h hn
  rw [he] at hf
  have hen := enter_no h (by omega) (n, [], none) hr
  simp only [entV, fptr] at hen
  refine cval_ok' fn_83 rfl ?_
  simp -implicitDefEqProofs [disk_Disk_Remove, hf, aCall, peval, fillParts, putCells, hen]
  exact fin_step h

theorem fin_done {S S' : St} {o K K' : Nat} {D D' : Dk} (h : At S o K D) (h' : At S' o K' D') (hd : D'.done = D.done + 1) {n : Int} : finish false S S' (.int .i64 n) = (.int .i64 n, S') := by
  refine fin_diff h.obj h'.obj ?_ (i := o) h'.obj h.lt.1 (dcells_free _)
  intro e
  simp only [dcells, List.cons.injEq, PV.int.injEq, true_and] at e
  omega

theorem remove_ok {S : St} {o K : Nat} {D : Dk} (h : At S o K D) {n : Nm} (hn : n.length ≤ maxLen) (hK : K ≤ 1048570) (he : findE D n = 0) (hr : stepR D = 0) :
    ∃ wv' S', cval T 83 [.ptr o 0, .str n] S = some (.int .i64 0, S') ∧ At S' o (K + 2) { stepD D with live := doE (n, [], none) D.live, wait := D.wait ++ [(n, [], none)], wv := wv' } ∧
      Fra o S S' D { stepD D with live := doE (n, [], none) D.live, wait := D.wait ++ [(n, [], none)], wv := wv' } := by
  have hf := find_val h hn
  rw [he] at hf
  have hlk : (lk n D.live).isSome = true := by
    rcases findE_cases D n with h8 | ⟨h9, _, _⟩ | ⟨_, _, f, hf⟩
    · rw [h8] at he; cases he
    · rw [h9] at he; cases he
    · rw [hf]; rfl
  obtain ⟨wv', S', hen, hA', hF'⟩ := enter_ok h hK (n, [], none) (fun _ => hlk) (fun f hf => by cases hf) (by simp) hr
  simp only [entV, fptr] at hen
  refine ⟨wv', S', cval_ok' fn_83 rfl ?_, hA', hF'⟩
  simp -implicitDefEqProofs [disk_Disk_Remove, hf, aCall, peval, fillParts, putCells, hen]
  exact fin_done h hA' (by rw [stepD_ok hr])

def renameE (D : Dk) (a b : Nm) : Int := if findE D a = 8 then 8 else if namedB b then findE D a else 8

theorem rename_no {S : St} {o K : Nat} {D : Dk} (h : At S o K D) {a b : Nm} (ha : a.length ≤ maxLen) (hb : b.length ≤ maxLen) (he : renameE D a b ≠ 0) : cval T 82 [.ptr o 0, .str a, .str b] S = some (.int .i64 (renameE D a b), S) := by
  have hf := find_val h ha
  have hpv := named_pval hb
  refine cval_ok' fn_82 rfl ?_
  rcases findE_cases D a with h8 | ⟨h9, _, _⟩ | ⟨h0, _, _⟩
  · rw [h8] at hf
    simp -implicitDefEqProofs [disk_Disk_Rename, hf, h8, fin_int, renameE]
  · rw [h9] at hf
    cases hq : namedB b
    · rw [hq] at hpv
      simp -implicitDefEqProofs [disk_Disk_Rename, hf, h9, fin_int, renameE, hpv, hq]
    · rw [hq] at hpv
      simp -implicitDefEqProofs [disk_Disk_Rename, hf, h9, fin_int, renameE, hpv, hq]
  · rw [h0] at hf
    cases hq : namedB b
    · rw [hq] at hpv
      simp -implicitDefEqProofs [disk_Disk_Rename, hf, h0, fin_int, renameE, hpv, hq]
    · simp [renameE, h0, hq] at he

theorem rename_dark {S : St} {o K : Nat} {D : Dk} (h : At S o K D) {a b : Nm} (ha : a.length ≤ maxLen) (hb : b.length ≤ maxLen) (hK : K ≤ 1048570) (he : renameE D a b = 0) (hr : stepR D = 6) :
    cval T 82 [.ptr o 0, .str a, .str b] S = some (.int .i64 6, ⟨S.objs.set o (dcells (stepD D)), S.tips⟩) := by
  have hf := find_val h ha
  have hpv := named_pval hb
  obtain ⟨h0, hq⟩ : findE D a = 0 ∧ namedB b = true := by
    rcases findE_cases D a with h8 | ⟨h9, _, _⟩ | ⟨h0, _, _⟩
    · simp [renameE, h8] at he
    · cases hq : namedB b <;> simp [renameE, h9, hq] at he
    · cases hq : namedB b
      · simp [renameE, h0, hq] at he
      · exact ⟨h0, rfl⟩
  rw [h0] at hf
  rw [hq] at hpv
  have hen := enter_no h (by omega) (a, b, none) hr
  simp only [entV, fptr] at hen
  refine cval_ok' fn_82 rfl ?_
  simp -implicitDefEqProofs [disk_Disk_Rename, hf, peval, fillParts, putCells, hen, hpv]
  exact fin_step h

theorem rename_ok {S : St} {o K : Nat} {D : Dk} (h : At S o K D) {a b : Nm} (ha : a.length ≤ maxLen) (hb : b.length ≤ maxLen) (hK : K ≤ 1048570) (he : renameE D a b = 0) (hr : stepR D = 0) :
    ∃ wv' S', cval T 82 [.ptr o 0, .str a, .str b] S = some (.int .i64 0, S') ∧ At S' o (K + 2) { stepD D with live := doE (a, b, none) D.live, wait := D.wait ++ [(a, b, none)], wv := wv' } ∧
      Fra o S S' D { stepD D with live := doE (a, b, none) D.live, wait := D.wait ++ [(a, b, none)], wv := wv' } := by
  have hf := find_val h ha
  have hpv := named_pval hb
  obtain ⟨h0, hq, hlk⟩ : findE D a = 0 ∧ namedB b = true ∧ (lk a D.live).isSome = true := by
    rcases findE_cases D a with h8 | ⟨h9, _, _⟩ | ⟨h0, _, f, hf⟩
    · simp [renameE, h8] at he
    · cases hq : namedB b <;> simp [renameE, h9, hq] at he
    · cases hq : namedB b
      · simp [renameE, h0, hq] at he
      · exact ⟨h0, rfl, by rw [hf]; rfl⟩
  rw [h0] at hf
  rw [hq] at hpv
  obtain ⟨wv', S', hen, hA', hF'⟩ := enter_ok h hK (a, b, none) (fun _ => hlk) (fun f hf => by cases hf) (named_len hq) hr
  simp only [entV, fptr] at hen
  refine ⟨wv', S', cval_ok' fn_82 rfl ?_, hA', hF'⟩
  simp -implicitDefEqProofs [disk_Disk_Rename, hf, peval, fillParts, putCells, hen, hpv]
  exact fin_done h hA' (by rw [stepD_ok hr])

end Ps
