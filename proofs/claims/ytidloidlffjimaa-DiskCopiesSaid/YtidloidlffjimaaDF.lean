/- The disk: SyncDir, Fuse, Done, Read. -/
import Derived.Test.YtidloidlffjimaaDC
namespace Ps
set_option linter.unusedSimpArgs false
set_option linter.unusedVariables false
open Go
theorem fn_77 : T.fn 77 = some (.code disk_Disk_Create) := rfl
theorem fn_82 : T.fn 82 = some (.code disk_Disk_Rename) := rfl
theorem fn_83 : T.fn 83 = some (.code disk_Disk_Remove) := rfl

theorem fin_app {S : St} {o : Nat} {c d : List PV} {k : IntKind} {n : Int} (hd : d = c) {x : List (List PV)} (h : S.objs[o]? = some c) : finish false S ⟨S.objs.set o d ++ x, S.tips⟩ (.int k n) = (.int k n, ⟨S.objs.set o d, S.tips⟩) := by
 subst hd
 rw [set_id h]
 unfold finish
 have : sol (S.objs ++ x) S.objs.length solFuel (.int k n) = some (.int k n) := rfl
 simp [this, List.take_length, beqLL_rfl, PV.frz]

theorem stepD_ok {D : Dk} (hr : stepR D = 0) : stepD D = { D with left := if D.left > 0 then D.left - 1 else D.left, done := D.done + 1 } := by
 unfold stepD
 unfold stepR at hr
 split at hr
 ·cases hr
 ·rename_i hc; rw [if_neg hc]
def addF (D : Dk) (F : Nat) : Dk := { D with fl := F :: D.fl, fb := fun f => if f = F then [] else D.fb f, fs := fun f => if f = F then 0 else D.fs f, fv := fun f => if f = F then .nils else D.fv f }

theorem At.lt {S : St} {o K : Nat} {D : Dk} (h : At S o K D) : o < S.objs.length ∧ D.bi < S.objs.length ∧ D.li < S.objs.length ∧ ∀ f ∈ D.fl, f < S.objs.length :=
 ⟨(List.getElem?_eq_some_iff.1 h.obj).1, (List.getElem?_eq_some_iff.1 h.base).1, (List.getElem?_eq_some_iff.1 h.live).1, fun f hf => (List.getElem?_eq_some_iff.1 (h.file f hf).1).1⟩

theorem At.add {S : St} {o K : Nat} {D : Dk} (h : At S o K D) : At ⟨S.objs ++ [[.nils, .int .i64 0]], S.tips⟩ o K (addF D S.objs.length) := by
 have hlt := h.lt
 have hg := h.grow (S' := ⟨S.objs ++ [[.nils, .int .i64 0]], S.tips⟩) (fun i c hc => by rw [List.getElem?_append_left (List.getElem?_eq_some_iff.1 hc).1]; exact hc) (fun _ _ hc => hc)
 have hne : ∀ f ∈ D.fl, f ≠ S.objs.length := fun f hf e => by have := hlt.2.2.2 f hf; omega
 exact {
  obj := hg.obj, base := hg.base, live := hg.live, wv := hg.wv
  file := fun f hf => by
   rcases List.mem_cons.1 hf with rfl | hf
   ·simp only [addF, if_true]
    exact ⟨by simp, .inl ⟨rfl, rfl⟩, Nat.le_refl _, by have := h.rm; simp; omega⟩
   ·simp only [addF, if_neg (hne f hf)]
    exact hg.file f hf
  inb := fun p hp => List.mem_cons_of_mem _ (h.inb p hp)
  inw := fun x hx f hf => List.mem_cons_of_mem _ (h.inw x hx f hf)
  nd := ⟨h.nd.1, h.nd.2.1, h.nd.2.2.1, fun f hf => by
   rcases List.mem_cons.1 hf with rfl | hf
   ·simp only [addF]; omega
   ·exact h.nd.2.2.2 f hf⟩
  tw := fun f hf k hk => by
   rcases List.mem_cons.1 hf with rfl | hf
   ·simp [addF, tid]
   ·simp only [addF, if_neg (hne f hf)]; exact h.tw f hf k hk
  tf := fun f hf g hgm hfg k hk => by
   rcases List.mem_cons.1 hf with rfl | hf
   ·simp [addF, tid] at hk
   ·rcases List.mem_cons.1 hgm with rfl | hgm
    ·simp [addF, tid]
    ·simp only [addF, if_neg (hne f hf)] at hk
     simp only [addF, if_neg (hne g hgm)]
     exact h.tf f hf g hgm hfg k hk
  hist := h.hist, nb := h.nb, nw := h.nw, rm := h.rm, cnt := h.cnt, dn := h.dn, lf := h.lf }

theorem addF_fra {S : St} {o : Nat} {D : Dk} {F : Nat} {c : List PV} (hFo : F = S.objs.length) (hF : ∀ f ∈ D.fl, f ≠ F) : Fra o S ⟨S.objs ++ [c], S.tips⟩ D (addF D F) := by
 refine ⟨⟨Nat.le_refl _, fun k hk ho => ⟨?_, rfl⟩⟩, ⟨fun i d hd _ _ => by simp only; rw [List.getElem?_append_left (List.getElem?_eq_some_iff.1 hd).1]; exact hd, fun i hi _ hn => ?_⟩⟩
 rotate_left
 ·rintro (q | q | q)
  ·exact hn (.inl q)
  ·exact hn (.inr (.inl q))
  ·rcases List.mem_cons.1 q with q | q
   ·omega
   ·exact hn (.inr (.inr q))
 rintro (hq | ⟨f, hf, hq⟩)
 ·exact ho (.inl hq)
 ·rcases List.mem_cons.1 hf with rfl | hf
  ·simp [addF, tid] at hq
  ·simp only [addF, if_neg (hF f hf)] at hq
   exact ho (.inr ⟨f, hf, hq⟩)

theorem stepR_add (D : Dk) (F : Nat) : stepR (addF D F) = stepR D := rfl

def createE (D : Dk) (n : Nm) : Int := if findE D n = 0 then 10 else if findE D n = 9 then (if 64 ≤ D.live.length then 7 else 0) else findE D n

theorem named_len {n : Nm} (h : namedB n = true) : n.length ≤ 24 := by
 simp [namedB] at h; exact h.2.2
theorem findE_cases (D : Dk) (n : Nm) : findE D n = 8 ∨ (findE D n = 9 ∧ namedB n = true ∧ lk n D.live = none) ∨ (findE D n = 0 ∧ namedB n = true ∧ ∃ f, lk n D.live = some f) := by
 unfold findE
 cases hb : namedB n with
 | false => simp
 | true =>
  cases hl : lk n D.live with
  | none => simp
  | some f => simp

theorem create_no {S : St} {o K : Nat} {D : Dk} (h : At S o K D) {n : Nm} (hn : n.length ≤ maxLen) (hK : K ≤ 1048570) (he : createE D n ≠ 0) :
  cval T 77 [.ptr o 0, .str n] S = some (.int .i64 (createE D n), S) := by
 have hf := find_val h hn
 have hob := h.obj
 simp only [dcells] at hob
 have hlv := h.live
 refine cval_ok' fn_77 rfl ?_
 rcases findE_cases D n with h8 | ⟨h9, _, _⟩ | ⟨h0, _, _⟩
 ·rw [h8] at hf
  simp -implicitDefEqProofs [disk_Disk_Create, hf, aCall, createE, h8, fin_int]
 ·rw [h9] at hf
  have hl : 64 ≤ D.live.length := by
   simp only [createE, h9] at he
   by_cases q : 64 ≤ D.live.length
   ·exact q
   ·simp [q] at he
  have hc : ((mcells D.live).length : Int) / 2 = (D.live.length : Int) := by rw [mcells_len]; omega
  have hl' : (64 : Int) ≤ (D.live.length : Int) := by omega
  simp -implicitDefEqProofs [disk_Disk_Create, hf, aCall, createE, h9, fin_int, loadP_ptr hob, pstep, hob, hlv, hc, hl, hl']
 ·rw [h0] at hf
  simp -implicitDefEqProofs [disk_Disk_Create, hf, aCall, createE, h0, fin_int]

theorem create_dark {S : St} {o K : Nat} {D : Dk} (h : At S o K D) {n : Nm} (hn : n.length ≤ maxLen) (hK : K ≤ 1048570) (he : createE D n = 0) (hr : stepR D = 6) :
  ∃ S', cval T 77 [.ptr o 0, .str n] S = some (.int .i64 6, S') ∧ At S' o (K + 1) (stepD D) ∧ Fra o S S' D (stepD D) ∧ (dcells (stepD D) = dcells D → S' = S) := by
 have hf := find_val h hn
 have hob := h.obj
 simp only [dcells] at hob
 have hlv := h.live
 have hfe : findE D n = 9 ∧ ¬ 64 ≤ D.live.length := by
  rcases findE_cases D n with h8 | ⟨h9, _, _⟩ | ⟨h0, _, _⟩
  ·simp [createE, h8] at he
  ·refine ⟨h9, fun q => ?_⟩
   simp [createE, h9, q] at he
  ·simp [createE, h0] at he
 obtain ⟨h9, hl⟩ := hfe
 rw [h9] at hf
 have hc : ((mcells D.live).length : Int) / 2 = (D.live.length : Int) := by rw [mcells_len]; omega
 have hl' : ¬ (64 : Int) ≤ (D.live.length : Int) := by omega
 obtain ⟨S1, hS1⟩ : ∃ S1 : St, S1 = ⟨S.objs ++ [[.nils, .int .i64 0]], S.tips⟩ := ⟨_, rfl⟩
 have hA := h.add
 rw [← hS1] at hA
 have hen := enter_no hA (by omega) ([], n, some S.objs.length) (by rw [stepR_add]; exact hr)
 simp only [entV, fptr] at hen
 have hstep := step_val h (by omega)
 have hdc : dcells (stepD (addF D S.objs.length)) = dcells (stepD D) := by
  by_cases hc : (D.dark || D.left == 0) = true
  ·simp only [stepD, addF, hc, dcells, if_true]
  ·simp only [stepD, addF, hc, dcells]; rfl
 rw [hdc] at hen
 have hlt := h.lt.1
 have hset : S1.objs.set o (dcells (stepD D)) = S.objs.set o (dcells (stepD D)) ++ [[.nils, .int .i64 0]] := by rw [hS1]; simp only; rw [List.set_append_left _ _ hlt]
 have hS1t : S1.tips = S.tips := by rw [hS1]
 rw [hset, hS1t] at hen
 by_cases hd : dcells (stepD D) = dcells D
 ·refine ⟨⟨S.objs.set o (dcells (stepD D)), S.tips⟩, cval_ok' fn_77 rfl ?_, hstep.2, step_fra, fun e => by rw [e, set_id h.obj]⟩
  simp -implicitDefEqProofs [disk_Disk_Create, hf, aCall, createE, h9, fin_int, loadP_ptr hob, pstep, hob, hlv, hc, hl, hl', peval, fillParts, putCells, ← hS1, hen]
  exact fin_app hd h.obj
 ·refine ⟨⟨S.objs.set o (dcells (stepD D)) ++ [[.nils, .int .i64 0]], S.tips⟩, cval_ok' fn_77 rfl ?_, hstep.2.grow (fun i c hc => by rw [List.getElem?_append_left (List.getElem?_eq_some_iff.1 hc).1]; exact hc) (fun _ _ hc => hc), ⟨⟨(step_fra (S := S) (o := o) (D := D)).len, (step_fra (S := S) (o := o) (D := D)).keep⟩, ⟨fun i c hc hi hn => by
   have := (step_fra (S := S) (o := o) (D := D)).o.obj i c hc hi hn
   simp only at this ⊢
   rw [List.getElem?_append_left (List.getElem?_eq_some_iff.1 this).1]; exact this, (step_fra (S := S) (o := o) (D := D)).o.own⟩⟩, fun e => absurd e hd⟩
  simp -implicitDefEqProofs [disk_Disk_Create, hf, aCall, createE, h9, fin_int, loadP_ptr hob, pstep, hob, hlv, hc, hl, hl', peval, fillParts, putCells, ← hS1, hen]
  have g1 : (S.objs.set o (dcells (stepD D)) ++ [[PV.nils, PV.int IntKind.i64 0]])[o]? = some (dcells (stepD D)) := by
   rw [List.getElem?_append_left (by simpa using hlt)]; exact get_set h.obj
  exact fin_diff h.obj g1 (Ne.symm hd) g1 hlt (dcells_free _)

theorem create_ok {S : St} {o K : Nat} {D : Dk} (h : At S o K D) {n : Nm} (hn : n.length ≤ maxLen) (hK : K ≤ 1048570) (he : createE D n = 0) (hr : stepR D = 0) :
  ∃ wv' S', cval T 77 [.ptr o 0, .str n] S = some (.int .i64 0, S') ∧ At S' o (K + 2) { stepD (addF D S.objs.length) with live := put n S.objs.length D.live, wait := D.wait ++ [([], n, some S.objs.length)], wv := wv' } ∧
   Fra o S S' D { stepD (addF D S.objs.length) with live := put n S.objs.length D.live, wait := D.wait ++ [([], n, some S.objs.length)], wv := wv' } := by
 have hf := find_val h hn
 have hob := h.obj
 simp only [dcells] at hob
 have hlv := h.live
 have hfe : findE D n = 9 ∧ namedB n = true ∧ ¬ 64 ≤ D.live.length := by
  rcases findE_cases D n with h8 | ⟨h9, hnm, _⟩ | ⟨h0, _, _⟩
  ·simp [createE, h8] at he
  ·refine ⟨h9, hnm, fun q => ?_⟩
   simp [createE, h9, q] at he
  ·simp [createE, h0] at he
 obtain ⟨h9, hnm, hl⟩ := hfe
 have hne : n ≠ [] := fun e => by subst e; simp [namedB] at hnm
 rw [h9] at hf
 have hc : ((mcells D.live).length : Int) / 2 = (D.live.length : Int) := by rw [mcells_len]; omega
 have hl' : ¬ (64 : Int) ≤ (D.live.length : Int) := by omega
 obtain ⟨S1, hS1⟩ : ∃ S1 : St, S1 = ⟨S.objs ++ [[.nils, .int .i64 0]], S.tips⟩ := ⟨_, rfl⟩
 have hA := h.add
 rw [← hS1] at hA
 obtain ⟨wv', S', hen, hA', hF'⟩ := enter_ok hA hK ([], n, some S.objs.length) (fun e => by cases e) (fun f hf => by cases hf; exact List.mem_cons_self) (named_len hnm) (by rw [stepR_add]; exact hr)
 have hdo : doE ([], n, some S.objs.length) (addF D S.objs.length).live = put n S.objs.length D.live := by simp [doE, hne, addF]
 rw [hdo] at hA' hF'
 simp only [entV, fptr] at hen
 have hfl : ∀ f ∈ D.fl, f ≠ S.objs.length := fun f hf e => by have := h.lt.2.2.2 f hf; omega
 have hF0 : Fra o S S1 D (addF D S.objs.length) := by rw [hS1]; exact addF_fra rfl hfl
 refine ⟨wv', S', cval_ok' fn_77 rfl ?_, hA', hF0.trans hF'⟩
 simp -implicitDefEqProofs [disk_Disk_Create, hf, aCall, createE, h9, fin_int, loadP_ptr hob, pstep, hob, hlv, hc, hl, hl', peval, fillParts, putCells, ← hS1, hen]
 refine fin_diff h.obj hA'.obj ?_ (i := o) hA'.obj h.lt.1 (dcells_free _)
 intro e
 have hdd : (stepD (addF D S.objs.length)).done = D.done + 1 := by rw [stepD_ok (by rw [stepR_add]; exact hr)]; rfl
 simp only [dcells, List.cons.injEq, PV.int.injEq, true_and] at e
 omega

theorem remove_no {S : St} {o K : Nat} {D : Dk} (h : At S o K D) {n : Nm} (hn : n.length ≤ maxLen) (he : findE D n ≠ 0) : cval T 83 [.ptr o 0, .str n] S = some (.int .i64 (findE D n), S) := by
 have hf := find_val h hn
 refine cval_ok' fn_83 rfl ?_
 rcases findE_cases D n with h8 | ⟨h9, _, _⟩ | ⟨h0, _, _⟩
 ·rw [h8] at hf
  simp -implicitDefEqProofs [disk_Disk_Remove, hf, aCall, h8, fin_int]
 ·rw [h9] at hf
  simp -implicitDefEqProofs [disk_Disk_Remove, hf, aCall, h9, fin_int]
 ·exact absurd h0 he
theorem fin_step {S : St} {o K : Nat} {D : Dk} (h : At S o K D) {n : Int} : finish false S ⟨S.objs.set o (dcells (stepD D)), S.tips⟩ (.int .i64 n) = (.int .i64 n, ⟨S.objs.set o (dcells (stepD D)), S.tips⟩) := fin_seti h.obj (dcells_free _)

theorem remove_dark {S : St} {o K : Nat} {D : Dk} (h : At S o K D) {n : Nm} (hn : n.length ≤ maxLen) (hK : K ≤ 1048570) (he : findE D n = 0) (hr : stepR D = 6) :
  cval T 83 [.ptr o 0, .str n] S = some (.int .i64 6, ⟨S.objs.set o (dcells (stepD D)), S.tips⟩) := by
 have hf := find_val h hn
 rw [he] at hf
 have hen := enter_no h (by omega) (n, [], none) hr
 simp only [entV, fptr] at hen
 refine cval_ok' fn_83 rfl ?_
 simp -implicitDefEqProofs [disk_Disk_Remove, hf, aCall, peval, fillParts, putCells, hen]
 exact fin_step h

theorem fin_done {S S' : St} {o K K' : Nat} {D D' : Dk} (h : At S o K D) (h' : At S' o K' D') (hd : D'.done = D.done + 1) {n : Int} : finish false S S' (.int .i64 n) = (.int .i64 n, S') := by
 refine fin_diff h.obj h'.obj ?_ (i := o) h'.obj h.lt.1 (dcells_free _)
 intro e
 simp only [dcells, List.cons.injEq, PV.int.injEq, true_and] at e
 omega

theorem remove_ok {S : St} {o K : Nat} {D : Dk} (h : At S o K D) {n : Nm} (hn : n.length ≤ maxLen) (hK : K ≤ 1048570) (he : findE D n = 0) (hr : stepR D = 0) :
  ∃ wv' S', cval T 83 [.ptr o 0, .str n] S = some (.int .i64 0, S') ∧ At S' o (K + 2) { stepD D with live := doE (n, [], none) D.live, wait := D.wait ++ [(n, [], none)], wv := wv' } ∧
   Fra o S S' D { stepD D with live := doE (n, [], none) D.live, wait := D.wait ++ [(n, [], none)], wv := wv' } := by
 have hf := find_val h hn
 rw [he] at hf
 have hlk : (lk n D.live).isSome = true := by
  rcases findE_cases D n with h8 | ⟨h9, _, _⟩ | ⟨_, _, f, hf⟩
  ·rw [h8] at he; cases he
  ·rw [h9] at he; cases he
  ·rw [hf]; rfl
 obtain ⟨wv', S', hen, hA', hF'⟩ := enter_ok h hK (n, [], none) (fun _ => hlk) (fun f hf => by cases hf) (by simp) hr
 simp only [entV, fptr] at hen
 refine ⟨wv', S', cval_ok' fn_83 rfl ?_, hA', hF'⟩
 simp -implicitDefEqProofs [disk_Disk_Remove, hf, aCall, peval, fillParts, putCells, hen]
 exact fin_done h hA' (by rw [stepD_ok hr])

def renameE (D : Dk) (a b : Nm) : Int := if findE D a = 8 then 8 else if namedB b then findE D a else 8

theorem rename_no {S : St} {o K : Nat} {D : Dk} (h : At S o K D) {a b : Nm} (ha : a.length ≤ maxLen) (hb : b.length ≤ maxLen) (he : renameE D a b ≠ 0) : cval T 82 [.ptr o 0, .str a, .str b] S = some (.int .i64 (renameE D a b), S) := by
 have hf := find_val h ha
 have hpv := named_pval hb
 refine cval_ok' fn_82 rfl ?_
 rcases findE_cases D a with h8 | ⟨h9, _, _⟩ | ⟨h0, _, _⟩
 ·rw [h8] at hf
  simp -implicitDefEqProofs [disk_Disk_Rename, hf, h8, fin_int, renameE]
 ·rw [h9] at hf
  cases hq : namedB b
  ·rw [hq] at hpv
   simp -implicitDefEqProofs [disk_Disk_Rename, hf, h9, fin_int, renameE, hpv, hq]
  ·rw [hq] at hpv
   simp -implicitDefEqProofs [disk_Disk_Rename, hf, h9, fin_int, renameE, hpv, hq]
 ·rw [h0] at hf
  cases hq : namedB b
  ·rw [hq] at hpv
   simp -implicitDefEqProofs [disk_Disk_Rename, hf, h0, fin_int, renameE, hpv, hq]
  ·simp [renameE, h0, hq] at he

theorem rename_dark {S : St} {o K : Nat} {D : Dk} (h : At S o K D) {a b : Nm} (ha : a.length ≤ maxLen) (hb : b.length ≤ maxLen) (hK : K ≤ 1048570) (he : renameE D a b = 0) (hr : stepR D = 6) :
  cval T 82 [.ptr o 0, .str a, .str b] S = some (.int .i64 6, ⟨S.objs.set o (dcells (stepD D)), S.tips⟩) := by
 have hf := find_val h ha
 have hpv := named_pval hb
 obtain ⟨h0, hq⟩ : findE D a = 0 ∧ namedB b = true := by
  rcases findE_cases D a with h8 | ⟨h9, _, _⟩ | ⟨h0, _, _⟩
  ·simp [renameE, h8] at he
  ·cases hq : namedB b <;> simp [renameE, h9, hq] at he
  ·cases hq : namedB b
   ·simp [renameE, h0, hq] at he
   ·exact ⟨h0, rfl⟩
 rw [h0] at hf
 rw [hq] at hpv
 have hen := enter_no h (by omega) (a, b, none) hr
 simp only [entV, fptr] at hen
 refine cval_ok' fn_82 rfl ?_
 simp -implicitDefEqProofs [disk_Disk_Rename, hf, peval, fillParts, putCells, hen, hpv]
 exact fin_step h

theorem rename_ok {S : St} {o K : Nat} {D : Dk} (h : At S o K D) {a b : Nm} (ha : a.length ≤ maxLen) (hb : b.length ≤ maxLen) (hK : K ≤ 1048570) (he : renameE D a b = 0) (hr : stepR D = 0) :
  ∃ wv' S', cval T 82 [.ptr o 0, .str a, .str b] S = some (.int .i64 0, S') ∧ At S' o (K + 2) { stepD D with live := doE (a, b, none) D.live, wait := D.wait ++ [(a, b, none)], wv := wv' } ∧
   Fra o S S' D { stepD D with live := doE (a, b, none) D.live, wait := D.wait ++ [(a, b, none)], wv := wv' } := by
 have hf := find_val h ha
 have hpv := named_pval hb
 obtain ⟨h0, hq, hlk⟩ : findE D a = 0 ∧ namedB b = true ∧ (lk a D.live).isSome = true := by
  rcases findE_cases D a with h8 | ⟨h9, _, _⟩ | ⟨h0, _, f, hf⟩
  ·simp [renameE, h8] at he
  ·cases hq : namedB b <;> simp [renameE, h9, hq] at he
  ·cases hq : namedB b
   ·simp [renameE, h0, hq] at he
   ·exact ⟨h0, rfl, by rw [hf]; rfl⟩
 rw [h0] at hf
 rw [hq] at hpv
 obtain ⟨wv', S', hen, hA', hF'⟩ := enter_ok h hK (a, b, none) (fun _ => hlk) (fun f hf => by cases hf) (named_len hq) hr
 simp only [entV, fptr] at hen
 refine ⟨wv', S', cval_ok' fn_82 rfl ?_, hA', hF'⟩
 simp -implicitDefEqProofs [disk_Disk_Rename, hf, peval, fillParts, putCells, hen, hpv]
 exact fin_done h hA' (by rw [stepD_ok hr])
end Ps
namespace Ps
set_option linter.unusedSimpArgs false
set_option linter.unusedVariables false
open Go
theorem fn_84 : T.fn 84 = some (.code disk_Disk_Sync) := rfl
theorem fn_79 : T.fn 79 = some (.code disk_Disk_SyncDir) := rfl
theorem fn_81 : T.fn 81 = some (.code disk_Disk_Read) := rfl
theorem fn_201 : T.fn 201 = some (.code slices_Clone_byte) := rfl
theorem fn_197 : T.fn 197 = some (.exs cloneP) := rfl

def setF (D : Dk) (f : Nat) (v : PV) (b : List UInt8) (s : Nat) : Dk := { D with fb := fun g => if g = f then b else D.fb g, fs := fun g => if g = f then s else D.fs g, fv := fun g => if g = f then v else D.fv g }

theorem At.setf {S : St} {o K : Nat} {D : Dk} (h : At S o K D) {f : Nat} (hf : f ∈ D.fl) {v : PV} {b : List UInt8} {s : Nat} {tips' : List (Nat × Nat)} (hw : SlT ⟨[], tips'⟩ 1 v (ofBytes b)) (hs : s ≤ b.length) (hr : (b.length : Int) ≤ D.room)
  (htips : ∀ g ∈ D.fl, g ≠ f → ∀ k, tid (D.fv g) = some k → tips'[k]? = S.tips[k]?) (hwt : ∀ k, tid D.wv = some k → tips'[k]? = S.tips[k]?)
  (hk : ∀ k, tid v = some k → tid D.wv ≠ some k ∧ ∀ g ∈ D.fl, g ≠ f → tid (D.fv g) ≠ some k) : At ⟨S.objs.set f [v, .int .i64 s], tips'⟩ o K (setF D f v b s) where
 obj := by rw [List.getElem?_set_ne (h.nd.2.2.2 f hf).1]; exact h.obj
 base := by show (S.objs.set f _)[D.bi]? = _; rw [List.getElem?_set_ne (h.nd.2.2.2 f hf).2.1]; exact h.base
 live := by show (S.objs.set f _)[D.li]? = _; rw [List.getElem?_set_ne (h.nd.2.2.2 f hf).2.2]; exact h.live
 wv := h.wv.of hwt
 file := fun g hg => by
  by_cases e : g = f
  ·subst e
   simp only [setF, if_true]
   exact ⟨get_set (h.file g hf).1, hw.of (fun _ _ => rfl), hs, hr⟩
  ·simp only [setF, if_neg e]
   obtain ⟨h1, h2, h3⟩ := h.file g hg
   exact ⟨by rw [List.getElem?_set_ne (Ne.symm e)]; exact h1, h2.of (htips g hg e), h3⟩
 inb := h.inb
 inw := h.inw
 nd := h.nd
 tw := fun g hg k hw' => by
  by_cases e : g = f
  ·subst e
   simp only [setF, if_true]
   exact fun hv => (hk k hv).1 hw'
  ·simp only [setF, if_neg e]; exact h.tw g hg k hw'
 tf := fun g hg i hi hgi k hgk => by
  by_cases e : g = f
  ·subst e
   simp only [setF, if_true] at hgk
   simp only [setF, if_neg (Ne.symm hgi)]
   exact (hk k hgk).2 i hi (Ne.symm hgi)
  ·simp only [setF, if_neg e] at hgk
   by_cases e2 : i = f
   ·subst e2
    simp only [setF, if_true]
    exact fun hv => (hk k hv).2 g hg e hgk
   ·simp only [setF, if_neg e2]; exact h.tf g hg i hi hgi k hgk
 hist := h.hist
 nb := h.nb
 nw := h.nw
 rm := h.rm
 cnt := h.cnt
 dn := h.dn
 lf := h.lf

theorem sync_no {S : St} {o K : Nat} {D : Dk} (h : At S o K D) {n : Nm} (hn : n.length ≤ maxLen) (he : findE D n ≠ 0) : cval T 84 [.ptr o 0, .str n] S = some (.int .i64 (findE D n), S) := by
 have hf := find_val h hn
 refine cval_ok' fn_84 rfl ?_
 rcases findE_cases D n with h8 | ⟨h9, _, _⟩ | ⟨h0, _, _⟩
 ·rw [h8] at hf
  simp -implicitDefEqProofs [disk_Disk_Sync, hf, h8, fin_int]
 ·rw [h9] at hf
  simp -implicitDefEqProofs [disk_Disk_Sync, hf, h9, fin_int]
 ·exact absurd h0 he

theorem find_some {D : Dk} {n : Nm} (he : findE D n = 0) : ∃ f, lk n D.live = some f ∧ findF D n = .ptr f 0 ∧ namedB n = true := by
 rcases findE_cases D n with h8 | ⟨h9, _, _⟩ | ⟨_, hn, f, hf⟩
 ·rw [h8] at he; cases he
 ·rw [h9] at he; cases he
 ·exact ⟨f, hf, by simp [findF, hn, hf, fptr], hn⟩

theorem sync_dark {S : St} {o K : Nat} {D : Dk} (h : At S o K D) {n : Nm} (hn : n.length ≤ maxLen) (hK : K ≤ 1048570) (he : findE D n = 0) (hr : stepR D = 6) :
  cval T 84 [.ptr o 0, .str n] S = some (.int .i64 6, ⟨S.objs.set o (dcells (stepD D)), S.tips⟩) := by
 have hf := find_val h hn
 rw [he] at hf
 have hs := (step_val h (by omega)).1
 rw [hr] at hs
 refine cval_ok' fn_84 rfl ?_
 simp -implicitDefEqProofs [disk_Disk_Sync, hf, hs]
 exact fin_step h

theorem len_slt {S : St} {sz : Nat} {v : PV} {es : List PV} (h : SlT S sz v es) : lenP false v = some (.int .i64 es.length) := by
 rcases h with ⟨rfl, rfl⟩ | ⟨k, e, rfl, _⟩ <;> rfl

theorem sync_ok {S : St} {o K : Nat} {D : Dk} (h : At S o K D) {n : Nm} (hn : n.length ≤ maxLen) (hK : K ≤ 1048570) (he : findE D n = 0) (hr : stepR D = 0) {f : Nat} (hlk : lk n D.live = some f) :
  ∃ S', cval T 84 [.ptr o 0, .str n] S = some (.int .i64 0, S') ∧ At S' o (K + 1) (setF (stepD D) f (D.fv f) (D.fb f) (D.fb f).length) ∧ Fra o S S' D (setF (stepD D) f (D.fv f) (D.fb f) (D.fb f).length) := by
 have hf := find_val h hn
 obtain ⟨f', hlk', hff, _⟩ := find_some he
 rw [hlk] at hlk'; cases hlk'
 rw [he, hff] at hf
 obtain ⟨hs, hA⟩ := step_val h (by omega)
 rw [hr] at hs
 obtain ⟨_, _, _, e4, _, e6, e7, e8, e9, e10, e11⟩ := stepD_fields D
 have hfm : f ∈ D.fl := h.inl _ (lk_mem hlk)
 have hfs := hA.file f (by rw [e7]; exact hfm)
 rw [e8, e9, e10, e11] at hfs
 obtain ⟨S1, hS1⟩ : ∃ S1 : St, S1 = ⟨S.objs.set o (dcells (stepD D)), S.tips⟩ := ⟨_, rfl⟩
 rw [← hS1] at hs hA hfs
 have hlen := len_slt hfs.2.1
 have hfin := hA.setf (f := f) (by rw [e7]; exact hfm) (v := D.fv f) (b := D.fb f) (s := (D.fb f).length) (tips' := S1.tips) (hfs.2.1.of (fun _ _ => rfl)) (Nat.le_refl _) (by rw [e11]; exact hfs.2.2.2) (fun _ _ _ _ _ => rfl) (fun _ _ => rfl)
  (fun k hk => ⟨by rw [e6]; exact fun hw => h.tw f hfm k hw hk, by rw [e7, e10]; exact fun g hg hgf => h.tf f hfm g hg (Ne.symm hgf) k hk⟩)
 have hob := hfs.1
 have hbl : (ofBytes (D.fb f)).length = (D.fb f).length := by simp [ofBytes]
 rw [hbl] at hlen
 refine ⟨_, cval_ok' fn_84 rfl ?_, hfin, ?_⟩
 ·simp -implicitDefEqProofs [disk_Disk_Sync, hf, hs, loadP_ptr hob, hlen, pstep, hob, putCells]
  exact fin_done h hfin (by rw [show (setF (stepD D) f (D.fv f) (D.fb f) (D.fb f).length).done = (stepD D).done from rfl, stepD_ok hr])
 ·refine ⟨⟨by rw [hS1]; exact Nat.le_refl _, fun k hk ho => ⟨?_, by rw [hS1]⟩⟩, ⟨fun i c hc hi hn => by
   simp only
   rw [List.getElem?_set_ne (fun e => hn (.inr (.inr (by rw [← e]; exact hfm)))), hS1]
   simp only
   rw [List.getElem?_set_ne (Ne.symm hi)]; exact hc, fun i _ _ hn => own_of (stepD_fields D).1 (stepD_fields D).2.1 e7 hn⟩⟩
  rintro (hq | ⟨g, hg, hq⟩)
  ·exact ho (.inl (by rw [← e6]; exact hq))
  ·have hg : g ∈ D.fl := by rw [← e7]; exact hg
   refine ho (.inr ⟨g, hg, ?_⟩)
   simp only [setF] at hq
   split at hq
   ·rename_i e; rw [e]; exact hq
   ·rw [← e10]; exact hq

theorem fn_85 : T.fn 85 = some (.code disk_Disk_Fuse) := rfl
theorem cval_exs {f : Nat} {e : List PV → St → Option (PV × St)} (h : T.fn f = some (.exs e)) {args : List PV} {S : St} {x : PV × St} (hx : e args S = some x) : cval T f args S = some x :=
 cval_of 1 (by simp only [pcall, h]; exact hx)

def fuseD (D : Dk) (n : Int) : Dk := { D with left := if n < -1 then -1 else n }
theorem fuse_val {S : St} {o K : Nat} {D : Dk} (h : At S o K D) {n : Int} (hn : n ≤ 9223372036854775807) :
  cval T 85 [.ptr o 0, .int .i64 n] S = some (.tup [], ⟨S.objs.set o (dcells (fuseD D n)), S.tips⟩) ∧ At ⟨S.objs.set o (dcells (fuseD D n)), S.tips⟩ o K (fuseD D n) ∧ Fra o S ⟨S.objs.set o (dcells (fuseD D n)), S.tips⟩ D (fuseD D n) := by
 have hob := h.obj
 have hdn := h.dn
 have hA := h.set (left := if n < -1 then -1 else n) (done := D.done) (dark := D.dark) (by split <;> omega) (Nat.le_refl _) hdn
 refine ⟨?_, hA, ⟨Nat.le_refl _, fun k hk ho => ⟨ho, rfl⟩⟩, ⟨fun i c hc hi _ => by simp only; rw [List.getElem?_set_ne (Ne.symm hi)]; exact hc, fun i _ _ hn => hn⟩⟩
 have hob' := hob
 simp only [dcells] at hob'
 have hfin : finish false S ⟨S.objs.set o (dcells (fuseD D n)), S.tips⟩ (.tup []) = (.tup [], ⟨S.objs.set o (dcells (fuseD D n)), S.tips⟩) := by
  by_cases hcd : dcells D = dcells (fuseD D n)
  ·rw [← hcd, set_id hob, fin_same]; rfl
  ·exact fin_diff hob (get_set hob) hcd (i := o) (get_set hob) h.lt.1 (dcells_free _)
 refine cval_ok' fn_85 rfl ?_
 by_cases hl : n < -1
 ·simp -implicitDefEqProofs [disk_Disk_Fuse, loadP_ptr hob', mnmxP, pstep, hob', putCells, hl]
  rw [ends_nil]
  simp only [fuseD, hl, if_true, dcells] at hfin ⊢
  exact hfin
 ·simp -implicitDefEqProofs [disk_Disk_Fuse, loadP_ptr hob', mnmxP, pstep, hob', putCells, hl]
  rw [ends_nil]
  simp only [fuseD, hl, if_false, dcells] at hfin ⊢
  exact hfin

theorem syncdir_no {S : St} {o K : Nat} {D : Dk} (h : At S o K D) (hK : K ≤ 1048570) (hr : stepR D = 6) : cval T 79 [.ptr o 0] S = some (.int .i64 6, ⟨S.objs.set o (dcells (stepD D)), S.tips⟩) := by
 have hs := (step_val h (by omega)).1
 rw [hr] at hs
 have hob := h.obj
 simp only [dcells] at hob
 refine cval_ok' fn_79 rfl ?_
 simp -implicitDefEqProofs [disk_Disk_SyncDir, loadP_ptr hob, hs]
 exact fin_step h

theorem At.newbase {S : St} {o K : Nat} {D : Dk} (h : At S o K D) : At ⟨(S.objs ++ [mcells D.live]).set o (dcells { D with bi := S.objs.length, wv := .nils }), S.tips⟩ o K { D with bi := S.objs.length, base := D.live, wait := [], wv := .nils } := by
 obtain ⟨l1, l2, l3, l4⟩ := h.lt
 have hap : ∀ {i : Nat} {c : List PV}, S.objs[i]? = some c → (S.objs ++ [mcells D.live])[i]? = some c := fun hc => by rw [List.getElem?_append_left (List.getElem?_eq_some_iff.1 hc).1]; exact hc
 exact {
  obj := get_set (hap h.obj)
  base := by
   show ((S.objs ++ [mcells D.live]).set o _)[S.objs.length]? = _
   rw [List.getElem?_set_ne (by omega)]; simp
  live := by
   show ((S.objs ++ [mcells D.live]).set o _)[D.li]? = _
   rw [List.getElem?_set_ne h.nd.2.1]; exact hap h.live
  wv := .inl ⟨rfl, rfl⟩
  file := fun f hf => by
   obtain ⟨h1, h2, h3⟩ := h.file f hf
   exact ⟨by rw [List.getElem?_set_ne (Ne.symm (h.nd.2.2.2 f hf).1)]; exact hap h1, h2.of (fun _ _ => rfl), h3⟩
  inb := h.inl
  inw := fun x hx => by cases hx
  nd := ⟨by simp only; omega, h.nd.2.1, by simp only; omega, fun f hf => ⟨(h.nd.2.2.2 f hf).1, by have := l4 f hf; simp only; omega, (h.nd.2.2.2 f hf).2.2⟩⟩
  tw := fun f hf k hk => by simp [tid] at hk
  tf := h.tf
  hist := .nil h.hist.nd
  nb := h.nl
  nw := fun x hx => by cases hx
  rm := h.rm
  cnt := by have := h.ll; simpa using this
  dn := h.dn
  lf := h.lf }

theorem syncdir_ok {S : St} {o K : Nat} {D : Dk} (h : At S o K D) (hK : K ≤ 1048570) (hr : stepR D = 0) :
  ∃ S', cval T 79 [.ptr o 0] S = some (.int .i64 0, S') ∧ At S' o (K + 1) { stepD D with bi := S.objs.length, base := D.live, wait := [], wv := .nils } ∧ Fra o S S' D { stepD D with bi := S.objs.length, base := D.live, wait := [], wv := .nils } := by
 obtain ⟨hs, hA⟩ := step_val h (by omega)
 rw [hr] at hs
 have hob := h.obj
 simp only [dcells] at hob
 obtain ⟨e1, e2, e3, e4, e5, e6, e7, e8, e9, e10, e11⟩ := stepD_fields D
 obtain ⟨S1, hS1⟩ : ∃ S1 : St, S1 = ⟨S.objs.set o (dcells (stepD D)), S.tips⟩ := ⟨_, rfl⟩
 rw [← hS1] at hs hA
 have hlen : S1.objs.length = S.objs.length := by rw [hS1]; simp
 have hN := hA.newbase
 rw [hlen] at hN
 have hob1 := hA.obj
 simp only [dcells, e1, e2, e6, e11] at hob1
 have hlv1 : S1.objs[D.li]? = some (mcells D.live) := by have := hA.live; rw [e2, e4] at this; exact this
 have hcl : cval T 197 [.map D.li] S1 = some (.map S1.objs.length, ⟨S1.objs ++ [mcells D.live], S1.tips⟩) := cval_exs fn_197 (by simp only [cloneP, hlv1])
 have hob2 : (S1.objs ++ [mcells D.live])[o]? = some [.int .i64 D.room, .map D.bi, .map D.li, D.wv, .int .i64 (stepD D).left, .int .i64 (stepD D).done, .bool (stepD D).dark] := by
  rw [List.getElem?_append_left (List.getElem?_eq_some_iff.1 hob1).1]; exact hob1
 have hd : dcells { stepD D with bi := S.objs.length, wv := .nils } = [.int .i64 D.room, .map S.objs.length, .map D.li, .nils, .int .i64 (stepD D).left, .int .i64 (stepD D).done, .bool (stepD D).dark] := by simp only [dcells, e2, e11]
 rw [← e4]
 refine ⟨_, cval_ok' fn_79 rfl ?_, hN, ?_⟩
 ·simp -implicitDefEqProofs [disk_Disk_SyncDir, loadP_ptr hob, hs, loadP_ptr hob1, hcl, pstep, hob2, get_set hob2, putCells]
  rw [e4, hlen]
  have hd' : dcells { stepD D with bi := S.objs.length, wv := .nils } = _ := hd
  rw [e4] at hN
  have hq := fin_done h hN (n := 0) (by rw [stepD_ok hr])
  simp only [dcells, e2, e11] at hq ⊢
  exact hq
 ·refine ⟨⟨by rw [hS1]; exact Nat.le_refl _, fun k hk ho => ⟨?_, by rw [hS1]⟩⟩, ⟨fun i c hc hi hn => by
   simp only
   rw [List.getElem?_set_ne (Ne.symm hi), List.getElem?_append_left (by rw [hlen]; exact (List.getElem?_eq_some_iff.1 hc).1), hS1]
   simp only
   rw [List.getElem?_set_ne (Ne.symm hi)]; exact hc, fun i hi _ hn => ?_⟩⟩
  rotate_left
  ·rintro (q | q | q)
   ·simp only at q; omega
   ·exact hn (.inr (.inl (by simp only [e2] at q; exact q)))
   ·exact hn (.inr (.inr (by simp only [e7] at q; exact q)))
  rintro (hq | ⟨g, hg, hq⟩)
  ·simp [tid] at hq
  ·simp only [e7, e10] at hg hq
   exact ho (.inr ⟨g, hg, hq⟩)

def cloneV (v : PV) (b : List UInt8) : PV := match v with | .nils => .nils | _ => .sl none (ofBytes b) []

theorem oB_cells : ∀ b : List UInt8, szOk 1 (ofBytes b) = true := by
 intro b
 cases b <;> rfl

theorem oB_free : ∀ b : List UInt8, PV.freeL (ofBytes b) = true
 | [] => rfl
 | c :: b => by simp only [ofBytes, List.map_cons, PV.freeL, PV.free, Bool.true_and]; exact oB_free b
theorem oB_frz : ∀ b : List UInt8, PV.frzL (ofBytes b) = ofBytes b
 | [] => rfl
 | c :: b => by simp only [ofBytes, List.map_cons, PV.frzL, PV.frz, List.cons.injEq, true_and]; exact oB_frz b

theorem fin_freeT {S : St} {y : List (Nat × Nat)} {r : PV} (hr : r.free = true) : finish false S ⟨S.objs, y⟩ r = (r.frz, ⟨S.objs, y.take S.tips.length⟩) := by
 unfold finish
 have : sol S.objs S.objs.length solFuel r = some r := sol_id hr
 simp [this, List.take_length, beqLL_rfl]

def cloneW (v : PV) (b : List UInt8) (S : St) : PV := match v with | .nils => .nils | _ => .sl (some (S.tips.length, b.length)) (ofBytes b) []
def cloneS (v : PV) (b : List UInt8) (S : St) : St := match v with | .nils => S | _ => ⟨S.objs, S.tips ++ [(b.length, 1)]⟩

theorem clone_val {S : St} {v : PV} {b : List UInt8} (h : SlT S 1 v (ofBytes b)) (hb : b.length ≤ 4194304) : cval T 201 [v] S = some (cloneW v b S, cloneS v b S) := by
 have fr : ∀ (S1 : St) (r : PV), finish true S S1 r = (r, S1) := fun _ _ => by simp [finish]
 rcases h with ⟨rfl, hn⟩ | ⟨k, e, rfl, ht⟩
 ·refine cval_ok' fn_201 rfl ?_
  have : eqnP false .s .nils = some (.bool true) := rfl
  simp -implicitDefEqProofs [slices_Clone_byte, this, fr, cloneW, cloneS]
 ·have hq : eqnP false .s (.sl (some (k, e)) (ofBytes b) []) = some (.bool false) := rfl
  have hz := oB_cells b
  cases b with
  | nil =>
   refine cval_ok' fn_201 rfl ?_
   have hq' : eqnP false .s (.sl (some (k, e)) [] []) = some (.bool false) := rfl
   have hap2 : appendTo 1 1 ⟨S.objs, S.tips ++ [(0, 1)]⟩ (.sl (some (S.tips.length, 0)) [] []) [] = some (.sl (some (S.tips.length, 0)) [] [], ⟨S.objs, S.tips ++ [(0, 1)]⟩) := rfl
   simp -implicitDefEqProofs [slices_Clone_byte, hq', pstep, elems, setParts, newArr, appP, hz, hap2, fr, cloneW, cloneS, ofBytes]
  | cons c b =>
   refine cval_ok' fn_201 rfl ?_
   have hap2 := appendTo_sl (sz := 1) (b := 1) (S := ⟨S.objs, S.tips ++ [(0, 1)]⟩) (new := ofBytes (c :: b)) (es := []) (k := S.tips.length) (e := 0) (by simp [ofBytes]) (by simp) (by simp [ofBytes] at hb ⊢; omega)
   have hln : (ofBytes (c :: b)).length = b.length + 1 := by simp [ofBytes]
   simp -implicitDefEqProofs [slices_Clone_byte, hq, pstep, elems, setParts, newArr, appP, hz, hap2, fr, cloneW, cloneS, hln]

def readE (D : Dk) (n : Nm) : Int := if findE D n ≠ 0 then findE D n else if D.dark then 6 else 0
def readB (D : Dk) (n : Nm) : List UInt8 := if readE D n = 0 then (match lk n D.live with | some f => D.fb f | none => []) else []
def readV (D : Dk) (n : Nm) : PV := if readE D n = 0 then (match lk n D.live with | some f => cloneV (D.fv f) (D.fb f) | none => .nils) else .nils

theorem dread_val {S : St} {o K : Nat} {D : Dk} (h : At S o K D) {n : Nm} (hn : n.length ≤ maxLen) : cval T 81 [.ptr o 0, .str n] S = some (.tup [readV D n, .int .i64 (readE D n)], S) := by
 have hf := find_val h hn
 have hob := h.obj
 simp only [dcells] at hob
 have fin0 : ∀ e : Int, finish false S S (.tup [.nils, .int .i64 e]) = (.tup [.nils, .int .i64 e], S) := fun e => by rw [fin_same]; rfl
 refine cval_ok' fn_81 rfl ?_
 rcases findE_cases D n with h8 | ⟨h9, _, _⟩ | ⟨h0, _, _⟩
 ·rw [h8] at hf
  simp -implicitDefEqProofs [disk_Disk_Read, hf, h8, readE, readV, fin0]
 ·rw [h9] at hf
  simp -implicitDefEqProofs [disk_Disk_Read, hf, h9, readE, readV, fin0]
 ·obtain ⟨f, hlk, hff, _⟩ := find_some h0
  rw [h0, hff] at hf
  cases hd : D.dark with
  | true =>
   rw [hd] at hob
   simp -implicitDefEqProofs [disk_Disk_Read, hf, h0, readE, readV, fin0, loadP_ptr hob, hd]
  | false =>
   rw [hd] at hob
   obtain ⟨hfo, hsl, _, hroom⟩ := h.file f (h.inl _ (lk_mem hlk))
   have hcl := clone_val hsl (by have := h.rm; omega)
   have fin1 : finish false S (cloneS (D.fv f) (D.fb f) S) (.tup [cloneW (D.fv f) (D.fb f) S, .int .i64 0]) = (.tup [cloneV (D.fv f) (D.fb f), .int .i64 0], S) := by
    rcases hsl with ⟨e, _⟩ | ⟨k, e1, e, _⟩
    ·rw [e]
     simp only [cloneS, cloneW, cloneV]
     rw [fin_same]; rfl
    ·rw [e]
     simp only [cloneS, cloneW, cloneV]
     rw [fin_freeT (by simp [PV.free, PV.freeL, oB_free])]
     simp [PV.frz, PV.frzL, oB_frz]
   simp -implicitDefEqProofs [disk_Disk_Read, hf, h0, readE, readV, fin1, loadP_ptr hob, hd, loadP_ptr hfo, hcl, hlk]
end Ps
