/- The disk: SyncDir, Fuse, Done, Read. -/
import Derived.Test.YtedmhhncckddmaaDD
namespace Ps
set_option linter.unusedSimpArgs false
set_option linter.unusedVariables false
open Go

theorem fn_84 : T.fn 84 = some (.code disk_Disk_Sync) := rfl
theorem fn_79 : T.fn 79 = some (.code disk_Disk_SyncDir) := rfl
theorem fn_81 : T.fn 81 = some (.code disk_Disk_Read) := rfl
theorem fn_201 : T.fn 201 = some (.code slices_Clone_byte) := rfl
theorem fn_197 : T.fn 197 = some (.exs cloneP) := rfl

def setF (D : Dk) (f : Nat) (v : PV) (b : List UInt8) (s : Nat) : Dk := { D with fb := fun g => if g = f then b else D.fb g, fs := fun g => if g = f then s else D.fs g, fv := fun g => if g = f then v else D.fv g }

theorem At.setf {S : St} {o K : Nat} {D : Dk} (h : At S o K D) {f : Nat} (hf : f ∈ D.fl) {v : PV} {b : List UInt8} {s : Nat} {tips' : List (Nat × Nat)} (hw : SlT ⟨[], tips'⟩ 1 v (ofBytes b)) (hs : s ≤ b.length) (hr : (b.length : Int) ≤ D.room)
    (htips : ∀ g ∈ D.fl, g ≠ f → ∀ k, tid (D.fv g) = some k → tips'[k]? = S.tips[k]?) (hwt : ∀ k, tid D.wv = some k → tips'[k]? = S.tips[k]?)
    (hk : ∀ k, tid v = some k → tid D.wv ≠ some k ∧ ∀ g ∈ D.fl, g ≠ f → tid (D.fv g) ≠ some k) : At ⟨S.objs.set f [v, .int .i64 s], tips'⟩ o K (setF D f v b s) where
  obj := by rw [List.getElem?_set_ne (h.nd.2.2.2 f hf).1]; exact h.obj
  base := by show (S.objs.set f _)[D.bi]? = _; rw [List.getElem?_set_ne (h.nd.2.2.2 f hf).2.1]; exact h.base
  live := by show (S.objs.set f _)[D.li]? = _; rw [List.getElem?_set_ne (h.nd.2.2.2 f hf).2.2]; exact h.live
  wv := h.wv.of hwt
  file := fun g hg => by
    by_cases e : g = f
    · subst e
      simp only [setF, if_true]
      exact ⟨get_set (h.file g hf).1, hw.of (fun _ _ => rfl), hs, hr⟩
    · simp only [setF, if_neg e]
      obtain ⟨h1, h2, h3⟩ := h.file g hg
      exact ⟨by rw [List.getElem?_set_ne (Ne.symm e)]; exact h1, h2.of (htips g hg e), h3⟩
  inb := h.inb
  inw := h.inw
  nd := h.nd
  tw := fun g hg k hw' => by
    by_cases e : g = f
    · subst e
      simp only [setF, if_true]
      exact fun hv => (hk k hv).1 hw'
    · simp only [setF, if_neg e]; exact h.tw g hg k hw'
  tf := fun g hg i hi hgi k hgk => by
    by_cases e : g = f
    · subst e
      simp only [setF, if_true] at hgk
      simp only [setF, if_neg (Ne.symm hgi)]
      exact (hk k hgk).2 i hi (Ne.symm hgi)
    · simp only [setF, if_neg e] at hgk
      by_cases e2 : i = f
      · subst e2
        simp only [setF, if_true]
        exact fun hv => (hk k hv).2 g hg e hgk
      · simp only [setF, if_neg e2]; exact h.tf g hg i hi hgi k hgk
  hist := h.hist
  nb := h.nb
  nw := h.nw
  rm := h.rm
  cnt := h.cnt
  dn := h.dn
  lf := h.lf

theorem sync_no {S : St} {o K : Nat} {D : Dk} (h : At S o K D) {n : Nm} (hn : n.length ≤ maxLen) (he : findE D n ≠ 0) : cval T 84 [.ptr o 0, .str n] S = some (.int .i64 (findE D n), S) := by
  have hf := find_val h hn
  refine cval_ok' fn_84 rfl ?_
  rcases findE_cases D n with h8 | ⟨h9, _, _⟩ | ⟨h0, _, _⟩
  · rw [h8] at hf
    simp -implicitDefEqProofs [disk_Disk_Sync, hf, h8, fin_int]
  · rw [h9] at hf
    simp -implicitDefEqProofs [disk_Disk_Sync, hf, h9, fin_int]
  · exact absurd h0 he

theorem find_some {D : Dk} {n : Nm} (he : findE D n = 0) : ∃ f, lk n D.live = some f ∧ findF D n = .ptr f 0 ∧ namedB n = true := by
  rcases findE_cases D n with h8 | ⟨h9, _, _⟩ | ⟨_, hn, f, hf⟩
  · rw [h8] at he; cases he
  · rw [h9] at he; cases he
  · exact ⟨f, hf, by simp [findF, hn, hf, fptr], hn⟩

theorem sync_dark {S : St} {o K : Nat} {D : Dk} (h : At S o K D) {n : Nm} (hn : n.length ≤ maxLen) (hK : K ≤ 1048570) (he : findE D n = 0) (hr : stepR D = 6) :
    cval T 84 [.ptr o 0, .str n] S = some (.int .i64 6, ⟨S.objs.set o (dcells (stepD D)), S.tips⟩) := by
  have hf := find_val h hn
  rw [he] at hf
  have hs := (step_val h (by omega)).1
  rw [hr] at hs
  refine cval_ok' fn_84 rfl ?_
  simp -implicitDefEqProofs [disk_Disk_Sync, hf, hs]
  exact fin_step h

theorem len_slt {S : St} {sz : Nat} {v : PV} {es : List PV} (h : SlT S sz v es) : lenP false v = some (.int .i64 es.length) := by
  rcases h with ⟨rfl, rfl⟩ | ⟨k, e, rfl, _⟩ <;> rfl

theorem sync_ok {S : St} {o K : Nat} {D : Dk} (h : At S o K D) {n : Nm} (hn : n.length ≤ maxLen) (hK : K ≤ 1048570) (he : findE D n = 0) (hr : stepR D = 0) {f : Nat} (hlk : lk n D.live = some f) :
    ∃ S', cval T 84 [.ptr o 0, .str n] S = some (.int .i64 0, S') ∧ At S' o (K + 1) (setF (stepD D) f (D.fv f) (D.fb f) (D.fb f).length) ∧ Fra o S S' D (setF (stepD D) f (D.fv f) (D.fb f) (D.fb f).length) := by
  have hf := find_val h hn
  obtain ⟨f', hlk', hff, _⟩ := find_some he
  rw [hlk] at hlk'; cases hlk'
  rw [he, hff] at hf
  obtain ⟨hs, hA⟩ := step_val h (by omega)
  rw [hr] at hs
  obtain ⟨_, _, _, e4, _, e6, e7, e8, e9, e10, e11⟩ := stepD_fields D
  have hfm : f ∈ D.fl := h.inl _ (lk_mem hlk)
  have hfs := hA.file f (by rw [e7]; exact hfm)
  rw [e8, e9, e10, e11] at hfs
  obtain ⟨S1, hS1⟩ : ∃ S1 : St, S1 = ⟨S.objs.set o (dcells (stepD D)), S.tips⟩ := ⟨_, rfl⟩
  rw [← hS1] at hs hA hfs
  have hlen := len_slt hfs.2.1
  have hfin := hA.setf (f := f) (by rw [e7]; exact hfm) (v := D.fv f) (b := D.fb f) (s := (D.fb f).length) (tips' := S1.tips) (hfs.2.1.of (fun _ _ => rfl)) (Nat.le_refl _) (by rw [e11]; exact hfs.2.2.2) (fun _ _ _ _ _ => rfl) (fun _ _ => rfl)
    (fun k hk => ⟨by rw [e6]; exact fun hw => h.tw f hfm k hw hk, by rw [e7, e10]; exact fun g hg hgf => h.tf f hfm g hg (Ne.symm hgf) k hk⟩)
  have hob := hfs.1
  have hbl : (ofBytes (D.fb f)).length = (D.fb f).length := by simp [ofBytes]
  rw [hbl] at hlen
  refine ⟨_, cval_ok' fn_84 rfl ?_, hfin, ?_⟩
  · simp -implicitDefEqProofs [disk_Disk_Sync, hf, hs, loadP_ptr hob, hlen, pstep, hob, putCells]
    exact fin_done h hfin (by rw [show (setF (stepD D) f (D.fv f) (D.fb f) (D.fb f).length).done = (stepD D).done from rfl, stepD_ok hr])
  · refine ⟨⟨by rw [hS1]; exact Nat.le_refl _, fun k hk ho => ⟨?_, by rw [hS1]⟩⟩, ⟨fun i c hc hi hn => by
      simp only
      rw [List.getElem?_set_ne (fun e => hn (.inr (.inr (by rw [← e]; exact hfm)))), hS1]
      simp only
      rw [List.getElem?_set_ne (Ne.symm hi)]; exact hc, fun i _ _ hn => own_of (stepD_fields D).1 (stepD_fields D).2.1 e7 hn⟩⟩
    rintro (hq | ⟨g, hg, hq⟩)
    · exact ho (.inl (by rw [← e6]; exact hq))
    · have hg : g ∈ D.fl := by rw [← e7]; exact hg
      refine ho (.inr ⟨g, hg, ?_⟩)
      simp only [setF] at hq
      split at hq
      · rename_i e; rw [e]; exact hq
      · rw [← e10]; exact hq

theorem fn_85 : T.fn 85 = some (.code disk_Disk_Fuse) := rfl
theorem cval_exs {f : Nat} {e : List PV → St → Option (PV × St)} (h : T.fn f = some (.exs e)) {args : List PV} {S : St} {x : PV × St} (hx : e args S = some x) : cval T f args S = some x :=
  cval_of 1 (by simp only [pcall, h]; exact hx)

def fuseD (D : Dk) (n : Int) : Dk := { D with left := if n < -1 then -1 else n }
theorem fuse_val {S : St} {o K : Nat} {D : Dk} (h : At S o K D) {n : Int} (hn : n ≤ 9223372036854775807) :
    cval T 85 [.ptr o 0, .int .i64 n] S = some (.tup [], ⟨S.objs.set o (dcells (fuseD D n)), S.tips⟩) ∧ At ⟨S.objs.set o (dcells (fuseD D n)), S.tips⟩ o K (fuseD D n) ∧ Fra o S ⟨S.objs.set o (dcells (fuseD D n)), S.tips⟩ D (fuseD D n) := by
  have hob := h.obj
  have hdn := h.dn
  have hA := h.set (left := if n < -1 then -1 else n) (done := D.done) (dark := D.dark) (by split <;> omega) (Nat.le_refl _) hdn
  refine ⟨?_, hA, ⟨Nat.le_refl _, fun k hk ho => ⟨ho, rfl⟩⟩, ⟨fun i c hc hi _ => by simp only; rw [List.getElem?_set_ne (Ne.symm hi)]; exact hc, fun i _ _ hn => hn⟩⟩
  have hob' := hob
  simp only [dcells] at hob'
  have hfin : finish false S ⟨S.objs.set o (dcells (fuseD D n)), S.tips⟩ (.tup []) = (.tup [], ⟨S.objs.set o (dcells (fuseD D n)), S.tips⟩) := by
    by_cases hcd : dcells D = dcells (fuseD D n)
    · rw [← hcd, set_id hob, fin_same]; rfl
    · exact fin_diff hob (get_set hob) hcd (i := o) (get_set hob) h.lt.1 (dcells_free _)
  refine cval_ok' fn_85 rfl ?_
  by_cases hl : n < -1
  · simp -implicitDefEqProofs [disk_Disk_Fuse, loadP_ptr hob', mnmxP, pstep, hob', putCells, hl]
    rw [ends_nil]
    simp only [fuseD, hl, if_true, dcells] at hfin ⊢
    exact hfin
  · simp -implicitDefEqProofs [disk_Disk_Fuse, loadP_ptr hob', mnmxP, pstep, hob', putCells, hl]
    rw [ends_nil]
    simp only [fuseD, hl, if_false, dcells] at hfin ⊢
    exact hfin


theorem syncdir_no {S : St} {o K : Nat} {D : Dk} (h : At S o K D) (hK : K ≤ 1048570) (hr : stepR D = 6) : cval T 79 [.ptr o 0] S = some (.int .i64 6, ⟨S.objs.set o (dcells (stepD D)), S.tips⟩) := by
  have hs := (step_val h (by omega)).1
  rw [hr] at hs
  have hob := h.obj
  simp only [dcells] at hob
  refine cval_ok' fn_79 rfl ?_
  simp -implicitDefEqProofs [disk_Disk_SyncDir, loadP_ptr hob, hs]
  exact fin_step h

theorem At.newbase {S : St} {o K : Nat} {D : Dk} (h : At S o K D) : At ⟨(S.objs ++ [mcells D.live]).set o (dcells { D with bi := S.objs.length, wv := .nils }), S.tips⟩ o K { D with bi := S.objs.length, base := D.live, wait := [], wv := .nils } := by
  obtain ⟨l1, l2, l3, l4⟩ := h.lt
  have hap : ∀ {i : Nat} {c : List PV}, S.objs[i]? = some c → (S.objs ++ [mcells D.live])[i]? = some c := fun hc => by rw [List.getElem?_append_left (List.getElem?_eq_some_iff.1 hc).1]; exact hc
  exact {
    obj := get_set (hap h.obj)
    base := by
      show ((S.objs ++ [mcells D.live]).set o _)[S.objs.length]? = _
      rw [List.getElem?_set_ne (by omega)]; simp
    live := by
      show ((S.objs ++ [mcells D.live]).set o _)[D.li]? = _
      rw [List.getElem?_set_ne h.nd.2.1]; exact hap h.live
    wv := .inl ⟨rfl, rfl⟩
    file := fun f hf => by
      obtain ⟨h1, h2, h3⟩ := h.file f hf
      exact ⟨by rw [List.getElem?_set_ne (Ne.symm (h.nd.2.2.2 f hf).1)]; exact hap h1, h2.of (fun _ _ => rfl), h3⟩
    inb := h.inl
    inw := fun x hx => by cases hx
    nd := ⟨by simp only; omega, h.nd.2.1, by simp only; omega, fun f hf => ⟨(h.nd.2.2.2 f hf).1, by have := l4 f hf; simp only; omega, (h.nd.2.2.2 f hf).2.2⟩⟩
    tw := fun f hf k hk => by simp [tid] at hk
    tf := h.tf
    hist := .nil _
    nb := h.nl
    nw := fun x hx => by cases hx
    rm := h.rm
    cnt := by have := h.ll; simpa using this
    dn := h.dn
    lf := h.lf }

theorem syncdir_ok {S : St} {o K : Nat} {D : Dk} (h : At S o K D) (hK : K ≤ 1048570) (hr : stepR D = 0) :
    ∃ S', cval T 79 [.ptr o 0] S = some (.int .i64 0, S') ∧ At S' o (K + 1) { stepD D with bi := S.objs.length, base := D.live, wait := [], wv := .nils } ∧ Fra o S S' D { stepD D with bi := S.objs.length, base := D.live, wait := [], wv := .nils } := by
  obtain ⟨hs, hA⟩ := step_val h (by omega)
  rw [hr] at hs
  have hob := h.obj
  simp only [dcells] at hob
  obtain ⟨e1, e2, e3, e4, e5, e6, e7, e8, e9, e10, e11⟩ := stepD_fields D
  obtain ⟨S1, hS1⟩ : ∃ S1 : St, S1 = ⟨S.objs.set o (dcells (stepD D)), S.tips⟩ := ⟨_, rfl⟩
  rw [← hS1] at hs hA
  have hlen : S1.objs.length = S.objs.length := by rw [hS1]; simp
  have hN := hA.newbase
  rw [hlen] at hN
  have hob1 := hA.obj
  simp only [dcells, e1, e2, e6, e11] at hob1
  have hlv1 : S1.objs[D.li]? = some (mcells D.live) := by have := hA.live; rw [e2, e4] at this; exact this
  have hcl : cval T 197 [.map D.li] S1 = some (.map S1.objs.length, ⟨S1.objs ++ [mcells D.live], S1.tips⟩) := cval_exs fn_197 (by simp only [cloneP, hlv1])
  have hob2 : (S1.objs ++ [mcells D.live])[o]? = some [.int .i64 D.room, .map D.bi, .map D.li, D.wv, .int .i64 (stepD D).left, .int .i64 (stepD D).done, .bool (stepD D).dark] := by
    rw [List.getElem?_append_left (List.getElem?_eq_some_iff.1 hob1).1]; exact hob1
  have hd : dcells { stepD D with bi := S.objs.length, wv := .nils } = [.int .i64 D.room, .map S.objs.length, .map D.li, .nils, .int .i64 (stepD D).left, .int .i64 (stepD D).done, .bool (stepD D).dark] := by simp only [dcells, e2, e11]
  rw [← e4]
  refine ⟨_, cval_ok' fn_79 rfl ?_, hN, ?_⟩
  · simp -implicitDefEqProofs [disk_Disk_SyncDir, loadP_ptr hob, hs, loadP_ptr hob1, hcl, pstep, hob2, get_set hob2, putCells]
    rw [e4, hlen]
    have hd' : dcells { stepD D with bi := S.objs.length, wv := .nils } = _ := hd
    rw [e4] at hN
    have hq := fin_done h hN (n := 0) (by rw [stepD_ok hr])
    simp only [dcells, e2, e11] at hq ⊢
    exact hq
  · refine ⟨⟨by rw [hS1]; exact Nat.le_refl _, fun k hk ho => ⟨?_, by rw [hS1]⟩⟩, ⟨fun i c hc hi hn => by
      simp only
      rw [List.getElem?_set_ne (Ne.symm hi), List.getElem?_append_left (by rw [hlen]; exact (List.getElem?_eq_some_iff.1 hc).1), hS1]
      simp only
      rw [List.getElem?_set_ne (Ne.symm hi)]; exact hc, fun i hi _ hn => ?_⟩⟩
    rotate_left
    · rintro (q | q | q)
      · simp only at q; omega
      · exact hn (.inr (.inl (by simp only [e2] at q; exact q)))
      · exact hn (.inr (.inr (by simp only [e7] at q; exact q)))
    rintro (hq | ⟨g, hg, hq⟩)
    · simp [tid] at hq
    · simp only [e7, e10] at hg hq
      exact ho (.inr ⟨g, hg, hq⟩)


def cloneV (v : PV) (b : List UInt8) : PV := match v with | .nils => .nils | _ => .sl none (ofBytes b) []

theorem oB_cells : ∀ b : List UInt8, szOk 1 (ofBytes b) = true := by
  intro b
  cases b <;> rfl

theorem oB_free : ∀ b : List UInt8, PV.freeL (ofBytes b) = true
  | [] => rfl
  | c :: b => by simp only [ofBytes, List.map_cons, PV.freeL, PV.free, Bool.true_and]; exact oB_free b
theorem oB_frz : ∀ b : List UInt8, PV.frzL (ofBytes b) = ofBytes b
  | [] => rfl
  | c :: b => by simp only [ofBytes, List.map_cons, PV.frzL, PV.frz, List.cons.injEq, true_and]; exact oB_frz b

theorem fin_freeT {S : St} {y : List (Nat × Nat)} {r : PV} (hr : r.free = true) : finish false S ⟨S.objs, y⟩ r = (r.frz, ⟨S.objs, y.take S.tips.length⟩) := by
  unfold finish
  have : sol S.objs S.objs.length solFuel r = some r := sol_id hr
  simp [this, List.take_length, beqLL_rfl]

@[simp] theorem fin_raw {S S1 : St} {r : PV} : finish true S S1 r = (r, S1) := rfl

def cloneW (v : PV) (b : List UInt8) (S : St) : PV := match v with | .nils => .nils | _ => if b.isEmpty then .emp else .osl S.objs.length 0 b.length 1
def cloneS (v : PV) (b : List UInt8) (S : St) : St := match v with | .nils => S | _ => if b.isEmpty then S else ⟨S.objs ++ [ofBytes b], S.tips⟩

theorem clone_val {S : St} {v : PV} {b : List UInt8} (h : SlT S 1 v (ofBytes b)) (hb : b.length ≤ 4194304) : cval T 201 [v] S = some (cloneW v b S, cloneS v b S) := by
  have hfm : (ofBytes b).flatMap PV.cells = ofBytes b := by
    have : ∀ l : List UInt8, (ofBytes l).flatMap PV.cells = ofBytes l := by
      intro l
      induction l with
      | nil => rfl
      | cons x l ih =>
        have e : ofBytes (x :: l) = (.int .u8 x.toNat) :: ofBytes l := rfl
        rw [e, List.flatMap_cons, ih]; rfl
    exact this b
  rcases h with ⟨rfl, hn⟩ | ⟨k, e, rfl, ht⟩
  · refine cval_ok' fn_201 rfl ?_
    have : eqnP false .s .nils = some (.bool true) := rfl
    simp -implicitDefEqProofs [slices_Clone_byte, this, cloneW, cloneS]
  · have hq : eqnP false .s (.sl (some (k, e)) (ofBytes b) []) = some (.bool false) := rfl
    have hz := oB_cells b
    cases b with
    | nil =>
      refine cval_ok' fn_201 rfl ?_
      have hg : gappTo 1 1 S .emp (ofBytes []) = some (.emp, S) := rfl
      simp -implicitDefEqProofs [slices_Clone_byte, hq, hz, hg, cloneW, cloneS]
    | cons c b =>
      refine cval_ok' fn_201 rfl ?_
      have hg : gappTo 1 1 S .emp (ofBytes (c :: b)) = some (.osl S.objs.length 0 (c :: b).length 1, ⟨S.objs ++ [ofBytes (c :: b)], S.tips⟩) := by
        have h1 : (ofBytes (c :: b)).isEmpty = false := rfl
        have h2 : (ofBytes (c :: b)).length * 1 ≤ 140737488355328 := by simp [ofBytes] at hb ⊢; omega
        unfold gappTo
        rw [h1]
        simp only [Bool.false_eq_true, if_false, if_pos h2, newG, hfm]
        simp [ofBytes]
      simp -implicitDefEqProofs [slices_Clone_byte, hq, hz, hg, cloneW, cloneS]

def readE (D : Dk) (n : Nm) : Int := if findE D n ≠ 0 then findE D n else if D.dark then 6 else 0
def readB (D : Dk) (n : Nm) : List UInt8 := if readE D n = 0 then (match lk n D.live with | some f => D.fb f | none => []) else []
def readW (D : Dk) (n : Nm) (S : St) : PV := if readE D n = 0 then (match lk n D.live with | some f => cloneW (D.fv f) (D.fb f) S | none => .nils) else .nils
def readS (D : Dk) (n : Nm) (S : St) : St := if readE D n = 0 then (match lk n D.live with | some f => cloneS (D.fv f) (D.fb f) S | none => S) else S

theorem dread_val {S : St} {o K : Nat} {D : Dk} (h : At S o K D) {n : Nm} (hn : n.length ≤ maxLen) : cval T 81 [.ptr o 0, .str n] S = some (.tup [readW D n S, .int .i64 (readE D n)], readS D n S) := by
  have hf := find_val h hn
  have hob := h.obj
  simp only [dcells] at hob
  refine cval_ok' fn_81 rfl ?_
  rcases findE_cases D n with h8 | ⟨h9, _, _⟩ | ⟨h0, _, _⟩
  · rw [h8] at hf
    simp -implicitDefEqProofs [disk_Disk_Read, hf, h8, readE, readW, readS]
  · rw [h9] at hf
    simp -implicitDefEqProofs [disk_Disk_Read, hf, h9, readE, readW, readS]
  · obtain ⟨f, hlk, hff, _⟩ := find_some h0
    rw [h0, hff] at hf
    cases hd : D.dark with
    | true =>
      rw [hd] at hob
      simp -implicitDefEqProofs [disk_Disk_Read, hf, h0, readE, readW, readS, loadP_ptr hob, hd]
    | false =>
      rw [hd] at hob
      obtain ⟨hfo, hsl, _, hroom⟩ := h.file f (h.inl _ (lk_mem hlk))
      have hcl := clone_val hsl (by have := h.rm; omega)
      simp -implicitDefEqProofs [disk_Disk_Read, hf, h0, readE, readW, readS, loadP_ptr hob, hd, loadP_ptr hfo, hcl, hlk]

def Own (S S' : St) (v : PV) (b : List UInt8) : Prop :=
  ((v = .nils ∨ v = .emp) ∧ b = [] ∧ S' = S) ∨ (v = .osl S.objs.length 0 b.length 1 ∧ S' = ⟨S.objs ++ [ofBytes b], S.tips⟩ ∧ b ≠ [])
theorem read_own {S : St} {o K : Nat} {D : Dk} (h : At S o K D) (n : Nm) : Own S (readS D n S) (readW D n S) (readB D n) := by
  unfold readS readW readB
  split
  · split
    · rename_i f hf
      obtain ⟨_, hsl, _⟩ := h.file f (h.inl _ (lk_mem hf))
      rcases hsl with ⟨e, hn⟩ | ⟨k, e', e, _⟩
      · rw [e]
        have : D.fb f = [] := by simpa [ofBytes] using hn
        exact .inl ⟨.inl rfl, this, rfl⟩
      · rw [e]
        unfold cloneW cloneS
        cases hb : D.fb f with
        | nil => exact .inl ⟨.inr rfl, rfl, rfl⟩
        | cons c b => exact .inr ⟨rfl, rfl, by simp⟩
    · exact .inl ⟨.inl rfl, rfl, rfl⟩
  · exact .inl ⟨.inl rfl, rfl, rfl⟩
end Ps
