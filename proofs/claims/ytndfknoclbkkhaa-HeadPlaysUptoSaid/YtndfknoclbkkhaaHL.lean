/- The head: add. -/
import Derived.Test.YtndfknoclbkkhaaHK
namespace Ps
set_option linter.unusedSimpArgs false
set_option linter.unusedVariables false
open Go
theorem fn_180 : T.fn 180 = some (.code z47) := rfl
theorem fn_130 : T.fn 130 = some (.code z28) := rfl

theorem aCall_keep {T : Tbl} {f : Nat} {args : List PV} {S : St} {r : PV} (h : cval T f args S = some (r, S)) : aCall (cval T) .keep f args S = some (r, S) := by
 simp only [aCall, keepIf, h, if_true, List.take_length, beqLL_rfl']

theorem clone_lab {l : List Lab} {v : PV} (hv : IsSl 2 v (l.map labV)) (hl : l.length ≤ 1048576) (S : St) : ∃ v', cval T 130 [v] S = some (v', S) ∧ SlL v' l ∧ (v' = .nils ∨ ∃ es, v' = .sl none es []) := by
 rcases hv with ⟨rfl, e⟩ | ⟨tip, sp, rfl, hz⟩
 ·have hl0 : l = [] := by simpa using e
  subst hl0
  refine ⟨.nils, cval_ok' fn_130 rfl ?_, ⟨.inl ⟨rfl, rfl⟩, rfl, rfl⟩, .inl rfl⟩
  have : eqnP false .s .nils = some (.bool true) := rfl
  simp -implicitDefEqProofs [z28, this]
  rw [fin_free (Grows.refl S) rfl]; rfl
 ·have hv' : IsSl 2 (.sl tip (l.map labV) sp) (l.map labV) := .inr ⟨tip, sp, rfl, hz⟩
  have hap := hv'.appdS (S := ⟨S.objs, S.tips ++ [(0, 2)]⟩)
  obtain ⟨w, S', e1, a2, _⟩ := (accg_new 2 [] (Grows.refl S)).app (bytes := 32) (l.map labV) (by simp; omega)
  simp only [List.length_nil, List.nil_append] at e1 a2
  have hf := a2.fin (labs_free l) (labs_frz l)
  refine ⟨slF w (l.map labV), cval_ok' fn_130 rfl ?_, slF_lab a2, ?_⟩
  ·have : eqnP false .s (.sl tip (l.map labV) sp) = some (.bool false) := rfl
   simp -implicitDefEqProofs [z28, this, pstep, elems, setParts, newArr, appP, szOk_labs, e1, hf]
  ·rcases a2.acc with ⟨rfl, _⟩ | ⟨id, _, rfl, _⟩
   ·exact .inl rfl
   ·exact .inr ⟨_, rfl⟩

def idxT (k : List UInt8) (A : Ab) : Option Nat := A.findIdx? fun p => printT p.1 == k
theorem mfind_ids (k : List UInt8) : ∀ (n : Nat) (l : List Sr), mfind (.str k) (idsL n l) = some ((idxT k (abs l)).map fun i => PV.int .i64 ((n + i : Nat) : Int))
 | n, [] => rfl
 | n, r :: l => by
  have ih := mfind_ids k (n + 1) l
  simp only [idsL, mfind, keyEq, idxT, abs_cons, List.findIdx?_cons]
  by_cases hc : printT r.lb = k
  ·have h1 : (k == printT r.lb) = true := by simp [hc]
   have h2 : (printT r.lb == k) = true := by simp [hc]
   simp [h1, h2]
  ·have h1 : (k == printT r.lb) = false := by rw [beq_eq_false_iff_ne]; exact fun e => hc e.symm
   have h2 : (printT r.lb == k) = false := by simp [hc]
   simp only [h1, h2, ih, Bool.false_eq_true, if_false]
   rw [idxT]
   cases List.findIdx? (fun p => printT p.1 == k) (abs l) with
   | none => rfl
   | some i => simp; omega
theorem mput_ids (k : List UInt8) (v : PV) : ∀ (n : Nat) (l : List Sr), idxT k (abs l) = none → mput (.str k) v (idsL n l) = some (idsL n l ++ [.str k, v])
 | n, [], _ => rfl
 | n, r :: l, h => by
  rw [idxT, abs_cons, List.findIdx?_cons] at h
  by_cases hc : printT r.lb = k
  ·simp [hc] at h
  ·have h1 : (k == printT r.lb) = false := by rw [beq_eq_false_iff_ne]; exact fun e => hc e.symm
   have h2 : (printT r.lb == k) = false := by simp [hc]
   simp only [h2, Bool.false_eq_true, if_false, Option.map_eq_none_iff] at h
   have ih := mput_ids k v (n + 1) l h
   simp only [idsL, mput, keyEq, h1, ih, List.cons_append]

def doAdd (l : List Lab) (A : Ab) : Ab × Nat :=
 if (idxT (printT l) A).isSome then (A, 10) else if 256 ≤ A.length then (A, 3) else (A ++ [(l, [])], 0)

theorem right_wid {l : List Lab} (h : Right l) : wid l ≤ 500000000 ∧ l.length ≤ 8 := by
 obtain ⟨h1, h2, _⟩ := h
 have : ∀ m : List Lab, (∀ x ∈ m, okLab x) → wid m ≤ 293 * m.length := by
  intro m
  induction m with
  | nil => intro _; simp [wid]
  | cons x m ih =>
   intro hm
   have := ih fun y hy => hm y (by simp [hy])
   obtain ⟨a, _, b⟩ := hm x (by simp)
   have c : x.1.length ≤ 32 := by
    cases hx : x.1 with
    | nil => simp
    | cons c r => rw [hx] at a; simp [nameB] at a ⊢; omega
   simp only [wid, List.length_cons]; omega
 have := this l h2
 omega

theorem gapp_ser {S : St} {H : Hd} {o : Nat} (h : HOk S o H) {S1 : St} (hg : ∀ si, gidV H.hv = some si → S1.objs[si]? = some (serC H.ser)) {lv : PV} (hl1 : lv.one = true) (hc1 : lv.cells = [lv]) :
  ∃ ni S2, gappTo 2 48 S1 H.hv [.agg [lv, .nils]] = some (.osl ni 0 (H.ser.length + 1) 2, S2) ∧ S1.objs.length ≤ ni ∧ S2.objs[ni]? = some (serC H.ser ++ [lv, .nils]) ∧ S2.tips = S1.tips ∧ S1.objs.length ≤ S2.objs.length ∧
   ∀ (i : Nat) (x : List PV), gidV H.hv ≠ some i → S1.objs[i]? = some x → S2.objs[i]? = some x := by
 have hle := h.szs
 unfold gappTo
 simp only [List.isEmpty_cons, Bool.false_eq_true, if_false, List.length_singleton]
 rcases h.ser with ⟨e, e2⟩ | ⟨si, e, hs, hn⟩
 ·rw [e, e2]
  simp only [Nat.one_mul]
  rw [if_pos (by omega)]
  refine ⟨S1.objs.length, ⟨S1.objs ++ [[lv, .nils]], S1.tips⟩, by simp [newG], Nat.le_refl _, by simp [serC, PV.cells], rfl, by simp, fun i x _ hx => ?_⟩
  simp only
  rw [List.getElem?_append_left (List.getElem?_eq_some_iff.1 hx).1]; exact hx
 ·have hs1 := hg si (by rw [e]; rfl)
  rw [e]
  simp only [hs1]
  have hlen := serC_len H.ser
  have hpos : 0 < H.ser.length := by cases hh : H.ser <;> simp [hh] at hn ⊢
  have htk : (serC H.ser).take (H.ser.length * 2) = serC H.ser := List.take_of_length_le (by omega)
  have hall : (serC H.ser).all PV.one = true := by
   rw [List.all_eq_true]
   intro x hx
   obtain ⟨r, hr, hx⟩ := List.mem_flatMap.1 hx
   have q := h.all r hr
   have q1 := isl_one q.lab.1.isl
   have q2 := q.at_.one.1
   simp only [List.mem_cons, List.not_mem_nil, or_false] at hx
   rcases hx with rfl | rfl
   ·exact q1
   ·exact q2
  rw [if_pos ⟨trivial, trivial, by omega, by omega, by rw [htk]; exact hall, by omega⟩, htk]
  refine ⟨S1.objs.length, _, rfl, Nat.le_refl _, by simp [PV.cells], rfl, by simp, fun i x hi hx => ?_⟩
  have hil := (List.getElem?_eq_some_iff.1 hx).1
  simp only
  rw [List.getElem?_append_left (by simpa using hil), List.getElem?_set_ne (fun w => hi (by rw [w]; rfl))]
  exact hx

theorem add_val {S : St} {o : Nat} {H : Hd} (h : HOk S o H) {l : List Lab} {vl : PV} (hpr : aCall (cval T) .snap 24 [vl] S = some (.str (printT l), S))
  (hcl0 : ∀ S' : St, (∀ (i : Nat) (x : List PV), i ∉ ownH o H → S.objs[i]? = some x → S'.objs[i]? = some x) → ∃ v', cval T 130 [vl] S' = some (v', S') ∧ SlL v' l) (hr : Right l) :
  ∃ S' H', cval T 180 [.ptr o 0, vl] S = some (.int .i64 ((doAdd l (abs H.ser)).2 : Nat), S') ∧ HOk S' o H' ∧ Stp o S H S' H' ∧ abs H'.ser = (doAdd l (abs H.ser)).1 := by
 obtain ⟨hw, hl8⟩ := right_wid hr
 have hob := h.obj
 have hids := h.ids
 have hAl : (abs H.ser).length = H.ser.length := abs_len _
 have lo0 : loadP S false 1 (.ptr o 0) = some H.hv := by rw [loadP_ptr hob]; exact part1
 have lo1 : loadP S false 1 (.ptr o 1) = some (.map H.mi) := by rw [loadP_ptr hob]; exact part1
 have hlen : lenP false H.hv = some (.int .i64 H.ser.length) := by
  rcases h.ser with ⟨e, e2⟩ | ⟨si, e, _⟩
  ·rw [e, e2]; rfl
  ·rw [e]; rfl
 obtain ⟨t, ht⟩ : ∃ t, t = printT l := ⟨_, rfl⟩
 rw [← ht] at hpr
 have hmf := mfind_ids t 0 H.ser
 cases hix : idxT t (abs H.ser) with
 | some i =>
  have e1 : doAdd l (abs H.ser) = (abs H.ser, 10) := by simp [doAdd, ← ht, hix]
  rw [e1]
  rw [hix] at hmf
  refine ⟨S, H, cval_ok' fn_180 rfl ?_, h, Stp.refl, rfl⟩
  simp -implicitDefEqProofs [z47, hpr, lo1, pstep, isKeyP, hids, hmf, lookP]
  rfl
 | none =>
  rw [hix] at hmf
  simp only [Option.map_none] at hmf
  by_cases hbig : 256 ≤ H.ser.length
  ·have e1 : doAdd l (abs H.ser) = (abs H.ser, 3) := by simp [doAdd, ← ht, hix, hAl, hbig]
   have hbig' : (256 : Int) ≤ (H.ser.length : Int) := by omega
   rw [e1]
   refine ⟨S, H, cval_ok' fn_180 rfl ?_, h, Stp.refl, rfl⟩
   simp -implicitDefEqProofs [z47, hpr, lo1, lo0, pstep, isKeyP, hids, hmf, lookP, hlen, hbig']
   rfl
  ·have e1 : doAdd l (abs H.ser) = (abs H.ser ++ [(l, [])], 0) := by simp [doAdd, ← ht, hix, hAl, hbig]
   have hbig' : ¬ (256 : Int) ≤ (H.ser.length : Int) := by omega
   have hmp := mput_ids t (.int .i64 (H.ser.length : Int)) 0 H.ser hix
   rw [e1]
   have hlt := h.lt
   have hmil := hlt H.mi (by simp [ownH])
   have hol := hlt o (by simp [ownH])
   have hd := h.dis
   have hom : o ≠ H.mi := fun e => by
    simp only [ownH, List.nodup_cons, List.mem_cons, not_or] at hd; exact hd.1.1 e
   have hohv : gidV H.hv ≠ some o ∧ gidV H.hv ≠ some H.mi := by
    simp only [ownH, List.nodup_cons, List.mem_cons, List.mem_append, not_or] at hd
    exact ⟨fun e => hd.1.2.1 (mem_gl.2 e), fun e => hd.2.1.1 (mem_gl.2 e)⟩
   have hsvn : ∀ r ∈ H.ser, ∀ i, gidV r.sv = some i → i ≠ o ∧ i ≠ H.mi ∧ gidV H.hv ≠ some i := fun r hr i hi => by
    have hin : i ∈ gls H.ser := List.mem_flatMap.2 ⟨r, hr, mem_gl.2 hi⟩
    simp only [ownH, List.nodup_cons, List.mem_cons, List.mem_append, not_or] at hd
    refine ⟨fun e => hd.1.2.2 (e ▸ hin), fun e => hd.2.1.2 (e ▸ hin), fun e => ?_⟩
    exact (List.nodup_append.1 hd.2.2).2.2 i (mem_gl.2 e) i hin rfl
   -- the map
   obtain ⟨S1, hS1⟩ : ∃ S1 : St, S1 = ⟨S.objs.set H.mi (idsL 0 H.ser ++ [.str t, .int .i64 (H.ser.length : Int)]), S.tips⟩ := ⟨_, rfl⟩
   have hob1 : S1.objs[o]? = some [H.hv, .map H.mi, .int .i64 H.count] := by rw [hS1]; simp only; rw [List.getElem?_set_ne (Ne.symm hom)]; exact hob
   have hk1 : ∀ (i : Nat) (x : List PV), i ≠ H.mi → S.objs[i]? = some x → S1.objs[i]? = some x := fun i x q hx => by
    rw [hS1]; simp only; rw [List.getElem?_set_ne (Ne.symm q)]; exact hx
   obtain ⟨lv, hcl, hsl⟩ := hcl0 S1 (fun i x hi hx => hk1 i x (fun e => hi (by rw [e]; simp [ownH])) hx)
   have hlv1 := isl_one hsl.isl
   have hlvc : lv.cells = [lv] := by cases lv <;> first | rfl | (simp [PV.one] at hlv1)
   -- the clone is laid behind
   obtain ⟨S2, hS2⟩ : ∃ S2 : St, S2 = ⟨S1.objs, S1.tips ++ [(1, 2)]⟩ := ⟨_, rfl⟩
   obtain ⟨ni, S3, g1, g2, g3, g4, g5, g6⟩ := gapp_ser h (S1 := S2) (fun si hsi => by
    rcases h.ser with ⟨e, _⟩ | ⟨si', e, hs, _⟩
    ·rw [e] at hsi; cases hsi
    ·rw [e] at hsi; cases hsi
     rw [hS2]; exact hk1 _ _ (fun w => hohv.2 (by rw [e, w]; rfl)) hs) hlv1 hlvc
   have hob2 : S2.objs[o]? = some [H.hv, .map H.mi, .int .i64 H.count] := by rw [hS2]; exact hob1
   have hob3 : S3.objs[o]? = some [H.hv, .map H.mi, .int .i64 H.count] := g6 o _ hohv.1 hob2
   have hmi2 : S2.objs[H.mi]? = some (idsL 0 H.ser ++ [.str t, .int .i64 (H.ser.length : Int)]) := by rw [hS2, hS1]; exact get_set hids
   obtain ⟨S4, hS4⟩ : ∃ S4 : St, S4 = ⟨S3.objs.set o [.osl ni 0 (H.ser.length + 1) 2, .map H.mi, .int .i64 H.count], S3.tips⟩ := ⟨_, rfl⟩
   have hl12 : S2.objs.length = S.objs.length := by rw [hS2, hS1]; simp
   have hk4 : ∀ (i : Nat) (x : List PV), i ≠ o → i ≠ H.mi → gidV H.hv ≠ some i → S.objs[i]? = some x → S4.objs[i]? = some x := fun i x q1 q2 q3 hx => by
    rw [hS4]; simp only; rw [List.getElem?_set_ne (Ne.symm q1)]
    exact g6 i x q3 (by rw [hS2]; exact hk1 i x q2 hx)
   have hnio : ni ≠ o := by omega
   have hfin : ∃ H', HOk S4 o H' ∧ Stp o S H S4 H' ∧ abs H'.ser = abs H.ser ++ [(l, [])] := by
    have hgls : gls (H.ser ++ [⟨lv, .nils, [], l⟩]) = gls H.ser := by simp [gls, gl, gidV]
    have hown' : ∀ i, i ∈ ownH o ⟨.osl ni 0 (H.ser.length + 1) 2, H.mi, H.ser ++ [⟨lv, .nils, [], l⟩], idsL 0 (H.ser ++ [⟨lv, .nils, [], l⟩]), H.count⟩ → i = ni ∨ (i ∈ ownH o H) := fun i hi => by
     simp only [ownH, hgls, List.mem_cons, List.mem_append] at hi ⊢
     rcases hi with q | q | q | q
     ·exact .inr (.inl q)
     ·exact .inr (.inr (.inl q))
     ·rw [mem_gl] at q; cases q; exact .inl rfl
     ·exact .inr (.inr (.inr (.inr q)))
    have htot0 : total (H.ser ++ [⟨lv, .nils, [], l⟩]) = total H.ser := by simp [total]
    refine ⟨⟨.osl ni 0 (H.ser.length + 1) 2, H.mi, H.ser ++ [⟨lv, .nils, [], l⟩], idsL 0 (H.ser ++ [⟨lv, .nils, [], l⟩]), H.count⟩, ?_, ⟨fun i x hi hx => ?_, fun i hi => ?_, ?_⟩, by simp [abs]⟩
    ·exact {
      obj := by rw [hS4]; exact get_set hob3
      ids := by
       rw [hS4]; simp only; rw [List.getElem?_set_ne hom, g6 _ _ hohv.2 hmi2, idsL_app, Nat.zero_add, ht]; rfl
      ser := .inr ⟨ni, by simp, by
       rw [hS4]; simp only; rw [List.getElem?_set_ne (Ne.symm hnio), g3]; simp [serC], by simp⟩
      all := fun s hs => by
       rcases List.mem_append.1 hs with q | q
       ·exact (h.all s q).mono fun i hi x hx => by
         obtain ⟨b1, b2, b3⟩ := hsvn s q i hi
         exact hk4 i x b1 b2 b3 hx
       ·simp only [List.mem_singleton] at q
        subst q
        exact ⟨.inl ⟨.inl rfl, rfl⟩, fun id hid => (by cases hid), ⟨hsl, hr⟩, List.Pairwise.nil, fun q hq => (by cases hq)⟩
      dis := by
       have hni : ni ∉ ownH o H := fun hi => by have := hlt ni hi; omega
       simp only [ownH, hgls, List.nodup_cons, List.mem_cons, List.mem_append, not_or, List.nodup_append] at hd hni ⊢
       obtain ⟨⟨d1, d2, d3⟩, ⟨d4, d5⟩, d6, d7, d8⟩ := hd
       obtain ⟨n1, n2, n3, n4⟩ := hni
       have hgn : ∀ x, x ∈ gl (.osl ni 0 (H.ser.length + 1) 2) ↔ x = ni := fun x => by rw [mem_gl]; simp [gidV, eq_comm]
       refine ⟨⟨d1, fun q => n1 ((hgn _).1 q).symm, d3⟩, ⟨fun q => n2 ((hgn _).1 q).symm, d5⟩, gl_nodup _, d7, fun a ha b hb e => ?_⟩
       have := (hgn a).1 ha
       exact n4 (by rw [← this, e]; exact hb)
      idk := rfl
      cnt := by simp only [htot0]; exact h.cnt
      szs := by simp only [List.length_append, List.length_singleton]; omega
      tot := by simp only [htot0]; exact h.tot }
    ·have hi' := hi
     simp only [ownH, List.mem_cons, List.mem_append, not_or] at hi'
     exact hk4 i x hi'.1 hi'.2.1 (fun w => hi'.2.2.1 (mem_gl.2 w)) hx
    ·rcases hown' i hi with q | q
     ·exact .inr (by omega)
     ·exact .inl q
    ·have : S4.objs.length = S3.objs.length := by rw [hS4]; simp
     omega
   obtain ⟨H', x1, x2, x3⟩ := hfin
   refine ⟨S4, H', cval_ok' fn_180 rfl ?_, x1, x2, x3⟩
   have lo01 : loadP S1 false 1 (.ptr o 0) = some H.hv := by rw [loadP_ptr hob1]; exact part1
   simp -implicitDefEqProofs [-z47_r8_go, z47, hpr, lo1, lo0, pstep, isKeyP, hids, hmf, lookP, hlen, hbig', hmp]
   rw [← hS1]
   have hkc := aCall_keep hcl
   simp -implicitDefEqProofs [lo01, hkc, pstep, peval, fillParts, putCells, elems, setParts, newArr, hlv1, hlvc]
   rw [← hS2, g1]
   simp -implicitDefEqProofs [pstep, hob3, putCells]
   rw [← hS4]
   rfl
end Ps
