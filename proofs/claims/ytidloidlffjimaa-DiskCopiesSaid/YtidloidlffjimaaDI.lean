/- Of no disk. -/
import Derived.Test.YtidloidlffjimaaDF
namespace Ps
set_option linter.unusedSimpArgs false
set_option linter.unusedVariables false
open Go
theorem fn_90 : T.fn 90 = some (.code disk_Disk_List) := rfl
theorem fn_78 : T.fn 78 = some (.code disk_Disk_Append) := rfl
theorem fn_200 : T.fn 200 = some (.code maps_Keys_file) := rfl
theorem fn_199 : T.fn 199 = some (.exs (sortedP 294)) := rfl

def namesV (l : List (Nm × Nat)) : PV := if (l.map (·.1)).isEmpty then .nils else .sl none (((l.map (·.1)).mergeSort leB).map .str) []

theorem keys_val {S : St} {m : Nat} (hm : ∃ c, S.objs[m]? = some c) : cval T 200 [.map m] S = some (.fn 294 [.ptr S.objs.length 0], ⟨S.objs ++ [[.map m]], S.tips⟩) := by
 refine cval_ok' fn_200 rfl ?_
 simp -implicitDefEqProofs [maps_Keys_file, pstep, newObj]
 unfold finish
 have : sol (S.objs ++ [[PV.map m]]) S.objs.length solFuel (.fn 294 [.ptr S.objs.length 0]) = none := by
  have a1 : sol (S.objs ++ [[PV.map m]]) S.objs.length 38 (.map m) = none := rfl
  have a2 : sol (S.objs ++ [[PV.map m]]) S.objs.length 39 (.ptr S.objs.length 0) = none := by
   rw [sol]
   simp only [PV.free, Bool.false_eq_true, if_false, Nat.le_refl, if_true]
   simp [mapO, a1]
  show sol (S.objs ++ [[PV.map m]]) S.objs.length (39 + 1) (.fn 294 [.ptr S.objs.length 0]) = none
  rw [sol]
  simp only [PV.free, PV.freeL, Bool.false_and, Bool.false_eq_true, if_false]
  simp only [mapO, a2]
 simp [this]

theorem sorted_val {S : St} {m : Nat} {l : List (Nm × Nat)} (hm : S.objs[m]? = some (mcells l)) (hl : l.length ≤ 1048576) (hn : ∀ p ∈ l, p.1.length ≤ 24) :
  cval T 199 [.fn 294 [.ptr S.objs.length 0]] ⟨S.objs ++ [[.map m]], S.tips⟩ = some (namesV l, ⟨S.objs ++ [[.map m]], S.tips⟩) := by
 refine cval_exs fn_199 ?_
 have h1 : (S.objs ++ [[PV.map m]])[S.objs.length]? = some [PV.map m] := by simp
 have h2 : (S.objs ++ [[PV.map m]])[m]? = some (mcells l) := by rw [List.getElem?_append_left (List.getElem?_eq_some_iff.1 hm).1]; exact hm
 have h3 : (l.map (·.1)).length ≤ 1048576 ∧ (l.map (·.1)).all (fun k => decide (k.length ≤ maxLen)) = true := by
  refine ⟨by simpa using hl, ?_⟩
  simp only [List.all_eq_true, List.mem_map, decide_eq_true_eq]
  rintro k ⟨p, hp, rfl⟩
  have := hn p hp
  exact Nat.le_trans this (by decide)
 simp only [sortedP, if_true, h1, h2, keysOf_mc, if_pos h3]
 rfl

theorem strs_free : ∀ l : List Nm, PV.freeL (l.map .str) = true
 | [] => rfl
 | a :: l => by simp only [List.map_cons, PV.freeL, PV.free, Bool.true_and]; exact strs_free l
theorem strs_frz : ∀ l : List Nm, PV.frzL (l.map .str) = l.map .str
 | [] => rfl
 | a :: l => by simp only [List.map_cons, PV.frzL, PV.frz, List.cons.injEq, true_and]; exact strs_frz l
theorem namesV_free (l : List (Nm × Nat)) : (namesV l).free = true := by
 unfold namesV; split
 ·rfl
 ·simp [PV.free, PV.freeL, strs_free]
theorem namesV_frz (l : List (Nm × Nat)) : (namesV l).frz = namesV l := by
 unfold namesV; split
 ·rfl
 ·simp [PV.frz, PV.frzL, strs_frz]

theorem fin_freeA {S : St} {x : List (List PV)} {r : PV} (hr : r.free = true) : finish false S ⟨S.objs ++ x, S.tips⟩ r = (r.frz, S) := by
 unfold finish
 have : sol (S.objs ++ x) S.objs.length solFuel r = some r := sol_id hr
 simp [this, List.take_length, beqLL_rfl]

def listV (D : Dk) : PV := if D.dark then .nils else namesV D.live

theorem list_val {S : St} {o K : Nat} {D : Dk} (h : At S o K D) (hK : K ≤ 1048570) : cval T 90 [.ptr o 0] S = some (listV D, S) := by
 have hob := h.obj
 simp only [dcells] at hob
 refine cval_ok' fn_90 rfl ?_
 cases hd : D.dark with
 | true =>
  rw [hd] at hob
  simp -implicitDefEqProofs [disk_Disk_List, loadP_ptr hob, listV, hd]
  rw [fin_same]; rfl
 | false =>
  rw [hd] at hob
  have hk := keys_val ⟨_, h.live⟩
  have hs := sorted_val h.live (by have := h.ll; omega) h.nl
  simp -implicitDefEqProofs [disk_Disk_List, loadP_ptr hob, listV, hd, hk, hs]
  rw [fin_freeA (namesV_free _), namesV_frz]

def sumB (D : Dk) : List (Nm × Nat) → Int
 | [] => 0
 | (_, f) :: l => (D.fb f).length + sumB D l

def appendE (D : Dk) (n : Nm) (b : List UInt8) : Int := if findE D n ≠ 0 then findE D n else if (b.length : Int) > D.room - sumB D D.live then 7 else 0

def lenOf (D : Dk) : PV × PV → Int
 | (_, .ptr f _) => (D.fb f).length
 | _ => 0
def sumP (D : Dk) : List (PV × PV) → Int
 | [] => 0
 | x :: l => lenOf D x + sumP D l
theorem sumP_perm (D : Dk) {l l' : List (PV × PV)} (h : l.Perm l') : sumP D l = sumP D l' := by
 induction h with
 | nil => rfl
 | cons x _ ih => simp only [sumP, ih]
 | swap x y l => simp only [sumP]; omega
 | trans _ _ ih1 ih2 => exact ih1.trans ih2
theorem sumP_live (D : Dk) : ∀ l : List (Nm × Nat), sumP D (entsOf (mcells l)) = sumB D l
 | [] => rfl
 | (q, f) :: l => by simp only [mcells, entsOf, sumP, lenOf, sumB, sumP_live D l]

theorem clr_idem (fr : Fr) : clrI 26 42 (clrI 11 12 (clrI 26 42 (clrI 11 12 fr))) = clrI 26 42 (clrI 11 12 fr) := by
 funext t
 simp only [clrI]
 cases inI 26 42 t <;> cases inI 11 12 t <;> rfl

theorem app_rounds {S : St} {o K : Nat} {D : Dk} (h : At S o K D) : ∀ (p : List (PV × PV)), (∀ x ∈ p, ∃ n f, x = (.str n, .ptr f 0) ∧ f ∈ D.fl) → ∀ (s : Int) (fr : Fr), fr 9 = .int .i64 s → clrI 26 42 (clrI 11 12 fr) = fr → s ≤ 4194304 → -4611686018427387904 ≤ s - 4194304 * p.length →
  RgTo T D.li (mcells D.live) 33 disk_Disk_Append_r7 [(11, 12), (26, 42)] (.region disk_Disk_Append_r8) p fr S (upd fr 9 (.int .i64 (s - sumP D p)), S) := by
 intro p
 induction p with
 | nil =>
  intro _ s fr h9 _ _ _
  have : upd fr 9 (.int .i64 (s - sumP D [])) = fr := by
   funext t
   simp only [sumP, Int.sub_zero, upd_ite]
   split
   ·rename_i e; rw [e, h9]
   ·rfl
  rw [this]; rfl
 | cons x p ih =>
  intro hx s fr h9 hfr hs1 hs2
  obtain ⟨n, f, rfl, hf⟩ := hx x (by simp)
  obtain ⟨hfo, hsl, _, hroom⟩ := h.file f hf
  have hlen := len_slt hsl
  have hbl : (ofBytes (D.fb f)).length = (D.fb f).length := by simp [ofBytes]
  rw [hbl] at hlen
  have hrm := h.rm
  simp only [List.length_cons] at hs2
  have hw : IntKind.i64.wrap (s - ((D.fb f).length : Int)) = s - ((D.fb f).length : Int) := wrap_i64 (by omega) (by omega)
  refine ⟨upd fr 9 (.int .i64 (s - ((D.fb f).length : Int))), S, fun K' => ?_, h.live, ?_⟩
  ·simp -implicitDefEqProofs [h9, loadP_ptr hfo, hlen, hw, hfr]
  ·have := ih (fun y hy => hx y (by simp [hy])) (s - ((D.fb f).length : Int)) (upd fr 9 (.int .i64 (s - ((D.fb f).length : Int)))) (by simp) (by simp [hfr]) (by omega) (by omega)
   have e : upd (upd fr 9 (.int .i64 (s - ((D.fb f).length : Int)))) 9 (.int .i64 (s - ((D.fb f).length : Int) - sumP D p)) = upd fr 9 (.int .i64 (s - sumP D ((PV.str n, PV.ptr f 0) :: p))) := by
    funext t
    simp only [upd_ite, sumP, lenOf]
    split
    ·congr 1; omega
    ·rfl
   rw [e] at this
   exact this

theorem mem_ents {l : List (Nm × Nat)} {x : PV × PV} (h : x ∈ entsOf (mcells l)) : ∃ n f, x = (.str n, .ptr f 0) ∧ (n, f) ∈ l := by
 rw [entsOf_mc] at h
 obtain ⟨p, hp, rfl⟩ := List.mem_map.1 h
 exact ⟨p.1, p.2, rfl, hp⟩

theorem app_rg {S : St} {o K : Nat} {D : Dk} (h : At S o K D) (hK : K ≤ 1048570) {K' : List Kt} {fr : Fr} {Q : Fr → St → Prop} (h9 : fr 9 = .int .i64 D.room) (h29 : fr 29 = .map D.li)
  (hk : Ok (gval T K' (upd (clrI 26 42 (clrI 11 12 fr)) 9 (.int .i64 (D.room - sumB D D.live))) S) Q) :
  Ok (gval T (.rg (.tmp 29) 33 disk_Disk_Append_r7 [(11, 12), (26, 42)] (.region disk_Disk_Append_r8) :: K') fr S) Q := by
 have hrm := h.rm
 have hll := h.ll
 rw [gval_rg (fr := fr) (x := .tmp 29) (id := D.li) (cs := mcells D.live) (r := (upd (clrI 26 42 (clrI 11 12 fr)) 9 (.int .i64 (D.room - sumB D D.live)), S)) (beqL_rfl' _) h29 h.live]
 ·exact hk
 ·intro p hp
  have hlen : p.length = D.live.length := by rw [hp.length_eq, entsOf_mc]; simp
  have := app_rounds h p (fun x hx => by
   obtain ⟨n, f, rfl, hm⟩ := mem_ents (hp.mem_iff.1 hx)
   exact ⟨n, f, rfl, h.inl _ hm⟩) D.room (clrI 26 42 (clrI 11 12 fr)) (by simp [h9]) (clr_idem fr) (by omega) (by omega)
  rw [sumP_perm D hp, sumP_live] at this
  exact this

theorem append_no {S : St} {o K : Nat} {D : Dk} (h : At S o K D) (hK : K ≤ 1048570) {n : Nm} (hn : n.length ≤ maxLen) {bv : PV} {b : List UInt8} (hb : lenP false bv = some (.int .i64 b.length)) (he : appendE D n b ≠ 0) :
  cval T 78 [.ptr o 0, .str n, bv] S = some (.int .i64 (appendE D n b), S) := by
 have hf := find_val h hn
 have hob := h.obj
 simp only [dcells] at hob
 refine cval_ok' fn_78 rfl ?_
 rcases findE_cases D n with h8 | ⟨h9, _, _⟩ | ⟨h0, _, _⟩
 ·rw [h8] at hf
  simp -implicitDefEqProofs [disk_Disk_Append, hf, h8, appendE, fin_int]
 ·rw [h9] at hf
  simp -implicitDefEqProofs [disk_Disk_Append, hf, h9, appendE, fin_int]
 ·rw [h0] at hf
  have hfull : (b.length : Int) > D.room - sumB D D.live := by
   by_cases q : (b.length : Int) > D.room - sumB D D.live
   ·exact q
   ·simp [appendE, h0, q] at he
  simp -implicitDefEqProofs [disk_Disk_Append, hf, h0, loadP_ptr hob, gval_rng]
  refine app_rg h hK (by simp) (by simp) ?_
  simp -implicitDefEqProofs [hb, hfull, appendE, h0, fin_int]

theorem appendE_zero {D : Dk} {n : Nm} {b : List UInt8} (he : appendE D n b = 0) : findE D n = 0 ∧ (b.length : Int) ≤ D.room - sumB D D.live := by
 unfold appendE at he
 split at he
 ·rename_i h; exact absurd he h
 ·rename_i h
  split at he
  ·cases he
  ·rename_i h2
   refine ⟨?_, by omega⟩
   rcases findE_cases D n with h8 | ⟨h9, _, _⟩ | ⟨h0, _, _⟩
   ·exact absurd h8 (by intro e; exact h (by rw [e]; decide))
   ·exact absurd h9 (by intro e; exact h (by rw [e]; decide))
   ·exact h0

theorem append_dark {S : St} {o K : Nat} {D : Dk} (h : At S o K D) (hK : K ≤ 1048570) {n : Nm} (hn : n.length ≤ maxLen) {bv : PV} {b : List UInt8} (hb : lenP false bv = some (.int .i64 b.length)) (he : appendE D n b = 0) (hr : stepR D = 6) :
  cval T 78 [.ptr o 0, .str n, bv] S = some (.int .i64 6, ⟨S.objs.set o (dcells (stepD D)), S.tips⟩) := by
 obtain ⟨h0, hle⟩ := appendE_zero he
 have hf := find_val h hn
 have hob := h.obj
 simp only [dcells] at hob
 have hs := (step_val h (by omega)).1
 rw [hr] at hs
 rw [h0] at hf
 have hnot : ¬ D.room - sumB D D.live < (b.length : Int) := by omega
 refine cval_ok' fn_78 rfl ?_
 simp -implicitDefEqProofs [disk_Disk_Append, hf, h0, loadP_ptr hob, gval_rng]
 refine app_rg h hK (by simp) (by simp) ?_
 simp -implicitDefEqProofs [hb, hnot, hs]
 exact fin_step h

theorem oB_app (a b : List UInt8) : ofBytes (a ++ b) = ofBytes a ++ ofBytes b := by simp [ofBytes]
theorem oB_len (a : List UInt8) : (ofBytes a).length = a.length := by simp [ofBytes]

theorem app_slt {S : St} {v : PV} {a b : List UInt8} (h : SlT S 1 v (ofBytes a)) (hl : a.length + b.length ≤ 8388608) :
  ∃ v' tips', appendTo 1 1 S v (ofBytes b) = some (v', ⟨S.objs, tips'⟩) ∧ SlT ⟨[], tips'⟩ 1 v' (ofBytes (a ++ b)) ∧ S.tips.length ≤ tips'.length ∧ (∀ k, tid v' = some k → tid v = some k ∨ S.tips.length ≤ k) ∧
   (∀ k, k < S.tips.length → tid v ≠ some k → tips'[k]? = S.tips[k]?) ∧ v'.cells = [v'] ∧ v'.one = true := by
 by_cases hb : b = []
 ·subst hb
  refine ⟨v, S.tips, ?_, by rw [List.append_nil]; exact h.of (fun _ _ => rfl), Nat.le_refl _, fun k hk => .inl hk, fun _ _ _ => rfl, ?_⟩
  ·rcases h with ⟨rfl, _⟩ | ⟨k, e, rfl, _⟩ <;> rfl
  ·rcases h with ⟨rfl, _⟩ | ⟨k, e, rfl, _⟩ <;> exact ⟨rfl, rfl⟩
 ·have hne : ofBytes b ≠ [] := by simpa [ofBytes] using hb
  rcases h with ⟨rfl, hn⟩ | ⟨k, e, rfl, ht⟩
  ·have ha : a = [] := by simpa [ofBytes] using hn
   subst ha
   refine ⟨.sl (some (S.tips.length, (ofBytes b).length)) (ofBytes b) [], S.tips ++ [((ofBytes b).length, 1)], ?_, .inr ⟨_, _, rfl, by simp⟩, by simp, fun k hk => ?_, fun k hk _ => by rw [List.getElem?_append_left hk], rfl, rfl⟩
   ·rw [appendTo_nils hne (by rw [oB_len]; simp at hl ⊢; omega)]; rfl
   ·simp only [tid, Option.some.injEq] at hk; exact .inr (by omega)
  ·have hk := (List.getElem?_eq_some_iff.1 ht).1
   refine ⟨.sl (some (k, e + (ofBytes b).length)) (ofBytes a ++ ofBytes b) [], S.tips.set k (e + (ofBytes b).length, 1), ?_, .inr ⟨_, _, by rw [oB_app], List.getElem?_set_self hk⟩, by simp, fun j hj => .inl hj, fun j hj hne2 => ?_, rfl, rfl⟩
   ·rw [appendTo_sl hne ht (by simp only [oB_len]; omega)]
   ·exact List.getElem?_set_ne (fun e => hne2 (by rw [← e]; rfl))

theorem mem_sum {D : Dk} {n : Nm} {f : Nat} : ∀ {l : List (Nm × Nat)}, (n, f) ∈ l → ((D.fb f).length : Int) ≤ sumB D l
 | (q, g) :: l, h => by
  have hnn : ∀ l : List (Nm × Nat), 0 ≤ sumB D l := by
   intro l
   induction l with
   | nil => exact Int.le_refl _
   | cons x l ih => simp only [sumB]; omega
  simp only [sumB]
  rcases List.mem_cons.1 h with h | h
  ·cases h; have := hnn l; omega
  ·have := mem_sum (D := D) h; omega

theorem append_ok {S : St} {o K : Nat} {D : Dk} (h : At S o K D) (hK : K ≤ 1048570) {n : Nm} (hn : n.length ≤ maxLen) {bv : PV} {b : List UInt8} (hb : lenP false bv = some (.int .i64 b.length)) (hbv : appended 1 bv = some (ofBytes b)) (he : appendE D n b = 0) (hr : stepR D = 0) {f : Nat} (hlk : lk n D.live = some f) :
  ∃ v' S', cval T 78 [.ptr o 0, .str n, bv] S = some (.int .i64 0, S') ∧ At S' o (K + 1) (setF (stepD D) f v' (D.fb f ++ b) (D.fs f)) ∧ Fra o S S' D (setF (stepD D) f v' (D.fb f ++ b) (D.fs f)) := by
 obtain ⟨h0, hle⟩ := appendE_zero he
 have hf := find_val h hn
 obtain ⟨f', hlk', hff, _⟩ := find_some h0
 rw [hlk] at hlk'; cases hlk'
 rw [h0, hff] at hf
 have hob := h.obj
 simp only [dcells] at hob
 obtain ⟨hs, hA⟩ := step_val h (by omega)
 rw [hr] at hs
 obtain ⟨_, _, _, e4, _, e6, e7, e8, e9, e10, e11⟩ := stepD_fields D
 have hfm : f ∈ D.fl := h.inl _ (lk_mem hlk)
 have hsum := mem_sum (D := D) (lk_mem hlk)
 have hrm := h.rm
 have hfs := hA.file f (by rw [e7]; exact hfm)
 rw [e8, e9, e10, e11] at hfs
 obtain ⟨S1, hS1⟩ : ∃ S1 : St, S1 = ⟨S.objs.set o (dcells (stepD D)), S.tips⟩ := ⟨_, rfl⟩
 rw [← hS1] at hs hA hfs
 have ht1 : S1.tips = S.tips := by rw [hS1]
 obtain ⟨v', tips', ha1, ha2, ha3, ha4, ha5, ha6, ha7⟩ := app_slt (b := b) hfs.2.1 (by omega)
 have hnot : ¬ D.room - sumB D D.live < (b.length : Int) := by omega
 have hothers : ∀ k, k < S1.tips.length → tid (D.fv f) ≠ some k → tips'[k]? = S1.tips[k]? := ha5
 have hfin := hA.setf (f := f) (by rw [e7]; exact hfm) (v := v') (b := D.fb f ++ b) (s := D.fs f) (tips' := tips') ha2 (by rw [List.length_append]; have := hfs.2.2.1; omega) (by rw [e11, List.length_append]; push_cast; omega)
  (fun g hg hgf k hk => by
   rw [e7] at hg; rw [e10] at hk
   exact hothers k (by rw [ht1]; exact (h.file g hg).2.1.tip hk) (fun hq => h.tf g hg f hfm hgf k hk hq))
  (fun k hk => by
   rw [e6] at hk
   exact hothers k (by rw [ht1]; exact h.wv.tip hk) (fun hq => h.tw f hfm k hk hq))
  (fun k hk => by
   rw [e6, e7, e10]
   rcases ha4 k hk with hq | hq
   ·exact ⟨fun hw => h.tw f hfm k hw hq, fun g hg hgf => h.tf f hfm g hg (Ne.symm hgf) k hq⟩
   ·rw [ht1] at hq
    exact ⟨fun hw => by have := h.wv.tip hw; omega, fun g hg _ hw => by have := (h.file g hg).2.1.tip hw; omega⟩)
 have hfo := hfs.1
 refine ⟨v', _, cval_ok' fn_78 rfl ?_, hfin, ?_⟩
 ·simp -implicitDefEqProofs [disk_Disk_Append, hf, h0, loadP_ptr hob, gval_rng]
  refine app_rg h hK (by simp) (by simp) ?_
  simp -implicitDefEqProofs [hb, hnot, hs, loadP_ptr hfo, appP, appdS (S := S1) hbv, ha1, pstep, hfo, putCells, ha6, ha7]
  exact fin_done h hfin (by rw [show (setF (stepD D) f v' (D.fb f ++ b) (D.fs f)).done = (stepD D).done from rfl, stepD_ok hr])
 ·refine ⟨⟨by rw [← ht1]; exact ha3, fun k hk ho => ⟨?_, ?_⟩⟩, ⟨fun i c hc hi hn => by
   simp only
   rw [List.getElem?_set_ne (fun e => hn (.inr (.inr (by rw [← e]; exact hfm)))), hS1]
   simp only
   rw [List.getElem?_set_ne (Ne.symm hi)]; exact hc, fun i _ _ hn => own_of (stepD_fields D).1 (stepD_fields D).2.1 e7 hn⟩⟩
  ·rintro (hq | ⟨g, hg, hq⟩)
   ·exact ho (.inl (by rw [← e6]; exact hq))
   ·have hg : g ∈ D.fl := by rw [← e7]; exact hg
    simp only [setF] at hq
    split at hq
    ·rcases ha4 k hq with hq | hq
     ·exact ho (.inr ⟨f, hfm, hq⟩)
     ·rw [ht1] at hq; omega
    ·rw [e10] at hq; exact ho (.inr ⟨g, hg, hq⟩)
  ·rw [← ht1]; exact hothers k (by rw [ht1]; exact hk) (fun hq => ho (.inr ⟨f, hfm, hq⟩))
end Ps
namespace Ps
set_option linter.unusedSimpArgs false
set_option linter.unusedVariables false
open Go
theorem fn_80 : T.fn 80 = some (.code disk_Disk_Crash) := rfl

theorem fin_nil1 {S : St} : finish false S S (.tup [.nilp, .int .i64 1]) = (.tup [.nilp, .int .i64 1], S) := by rw [fin_same]; rfl
theorem find_nil {S : St} {n : Nm} : cval T 194 [.nilp, .str n] S = some (.tup [.nilp, .int .i64 1], S) := by
 refine cval_ok' fn_194 rfl ?_
 simp -implicitDefEqProofs [disk_Disk_find, fin_nil1]
theorem append_nil {S : St} {n : Nm} {bv : PV} : cval T 78 [.nilp, .str n, bv] S = some (.int .i64 1, S) := by
 refine cval_ok' fn_78 rfl ?_
 simp -implicitDefEqProofs [disk_Disk_Append, find_nil, fin_int]
theorem fn_16 : T.fn 16 = some (.code disk_New) := rfl
def newD (r : Int) (L : Nat) : Dk := ⟨r, -1, 0, false, L, L + 1, [], [], [], .nils, [], fun _ => [], fun _ => 0, fun _ => .nils⟩

theorem new_bad {S : St} {r : Int} (h : r < 1 ∨ 4194304 < r) : cval T 16 [.int .i64 r] S = some (.tup [.nilp, .int .i64 2], S) := by
 refine cval_ok' fn_16 rfl ?_
 have fin2 : finish false S S (.tup [.nilp, .int .i64 2]) = (.tup [.nilp, .int .i64 2], S) := by rw [fin_same]; rfl
 rcases h with h | h
 ·simp -implicitDefEqProofs [disk_New, h, fin2]
 ·have h2 : ¬ r < 1 := by omega
  simp -implicitDefEqProofs [disk_New, h, h2, fin2]

theorem new_at {S : St} {r : Int} (h1 : 1 ≤ r) (h2 : r ≤ 4194304) :
  At ⟨S.objs ++ [[], [], dcells (newD r S.objs.length)], S.tips⟩ (S.objs.length + 2) 0 (newD r S.objs.length) where
 obj := by simp [List.getElem?_append]
 base := by simp [List.getElem?_append, newD, mcells]
 live := by simp [List.getElem?_append, newD, mcells]
 wv := .inl ⟨rfl, rfl⟩
 file := fun f hf => by cases hf
 inb := fun p hp => by cases hp
 inw := fun p hp => by cases hp
 nd := ⟨by simp only [newD]; omega, by simp only [newD]; omega, by simp only [newD]; omega, fun f hf => by cases hf⟩
 tw := fun f hf => by cases hf
 tf := fun f hf => by cases hf
 hist := .nil .nil
 nb := fun p hp => by cases hp
 nw := fun p hp => by cases hp
 rm := ⟨h1, h2⟩
 cnt := by simp [newD]
 dn := ⟨Int.le_refl _, Int.le_refl _⟩
 lf := ⟨by simp [newD], by simp [newD]⟩

theorem new_ok {S : St} {r : Int} (h1 : 1 ≤ r) (h2 : r ≤ 4194304) : cval T 16 [.int .i64 r] S = some (.tup [.ptr (S.objs.length + 2) 0, .int .i64 0], ⟨S.objs ++ [[], [], dcells (newD r S.objs.length)], S.tips⟩) := by
 refine cval_ok' fn_16 rfl ?_
 have a1 : ¬ r < 1 := by omega
 have a2 : ¬ 4194304 < r := by omega
 simp -implicitDefEqProofs [disk_New, a1, a2, pstep, peval, fillParts, putCells, newObj]
 obtain ⟨S1, hS1⟩ : ∃ S1 : St, S1 = ⟨S.objs ++ [[], [], dcells (newD r S.objs.length)], S.tips⟩ := ⟨_, rfl⟩
 have ho : S1.objs[S.objs.length + 2]? = some (dcells (newD r S.objs.length)) := by rw [hS1]; simp [List.getElem?_append]
 have hs : sol S1.objs S.objs.length solFuel (.tup [.ptr (S.objs.length + 2) 0, .int .i64 0]) = none := by
  have b1 : sol S1.objs S.objs.length 38 (.map S.objs.length) = none := rfl
  have b0 : sol S1.objs S.objs.length 38 (.int .i64 r) = some (.int .i64 r) := rfl
  have b2 : sol S1.objs S.objs.length 39 (.ptr (S.objs.length + 2) 0) = none := by
   rw [sol]
   have hle : S.objs.length ≤ S.objs.length + 2 := by omega
   simp only [PV.free, Bool.false_eq_true, if_false, hle, if_true, ho]
   simp [dcells, newD, mapO, b0, b1]
  show sol S1.objs S.objs.length (39 + 1) (.tup [.ptr (S.objs.length + 2) 0, .int .i64 0]) = none
  rw [sol]
  simp only [PV.free, PV.freeL, Bool.false_and, Bool.false_eq_true, if_false]
  simp only [mapO, b2]
 have hf : finish false S S1 (.tup [.ptr (S.objs.length + 2) 0, .int .i64 0]) = (.tup [.ptr (S.objs.length + 2) 0, .int .i64 0], S1) := by
  unfold finish
  simp only [Bool.false_eq_true, if_false, hs]
 rw [hS1] at hf
 exact hf
end Ps
