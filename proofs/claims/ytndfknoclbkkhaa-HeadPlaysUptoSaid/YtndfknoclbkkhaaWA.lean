/- Posting lists, samples, rows: whether they may be, both. -/
import Derived.Test.YtndfknoclbkkhaaHE
import Derived.Test.YtndfknoclbkkhaaLB
namespace Ps
set_option linter.unusedSimpArgs false
set_option linter.unusedVariables false
open Go
theorem delete_val {S : St} {sv : PV} {l : List (Int × Int)} (hs : SmAt S sv l) (hl : l.length ≤ 1048576) {ro : Nat} (hne : gidV sv ≠ some ro) {a b c d : PV} {low high : Int} (hro : S.objs[ro]? = some [a, b, c, d, .int .i64 low, .int .i64 high]) :
  ∃ sv' S', cval T 279 [sv, .fn 280 [.ptr ro 0]] S = some (sv', S') ∧ SmAt S' sv' (kept low high l) ∧ (sv' = sv ∨ ∃ id, gidV sv = some id ∧ sv' = .osl id 0 (kept low high l).length 2) ∧
   (∀ (i : Nat) (x : List PV), gidV sv ≠ some i → S.objs[i]? = some x → S'.objs[i]? = some x) ∧ S'.tips = S.tips ∧ S.objs.length ≤ S'.objs.length ∧
   (∀ i c, gidV sv = some i → S.objs[i]? = some c → ∃ c', S'.objs[i]? = some c' ∧ c'.length = c.length) := by
 have hix := index_val hs hl hro
 cases hf : l.findIdx? (inTm low high) with
 | none =>
  rw [hf] at hix
  have hk : kept low high l = l := by
   unfold kept
   rw [List.filter_eq_self]
   intro q hq
   have := (List.findIdx?_eq_none_iff.1 hf) q hq
   simp [this]
  refine ⟨sv, S, cval_ok' fn_279 rfl ?_, by rw [hk]; exact hs, .inl rfl, fun i x _ h => h, rfl, Nat.le_refl _, fun i c _ h => ⟨c, h, rfl⟩⟩
  have hfin : finish true S S sv = (sv, S) := rfl
  simp -implicitDefEqProofs [z16, hix, hfin]
 | some i0 =>
  rw [hf] at hix
  obtain ⟨hi0, hp0, hb0⟩ := List.findIdx?_eq_some_iff_getElem.1 hf
  rcases hs with ⟨_, e⟩ | ⟨id, t, rfl, ho⟩
  ·rw [e] at hi0; exact absurd hi0 (by simp)
  ·have hid := (List.getElem?_eq_some_iff.1 ho).1
   have hne' : ro ≠ id := fun e => hne (by rw [e]; rfl)
   have ht0 : l.take (i0 + 1) = l.take i0 ++ [l[i0]] := by rw [List.take_add_one, List.getElem?_eq_getElem hi0]; rfl
   have hk0 : kept low high (l.take (i0 + 1)) = l.take i0 := by
    rw [ht0]; unfold kept
    rw [List.filter_append]
    have e1 : (l.take i0).filter (fun q => !inTm low high q) = l.take i0 := by
     rw [List.filter_eq_self]
     intro q hq
     obtain ⟨i, hi, rfl⟩ := List.mem_take_iff_getElem.1 hq
     have := hb0 i (by omega)
     simpa using this
    rw [e1]; simp [hp0]
   have hsplit : smC l = smC (l.take i0) ++ [.int .i64 l[i0].1, .int .i64 l[i0].2] ++ smC (l.drop (i0 + 1)) := by
    have e : l = l.take i0 ++ (l[i0] :: l.drop (i0 + 1)) := by rw [← List.drop_eq_getElem_cons hi0, List.take_append_drop]
    refine (congrArg smC e).trans ?_
    rw [smC_app]
    show smC (l.take i0) ++ (.int .i64 l[i0].1 :: .int .i64 l[i0].2 :: smC (l.drop (i0 + 1))) = _
    simp only [List.append_assoc, List.cons_append, List.nil_append]
   have hw0 : IntKind.i64.wrap ((i0 : Int) + 1) = (i0 : Int) + 1 := wrap_up hi0 (by unfold maxLen; omega)
   have hloop := fun (KK : List Kt) (Q : Fr → St → Prop) hK (fr0 : Fr) g0 g1 g5 g6 => delete_loop (S := S) hl hid hne' (t := t) hro (KK := KK) (Q := Q) hK (i0 + 1) (by omega) fr0 S [.int .i64 l[i0].1, .int .i64 l[i0].2] g0 g1 g5 g6 (by rw [hk0, ho, hsplit]; simp) (by rw [hk0, List.length_take]; simp; omega) (by rw [hk0, List.length_take]; omega) (fun i x _ h => h) rfl (Nat.le_refl _)
   obtain ⟨r, S2, hc, h2⟩ := cval_ex (T := T) fn_279 (args := [.osl id 0 l.length 2, .fn 280 [.ptr ro 0]]) (S := S) rfl (R := fun r S2 => SmAt S2 r (kept low high l) ∧ r = .osl id 0 (kept low high l).length 2 ∧ (∀ (i : Nat) (x : List PV), i ≠ id → S.objs[i]? = some x → S2.objs[i]? = some x) ∧ S2.tips = S.tips ∧ S.objs.length ≤ S2.objs.length ∧ ∃ c', S2.objs[id]? = some c' ∧ c'.length = (smC l ++ t).length) (by
    simp -implicitDefEqProofs [z16, hix]
    refine hloop _ _ ?_ _ (by simp) (by simp) (by simp [hk0]; omega) (by simp [hw0])
    intro fr S' rest f0 f5 hm hr hlt hk htp hle
    obtain ⟨n, hn⟩ : ∃ n, n = (kept low high l).length := ⟨_, rfl⟩
    rw [← hn] at f5 hr hlt
    have hsl := smC_len (kept low high l)
    rw [← hn] at hsl
    have hb1 : bounds l.length l.length (some (.int .i64 (n : Int))) none = some (n, l.length) := bounds_lo (by omega)
    have hb2 : bounds l.length l.length none (some (.int .i64 (n : Int))) = some (0, n) := bounds_hi (by omega)
    obtain ⟨cs, hcs⟩ : ∃ cs, cs = smC (kept low high l) ++ rest := ⟨_, rfl⟩
    rw [← hcs] at hm
    have hle2 : n * 2 + (l.length - n) * 2 ≤ cs.length := by rw [hcs, List.length_append, hsl]; omega
    simp -implicitDefEqProofs [f0, f5, hb1, hb2, hlt, pstep, hm, hle2, putCells]
    rw [← hn]
    rw [show ∀ (a b : St) (r : PV), finish true a b r = (r, b) from fun _ _ _ => rfl]
    have htk : cs.take (n * 2) = smC (kept low high l) := by
     rw [hcs, List.take_append_of_le_length (by omega), List.take_of_length_le (by omega)]
    rw [htk]
    refine ⟨.inr ⟨id, _, by rw [← hn], get_set hm⟩, rfl, fun i x hi hx => ?_, htp, by simpa using hle, _, get_set hm, ?_⟩
    ·simp only
     rw [List.getElem?_set_ne (Ne.symm hi)]; exact hk i x hi hx
    ·have hsl2 := smC_len l
     simp only [List.length_append, List.length_drop, List.length_flatten, List.map_replicate, hcs, hsl]
     simp
     omega)
   obtain ⟨q1, rfl, q3, q4, q5, c', q6, q7⟩ := h2
   exact ⟨_, S2, hc, q1, .inr ⟨id, rfl, rfl⟩, fun i x hi h => q3 i x (fun e => hi (by rw [e]; rfl)) h, q4, q5, fun i c hi hc => by
    cases hi
    rw [ho] at hc; cases hc
    exact ⟨c', q6, q7⟩⟩
end Ps
namespace Ps
set_option linter.unusedSimpArgs false
set_option linter.unusedVariables false
open Go
def Rises (l : List (Int × Int)) : Prop := l.Pairwise fun a b => a.1 < b.1
end Ps
namespace Ps
set_option linter.unusedSimpArgs false
set_option linter.unusedVariables false
open Go

end Ps
namespace Ps
set_option linter.unusedSimpArgs false
set_option linter.unusedVariables false
open Go
theorem fn_318 : T.fn 318 = some (.code z52) := rfl
theorem fn_282 : T.fn 282 = some (.code z62) := rfl
theorem fn_260 : T.fn 260 = some (.code z85) := rfl
theorem fn_329 : T.fn 329 = some (.code z87) := rfl
theorem fn_154 : T.fn 154 = some (.code z63) := rfl
theorem fn_275 : T.fn 275 = some (.code z51) := rfl
theorem fn_281 : T.fn 281 = some (.code z79) := rfl

def nV (l : List Int) : List PV := l.map fun (n : Int) => PV.int .i64 n
theorem nV_len (l : List Int) : (nV l).length = l.length := by simp [nV]
theorem nV_free (l : List Int) : PV.freeL (nV l) = true := freeL_map _ (fun _ => rfl) l
theorem nV_frz (l : List Int) : PV.frzL (nV l) = nV l := frzL_map' _ (fun _ => rfl) l
theorem nV_cells (l : List Int) : ∀ e ∈ nV l, e.cells.length = 1 := by
 intro e he
 obtain ⟨x, _, rfl⟩ := List.mem_map.1 he
 rfl
theorem nV_get {l p r : List Int} {n : Int} {v : PV} (hv : Reads1 1 v (nV l)) (hl : l = p ++ n :: r) {k : IntKind} : iaddrP 1 v (.int k (p.length : Int)) = some (.ref [.int .i64 n]) := by
 have hlt : p.length < (nV l).length := by rw [nV_len, hl]; simp
 have := hv.get p.length hlt k
 have e : (nV l)[p.length] = .int .i64 n := by simp [nV, hl]
 rw [e] at this
 exact this

def postR (prev : Option Int) : List Int → Nat
 | [] => 0
 | n :: l => if n < 0 ∨ 1099511627776 < n then 2 else if (match prev with | some q => decide (n ≤ q) | none => false) then 13 else postR (some n) l
theorem postR_cons (prev : Option Int) (n : Int) (l : List Int) : postR prev (n :: l) = if n < 0 ∨ 1099511627776 < n then 2 else if (match prev with | some q => decide (n ≤ q) | none => false) then 13 else postR (some n) l := rfl
def postN (l : List Int) : Nat := if 1024 < l.length then 3 else postR none l

theorem pchk_loop {l : List Int} (hl : l.length ≤ 1024) {v : PV} (hv : Reads1 1 v (nV l)) {K : List Kt} {Q : Fr → St → Prop} {S : St} : ∀ (r p : List Int) (fr : Fr), l = p ++ r →
  fr 0 = v → fr 8 = v → fr 9 = .int .i64 l.length → fr 10 = .int .i64 p.length →
  (∀ fr', fr' 2 = .int .i64 (postR p.getLast? r) → Q fr' S) → (postR p.getLast? r = 0 → ∀ fr', Ok (gval T K fr' S) Q) →
  Ok (gval T (.lp z52_l0 :: .blk 0 :: K) fr S) Q := by
 intro r
 induction r with
 | nil =>
  intro p fr hp h0 h8 h9 h10 k1 k2
  rw [List.append_nil] at hp
  subst hp
  rw [gval_lp]
  simp -implicitDefEqProofs [h9, h10]
  exact k2 rfl _
 | cons n r ih =>
  intro p fr hp h0 h8 h9 h10 k1 k2
  have hplt : p.length < l.length := by rw [hp]; simp
  have hlt : (p.length : Int) < (l.length : Int) := by omega
  have hg := nV_get hv hp (k := .i64)
  have hp1 : partOf false 1 [PV.int .i64 n] = some (.int .i64 n) := rfl
  have hw := wrap_len (a := p.length) (by omega)
  have hlast : (p ++ [n]).getLast? = some n := by simp
  have hnext : postR p.getLast? (n :: r) = postR (some n) r → ∀ fr' : Fr, fr' 0 = v → fr' 8 = v → fr' 9 = .int .i64 l.length → fr' 10 = .int .i64 ((p ++ [n]).length : Nat) → Ok (gval T (.lp z52_l0 :: .blk 0 :: K) fr' S) Q := by
   intro e fr' c0 c8 c9 c10
   refine ih (p ++ [n]) fr' (by simp [hp]) c0 c8 c9 c10 (fun fr2 h2 => k1 fr2 (by rw [e]; rw [hlast] at h2; exact h2)) (fun h2 fr2 => k2 (by rw [e]; rw [hlast] at h2; exact h2) fr2)
  rw [gval_lp]
  by_cases hb : n < 0 ∨ 1099511627776 < n
  ·have hr : postR p.getLast? (n :: r) = 2 := by rw [postR_cons, if_pos hb]
   have hb' : (decide (n < 0) || decide (1099511627776 < n)) = true := by simpa using hb
   simp -implicitDefEqProofs [h0, h8, h9, h10, hlt, hg, hp1]
   refine ok_br (fun _ => ok_ret (k1 _ (by rw [hr]; simp))) (fun q => ?_)
   rw [hb'] at q; cases q
  ·have hb' : (decide (n < 0) || decide (1099511627776 < n)) = false := by
    rw [Bool.or_eq_false_iff]; simp only [decide_eq_false_iff_not]; omega
   rcases List.eq_nil_or_concat p with hnil | ⟨p0, z, hz⟩
   ·have hr : postR p.getLast? (n :: r) = postR (some n) r := by rw [postR_cons, if_neg hb, hnil]; rfl
    have hd0 : ¬ 0 < p.length := by rw [hnil]; simp
    simp -implicitDefEqProofs [h0, h8, h9, h10, hlt, hg, hp1]
    refine ok_br (fun q => ?_) (fun _ => ?_)
    ·rw [hb'] at q; cases q
    ·simp -implicitDefEqProofs [h0, h8, h9, h10, hd0, hw]
     exact hnext hr _ (by simp [h0]) (by simp [h8]) (by simp [h9]) (by simp [hw])
   ·have hz' : p = p0 ++ [z] := by simpa using hz
    have hlz : p.getLast? = some z := by rw [hz']; simp
    have hd0 : 0 < p.length := by rw [hz']; simp
    have hwp : IntKind.i64.wrap ((p.length : Int) - 1) = (p0.length : Int) := by
     rw [hz', List.length_append]
     simp only [List.length_cons, List.length_nil]
     rw [hz'] at hplt
     simp only [List.length_append, List.length_cons, List.length_nil] at hplt
     rw [wrap_i64 (by omega) (by omega)]; omega
    have hg0 := nV_get hv (show l = p0 ++ z :: (n :: r) by rw [hp, hz']; simp) (k := .i64)
    have hp2 : partOf false 1 [PV.int .i64 z] = some (.int .i64 z) := rfl
    simp -implicitDefEqProofs [h0, h8, h9, h10, hlt, hg, hp1]
    refine ok_br (fun q => ?_) (fun _ => ?_)
    ·rw [hb'] at q; cases q
    ·simp -implicitDefEqProofs [h0, h8, h9, h10, hd0, hw, hwp, hg0, hp2]
     refine ok_br (fun q => ok_ret ?_) (fun q => ?_)
     ·have hq : n ≤ z := by simpa using q
      have hr : postR p.getLast? (n :: r) = 13 := by rw [postR_cons, if_neg hb, hlz]; simp [hq]
      exact k1 _ (by rw [hr]; simp)
     ·have hq : ¬ n ≤ z := by simpa using q
      have hr : postR p.getLast? (n :: r) = postR (some n) r := by rw [postR_cons, if_neg hb, hlz]; simp [hq]
      exact hnext hr _ (by simp [h0]) (by simp [h8]) (by simp [h9]) (by simp [hw])
theorem pcheck_val {l : List Int} {v : PV} (hv : Reads1 1 v (nV l)) (S : St) : cval T 318 [v] S = some (.int .i64 (postN l), S) := by
 have hlen := hv.len
 rw [nV_len] at hlen
 refine cval_ok' fn_318 rfl ?_
 by_cases hl : 1024 < l.length
 ·have hl' : (1024 : Int) < (l.length : Int) := by omega
  have hr : postN l = 3 := by unfold postN; rw [if_pos hl]
  rw [hr]
  simp -implicitDefEqProofs [z52, hlen, hl']
 ·have hl' : ¬ (1024 : Int) < (l.length : Int) := by omega
  have hr : postN l = postR none l := by unfold postN; rw [if_neg hl]
  rw [hr]
  simp -implicitDefEqProofs [z52, hlen, hl']
  refine pchk_loop (by omega) hv l [] _ rfl (by simp) (by simp) (by simp) (by simp) (fun fr' h2 => ?_) (fun h2 fr' => ?_)
  ·rw [ends1, h2]; exact fin_gi (Grows.refl S)
  ·have h2' : postR none l = 0 := h2
   rw [h2']
   simp

theorem rpchk_loop {l : List Int} (hl : l.length ≤ 1024) {v : PV} (hv : Reads1 1 v (nV l)) {K : List Kt} {Q : Fr → St → Prop} {S : St} : ∀ (r p : List Int) (fr : Fr), l = p ++ r →
  fr 0 = v → fr 3 = .int .i64 p.length →
  (∀ fr', fr' 2 = .int .i64 (postR p.getLast? r) → Q fr' S) → (postR p.getLast? r = 0 → ∀ fr', Ok (gval T K fr' S) Q) →
  Ok (gval T (.lp z62_l0 :: .blk 0 :: K) fr S) Q := by
 have hlen := hv.len
 rw [nV_len] at hlen
 intro r
 induction r with
 | nil =>
  intro p fr hp h0 h3 k1 k2
  rw [List.append_nil] at hp
  subst hp
  rw [gval_lp]
  simp -implicitDefEqProofs [h0, h3, hlen]
  exact k2 rfl _
 | cons n r ih =>
  intro p fr hp h0 h3 k1 k2
  have hplt : p.length < l.length := by rw [hp]; simp
  have hlt : (p.length : Int) < (l.length : Int) := by omega
  have hg := nV_get hv hp (k := .i64)
  have hp1 : partOf false 1 [PV.int .i64 n] = some (.int .i64 n) := rfl
  have hw := wrap_len (a := p.length) (by omega)
  have hlast : (p ++ [n]).getLast? = some n := by simp
  have hnext : postR p.getLast? (n :: r) = postR (some n) r → ∀ fr' : Fr, fr' 0 = v → fr' 3 = .int .i64 ((p ++ [n]).length : Nat) → Ok (gval T (.lp z62_l0 :: .blk 0 :: K) fr' S) Q := by
   intro e fr' c0 c3
   refine ih (p ++ [n]) fr' (by simp [hp]) c0 c3 (fun fr2 h2 => k1 fr2 (by rw [e]; rw [hlast] at h2; exact h2)) (fun h2 fr2 => k2 (by rw [e]; rw [hlast] at h2; exact h2) fr2)
  rw [gval_lp]
  by_cases hb : n < 0 ∨ 1099511627776 < n
  ·have hr : postR p.getLast? (n :: r) = 2 := by rw [postR_cons, if_pos hb]
   by_cases hn : n < 0
   ·simp -implicitDefEqProofs [h0, h3, hlen, hlt, hg, hp1, hn]
    exact k1 _ (by rw [hr]; simp)
   ·have hn2 : 1099511627776 < n := by omega
    simp -implicitDefEqProofs [h0, h3, hlen, hlt, hg, hp1, hn, hn2]
    exact k1 _ (by rw [hr]; simp)
  ·have hn : ¬ n < 0 := fun q => hb (.inl q)
   have hn2 : ¬ 1099511627776 < n := fun q => hb (.inr q)
   rcases List.eq_nil_or_concat p with hnil | ⟨p0, z, hz⟩
   ·have hr : postR p.getLast? (n :: r) = postR (some n) r := by rw [postR_cons, if_neg hb, hnil]; rfl
    have hd0 : ¬ 0 < p.length := by rw [hnil]; simp
    simp -implicitDefEqProofs [h0, h3, hlen, hlt, hg, hp1, hn, hn2, hd0, hw]
    exact hnext hr _ (by simp [h0]) (by simp [hw])
   ·have hz' : p = p0 ++ [z] := by simpa using hz
    have hlz : p.getLast? = some z := by rw [hz']; simp
    have hd0 : 0 < p.length := by rw [hz']; simp
    have hwp : IntKind.i64.wrap ((p.length : Int) - 1) = (p0.length : Int) := by
     rw [hz', List.length_append]
     simp only [List.length_cons, List.length_nil]
     rw [hz'] at hplt
     simp only [List.length_append, List.length_cons, List.length_nil] at hplt
     rw [wrap_i64 (by omega) (by omega)]; omega
    have hg0 := nV_get hv (show l = p0 ++ z :: (n :: r) by rw [hp, hz']; simp) (k := .i64)
    have hp2 : partOf false 1 [PV.int .i64 z] = some (.int .i64 z) := rfl
    by_cases hq : n ≤ z
    ·have hr : postR p.getLast? (n :: r) = 13 := by rw [postR_cons, if_neg hb, hlz]; simp [hq]
     simp -implicitDefEqProofs [h0, h3, hlen, hlt, hg, hp1, hn, hn2, hd0, hw, hwp, hg0, hp2, hq]
     exact k1 _ (by rw [hr]; simp)
    ·have hr : postR p.getLast? (n :: r) = postR (some n) r := by rw [postR_cons, if_neg hb, hlz]; simp [hq]
     simp -implicitDefEqProofs [h0, h3, hlen, hlt, hg, hp1, hn, hn2, hd0, hw, hwp, hg0, hp2, hq]
     exact hnext hr _ (by simp [h0]) (by simp [hw])
theorem rpcheck_val {l : List Int} {v : PV} (hv : Reads1 1 v (nV l)) (S : St) : cval T 282 [v] S = some (.int .i64 (postN l), S) := by
 have hlen := hv.len
 rw [nV_len] at hlen
 refine cval_ok' fn_282 rfl ?_
 by_cases hl : 1024 < l.length
 ·have hl' : (1024 : Int) < (l.length : Int) := by omega
  have hr : postN l = 3 := by unfold postN; rw [if_pos hl]
  rw [hr]
  simp -implicitDefEqProofs [z62, hlen, hl']
 ·have hl' : ¬ (1024 : Int) < (l.length : Int) := by omega
  have hr : postN l = postR none l := by unfold postN; rw [if_neg hl]
  rw [hr]
  simp -implicitDefEqProofs [z62, hlen, hl']
  refine rpchk_loop (by omega) hv l [] _ rfl (by simp) (by simp) (fun fr' h2 => ?_) (fun h2 fr' => ?_)
  ·rw [ends1, h2]; exact fin_gi (Grows.refl S)
  ·have h2' : postR none l = 0 := h2
   rw [h2']
   simp

def mayB (t v : Int) : Bool := decide (0 ≤ t) && decide (t ≤ 1099511627776) && decide (-1152921504606846976 ≤ v) && decide (v ≤ 1152921504606846976)
def smpV (t v : Int) : PV := .agg [.int .i64 t, .int .i64 v]
theorem may_val (t v : Int) (S : St) : cval T 260 [smpV t v] S = some (.bool (mayB t v), S) := by
 refine cval_ok' fn_260 rfl ?_
 have hp1 : ∀ (a : PV) (m : List PV), partOf false 1 (a :: m) = some a := fun a m => by simp [partOf]
 simp -implicitDefEqProofs [z85, smpV, pstep, hp1, mayB]
theorem rmay_val (t v : Int) (S : St) : cval T 329 [smpV t v] S = some (.bool (mayB t v), S) := by
 refine cval_ok' fn_329 rfl ?_
 have hp1 : ∀ (a : PV) (m : List PV), partOf false 1 (a :: m) = some a := fun a m => by simp [partOf]
 simp -implicitDefEqProofs [z87, smpV, pstep, hp1, mayB]
end Ps
