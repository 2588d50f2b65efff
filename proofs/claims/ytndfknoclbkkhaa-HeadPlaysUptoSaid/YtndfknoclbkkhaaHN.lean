/- The head: a round of rows. -/
import Derived.Test.YtndfknoclbkkhaaHL
namespace Ps
set_option linter.unusedSimpArgs false
set_option linter.unusedVariables false
open Go
theorem fn_277 : T.fn 277 = some (.code z34) := rfl

def pushA (x : RowM) (A : Ab) : Ab := A.modify x.1.toNat fun p => (p.1, p.2 ++ [(x.2.1, x.2.2)])
def totA (A : Ab) : Nat := (A.map fun p => p.2.length).sum
theorem totA_abs (l : List Sr) : totA (abs l) = total l := by simp [totA, total, abs]; rfl
def lastA (A : Ab) (i : Nat) : Int := match A[i]? with | some p => lastT p.2 | none => -1
def rowStep (x : RowM) (A : Ab) : Option Nat := if (A.length : Int) ≤ x.1 then some 9 else if 65536 ≤ totA A then some 3 else if x.2.1 ≤ lastA A x.1.toNat then some 13 else none

theorem rises_push {l : List (Int × Int)} {t v : Int} (h : Rises l ∧ ∀ q ∈ l, 0 ≤ q.1 ∧ q.1 ≤ 1099511627776) (hl : lastT l < t) (ht : t ≤ 1099511627776) (h0 : 0 ≤ t) :
  Rises (l ++ [(t, v)]) ∧ ∀ q ∈ l ++ [(t, v)], 0 ≤ q.1 ∧ q.1 ≤ 1099511627776 := by
 refine ⟨List.pairwise_append.2 ⟨h.1, List.pairwise_singleton _ _, fun a ha b hb => ?_⟩, fun q hq => ?_⟩
 ·simp only [List.mem_singleton] at hb
  subst hb
  simp only
  have hn : l ≠ [] := fun e => by rw [e] at ha; cases ha
  obtain ⟨m, hm⟩ : ∃ m, l = m ++ [l.getLast hn] := ⟨l.dropLast, (List.dropLast_concat_getLast hn).symm⟩
  have he : lastT l = (l.getLast hn).1 := by simp [lastT, List.getLast?_eq_some_getLast hn]
  have hr := h.1
  rw [Rises, hm] at hr
  rw [hm] at ha
  rcases List.mem_append.1 ha with q | q
  ·have := (List.pairwise_append.1 hr).2.2 a q (l.getLast hn) (by simp)
   omega
  ·simp only [List.mem_singleton] at q
   rw [q]; omega
 ·rcases List.mem_append.1 hq with q' | q'
  ·exact h.2 q q'
  ·simp only [List.mem_singleton] at q'
   rw [q']; exact ⟨h0, ht⟩

theorem smC_one (l : List (Int × Int)) : (smC l).all PV.one = true := by
 rw [List.all_eq_true]
 intro x hx
 obtain ⟨q, _, hx⟩ := List.mem_flatMap.1 hx
 simp only [List.mem_cons, List.not_mem_nil, or_false] at hx
 rcases hx with rfl | rfl <;> rfl

theorem gapp_sm {S : St} {r : Sr} (h : SrOk S r) (hl : r.sm.length ≤ 1048576) {t v : Int} :
  ∃ ni S2, gappTo 2 16 S r.sv [.agg [.int .i64 t, .int .i64 v]] = some (.osl ni 0 (r.sm.length + 1) 2, S2) ∧ S.objs.length ≤ ni ∧ S2.objs[ni]? = some (smC (r.sm ++ [(t, v)])) ∧ S2.tips = S.tips ∧ S.objs.length ≤ S2.objs.length ∧
   ∀ (i : Nat) (x : List PV), gidV r.sv ≠ some i → S.objs[i]? = some x → S2.objs[i]? = some x := by
 unfold gappTo
 simp only [List.isEmpty_cons, Bool.false_eq_true, if_false, List.length_singleton]
 rcases h.at_ with ⟨e | e, e2⟩ | ⟨si, t0, e, hs⟩
 ·rw [e, e2]
  simp only [Nat.one_mul]
  rw [if_pos (by omega)]
  refine ⟨S.objs.length, ⟨S.objs ++ [[.int .i64 t, .int .i64 v]], S.tips⟩, by simp [newG], Nat.le_refl _, by simp [smC], rfl, by simp, fun i x _ hx => ?_⟩
  simp only
  rw [List.getElem?_append_left (List.getElem?_eq_some_iff.1 hx).1]; exact hx
 ·rw [e, e2]
  simp only [Nat.one_mul]
  rw [if_pos (by omega)]
  refine ⟨S.objs.length, ⟨S.objs ++ [[.int .i64 t, .int .i64 v]], S.tips⟩, by simp [newG], Nat.le_refl _, by simp [smC], rfl, by simp, fun i x _ hx => ?_⟩
  simp only
  rw [List.getElem?_append_left (List.getElem?_eq_some_iff.1 hx).1]; exact hx
 ·obtain ⟨c, hc, hcn⟩ := h.pos si (by rw [e]; rfl)
  rw [hs] at hc; cases hc
  rw [e]
  simp only [hs]
  have hlen := smC_len r.sm
  have hpos : 0 < (smC r.sm ++ t0).length := by
   cases hh : smC r.sm ++ t0 with
   | nil => exact absurd hh hcn
   | cons => simp
  have htk : (smC r.sm ++ t0).take (r.sm.length * 2) = smC r.sm := by
   rw [List.take_append_of_le_length (by omega), List.take_of_length_le (by omega)]
  rw [if_pos ⟨trivial, trivial, hpos, by rw [List.length_append]; omega, by rw [htk]; exact smC_one _, by omega⟩, htk]
  refine ⟨S.objs.length, _, rfl, Nat.le_refl _, by simp [PV.cells, smC], rfl, by simp, fun i x hi hx => ?_⟩
  have hil := (List.getElem?_eq_some_iff.1 hx).1
  simp only
  rw [List.getElem?_append_left (by simpa using hil), List.getElem?_set_ne (fun w => hi (by rw [w]; rfl))]
  exact hx

structure RInv (S : St) (o : Nat) (H : Hd) (vr : PV) (S' : St) (H' : Hd) (e j : Int) : Prop where
 ok : HOk S' o H'
 keep : ∀ (i : Nat) (x : List PV), i ∉ ownH o H → S.objs[i]? = some x → S'.objs[i]? = some x
 own : ∀ i ∈ ownH o H', i ∈ ownH o H ∨ S.objs.length + 4 ≤ i
 len : S.objs.length + 4 ≤ S'.objs.length
 b0 : S'.objs[S.objs.length]? = some [.ptr o 0]
 b1 : S'.objs[S.objs.length + 1]? = some [vr]
 b2 : S'.objs[S.objs.length + 2]? = some [.int .i64 e]
 b3 : S'.objs[S.objs.length + 3]? = some [.int .i64 j]

theorem RInv.out {S : St} {o : Nat} {H : Hd} {vr : PV} {S' : St} {H' : Hd} {e j : Int} (h : RInv S o H vr S' H' e j) (hH : HOk S o H) {i : Nat} (h1 : S.objs.length ≤ i) (h2 : i < S.objs.length + 4) : i ∉ ownH o H' := fun hi => by
 rcases h.own i hi with q | q
 ·have := hH.lt i q; omega
 ·omega
theorem RInv.box {S : St} {o : Nat} {H : Hd} {vr : PV} {S' : St} {H' : Hd} {e j : Int} (h : RInv S o H vr S' H' e j) (hH : HOk S o H) (e' j' : Int) {S2 : St}
  (h2 : S2.objs = (S'.objs.set (S.objs.length + 2) [.int .i64 e']).set (S.objs.length + 3) [.int .i64 j']) : RInv S o H vr S2 H' e' j' := by
 have hlt := (List.getElem?_eq_some_iff.1 h.b2).1
 have hlt3 := (List.getElem?_eq_some_iff.1 h.b3).1
 have hk : ∀ i, i ≠ S.objs.length + 2 → i ≠ S.objs.length + 3 → S2.objs[i]? = S'.objs[i]? := fun i q1 q2 => by
  rw [h2, List.getElem?_set_ne (Ne.symm q2), List.getElem?_set_ne (Ne.symm q1)]
 refine ⟨h.ok.frame fun i hi x hx => ?_, fun i x hi hx => ?_, h.own, by rw [h2]; simpa using h.len, ?_, ?_, ?_, ?_⟩
 ·rw [hk i (fun q => h.out hH (by omega) (by omega) (q ▸ hi)) (fun q => h.out hH (by omega) (by omega) (q ▸ hi))]; exact hx
 ·have := (List.getElem?_eq_some_iff.1 hx).1
  rw [hk i (by omega) (by omega)]; exact h.keep i x hi hx
 ·rw [hk _ (by omega) (by omega)]; exact h.b0
 ·rw [hk _ (by omega) (by omega)]; exact h.b1
 ·rw [h2, List.getElem?_set_ne (by omega), List.getElem?_set_self hlt]
 ·rw [h2, List.getElem?_set_self (by simpa using hlt3)]
theorem RInv.obj {S : St} {o : Nat} {H : Hd} {vr : PV} {S' : St} {H' : Hd} {e j : Int} (h : RInv S o H vr S' H' e j) (x : List (List PV)) (t : List (Nat × Nat)) : RInv S o H vr ⟨S'.objs ++ x, t⟩ H' e j := by
 have hk : ∀ (i : Nat) (c : List PV), S'.objs[i]? = some c → (S'.objs ++ x)[i]? = some c := fun i c hc => by
  rw [List.getElem?_append_left (List.getElem?_eq_some_iff.1 hc).1]; exact hc
 exact ⟨h.ok.frame fun i _ c hc => hk i c hc, fun i c hi hc => hk i c (h.keep i c hi hc), h.own, by simp; have := h.len; omega, hk _ _ h.b0, hk _ _ h.b1, hk _ _ h.b2, hk _ _ h.b3⟩
theorem RInv.step {S : St} {o : Nat} {H : Hd} {vr : PV} {S' S2 : St} {H' H2 : Hd} {e j : Int} (h : RInv S o H vr S' H' e j) (hH : HOk S o H) (h2 : HOk S2 o H2) (hs : Stp o S' H' S2 H2) : RInv S o H vr S2 H2 e j := by
 have hlen := h.len
 have hl2 := hs.len
 refine ⟨h2, fun i x hi hx => hs.keep i x (fun q => ?_) (h.keep i x hi hx), fun i hi => ?_, by omega, hs.keep _ _ (h.out hH (by omega) (by omega)) h.b0, hs.keep _ _ (h.out hH (by omega) (by omega)) h.b1, hs.keep _ _ (h.out hH (by omega) (by omega)) h.b2, hs.keep _ _ (h.out hH (by omega) (by omega)) h.b3⟩
 ·have := (List.getElem?_eq_some_iff.1 hx).1
  rcases h.own i q with w | w
  ·exact hi w
  ·omega
 ·rcases hs.own i hi with w | w
  ·exact h.own i w
  ·exact .inr (by omega)

theorem hv_cases {S : St} {o : Nat} {H : Hd} (h : HOk S o H) {i : Nat} (hi : i < H.ser.length) : ∃ si, H.hv = .osl si 0 H.ser.length 2 ∧ gidV H.hv = some si ∧ S.objs[si]? = some (serC H.ser) := by
 rcases h.ser with ⟨_, e⟩ | ⟨si, e, hs, _⟩
 ·rw [e] at hi; exact absurd hi (by simp)
 ·exact ⟨si, e, by rw [e]; rfl, hs⟩
theorem hv_len {S : St} {o : Nat} {H : Hd} (h : HOk S o H) : lenP false H.hv = some (.int .i64 H.ser.length) := by
 rcases h.ser with ⟨e, e2⟩ | ⟨si, e, _⟩
 ·rw [e, e2]; rfl
 ·rw [e]; rfl
theorem dis_at {S : St} {o si : Nat} {H : Hd} {a b : List Sr} {r : Sr} (h : HOk S o H) (he : H.ser = a ++ r :: b) (hsi : gidV H.hv = some si) : o ≠ si ∧ gidV r.sv ≠ some o ∧ gidV r.sv ≠ some si := by
 have hd := h.dis
 have hsm : si ∈ gl H.hv := mem_gl.2 hsi
 simp only [ownH, he, gls_app, gls_cons, List.nodup_cons, List.mem_cons, List.mem_append, not_or] at hd
 obtain ⟨⟨_, d1, _, d2, _⟩, _, d3⟩ := hd
 rw [List.nodup_append] at d3
 refine ⟨fun e => d1 (by rw [e]; exact hsm), fun e => d2 (mem_gl.2 e), fun e => d3.2.2 si hsm si (by simp [mem_gl.2 e]) rfl⟩

theorem rowG {l : List RowM} {v : PV} (hv : Reads1 3 v (l.map rowV)) {j : Nat} (hj : j < l.length) {k : IntKind} : iaddrP 3 v (.int k (j : Int)) = some (.ref [.int .i64 l[j].1, .int .i64 l[j].2.1, .int .i64 l[j].2.2]) := by
 have := hv.get j (by simpa using hj) k
 rw [this]; simp [rowV, PV.cells]

def RwAt (S : St) (o : Nat) (H : Hd) (vr : PV) (rows : List RowM) : Prop := ∀ (j : Nat) (hj : j < rows.length), ∃ p p0, (∀ k : IntKind, iaddrP 3 vr (.int k (j : Int)) = some p) ∧ faddrP 0 p = some p0 ∧
 ∀ S' : St, (∀ (i : Nat) (x : List PV), i ∉ ownH o H → S.objs[i]? = some x → S'.objs[i]? = some x) → loadP S' true 3 p = some (.agg [.int .i64 rows[j].1, .int .i64 rows[j].2.1, .int .i64 rows[j].2.2]) ∧ loadP S' false 1 p0 = some (.int .i64 rows[j].1)
theorem RwAt.reads {S : St} {o : Nat} {H : Hd} {vr : PV} {rows : List RowM} (h : Reads1 3 vr (rows.map rowV)) : RwAt S o H vr rows := fun j hj =>
 ⟨_, .ref [.int .i64 rows[j].1, .int .i64 rows[j].2.1, .int .i64 rows[j].2.2], fun k => rowG h hj, by simp, fun S' _ => ⟨by simp [loadP, partOf], by simp [loadP, partOf]⟩⟩
theorem rows_drop : ∀ (l : List RowM) (i : Nat), (l.flatMap fun x => [PV.int .i64 x.1, .int .i64 x.2.1, .int .i64 x.2.2]).drop (i * 3) = (l.drop i).flatMap fun x => [PV.int .i64 x.1, .int .i64 x.2.1, .int .i64 x.2.2]
 | l, 0 => by simp
 | [], i + 1 => by simp
 | p :: l, i + 1 => by
  rw [show (i + 1) * 3 = 3 + i * 3 by omega, ← List.drop_drop]
  have : ((p :: l).flatMap fun x => [PV.int .i64 x.1, .int .i64 x.2.1, .int .i64 x.2.2]).drop 3 = l.flatMap fun x => [PV.int .i64 x.1, .int .i64 x.2.1, .int .i64 x.2.2] := by simp
  rw [this, rows_drop l i]; rfl
theorem RwAt.obj {S : St} {o : Nat} {H : Hd} {id : Nat} {rows : List RowM} {t : List PV} (h : S.objs[id]? = some ((rows.flatMap fun x => [PV.int .i64 x.1, .int .i64 x.2.1, .int .i64 x.2.2]) ++ t)) (hn : id ∉ ownH o H) :
  RwAt S o H (.osl id 0 rows.length 3) rows := fun j hj => by
 have hd : ((rows.flatMap fun x => [PV.int .i64 x.1, .int .i64 x.2.1, .int .i64 x.2.2]) ++ t).drop (j * 3) = .int .i64 rows[j].1 :: .int .i64 rows[j].2.1 :: .int .i64 rows[j].2.2 :: ((rows.drop (j + 1)).flatMap (fun x => [PV.int .i64 x.1, .int .i64 x.2.1, .int .i64 x.2.2]) ++ t) := by
  rw [List.drop_append_of_le_length, rows_drop, List.drop_eq_getElem_cons hj]
  ·rfl
  ·have : ∀ l : List RowM, (l.flatMap fun x => [PV.int .i64 x.1, .int .i64 x.2.1, .int .i64 x.2.2]).length = 3 * l.length := fun l => by
    induction l with
    | nil => rfl
    | cons p l ih => simp only [List.flatMap_cons, List.length_append, List.length_cons, List.length_nil, ih]; omega
   rw [this]; omega
 refine ⟨.ptr id (j * 3), .ptr id (j * 3), fun k => ?_, by simp, fun S' hk => ?_⟩
 ·rw [iaddrP_osl, if_pos (by omega)]; simp
 ·have h' := hk id _ hn h
  rw [loadP_ptr h', loadP_ptr h', hd]
  exact ⟨by simp [partOf], by simp [partOf]⟩
end Ps
namespace Ps
set_option linter.unusedSimpArgs false
set_option linter.unusedVariables false
open Go
theorem row_round {S : St} {o : Nat} {H : Hd} (hH : HOk S o H) {vr : PV} {rows : List RowM} (hv : RwAt S o H vr rows) (hrl : rows.length ≤ 64) {j : Nat} (hj : j < rows.length)
  (hx0 : 0 ≤ rows[j].1 ∧ rows[j].1 ≤ 1099511627776) (hx1 : 0 ≤ rows[j].2.1 ∧ rows[j].2.1 ≤ 1099511627776) {S' : St} {H' : Hd} (h : RInv S o H vr S' H' 0 (j : Int))
  {K : List Kt} {Q : Fr → St → Prop} {fr : Fr} (f2 : fr 2 = .ptr S.objs.length 0) (f3 : fr 3 = .ptr (S.objs.length + 1) 0) (f4 : fr 4 = .ptr (S.objs.length + 2) 0) (f5 : fr 5 = .ptr (S.objs.length + 3) 0)
  (f10 : fr 10 = vr) (f11 : fr 11 = .int .i64 rows.length) (f12 : fr 12 = .int .i64 (j : Int))
  (kE : ∀ e fr' S2, rowStep rows[j] (abs H'.ser) = some e → RInv S o H vr S2 H' (e : Int) (j : Int) → fr' 4 = .ptr (S.objs.length + 2) 0 → Q fr' S2)
  (kN : ∀ fr' S2 H2, rowStep rows[j] (abs H'.ser) = none → RInv S o H vr S2 H2 0 ((j : Int) + 1) → abs H2.ser = pushA rows[j] (abs H'.ser) →
   fr' 2 = .ptr S.objs.length 0 → fr' 3 = .ptr (S.objs.length + 1) 0 → fr' 4 = .ptr (S.objs.length + 2) 0 → fr' 5 = .ptr (S.objs.length + 3) 0 → fr' 10 = vr → fr' 11 = .int .i64 rows.length → fr' 12 = .int .i64 ((j : Int) + 1) →
   Ok (gval T (.lp head_Head_rows_l0 :: .blk 0 :: K) fr' S2) Q) :
  Ok (gval T (.lp head_Head_rows_l0 :: .blk 0 :: K) fr S') Q := by
 have hlt : (j : Int) < (rows.length : Int) := by omega
 obtain ⟨p, p0, hp, _, hp2⟩ := hv j hj
 have hg := hp .i64
 have hld := (hp2 S' h.keep).1
 obtain ⟨x, hx⟩ : ∃ x, x = rows[j] := ⟨_, rfl⟩
 rw [← hx] at hld hx0 hx1 kE kN
 have hw := wrap_up hj (by unfold maxLen; omega : rows.length ≤ maxLen)
 have hp3 : ∀ (a b c : PV) (m : List PV), partOf true 3 (a :: b :: c :: m) = some (.agg [a, b, c]) := pt3
 -- the row in a box
 obtain ⟨S1, hS1⟩ : ∃ S1 : St, S1 = ⟨S'.objs ++ [[.int .i64 x.1, .int .i64 x.2.1, .int .i64 x.2.2]], S'.tips⟩ := ⟨_, rfl⟩
 have h1 : RInv S o H vr S1 H' 0 (j : Int) := by rw [hS1]; exact h.obj _ _
 obtain ⟨n7, hn7⟩ : ∃ n7, n7 = S'.objs.length := ⟨_, rfl⟩
 have hlen := h.len
 have ho7 : S1.objs[n7]? = some [.int .i64 x.1, .int .i64 x.2.1, .int .i64 x.2.2] := by rw [hS1, hn7]; simp
 have hob := h1.ok.obj
 have hlv := hv_len h1.ok
 have hle := h1.ok.szs
 have hcn := h1.ok.cnt
 have htot := h1.ok.tot
 have hA := abs_len H'.ser
 have l0 : loadP S1 false 1 (.ptr S.objs.length 0) = some (.ptr o 0) := by rw [loadP_ptr h1.b0]; exact part1
 have l70 : loadP S1 false 1 (.ptr n7 0) = some (.int .i64 x.1) := by rw [loadP_ptr ho7]; exact part1
 have l71 : loadP S1 false 1 (.ptr n7 1) = some (.int .i64 x.2.1) := by rw [loadP_ptr ho7]; exact part1
 have l712 : loadP S1 true 2 (.ptr n7 1) = some (.agg [.int .i64 x.2.1, .int .i64 x.2.2]) := by rw [loadP_ptr ho7]; exact part2
 have lo0 : loadP S1 false 1 (.ptr o 0) = some H'.hv := by rw [loadP_ptr hob]; exact part1
 have lo2 : loadP S1 false 1 (.ptr o 2) = some (.int .i64 H'.count) := by rw [loadP_ptr hob]; exact part1
 have b2 := h1.b2
 have hbox : ∀ e : Int, RInv S o H vr ⟨S1.objs.set (S.objs.length + 2) [.int .i64 e], S1.tips⟩ H' e (j : Int) := fun e => by
  refine h1.box hH e (j : Int) ?_
  simp only
  have : (S1.objs.set (S.objs.length + 2) [.int .i64 e])[S.objs.length + 3]? = some [.int .i64 (j : Int)] := by rw [List.getElem?_set_ne (by omega)]; exact h1.b3
  obtain ⟨hl, he⟩ := List.getElem?_eq_some_iff.1 this
  rw [← he, List.set_getElem_self]
 by_cases c9 : (H'.ser.length : Int) ≤ x.1
 ·have hst : rowStep x (abs H'.ser) = some 9 := by unfold rowStep; rw [hA, if_pos c9]
  have hq := kE 9
  clear kE kN
  rw [gval_lp]
  simp -implicitDefEqProofs [-head_Head_rows_r6_go, f2, f3, f4, f5, f10, f11, f12, hlt, hj, hg, hld, pstep, putCells, hp3]
  rw [← hS1, ← hn7]
  simp -implicitDefEqProofs [f2, f3, f4, f5, l0, l70, lo0, hlv, c9, pstep, b2, putCells]
  exact hq _ _ hst (hbox 9) (by simp [f4])
 obtain ⟨q, hq⟩ : ∃ q : Nat, x.1 = (q : Int) := ⟨x.1.toNat, by omega⟩
 have hql : q < H'.ser.length := by omega
 by_cases c3 : 65536 ≤ H'.count
 ·have hst : rowStep x (abs H'.ser) = some 3 := by unfold rowStep; rw [hA, if_neg c9, totA_abs, if_pos (by omega)]
  have hq := kE 3
  clear kE kN
  rw [gval_lp]
  simp -implicitDefEqProofs [-head_Head_rows_r6_go, f2, f3, f4, f5, f10, f11, f12, hlt, hj, hg, hld, pstep, putCells, hp3]
  rw [← hS1, ← hn7]
  simp -implicitDefEqProofs [f2, f3, f4, f5, l0, l70, lo0, lo2, hlv, c9, c3, pstep, b2, putCells]
  exact hq _ _ hst (hbox 3) (by simp [f4])
 obtain ⟨si, hhv, hsi, hs⟩ := hv_cases h1.ok hql
 have hsplit : H'.ser = H'.ser.take q ++ H'.ser[q] :: H'.ser.drop (q + 1) := by
  rw [← List.drop_eq_getElem_cons hql, List.take_append_drop]
 have hta : (H'.ser.take q).length = q := by rw [List.length_take]; omega
 obtain ⟨a, ha⟩ : ∃ a, a = H'.ser.take q := ⟨_, rfl⟩
 obtain ⟨b, hb⟩ : ∃ b, b = H'.ser.drop (q + 1) := ⟨_, rfl⟩
 obtain ⟨r, hr⟩ : ∃ r, r = H'.ser[q] := ⟨_, rfl⟩
 rw [← ha, ← hb, ← hr] at hsplit
 rw [← ha] at hta
 have hr0 := h1.ok.all r (by rw [hsplit]; simp)
 have hls : loadP S1 false 1 (.ptr si (q * 2 + 1)) = some r.sv := by rw [loadP_ptr hs, hsplit, ← hta, serC_dropB]; exact part1
 have hsml : r.sm.length ≤ 65536 := by
  have := h1.ok.tot
  rw [hsplit, total_app, total_cons] at this; omega
 have hlast := last_val hr0.at_ (by omega)
 have hlk := aCall_keep hlast
 have hqi : (q : Int) < (H'.ser.length : Int) := by omega
 rw [hhv] at hlv lo0
 have hlA : lastA (abs H'.ser) x.1.toNat = lastT r.sm := by
  have e : x.1.toNat = q := by omega
  rw [lastA, e, hsplit, abs_app, abs_cons, List.getElem?_append_right (by rw [abs_len]; omega), abs_len, hta]
  simp
 rw [hq] at c9
 by_cases c13 : x.2.1 ≤ lastT r.sm
 ·have hst : rowStep x (abs H'.ser) = some 13 := by
   unfold rowStep; rw [hA, if_neg (by omega), totA_abs, if_neg (by omega), hlA, if_pos c13]
  have hq' := kE 13
  clear kE kN
  rw [gval_lp]
  simp -implicitDefEqProofs [-head_Head_rows_r6_go, f2, f3, f4, f5, f10, f11, f12, hlt, hj, hg, hld, pstep, putCells, hp3]
  rw [← hS1, ← hn7]
  simp -implicitDefEqProofs [f2, f3, f4, f5, l0, l70, l71, lo0, lo2, hlv, hq, c9, c3, hql, hqi, hls, hlk, c13, pstep, b2, putCells]
  exact hq' _ _ hst (hbox 13) (by simp [f4])
 have hst : rowStep x (abs H'.ser) = none := by
  unfold rowStep; rw [hA, if_neg (by omega), totA_abs, if_neg (by omega), hlA, if_neg c13]
 have hkN := fun fr' S2 H2 => kN fr' S2 H2 hst
 clear kE kN
 obtain ⟨d1, d2, d3⟩ := dis_at h1.ok hsplit hsi
 -- the append
 obtain ⟨S2, hS2⟩ : ∃ S2 : St, S2 = ⟨S1.objs, S1.tips ++ [(1, 2)]⟩ := ⟨_, rfl⟩
 have h2 : RInv S o H vr S2 H' 0 (j : Int) := by
  have := h1.obj [] (S1.tips ++ [(1, 2)])
  rw [List.append_nil] at this
  rw [hS2]; exact this
 have hr2 := h2.ok.all r (by rw [hsplit]; simp)
 obtain ⟨ni, S3, g1, g2, g3, g4, g5, g6⟩ := gapp_sm hr2 (by omega) (t := x.2.1) (v := x.2.2)
 have hl2 : S2.objs = S1.objs := by rw [hS2]
 have hlt1 : ∀ i ∈ ownH o H', i < S1.objs.length := h1.ok.lt
 have ho3 : S3.objs[o]? = some [H'.hv, .map H'.mi, .int .i64 H'.count] := g6 o _ d2 (by rw [hl2]; exact hob)
 have hs3 : S3.objs[si]? = some (serC (a ++ r :: b)) := g6 si _ d3 (by rw [hl2, ← hsplit]; exact hs)
 have h0own : S.objs.length ∉ ownH o H' := h1.out hH (by omega) (by omega)
 have hsvown : ∀ i, gidV r.sv = some i → i ∈ ownH o H' := fun i hi => by
  simp only [ownH, List.mem_cons, List.mem_append]
  exact .inr (.inr (.inr (List.mem_flatMap.2 ⟨r, by rw [hsplit]; simp, mem_gl.2 hi⟩)))
 have hb0 : S3.objs[S.objs.length]? = some [.ptr o 0] := g6 _ _ (fun w => h0own (hsvown _ w)) (by rw [hl2]; exact h1.b0)
 have hcnt1 : H'.count + 1 = (H'.count + 1 : Int) := rfl
 have hw1 : IntKind.i64.wrap (H'.count + 1) = H'.count + 1 := wrap_i64 (by omega) (by omega)
 -- the two stores
 obtain ⟨S4, hS4⟩ : ∃ S4 : St, S4 = ⟨S3.objs.set si (serC (a ++ ⟨r.lv, .osl ni 0 (r.sm.length + 1) 2, r.sm ++ [(x.2.1, x.2.2)], r.lb⟩ :: b)), S3.tips⟩ := ⟨_, rfl⟩
 have ho4 : S4.objs[o]? = some [H'.hv, .map H'.mi, .int .i64 H'.count] := by rw [hS4]; simp only; rw [List.getElem?_set_ne (Ne.symm d1)]; exact ho3
 have hs4 : S4.objs[si]? = some (serC (a ++ ⟨r.lv, .osl ni 0 (r.sm.length + 1) 2, r.sm ++ [(x.2.1, x.2.2)], r.lb⟩ :: b)) := by rw [hS4]; exact get_set hs3
 obtain ⟨S5, hS5⟩ : ∃ S5 : St, S5 = ⟨S4.objs.set o [H'.hv, .map H'.mi, .int .i64 (H'.count + 1)], S4.tips⟩ := ⟨_, rfl⟩
 have hot : ∀ i, i ≠ o → i ≠ si → S5.objs[i]? = S3.objs[i]? := fun i q1 q2 => by
  rw [hS5, hS4]; simp only
  rw [List.getElem?_set_ne (Ne.symm q1), List.getElem?_set_ne (Ne.symm q2)]
 have hl35 : S5.objs.length = S3.objs.length := by rw [hS5, hS4]; simp
 have hsilt := (List.getElem?_eq_some_iff.1 hs).1
 have holt := (List.getElem?_eq_some_iff.1 hob).1
 rw [← hl2] at hsilt holt
 have hs5n : S5.objs[ni]? = some (smC (r.sm ++ [(x.2.1, x.2.2)])) := by
  rw [hot ni (by omega) (by omega)]
  exact g3
 have hsm5 : SmAt S5 (.osl ni 0 (r.sm.length + 1) 2) (r.sm ++ [(x.2.1, x.2.2)]) := .inr ⟨ni, [], by simp, by rw [List.append_nil]; exact hs5n⟩
 have hu := h2.ok.upd (S' := S5) hsplit hsi (sv := .osl ni 0 (r.sm.length + 1) 2) (sm := r.sm ++ [(x.2.1, x.2.2)]) (c := H'.count + 1) (by rw [hS5]; exact get_set ho4)
  (by rw [hS5]; simp only; rw [List.getElem?_set_ne d1]; exact hs4)
  (fun i y q1 q2 q3 hy => by rw [hot i q1 q2]; exact g6 i y q3 hy) (by omega) hsm5 (fun id hid => by
   cases hid
   exact ⟨_, hs5n, by simp [smC]⟩)
  (fun id hid => by cases hid; exact .inr g2) (rises_push hr0.rise (by omega) hx1.2 hx1.1) (by
   rw [hcn, hsplit, total_app, total_cons, total_app, total_cons]; simp; omega) (by
   have : total H'.ser < 65536 := by omega
   rw [hsplit, total_app, total_cons] at this
   rw [total_app, total_cons]; simp; omega)
 have h5 := h2.step hH hu.1 hu.2
 obtain ⟨S6, hS6⟩ : ∃ S6 : St, S6 = ⟨S5.objs.set (S.objs.length + 3) [.int .i64 ((j : Int) + 1)], S5.tips⟩ := ⟨_, rfl⟩
 have h6 : RInv S o H vr S6 ⟨H'.hv, H'.mi, a ++ ⟨r.lv, .osl ni 0 (r.sm.length + 1) 2, r.sm ++ [(x.2.1, x.2.2)], r.lb⟩ :: b, H'.ids, H'.count + 1⟩ 0 ((j : Int) + 1) := by
  refine h5.box hH 0 ((j : Int) + 1) ?_
  rw [hS6]; simp only
  congr 1
  obtain ⟨hl, he⟩ := List.getElem?_eq_some_iff.1 h5.b2
  rw [← he, List.set_getElem_self]
 have habs : abs (a ++ ⟨r.lv, .osl ni 0 (r.sm.length + 1) 2, r.sm ++ [(x.2.1, x.2.2)], r.lb⟩ :: b) = pushA x (abs H'.ser) := by
  have e : x.1.toNat = (abs a).length := by rw [abs_len]; omega
  rw [hsplit, abs_app, abs_cons, abs_app, abs_cons, pushA, e, modify_mid]
 have hput := serC_put a r b (.osl ni 0 (r.sm.length + 1) 2) (r.sm ++ [(x.2.1, x.2.2)])
 rw [hta] at hput
 have hle1 : q * 2 + 1 + 1 ≤ (serC (a ++ r :: b)).length := by rw [serC_len, ← hsplit]; omega
 have b34 : S4.objs[S.objs.length]? = some [.ptr o 0] := by
  rw [hS4]; simp only; rw [List.getElem?_set_ne (fun w => h0own (by
   simp only [ownH, List.mem_cons, List.mem_append]
   exact .inr (.inr (.inl (by rw [← w]; exact mem_gl.2 hsi)))))]; exact hb0
 have l04 : loadP S4 false 1 (.ptr S.objs.length 0) = some (.ptr o 0) := by rw [loadP_ptr b34]; exact part1
 have lo24 : loadP S4 false 1 (.ptr o 2) = some (.int .i64 H'.count) := by rw [loadP_ptr ho4]; exact part1
 have l53 : loadP S5 false 1 (.ptr (S.objs.length + 3) 0) = some (.int .i64 (j : Int)) := by rw [loadP_ptr h5.b3]; exact part1
 have b53 := h5.b3
 have hap : appendedS S2 2 (.sl (some (S1.tips.length, 1)) [.agg [.int .i64 x.2.1, .int .i64 x.2.2]] []) = some [.agg [.int .i64 x.2.1, .int .i64 x.2.2]] := by
  rw [appendedS_sl]; simp [szOk, PV.cells]
 rw [gval_lp]
 simp -implicitDefEqProofs [-head_Head_rows_r6_go, f2, f3, f4, f5, f10, f11, f12, hlt, hj, hg, hld, pstep, putCells, hp3]
 rw [← hS1, ← hn7]
 simp -implicitDefEqProofs [-head_Head_rows_r14_go, f2, f3, f4, f5, f10, f11, f12, l0, l70, l71, l712, lo0, lo2, hlv, hq, c9, c3, hql, hqi, hls, hlk, c13, pstep, elems, setParts, newArr]
 rw [← hS2, g1]
 simp -implicitDefEqProofs [-head_Head_rows_r14_go, f2, f3, f4, f5, f10, f11, f12, hs3, hle1, pstep]
 rw [hput, ← hS4]
 simp -implicitDefEqProofs [-head_Head_rows_r15_go, f2, f3, f4, f5, f10, f11, f12, l04, lo24, hw1, pstep, ho4, putCells]
 rw [← hS5]
 simp -implicitDefEqProofs [f2, f3, f4, f5, f10, f11, f12, l53, hw, pstep, b53, putCells]
 rw [← hS6]
 exact hkN _ S6 _ h6 habs (by simp [f2]) (by simp [f3]) (by simp [f4]) (by simp [f5]) (by simp [f10]) (by simp [f11]) (by simp [hw])
end Ps
