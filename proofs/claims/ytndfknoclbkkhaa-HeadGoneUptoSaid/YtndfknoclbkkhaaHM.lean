/- The head: a row is laid behind its series' samples. -/
import Derived.Test.YtndfknoclbkkhaaHL
namespace Ps
set_option linter.unusedSimpArgs false
set_option linter.unusedVariables false
open Go

theorem fn_277 : T.fn 277 = some (.code head_Head_rows_1) := rfl

def pushA (x : RowM) (A : Ab) : Ab := A.modify x.1.toNat fun p => (p.1, p.2 ++ [(x.2.1, x.2.2)])
def totA (A : Ab) : Nat := (A.map fun p => p.2.length).sum
theorem totA_abs (l : List Sr) : totA (abs l) = total l := by simp [totA, total, abs]; rfl
def lastA (A : Ab) (i : Nat) : Int := match A[i]? with | some p => lastT p.2 | none => -1
def rowStep (x : RowM) (A : Ab) : Option Nat := if (A.length : Int) ≤ x.1 then some 9 else if 65536 ≤ totA A then some 3 else if x.2.1 ≤ lastA A x.1.toNat then some 13 else none

theorem rises_push {l : List (Int × Int)} {t v : Int} (h : Rises l ∧ ∀ q ∈ l, 0 ≤ q.1 ∧ q.1 ≤ 1099511627776) (hl : lastT l < t) (ht : t ≤ 1099511627776) (h0 : 0 ≤ t) :
    Rises (l ++ [(t, v)]) ∧ ∀ q ∈ l ++ [(t, v)], 0 ≤ q.1 ∧ q.1 ≤ 1099511627776 := by
  refine ⟨List.pairwise_append.2 ⟨h.1, List.pairwise_singleton _ _, fun a ha b hb => ?_⟩, fun q hq => ?_⟩
  · simp only [List.mem_singleton] at hb
    subst hb
    simp only
    have hn : l ≠ [] := fun e => by rw [e] at ha; cases ha
    obtain ⟨m, hm⟩ : ∃ m, l = m ++ [l.getLast hn] := ⟨l.dropLast, (List.dropLast_concat_getLast hn).symm⟩
    have he : lastT l = (l.getLast hn).1 := by simp [lastT, List.getLast?_eq_some_getLast hn]
    have hr := h.1
    rw [Rises, hm] at hr
    rw [hm] at ha
    rcases List.mem_append.1 ha with q | q
    · have := (List.pairwise_append.1 hr).2.2 a q (l.getLast hn) (by simp)
      omega
    · simp only [List.mem_singleton] at q
      rw [q]; omega
  · rcases List.mem_append.1 hq with q' | q'
    · exact h.2 q q'
    · simp only [List.mem_singleton] at q'
      rw [q']; exact ⟨h0, ht⟩

theorem smC_one (l : List (Int × Int)) : (smC l).all PV.one = true := by
  rw [List.all_eq_true]
  intro x hx
  obtain ⟨q, _, hx⟩ := List.mem_flatMap.1 hx
  simp only [List.mem_cons, List.not_mem_nil, or_false] at hx
  rcases hx with rfl | rfl <;> rfl

theorem gapp_sm {S : St} {r : Sr} (h : SrOk S r) (hl : r.sm.length ≤ 1048576) {t v : Int} :
    ∃ ni S2, gappTo 2 16 S r.sv [.agg [.int .i64 t, .int .i64 v]] = some (.osl ni 0 (r.sm.length + 1) 2, S2) ∧ S.objs.length ≤ ni ∧ S2.objs[ni]? = some (smC (r.sm ++ [(t, v)])) ∧ S2.tips = S.tips ∧ S.objs.length ≤ S2.objs.length ∧
      ∀ (i : Nat) (x : List PV), gidV r.sv ≠ some i → S.objs[i]? = some x → S2.objs[i]? = some x := by
  unfold gappTo
  simp only [List.isEmpty_cons, Bool.false_eq_true, if_false, List.length_singleton]
  rcases h.at_ with ⟨e, e2⟩ | ⟨si, t0, e, hs⟩
  · rw [e, e2]
    simp only [Nat.one_mul]
    rw [if_pos (by omega)]
    refine ⟨S.objs.length, ⟨S.objs ++ [[.int .i64 t, .int .i64 v]], S.tips⟩, by simp [newG], Nat.le_refl _, by simp [smC], rfl, by simp, fun i x _ hx => ?_⟩
    simp only
    rw [List.getElem?_append_left (List.getElem?_eq_some_iff.1 hx).1]; exact hx
  · obtain ⟨c, hc, hcn⟩ := h.pos si (by rw [e]; rfl)
    rw [hs] at hc; cases hc
    rw [e]
    simp only [hs]
    have hlen := smC_len r.sm
    have hpos : 0 < (smC r.sm ++ t0).length := by
      cases hh : smC r.sm ++ t0 with
      | nil => exact absurd hh hcn
      | cons => simp
    have htk : (smC r.sm ++ t0).take (r.sm.length * 2) = smC r.sm := by
      rw [List.take_append_of_le_length (by omega), List.take_of_length_le (by omega)]
    rw [if_pos ⟨trivial, trivial, hpos, by rw [List.length_append]; omega, by rw [htk]; exact smC_one _, by omega⟩, htk]
    refine ⟨S.objs.length, _, rfl, Nat.le_refl _, by simp [PV.cells, smC], rfl, by simp, fun i x hi hx => ?_⟩
    have hil := (List.getElem?_eq_some_iff.1 hx).1
    simp only
    rw [List.getElem?_append_left (by simpa using hil), List.getElem?_set_ne (fun w => hi (by rw [w]; rfl))]
    exact hx

structure RInv (S : St) (o : Nat) (H : Hd) (vr : PV) (S' : St) (H' : Hd) (e j : Int) : Prop where
  ok : HOk S' o H'
  keep : ∀ (i : Nat) (x : List PV), i ∉ ownH o H → S.objs[i]? = some x → S'.objs[i]? = some x
  own : ∀ i ∈ ownH o H', i ∈ ownH o H ∨ S.objs.length + 4 ≤ i
  len : S.objs.length + 4 ≤ S'.objs.length
  b0 : S'.objs[S.objs.length]? = some [.ptr o 0]
  b1 : S'.objs[S.objs.length + 1]? = some [vr]
  b2 : S'.objs[S.objs.length + 2]? = some [.int .i64 e]
  b3 : S'.objs[S.objs.length + 3]? = some [.int .i64 j]

theorem RInv.out {S : St} {o : Nat} {H : Hd} {vr : PV} {S' : St} {H' : Hd} {e j : Int} (h : RInv S o H vr S' H' e j) (hH : HOk S o H) {i : Nat} (h1 : S.objs.length ≤ i) (h2 : i < S.objs.length + 4) : i ∉ ownH o H' := fun hi => by
  rcases h.own i hi with q | q
  · have := hH.lt i q; omega
  · omega
theorem RInv.box {S : St} {o : Nat} {H : Hd} {vr : PV} {S' : St} {H' : Hd} {e j : Int} (h : RInv S o H vr S' H' e j) (hH : HOk S o H) (e' j' : Int) {S2 : St}
    (h2 : S2.objs = (S'.objs.set (S.objs.length + 2) [.int .i64 e']).set (S.objs.length + 3) [.int .i64 j']) : RInv S o H vr S2 H' e' j' := by
  have hlt := (List.getElem?_eq_some_iff.1 h.b2).1
  have hlt3 := (List.getElem?_eq_some_iff.1 h.b3).1
  have hk : ∀ i, i ≠ S.objs.length + 2 → i ≠ S.objs.length + 3 → S2.objs[i]? = S'.objs[i]? := fun i q1 q2 => by
    rw [h2, List.getElem?_set_ne (Ne.symm q2), List.getElem?_set_ne (Ne.symm q1)]
  refine ⟨h.ok.frame fun i hi x hx => ?_, fun i x hi hx => ?_, h.own, by rw [h2]; simpa using h.len, ?_, ?_, ?_, ?_⟩
  · rw [hk i (fun q => h.out hH (by omega) (by omega) (q ▸ hi)) (fun q => h.out hH (by omega) (by omega) (q ▸ hi))]; exact hx
  · have := (List.getElem?_eq_some_iff.1 hx).1
    rw [hk i (by omega) (by omega)]; exact h.keep i x hi hx
  · rw [hk _ (by omega) (by omega)]; exact h.b0
  · rw [hk _ (by omega) (by omega)]; exact h.b1
  · rw [h2, List.getElem?_set_ne (by omega), List.getElem?_set_self hlt]
  · rw [h2, List.getElem?_set_self (by simpa using hlt3)]
theorem RInv.obj {S : St} {o : Nat} {H : Hd} {vr : PV} {S' : St} {H' : Hd} {e j : Int} (h : RInv S o H vr S' H' e j) (x : List (List PV)) (t : List (Nat × Nat)) : RInv S o H vr ⟨S'.objs ++ x, t⟩ H' e j := by
  have hk : ∀ (i : Nat) (c : List PV), S'.objs[i]? = some c → (S'.objs ++ x)[i]? = some c := fun i c hc => by
    rw [List.getElem?_append_left (List.getElem?_eq_some_iff.1 hc).1]; exact hc
  exact ⟨h.ok.frame fun i _ c hc => hk i c hc, fun i c hi hc => hk i c (h.keep i c hi hc), h.own, by simp; have := h.len; omega, hk _ _ h.b0, hk _ _ h.b1, hk _ _ h.b2, hk _ _ h.b3⟩
theorem RInv.step {S : St} {o : Nat} {H : Hd} {vr : PV} {S' S2 : St} {H' H2 : Hd} {e j : Int} (h : RInv S o H vr S' H' e j) (hH : HOk S o H) (h2 : HOk S2 o H2) (hs : Stp o S' H' S2 H2) : RInv S o H vr S2 H2 e j := by
  have hlen := h.len
  have hl2 := hs.len
  refine ⟨h2, fun i x hi hx => hs.keep i x (fun q => ?_) (h.keep i x hi hx), fun i hi => ?_, by omega, hs.keep _ _ (h.out hH (by omega) (by omega)) h.b0, hs.keep _ _ (h.out hH (by omega) (by omega)) h.b1, hs.keep _ _ (h.out hH (by omega) (by omega)) h.b2, hs.keep _ _ (h.out hH (by omega) (by omega)) h.b3⟩
  · have := (List.getElem?_eq_some_iff.1 hx).1
    rcases h.own i q with w | w
    · exact hi w
    · omega
  · rcases hs.own i hi with w | w
    · exact h.own i w
    · exact .inr (by omega)

theorem hv_cases {S : St} {o : Nat} {H : Hd} (h : HOk S o H) {i : Nat} (hi : i < H.ser.length) : ∃ si, H.hv = .osl si 0 H.ser.length 2 ∧ gidV H.hv = some si ∧ S.objs[si]? = some (serC H.ser) := by
  rcases h.ser with ⟨_, e⟩ | ⟨si, e, hs, _⟩
  · rw [e] at hi; exact absurd hi (by simp)
  · exact ⟨si, e, by rw [e]; rfl, hs⟩
theorem hv_len {S : St} {o : Nat} {H : Hd} (h : HOk S o H) : lenP false H.hv = some (.int .i64 H.ser.length) := by
  rcases h.ser with ⟨e, e2⟩ | ⟨si, e, _⟩
  · rw [e, e2]; rfl
  · rw [e]; rfl
theorem dis_at {S : St} {o si : Nat} {H : Hd} {a b : List Sr} {r : Sr} (h : HOk S o H) (he : H.ser = a ++ r :: b) (hsi : gidV H.hv = some si) : o ≠ si ∧ gidV r.sv ≠ some o ∧ gidV r.sv ≠ some si := by
  have hd := h.dis
  have hsm : si ∈ gl H.hv := mem_gl.2 hsi
  simp only [ownH, he, gls_app, gls_cons, List.nodup_cons, List.mem_cons, List.mem_append, not_or] at hd
  obtain ⟨⟨_, d1, _, d2, _⟩, _, d3⟩ := hd
  rw [List.nodup_append] at d3
  refine ⟨fun e => d1 (by rw [e]; exact hsm), fun e => d2 (mem_gl.2 e), fun e => d3.2.2 si hsm si (by simp [mem_gl.2 e]) rfl⟩

theorem rowG {l : List RowM} {v : PV} (hv : Reads1 3 v (l.map rowV)) {j : Nat} (hj : j < l.length) {k : IntKind} : iaddrP 3 v (.int k (j : Int)) = some (.ref [.int .i64 l[j].1, .int .i64 l[j].2.1, .int .i64 l[j].2.2]) := by
  have := hv.get j (by simpa using hj) k
  rw [this]; simp [rowV, PV.cells]

end Ps
