/- More operations that only compute: parts of values, addresses, slices, loads. -/
import Derived.Test.YtppjibgophfdfaaSimA
import Derived.Laws.Tables
import Derived.Great.BuildSlice
namespace Ps
open Go

section
variable {X : Tie} {g : Gh} {w : World} {n : Nat} {fr : Fr} {a : Act}

theorem add_plain (b o k : Nat) : (⟨b, o, none⟩ : Addr).add k = ⟨b, o + k, none⟩ := Addr.add_lit b o k

/-- From a place on the memory holds values that stand for some cells. -/
def CellsAt (X : Tie) (g : Gh) (w : World) (b o : Nat) (cs : List PV) : Prop :=
  ∃ us : Nat → Value, ∀ (j : Nat) (c : PV), cs[j]? = some c → w.cell? ⟨b, o + j, none⟩ = some (us j) ∧ VR X g w c (us j)

theorem CellsAt.drop {b o : Nat} {cs : List PV} (h : CellsAt X g w b o cs) (k : Nat) : CellsAt X g w b (o + k) (cs.drop k) := by
  obtain ⟨us, h⟩ := h
  refine ⟨fun j => us (k + j), fun j c hc => ?_⟩
  have := h (k + j) c (by simpa [List.getElem?_drop] using hc)
  rw [show o + k + j = o + (k + j) by omega]
  exact this

theorem isAgg_run {t : TypeId} {ag : Bool} {m : Nat} (h : isAggT X.P t ag m = true) :
    (isAgg t).run X.P w = .ok ag w ∧ (Go.sizeOf t).run X.P w = .ok m w ∧ (ag = false → m = 1) := by
  simp only [isAggT, Bool.and_eq_true, Bool.or_eq_true, beq_iff_eq] at h
  obtain ⟨⟨h1, h2⟩, h3⟩ := h
  refine ⟨?_, ?_, fun e => by simpa [e] using h3⟩
  · split at h1
    · rename_i hu; subst h1; simp [isAgg, run_underlying hu]
    · rename_i hu; subst h1; simp [isAgg, run_underlying hu]
    · rename_i d h4 h5 hu
      have : ag = false := by simpa using h1
      subst this
      simp only [isAgg, Sem.run_bind, run_underlying hu, Result.andThen]
      rfl
    · cases h1
  · split at h2
    · rename_i i hi
      simp only [beq_iff_eq] at h2
      simp [Go.sizeOf, typeInfo, hi, h2]
    · cases h2

theorem partOf_spec {ag : Bool} {m : Nat} {cs : List PV} {v : PV} (h : partOf ag m cs = some v) :
    m ≤ cs.length ∧ ((ag = true ∧ v = .agg (cs.take m)) ∨ (ag = false ∧ m = 1 ∧ cs[0]? = some v)) := by
  unfold partOf at h
  split at h
  · refine ⟨‹_›, ?_⟩
    split at h
    · cases h; exact .inl ⟨by assumption, rfl⟩
    · rename_i hag
      split at h
      · split at h
        · cases h; exact .inr ⟨by simpa using hag, by assumption, rfl⟩
        · cases h
      · cases h
  · cases h

theorem load_run {t : TypeId} {ag : Bool} {m b o : Nat} {cs : List PV} {v : PV} (ht : isAggT X.P t ag m = true) (hp : partOf ag m cs = some v) (hc : CellsAt X g w b o cs) :
    ∃ u, (loadVar t ⟨b, o, none⟩).run X.P w = .ok u w ∧ VR X g w v u := by
  obtain ⟨us, hc⟩ := hc
  obtain ⟨h1, h2, h3⟩ := isAgg_run (w := w) ht
  obtain ⟨hm, hv⟩ := partOf_spec hp
  rcases hv with ⟨rfl, rfl⟩ | ⟨rfl, rfl, h0⟩
  · refine ⟨.agg ((List.range m).map us).toArray, ?_, ?_⟩
    · simp only [loadVar, Sem.run_bind, h1, h2, Result.andThen, if_true]
      rw [run_loadCells w ⟨b, o, none⟩ m us (fun j hj => by
        obtain ⟨c, hcj⟩ : ∃ c, cs[j]? = some c := ⟨cs[j], by simp [List.getElem?_eq_getElem (by omega : j < cs.length)]⟩
        rw [add_plain]; exact (hc j c hcj).1)]
      rfl
    · refine .agg _ _ (by simp [Nat.min_eq_left hm]) (fun j c u e1 e2 => ?_)
      have hj : j < m := by
        rcases Nat.lt_or_ge j m with h | h
        · exact h
        · rw [List.getElem?_eq_none (by simp; omega)] at e1; cases e1
      have e2' : us j = u := by simpa [hj] using e2
      rw [← e2']
      exact (hc j c (by rw [List.getElem?_take_of_lt hj] at e1; exact e1)).2
  · refine ⟨us 0, ?_, (hc 0 v h0).2⟩
    have := (hc 0 v h0).1
    simp only [Nat.add_zero] at this
    simp [loadVar, h1, this]

theorem ref_cells {cs : List PV} {u : Value} (r : VR X g w (.ref cs) u) : ∃ b o, u = .pointer (some ⟨b, o, none⟩) ∧ CellsAt X g w b o cs ∧ o + cs.length ≤ g.pub b := by
  cases r with
  | ref cs b o us hpub hc hv =>
    refine ⟨b, o, rfl, ⟨us, fun j c h => ⟨hc j ?_, hv j c h⟩⟩, hpub⟩
    rcases Nat.lt_or_ge j cs.length with h' | h'
    · exact h'
    · rw [List.getElem?_eq_none h'] at h; cases h

theorem ref_mk {cs : List PV} {b o : Nat} (h : CellsAt X g w b o cs) (hp : o + cs.length ≤ g.pub b) : VR X g w (.ref cs) (.pointer (some ⟨b, o, none⟩)) := by
  obtain ⟨us, h⟩ := h
  refine .ref cs b o us hp (fun j hj => ?_) (fun j c hc => (h j c hc).2)
  exact (h j cs[j] (by simp [List.getElem?_eq_getElem hj])).1

theorem obj_cells {S : St} (hS : SR X g S w) {id b : Nat} (hid : g.obj id = some b) {cs : List PV} (hcs : S.objs[id]? = some cs) : CellsAt X g w b 0 cs := by
  obtain ⟨cs', us, t, h1, h2, h3, h4⟩ := hS.obj id b hid
  rw [hcs] at h1; cases h1
  refine ⟨fun j => us.getD j undef, fun j c hc => ?_⟩
  have hj : j < us.size := by
    rcases Nat.lt_or_ge j cs.length with h' | h'
    · omega
    · rw [List.getElem?_eq_none h'] at hc; cases hc
  have e : us[j]? = some (us.getD j undef) := by simp [Array.getD, hj]
  exact ⟨by simp [World.cell?, h2, hj, Array.getD], h4 j c _ hc e⟩

/-- The part of a value. -/
theorem part_run {t : TypeId} {ag : Bool} {m off : Nat} {cs : List PV} {us : Array Value} {v : PV} (ht : isAggT X.P t ag m = true) (hp : partOf ag m (cs.drop off) = some v)
    (hl : cs.length = us.size) (hv : ∀ (j : Nat) (c : PV) (u : Value), cs[j]? = some c → us[j]? = some u → VR X g w c u) :
    ∃ u, (part t us off).run X.P w = .ok u w ∧ VR X g w v u := by
  obtain ⟨h1, h2, h3⟩ := isAgg_run (w := w) ht
  obtain ⟨hm, hv'⟩ := partOf_spec hp
  simp only [List.length_drop] at hm
  rcases hv' with ⟨rfl, rfl⟩ | ⟨rfl, rfl, h0⟩
  · refine ⟨.agg (us.extract off (off + m)), by simp [part, h1, h2], .agg _ _ ?_ (fun j c u e1 e2 => ?_)⟩
    · simp; omega
    · have hj : j < m := by
        rcases Nat.lt_or_ge j m with h | h
        · exact h
        · rw [List.getElem?_eq_none (by simp; omega)] at e1; cases e1
      rw [List.getElem?_take_of_lt hj, List.getElem?_drop] at e1
      refine hv (off + j) c u e1 ?_
      rw [Array.getElem?_extract] at e2
      split at e2
      · exact e2
      · cases e2
  · rw [List.getElem?_drop, Nat.add_zero] at h0
    have hlt : off < us.size := by
      rw [← hl]
      rcases Nat.lt_or_ge off cs.length with h | h
      · exact h
      · rw [List.getElem?_eq_none h] at h0; cases h0
    refine ⟨us[off], by simp [part, h1, hlt], hv off v _ h0 (by simp [hlt])⟩

theorem bound_sim {v : PV} {u : Value} {y l : Nat} {code : BoundsCode} (r : VR X g w v u) (h : bound y v = some l) : (Instr.sliceBound u y code).run X.P w = .ok l w ∧ l ≤ y := by
  cases r <;> try (simp [bound] at h; done)
  simp only [bound] at h
  split at h
  · rename_i hb
    cases h
    exact ⟨run_sliceBound w _ _ _ _ hb.1 hb.2, by omega⟩
  · cases h

theorem bounds_sim (hF : FR X n g w fr a) {lo hi : Option Opd} {lo' hi' : Option Operand} (hlo : chkOpdO X lo' lo = true) (hhi : chkOpdO X hi' hi = true)
    {sl : Bool} {len cap l h : Nat} (hb : bounds len cap (evO fr lo) (evO fr hi) = some (l, h)) (hlen : len ≤ cap) :
    (Instr.sliceBounds sl len cap (lo'.map a.eval) (hi'.map a.eval) none).run X.P w = .ok (l, h, cap) w ∧ l ≤ h ∧ h ≤ cap := by
  have hH : ∃ H, (match hi'.map a.eval with | some v => Instr.sliceBound v cap (if sl then .sliceAcap else .sliceAlen) | none => pure len).run X.P w = .ok H w ∧ H ≤ cap ∧ hiOf len cap (evO fr hi) = some H := by
    cases hi <;> cases hi' <;> simp only [chkOpdO] at hhi <;> try (cases hhi; done)
    · exact ⟨len, by simp, hlen, rfl⟩
    · rename_i y x
      have r := opd_sim hF hhi
      cases hbd : bound cap (ev fr y) with
      | none => simp [bounds, hiOf, evO, hbd] at hb
      | some H =>
        obtain ⟨h1, h2⟩ := bound_sim (code := if sl then .sliceAcap else .sliceAlen) r hbd
        exact ⟨H, by simpa using h1, h2, hbd⟩
  obtain ⟨H, hrun, hHc, heq⟩ := hH
  simp only [bounds, heq] at hb
  have hL : ∃ L, (match lo'.map a.eval with | some v => Instr.sliceBound v H .sliceB | none => pure 0).run X.P w = .ok L w ∧ loOf H (evO fr lo) = some L := by
    cases lo <;> cases lo' <;> simp only [chkOpdO] at hlo <;> try (cases hlo; done)
    · exact ⟨0, by simp, rfl⟩
    · rename_i y x
      have r := opd_sim hF hlo
      cases hbd : bound H (ev fr y) with
      | none => simp [loOf, evO, hbd] at hb
      | some L =>
        obtain ⟨h1, h2⟩ := bound_sim (code := .sliceB) r hbd
        exact ⟨L, by simpa using h1, hbd⟩
  obtain ⟨L, hrunL, heqL⟩ := hL
  simp only [heqL] at hb
  split at hb
  · rename_i hle
    cases hb
    refine ⟨?_, hle, hHc⟩
    cases hi' <;> cases lo' <;> simp_all [Instr.sliceBounds]
  · cases hb

end
end Ps
