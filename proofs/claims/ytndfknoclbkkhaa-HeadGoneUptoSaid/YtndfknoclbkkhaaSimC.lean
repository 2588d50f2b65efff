/- Cells laid over cells; slices' cells. -/
import Derived.Test.YtndfknoclbkkhaaSimB
namespace Ps
open Go

section
variable {X : Tie} {g : Gh} {w : World} {n : Dn} {fr : Fr} {a : Act}

def VRL (X : Tie) (g : Gh) (w : World) (cs : List PV) (us : Array Value) : Prop :=
  cs.length = us.size ∧ ∀ (j : Nat) (c : PV) (u : Value), cs[j]? = some c → us[j]? = some u → VR X g w c u

theorem laid_get : ∀ (vs : List Value) (i off : Nat) (cells : Array Value),
    ((vs.zipIdx i).foldl (fun cs (p : Value × Nat) => cs.setIfInBounds (off + p.2) p.1) cells).size = cells.size ∧
    ∀ k, ((vs.zipIdx i).foldl (fun cs (p : Value × Nat) => cs.setIfInBounds (off + p.2) p.1) cells)[k]? =
      if off + i ≤ k ∧ k < off + i + vs.length ∧ k < cells.size then vs[k - off - i]? else cells[k]?
  | [], i, off, cells => ⟨rfl, fun k => by
      rw [if_neg (by simp; omega)]; rfl⟩
  | v :: vs, i, off, cells => by
    simp only [List.zipIdx_cons, List.foldl_cons]
    obtain ⟨h1, h2⟩ := laid_get vs (i + 1) off (cells.setIfInBounds (off + i) v)
    refine ⟨by rw [h1]; simp, fun k => ?_⟩
    rw [h2 k]
    simp only [Array.size_setIfInBounds, List.length_cons]
    by_cases hk : k = off + i
    · subst hk
      rw [if_neg (by omega)]
      by_cases hs : off + i < cells.size
      · rw [if_pos (by omega)]
        simp [hs]
      · rw [if_neg (by omega)]
        simp [hs]
    · rw [Array.getElem?_setIfInBounds_ne (by omega)]
      by_cases hc : off + (i + 1) ≤ k ∧ k < off + (i + 1) + vs.length ∧ k < cells.size
      · rw [if_pos hc, if_pos (by omega)]
        obtain ⟨m, rfl⟩ : ∃ m, k = off + i + 1 + m := ⟨k - (off + i + 1), by omega⟩
        rw [show off + i + 1 + m - off - i = m + 1 by omega, show off + i + 1 + m - off - (i + 1) = m by omega]
        simp
      · rw [if_neg hc, if_neg (by omega)]

theorem putCells_get (cs : List PV) (off : Nat) (vs : List PV) (h : off + vs.length ≤ cs.length) (k : Nat) :
    (putCells cs off vs)[k]? = if off ≤ k ∧ k < off + vs.length then vs[k - off]? else cs[k]? := by
  unfold putCells
  by_cases h1 : k < off
  · rw [if_neg (by omega), List.append_assoc, List.getElem?_append_left (by simp; omega), List.getElem?_take_of_lt h1]
  · by_cases h2 : k < off + vs.length
    · rw [if_pos (by omega), List.append_assoc, List.getElem?_append_right (by simp; omega)]
      rw [List.getElem?_append_left (by simp; omega)]
      simp [Nat.min_eq_left (by omega : off ≤ cs.length)]
    · rw [if_neg (by omega), List.getElem?_append_right (by simp; omega)]
      rw [List.getElem?_drop]
      congr 1
      simp only [List.length_append, List.length_take]
      omega

theorem putCells_length (cs : List PV) (off : Nat) (vs : List PV) (h : off + vs.length ≤ cs.length) : (putCells cs off vs).length = cs.length := by
  simp [putCells]; omega

theorem vrl_put {cs vs : List PV} {us ws : Array Value} {off : Nat} (h : VRL X g w cs us) (k : VRL X g w vs ws) (hl : off + vs.length ≤ cs.length) :
    VRL X g w (putCells cs off vs) (ws.zipIdx.foldl (fun cs (p : Value × Nat) => cs.setIfInBounds (off + p.2) p.1) us) := by
  have e : ws.zipIdx.foldl (fun cs (p : Value × Nat) => cs.setIfInBounds (off + p.2) p.1) us =
      (ws.toList.zipIdx 0).foldl (fun cs (p : Value × Nat) => cs.setIfInBounds (off + p.2) p.1) us := by
    rw [← Array.foldl_toList, Array.toList_zipIdx]
  rw [e]
  obtain ⟨h1, h2⟩ := laid_get ws.toList 0 off us
  refine ⟨by rw [putCells_length _ _ _ hl, h1]; exact h.1, fun j c u e1 e2 => ?_⟩
  rw [h2] at e2
  rw [putCells_get _ _ _ hl] at e1
  have hk := k.1
  have hh := h.1
  by_cases hc : off ≤ j ∧ j < off + vs.length
  · rw [if_pos hc] at e1
    rw [if_pos (by simp; omega)] at e2
    exact k.2 (j - off) c u e1 (by simpa using e2)
  · rw [if_neg hc] at e1
    rw [if_neg (by simp; omega)] at e2
    exact h.2 j c u e1 e2

theorem cells_vrl {v : PV} {u : Value} (r : VR X g w v u) (h : v.cells.all PV.one = true) : VRL X g w v.cells u.cells := r.cells h

theorem fill_sim (hF : FR X n g w fr a) (places : List (Nat × Nat)) (place : Nat → Option (Nat × Nat)) (hpl : ∀ i, place i = places[i]?) : ∀ (ps : List (Nat × Operand)) (parts : List (Nat × Nat × Opd)) (cs cs' : List PV) (us : Array Value),
    chkParts X places ps parts = true → fillParts fr parts cs = some cs' → VRL X g w cs us →
    ∃ us', Instr.fill place us (ps.map fun p => (p.1, a.eval p.2)) = some us' ∧ VRL X g w cs' us'
  | [], [], cs, cs', us, _, h, hv => by cases h; exact ⟨us, rfl, hv⟩
  | (i, x) :: l, (off, m, y) :: r, cs, cs', us, hc, h, hv => by
    simp only [chkParts, Bool.and_eq_true, beq_iff_eq] at hc
    obtain ⟨⟨h1, h2⟩, h3⟩ := hc
    simp only [fillParts] at h
    split at h
    · rename_i hcond
      obtain ⟨e1, e2, e3⟩ := hcond
      have r0 := cells_vrl (opd_sim hF h2) e3
      have hput := vrl_put (off := off) hv r0 (by omega)
      obtain ⟨us', f1, f2⟩ := fill_sim hF places place hpl l r _ cs' _ h3 h hput
      refine ⟨us', ?_, f2⟩
      simp only [List.map_cons, Instr.fill, hpl, h1]
      have : (a.eval x).cells.size = m := by rw [← r0.1]; exact e1
      rw [if_neg (by simp [this, ← hv.1, e2])]
      exact f1
    · cases h
  | [], _ :: _, _, _, _, hc, _, _ => by simp [chkParts] at hc
  | _ :: _, [], _, _, _, hc, _, _ => by simp [chkParts] at hc

theorem fillArr_sim (hF : FR X n g w fr a) (sz : Nat) : ∀ (ps : List (Nat × Operand)) (parts : List (Nat × Nat × Opd)) (cs cs' : List PV) (us : Array Value),
    chkArrParts X sz ps parts = true → fillParts fr parts cs = some cs' → VRL X g w cs us →
    ∃ us', Instr.fill (fun i => some (i * sz, sz)) us (ps.map fun p => (p.1, a.eval p.2)) = some us' ∧ VRL X g w cs' us'
  | [], [], cs, cs', us, _, h, hv => by cases h; exact ⟨us, rfl, hv⟩
  | (i, x) :: l, (off, m, y) :: r, cs, cs', us, hc, h, hv => by
    simp only [chkArrParts, Bool.and_eq_true, beq_iff_eq] at hc
    obtain ⟨⟨⟨h0, h1⟩, h2⟩, h3⟩ := hc
    simp only [fillParts] at h
    split at h
    · rename_i hcond
      obtain ⟨e1, e2, e3⟩ := hcond
      have r0 := cells_vrl (opd_sim hF h2) e3
      have hput := vrl_put (off := off) hv r0 (by omega)
      obtain ⟨us', f1, f2⟩ := fillArr_sim hF sz l r _ cs' _ h3 h hput
      refine ⟨us', ?_, f2⟩
      simp only [List.map_cons, Instr.fill]
      have : (a.eval x).cells.size = sz := by rw [← r0.1, ← h1]; exact e1
      rw [if_neg (by simp [this, ← hv.1]; omega), ← h0]
      exact f1
    · cases h
  | [], _ :: _, _, _, _, hc, _, _ => by simp [chkArrParts] at hc
  | _ :: _, [], _, _, _, hc, _, _ => by simp [chkArrParts] at hc


theorem flat_length {sz : Nat} : ∀ {es : List PV}, (∀ e ∈ es, e.cells.length = sz) → (es.flatMap PV.cells).length = es.length * sz
  | [], _ => by simp
  | e :: es, h => by
    simp only [List.flatMap_cons, List.length_append, List.length_cons]
    rw [h e (by simp), flat_length (fun x hx => h x (by simp [hx]))]
    rw [Nat.add_mul]; omega

theorem flat_get {sz : Nat} : ∀ {es : List PV} {i : Nat} {e : PV}, (∀ e ∈ es, e.cells.length = sz) → es[i]? = some e → ∀ k, k < sz → (es.flatMap PV.cells)[i * sz + k]? = e.cells[k]?
  | x :: es, 0, e, h, he, k, hk => by
    simp at he; subst he
    simp only [List.flatMap_cons]
    rw [List.getElem?_append_left (by rw [h _ (by simp)]; omega)]
    simp
  | x :: es, i + 1, e, h, he, k, hk => by
    simp only [List.flatMap_cons]
    have hx := h x (by simp)
    rw [List.getElem?_append_right (by rw [hx, Nat.add_mul]; omega), hx]
    rw [show (i + 1) * sz + k - sz = i * sz + k by rw [Nat.add_mul]; omega]
    exact flat_get (fun y hy => h y (by simp [hy])) (by simpa using he) k hk
  | [], _, _, _, he, _, _ => by simp at he

theorem flat_drop {sz : Nat} : ∀ {es : List PV} (l : Nat), (∀ e ∈ es, e.cells.length = sz) → l ≤ es.length → (es.drop l).flatMap PV.cells = (es.flatMap PV.cells).drop (l * sz)
  | es, 0, _, _ => by simp
  | e :: es, l + 1, h, hl => by
    simp only [List.drop_succ_cons, List.flatMap_cons]
    rw [flat_drop l (fun y hy => h y (by simp [hy])) (by simpa using hl)]
    have hx := h e (by simp)
    rw [show (l + 1) * sz = e.cells.length + l * sz by rw [hx, Nat.add_mul]; omega, List.drop_append]
    simp
  | [], l + 1, _, hl => by simp at hl

theorem flat_set {sz : Nat} : ∀ {es : List PV} {i : Nat} {v : PV}, (∀ e ∈ es, e.cells.length = sz) → i < es.length → v.cells.length = sz →
    (es.set i v).flatMap PV.cells = putCells (es.flatMap PV.cells) (i * sz) v.cells
  | e :: es, 0, v, h, hi, hv => by
    have hx := h e (by simp)
    simp [putCells, hv, ← hx]
  | e :: es, i + 1, v, h, hi, hv => by
    have hx := h e (by simp)
    simp only [List.set_cons_succ, List.flatMap_cons]
    rw [flat_set (fun y hy => h y (by simp [hy])) (by simpa using hi) hv]
    simp only [putCells]
    rw [show (i + 1) * sz = e.cells.length + i * sz by rw [hx, Nat.add_mul]; omega]
    rw [List.take_length_add_append, Nat.add_assoc, List.drop_length_add_append]
    simp
  | [], _, _, _, hi, _ => by simp at hi

theorem flat_one : ∀ {es : List PV}, (∀ e ∈ es, e.cells = [e]) → es.flatMap PV.cells = es
  | [], _ => rfl
  | e :: es, h => by
    simp only [List.flatMap_cons]
    rw [h e (by simp), flat_one (fun y hy => h y (by simp [hy]))]
    rfl

theorem bytesOf_spec : ∀ {es : List PV} {s : List UInt8}, bytesOf es = some s → es.length = s.length ∧ (∀ e ∈ es, e.cells = [e]) ∧
    ∃ ns : List Int, es = ns.map (PV.int .u8) ∧ s = ns.map (fun m => UInt8.ofNat m.toNat)
  | [], s, h => by cases h; exact ⟨rfl, by simp, [], rfl, rfl⟩
  | e :: es, s, h => by
    unfold bytesOf at h
    split at h
    · rename_i heq; cases heq
    · rename_i m l heq
      cases heq
      split at h
      · rename_i r hr
        cases h
        obtain ⟨h1, h2, ns, h3, h4⟩ := bytesOf_spec hr
        refine ⟨by simp [h1], ?_, m :: ns, by simp [h3], by simp [h4]⟩
        intro x hx
        rcases List.mem_cons.1 hx with rfl | hx
        · rfl
        · exact h2 x hx
      · cases h
    · cases h

end
end Ps
