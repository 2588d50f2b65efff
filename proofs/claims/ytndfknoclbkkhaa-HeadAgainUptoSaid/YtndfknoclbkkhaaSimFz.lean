/- Values without pointers: frozen, and by other knowledge of the memory. -/
import Derived.Test.YtndfknoclbkkhaaSimI
namespace Ps
open Go
section
variable {X : Tie} {g : Gh} {w : World}
theorem frzL_map : ∀ l : List PV, PV.frzL l = l.map PV.frz
  | [] => by simp [PV.frzL]
  | a :: l => by simp [PV.frzL, frzL_map l]

theorem freeL_mem : ∀ {l : List PV}, PV.freeL l = true → ∀ v ∈ l, v.free = true
  | [], _, v, hv => by simp at hv
  | a :: l, h, v, hv => by
    simp only [PV.freeL, Bool.and_eq_true] at h
    rcases List.mem_cons.1 hv with rfl | hv
    · exact h.1
    · exact freeL_mem h.2 v hv

theorem cells_frz (v : PV) : v.frz.cells = v.cells.map PV.frz := by
  cases v <;> simp [PV.frz, PV.cells, frzL_map]

theorem one_frz (v : PV) : v.frz.one = v.one := by
  cases v <;> simp [PV.frz, PV.one]

theorem cells_free {v : PV} (h : v.free = true) : ∀ c ∈ v.cells, c.free = true := by
  cases v <;> simp only [PV.cells] <;> first
    | (intro c hc; simp at hc; subst hc; exact h)
    | (simp only [PV.free] at h; exact freeL_mem h)

theorem flat_frz (es : List PV) : (es.map PV.frz).flatMap PV.cells = (es.flatMap PV.cells).map PV.frz := by
  induction es with
  | nil => rfl
  | cons e es ih => simp [List.flatMap_cons, ih, cells_frz]

theorem VR.freeze {g1 g2 : Gh} {w1 : World} (h4 : ∀ b, g1.pub b ≤ g2.pub b) {c : PV} {u : Value} (r : VR X g1 w1 c u) : c.free = true → VR X g2 w1 c.frz u := by
  induction r with
  | und u => intro h; simp [PV.free] at h
  | int k n => intro _; exact .int k n
  | bool b => intro _; exact .bool b
  | str s => intro _; exact .str s
  | nilp => intro _; exact .nilp
  | nils => intro _; exact .nils
  | nili => intro _; exact .nili
  | nilf => intro _; exact .nilf
  | ptr id off b e => intro h; simp [PV.free] at h
  | ref cs b o us hpub hc _ ih =>
    intro h
    simp only [PV.free] at h
    simp only [PV.frz, frzL_map]
    refine .ref _ b o us (by simpa using Nat.le_trans hpub (h4 b)) (fun j hj => hc j (by simpa using hj)) (fun j c hj => ?_)
    rw [List.getElem?_map] at hj
    cases hc' : cs[j]? with
    | none => rw [hc'] at hj; cases hj
    | some c' => rw [hc'] at hj; cases hj; exact ih j c' hc' (freeL_mem h c' (List.mem_of_getElem? hc'))
  | slz a => intro _; exact .slz a
  | sl tip es sp b o cap sz us hcap hpos hsz hpub hc _ hlink hone ih =>
    intro h
    simp only [PV.free, Bool.and_eq_true] at h
    simp only [PV.frz, frzL_map]
    have := VR.sl (X := X) (g := g2) (w := w1) none (es.map PV.frz) (sp.map PV.frz) b o cap sz us (by simpa using hcap) hpos
      (fun e he => by
        rw [← List.map_append] at he
        obtain ⟨e', he', rfl⟩ := List.mem_map.1 he
        rw [cells_frz]; simp [hsz e' he'])
      (by simpa using Nat.le_trans hpub (h4 b)) (fun j hj => hc j (by simpa using hj))
      (fun j c hj => by
        rw [← List.map_append, flat_frz, List.getElem?_map] at hj
        cases hc' : ((es ++ sp).flatMap PV.cells)[j]? with
        | none => rw [hc'] at hj; cases hj
        | some c' =>
          rw [hc'] at hj; cases hj
          refine ih j c' hc' ?_
          obtain ⟨e, he, hce⟩ := List.mem_flatMap.1 (List.mem_of_getElem? hc')
          refine cells_free ?_ c' hce
          rcases List.mem_append.1 he with he | he
          · exact freeL_mem h.1 e he
          · exact freeL_mem h.2 e he)
      (fun id e ht _ => by cases ht)
      (fun e he => by
        rw [← List.map_append] at he
        obtain ⟨e', he', rfl⟩ := List.mem_map.1 he
        rw [cells_frz, List.all_map]
        have := hone e' he'
        rw [List.all_eq_true] at this ⊢
        intro x hx
        simpa [one_frz] using this x hx)
    rw [List.length_map] at this
    exact this
  | osl id off len sz cap b e hl hr => intro h; simp [PV.free] at h
  | emp a => intro h; simp [PV.free] at h
  | iface t v u _ ih => intro h; simp only [PV.free] at h; exact .iface t _ u (ih h)
  | agg cs us hl _ ih =>
    intro h
    simp only [PV.free] at h
    simp only [PV.frz, frzL_map]
    refine .agg _ us (by simpa using hl) (fun j c u hj e2 => ?_)
    rw [List.getElem?_map] at hj
    cases hc' : cs[j]? with
    | none => rw [hc'] at hj; cases hj
    | some c' => rw [hc'] at hj; cases hj; exact ih j c' u hc' e2 (freeL_mem h c' (List.mem_of_getElem? hc'))
  | tup cs us hl _ ih =>
    intro h
    simp only [PV.free] at h
    simp only [PV.frz, frzL_map]
    refine .tup _ us (by simpa using hl) (fun j c u hj e2 => ?_)
    rw [List.getElem?_map] at hj
    cases hc' : cs[j]? with
    | none => rw [hc'] at hj; cases hj
    | some c' => rw [hc'] at hj; cases hj; exact ih j c' u hc' e2 (freeL_mem h c' (List.mem_of_getElem? hc'))
  | fn f cs us hl _ ih =>
    intro h
    simp only [PV.free] at h
    simp only [PV.frz, frzL_map]
    refine .fn f _ us (by simpa using hl) (fun j c u hj e2 => ?_)
    rw [List.getElem?_map] at hj
    cases hc' : cs[j]? with
    | none => rw [hc'] at hj; cases hj
    | some c' => rw [hc'] at hj; cases hj; exact ih j c' u hc' e2 (freeL_mem h c' (List.mem_of_getElem? hc'))
  | bfn f cs us hl _ ih =>
    intro h
    simp only [PV.free] at h
    simp only [PV.frz, frzL_map]
    refine .bfn f _ us (by simpa using hl) (fun j c u hj e2 => ?_)
    rw [List.getElem?_map] at hj
    cases hc' : cs[j]? with
    | none => rw [hc'] at hj; cases hj
    | some c' => rw [hc'] at hj; cases hj; exact ih j c' u hc' e2 (freeL_mem h c' (List.mem_of_getElem? hc'))
  | nilm => intro _; exact .nilm
  | map id b e => intro h; simp [PV.free] at h
  | hnd b => intro h; simp [PV.free] at h

theorem VR.ofFree {g1 g2 : Gh} {w1 : World} (h2 : ∀ b x, g1.arr b = some x → g2.arr b = some x) (h3 : ∀ id sz, g1.asz id = some sz → g2.asz id = some sz)
    (h4 : ∀ b, g1.pub b ≤ g2.pub b) {c : PV} {u : Value} (r : VR X g1 w1 c u) : c.free = true → VR X g2 w1 c u := by
  induction r with
  | und u => intro h; simp [PV.free] at h
  | int k n => intro _; exact .int k n
  | bool b => intro _; exact .bool b
  | str s => intro _; exact .str s
  | nilp => intro _; exact .nilp
  | nils => intro _; exact .nils
  | nili => intro _; exact .nili
  | nilf => intro _; exact .nilf
  | ptr id off b e => intro h; simp [PV.free] at h
  | ref cs b o us hpub hc _ ih =>
    intro h
    simp only [PV.free] at h
    exact .ref cs b o us (Nat.le_trans hpub (h4 b)) hc (fun j c hj => ih j c hj (freeL_mem h c (List.mem_of_getElem? hj)))
  | slz a => intro _; exact .slz a
  | sl tip es sp b o cap sz us hcap hpos hsz hpub hc _ hlink hone ih =>
    intro h
    simp only [PV.free, Bool.and_eq_true] at h
    refine .sl tip es sp b o cap sz us hcap hpos hsz (Nat.le_trans hpub (h4 b)) hc (fun j c hj => ih j c hj ?_) (fun id e ht hs => ?_) hone
    · obtain ⟨e, he, hce⟩ := List.mem_flatMap.1 (List.mem_of_getElem? hj)
      refine cells_free ?_ c hce
      rcases List.mem_append.1 he with he | he
      · exact freeL_mem h.1 e he
      · exact freeL_mem h.2 e he
    · obtain ⟨k1, k2, k3⟩ := hlink id e ht hs
      refine ⟨k1, h3 _ _ k2, ?_⟩
      rcases k3 with k3 | ⟨base, k4, k5, k6⟩
      · exact .inl k3
      · exact .inr ⟨base, h2 _ _ k4, k5, k6⟩
  | osl id off len sz cap b e hl hr => intro h; simp [PV.free] at h
  | emp a => intro h; simp [PV.free] at h
  | iface t v u _ ih => intro h; simp only [PV.free] at h; exact .iface t _ u (ih h)
  | agg cs us hl _ ih =>
    intro h
    simp only [PV.free] at h
    exact .agg _ us hl (fun j c u hj e2 => ih j c u hj e2 (freeL_mem h c (List.mem_of_getElem? hj)))
  | tup cs us hl _ ih =>
    intro h
    simp only [PV.free] at h
    exact .tup _ us hl (fun j c u hj e2 => ih j c u hj e2 (freeL_mem h c (List.mem_of_getElem? hj)))
  | fn f cs us hl _ ih =>
    intro h
    simp only [PV.free] at h
    exact .fn f _ us hl (fun j c u hj e2 => ih j c u hj e2 (freeL_mem h c (List.mem_of_getElem? hj)))
  | bfn f cs us hl _ ih =>
    intro h
    simp only [PV.free] at h
    exact .bfn f _ us hl (fun j c u hj e2 => ih j c u hj e2 (freeL_mem h c (List.mem_of_getElem? hj)))
  | nilm => intro _; exact .nilm
  | map id b e => intro h; simp [PV.free] at h
  | hnd b => intro h; simp [PV.free] at h

end
end Ps
