/- Arrays of scalars held against each other; then: whatever only computes. -/
import Derived.Test.YtidloidlffjimaaSimB
namespace Ps
open Go
section
variable {X : Tie} {g : Gh} {w : World} {n : Dn} {fr : Fr} {a : Act}
def VRL (X : Tie) (g : Gh) (w : World) (cs : List PV) (us : Array Value) : Prop :=
 cs.length = us.size ∧ ∀ (j : Nat) (c : PV) (u : Value), cs[j]? = some c → us[j]? = some u → VR X g w c u

theorem laid_get : ∀ (vs : List Value) (i off : Nat) (cells : Array Value),
  ((vs.zipIdx i).foldl (fun cs (p : Value × Nat) => cs.setIfInBounds (off + p.2) p.1) cells).size = cells.size ∧
  ∀ k, ((vs.zipIdx i).foldl (fun cs (p : Value × Nat) => cs.setIfInBounds (off + p.2) p.1) cells)[k]? =
   if off + i ≤ k ∧ k < off + i + vs.length ∧ k < cells.size then vs[k - off - i]? else cells[k]?
 | [], i, off, cells => ⟨rfl, fun k => by
   rw [if_neg (by simp; omega)]; rfl⟩
 | v :: vs, i, off, cells => by
  simp only [List.zipIdx_cons, List.foldl_cons]
  obtain ⟨h1, h2⟩ := laid_get vs (i + 1) off (cells.setIfInBounds (off + i) v)
  refine ⟨by rw [h1]; simp, fun k => ?_⟩
  rw [h2 k]
  simp only [Array.size_setIfInBounds, List.length_cons]
  by_cases hk : k = off + i
  ·subst hk
   rw [if_neg (by omega)]
   by_cases hs : off + i < cells.size
   ·rw [if_pos (by omega)]
    simp [hs]
   ·rw [if_neg (by omega)]
    simp [hs]
  ·rw [Array.getElem?_setIfInBounds_ne (by omega)]
   by_cases hc : off + (i + 1) ≤ k ∧ k < off + (i + 1) + vs.length ∧ k < cells.size
   ·rw [if_pos hc, if_pos (by omega)]
    obtain ⟨m, rfl⟩ : ∃ m, k = off + i + 1 + m := ⟨k - (off + i + 1), by omega⟩
    rw [show off + i + 1 + m - off - i = m + 1 by omega, show off + i + 1 + m - off - (i + 1) = m by omega]
    simp
   ·rw [if_neg hc, if_neg (by omega)]

theorem putCells_get (cs : List PV) (off : Nat) (vs : List PV) (h : off + vs.length ≤ cs.length) (k : Nat) :
  (putCells cs off vs)[k]? = if off ≤ k ∧ k < off + vs.length then vs[k - off]? else cs[k]? := by
 unfold putCells
 by_cases h1 : k < off
 ·rw [if_neg (by omega), List.append_assoc, List.getElem?_append_left (by simp; omega), List.getElem?_take_of_lt h1]
 ·by_cases h2 : k < off + vs.length
  ·rw [if_pos (by omega), List.append_assoc, List.getElem?_append_right (by simp; omega)]
   rw [List.getElem?_append_left (by simp; omega)]
   simp [Nat.min_eq_left (by omega : off ≤ cs.length)]
  ·rw [if_neg (by omega), List.getElem?_append_right (by simp; omega)]
   rw [List.getElem?_drop]
   congr 1
   simp only [List.length_append, List.length_take]
   omega

theorem putCells_length (cs : List PV) (off : Nat) (vs : List PV) (h : off + vs.length ≤ cs.length) : (putCells cs off vs).length = cs.length := by
 simp [putCells]; omega

theorem vrl_put {cs vs : List PV} {us ws : Array Value} {off : Nat} (h : VRL X g w cs us) (k : VRL X g w vs ws) (hl : off + vs.length ≤ cs.length) :
  VRL X g w (putCells cs off vs) (ws.zipIdx.foldl (fun cs (p : Value × Nat) => cs.setIfInBounds (off + p.2) p.1) us) := by
 have e : ws.zipIdx.foldl (fun cs (p : Value × Nat) => cs.setIfInBounds (off + p.2) p.1) us =
   (ws.toList.zipIdx 0).foldl (fun cs (p : Value × Nat) => cs.setIfInBounds (off + p.2) p.1) us := by
  rw [← Array.foldl_toList, Array.toList_zipIdx]
 rw [e]
 obtain ⟨h1, h2⟩ := laid_get ws.toList 0 off us
 refine ⟨by rw [putCells_length _ _ _ hl, h1]; exact h.1, fun j c u e1 e2 => ?_⟩
 rw [h2] at e2
 rw [putCells_get _ _ _ hl] at e1
 have hk := k.1
 have hh := h.1
 by_cases hc : off ≤ j ∧ j < off + vs.length
 ·rw [if_pos hc] at e1
  rw [if_pos (by simp; omega)] at e2
  exact k.2 (j - off) c u e1 (by simpa using e2)
 ·rw [if_neg hc] at e1
  rw [if_neg (by simp; omega)] at e2
  exact h.2 j c u e1 e2

theorem cells_vrl {v : PV} {u : Value} (r : VR X g w v u) (h : v.cells.all PV.one = true) : VRL X g w v.cells u.cells := r.cells h

theorem fill_sim (hF : FR X n g w fr a) (places : List (Nat × Nat)) (place : Nat → Option (Nat × Nat)) (hpl : ∀ i, place i = places[i]?) : ∀ (ps : List (Nat × Operand)) (parts : List (Nat × Nat × Opd)) (cs cs' : List PV) (us : Array Value),
  chkParts X places ps parts = true → fillParts fr parts cs = some cs' → VRL X g w cs us →
  ∃ us', Instr.fill place us (ps.map fun p => (p.1, a.eval p.2)) = some us' ∧ VRL X g w cs' us'
 | [], [], cs, cs', us, _, h, hv => by cases h; exact ⟨us, rfl, hv⟩
 | (i, x) :: l, (off, m, y) :: r, cs, cs', us, hc, h, hv => by
  simp only [chkParts, Bool.and_eq_true, beq_iff_eq] at hc
  obtain ⟨⟨h1, h2⟩, h3⟩ := hc
  simp only [fillParts] at h
  split at h
  ·rename_i hcond
   obtain ⟨e1, e2, e3⟩ := hcond
   have r0 := cells_vrl (opd_sim hF h2) e3
   have hput := vrl_put (off := off) hv r0 (by omega)
   obtain ⟨us', f1, f2⟩ := fill_sim hF places place hpl l r _ cs' _ h3 h hput
   refine ⟨us', ?_, f2⟩
   simp only [List.map_cons, Instr.fill, hpl, h1]
   have : (a.eval x).cells.size = m := by rw [← r0.1]; exact e1
   rw [if_neg (by simp [this, ← hv.1, e2])]
   exact f1
  ·cases h
 | [], _ :: _, _, _, _, hc, _, _ => by simp [chkParts] at hc
 | _ :: _, [], _, _, _, hc, _, _ => by simp [chkParts] at hc

theorem fillArr_sim (hF : FR X n g w fr a) (sz : Nat) : ∀ (ps : List (Nat × Operand)) (parts : List (Nat × Nat × Opd)) (cs cs' : List PV) (us : Array Value),
  chkArrParts X sz ps parts = true → fillParts fr parts cs = some cs' → VRL X g w cs us →
  ∃ us', Instr.fill (fun i => some (i * sz, sz)) us (ps.map fun p => (p.1, a.eval p.2)) = some us' ∧ VRL X g w cs' us'
 | [], [], cs, cs', us, _, h, hv => by cases h; exact ⟨us, rfl, hv⟩
 | (i, x) :: l, (off, m, y) :: r, cs, cs', us, hc, h, hv => by
  simp only [chkArrParts, Bool.and_eq_true, beq_iff_eq] at hc
  obtain ⟨⟨⟨h0, h1⟩, h2⟩, h3⟩ := hc
  simp only [fillParts] at h
  split at h
  ·rename_i hcond
   obtain ⟨e1, e2, e3⟩ := hcond
   have r0 := cells_vrl (opd_sim hF h2) e3
   have hput := vrl_put (off := off) hv r0 (by omega)
   obtain ⟨us', f1, f2⟩ := fillArr_sim hF sz l r _ cs' _ h3 h hput
   refine ⟨us', ?_, f2⟩
   simp only [List.map_cons, Instr.fill]
   have : (a.eval x).cells.size = sz := by rw [← r0.1, ← h1]; exact e1
   rw [if_neg (by simp [this, ← hv.1]; omega), ← h0]
   exact f1
  ·cases h
 | [], _ :: _, _, _, _, hc, _, _ => by simp [chkArrParts] at hc
 | _ :: _, [], _, _, _, hc, _, _ => by simp [chkArrParts] at hc

theorem flat_length {sz : Nat} : ∀ {es : List PV}, (∀ e ∈ es, e.cells.length = sz) → (es.flatMap PV.cells).length = es.length * sz
 | [], _ => by simp
 | e :: es, h => by
  simp only [List.flatMap_cons, List.length_append, List.length_cons]
  rw [h e (by simp), flat_length (fun x hx => h x (by simp [hx]))]
  rw [Nat.add_mul]; omega

theorem flat_get {sz : Nat} : ∀ {es : List PV} {i : Nat} {e : PV}, (∀ e ∈ es, e.cells.length = sz) → es[i]? = some e → ∀ k, k < sz → (es.flatMap PV.cells)[i * sz + k]? = e.cells[k]?
 | x :: es, 0, e, h, he, k, hk => by
  simp at he; subst he
  simp only [List.flatMap_cons]
  rw [List.getElem?_append_left (by rw [h _ (by simp)]; omega)]
  simp
 | x :: es, i + 1, e, h, he, k, hk => by
  simp only [List.flatMap_cons]
  have hx := h x (by simp)
  rw [List.getElem?_append_right (by rw [hx, Nat.add_mul]; omega), hx]
  rw [show (i + 1) * sz + k - sz = i * sz + k by rw [Nat.add_mul]; omega]
  exact flat_get (fun y hy => h y (by simp [hy])) (by simpa using he) k hk
 | [], _, _, _, he, _, _ => by simp at he

theorem flat_drop {sz : Nat} : ∀ {es : List PV} (l : Nat), (∀ e ∈ es, e.cells.length = sz) → l ≤ es.length → (es.drop l).flatMap PV.cells = (es.flatMap PV.cells).drop (l * sz)
 | es, 0, _, _ => by simp
 | e :: es, l + 1, h, hl => by
  simp only [List.drop_succ_cons, List.flatMap_cons]
  rw [flat_drop l (fun y hy => h y (by simp [hy])) (by simpa using hl)]
  have hx := h e (by simp)
  rw [show (l + 1) * sz = e.cells.length + l * sz by rw [hx, Nat.add_mul]; omega, List.drop_append]
  simp
 | [], l + 1, _, hl => by simp at hl

theorem flat_set {sz : Nat} : ∀ {es : List PV} {i : Nat} {v : PV}, (∀ e ∈ es, e.cells.length = sz) → i < es.length → v.cells.length = sz →
  (es.set i v).flatMap PV.cells = putCells (es.flatMap PV.cells) (i * sz) v.cells
 | e :: es, 0, v, h, hi, hv => by
  have hx := h e (by simp)
  simp [putCells, hv, ← hx]
 | e :: es, i + 1, v, h, hi, hv => by
  have hx := h e (by simp)
  simp only [List.set_cons_succ, List.flatMap_cons]
  rw [flat_set (fun y hy => h y (by simp [hy])) (by simpa using hi) hv]
  simp only [putCells]
  rw [show (i + 1) * sz = e.cells.length + i * sz by rw [hx, Nat.add_mul]; omega]
  rw [List.take_length_add_append, Nat.add_assoc, List.drop_length_add_append]
  simp
 | [], _, _, _, hi, _ => by simp at hi

theorem flat_one : ∀ {es : List PV}, (∀ e ∈ es, e.cells = [e]) → es.flatMap PV.cells = es
 | [], _ => rfl
 | e :: es, h => by
  simp only [List.flatMap_cons]
  rw [h e (by simp), flat_one (fun y hy => h y (by simp [hy]))]
  rfl

theorem bytesOf_spec : ∀ {es : List PV} {s : List UInt8}, bytesOf es = some s → es.length = s.length ∧ (∀ e ∈ es, e.cells = [e]) ∧
  ∃ ns : List Int, es = ns.map (PV.int .u8) ∧ s = ns.map (fun m => UInt8.ofNat m.toNat)
 | [], s, h => by cases h; exact ⟨rfl, by simp, [], rfl, rfl⟩
 | e :: es, s, h => by
  unfold bytesOf at h
  split at h
  ·rename_i heq; cases heq
  ·rename_i m l heq
   cases heq
   split at h
   ·rename_i r hr
    cases h
    obtain ⟨h1, h2, ns, h3, h4⟩ := bytesOf_spec hr
    refine ⟨by simp [h1], ?_, m :: ns, by simp [h3], by simp [h4]⟩
    intro x hx
    rcases List.mem_cons.1 hx with rfl | hx
    ·rfl
    ·exact h2 x hx
   ·cases h
  ·cases h

end
end Ps
namespace Ps
open Go
section
variable {X : Tie} {g : Gh} {w : World} {n : Dn} {fr : Fr} {a : Act}
theorem eqCells_cons {isb : Bool} {c d : PV} {l m : List PV} {b : Bool} (h : eqCells isb (c :: l) (d :: m) = some b) :
  ∃ r, eqCells isb l m = some r ∧ ((isb = true ∧ ∃ x y, c = .bool x ∧ d = .bool y ∧ b = (x == y && r)) ∨ (isb = false ∧ ∃ k x y, c = .int k x ∧ d = .int k y ∧ b = (x == y && r))) := by
 unfold eqCells at h
 split at h
 ·rename_i heq; cases heq
 ·rename_i x l' y m' h1 h2
  cases h1; cases h2
  split at h
  ·rename_i hb
   split at h
   ·rename_i r hr; cases h; exact ⟨r, hr, .inl ⟨hb, x, y, rfl, rfl, rfl⟩⟩
   ·cases h
  ·cases h
 ·rename_i k x l' j y m' h1 h2
  cases h1; cases h2
  split at h
  ·rename_i hk
   simp only [Bool.and_eq_true, Bool.not_eq_true', decide_eq_true_eq] at hk
   obtain ⟨hb, hk⟩ := hk
   subst hk
   split at h
   ·rename_i r hr; cases h; exact ⟨r, hr, .inr ⟨hb, k, x, y, rfl, rfl, rfl⟩⟩
   ·cases h
  ·cases h
 ·cases h

theorem eqArr_loop (isb : Bool) (d : Nat) (e : TypeId) (us vs : Array Value) (hsz : (Go.sizeOf e).run X.P w = .ok 1 w) (hag : (isAgg e).run X.P w = .ok false w)
  (he : if isb then X.P.underlying e = some .bool else ∃ k, X.P.underlying e = some (.int k)) : ∀ (cs ds : List PV) (i : Nat) (b : Bool),
  (∀ (j : Nat) (c : PV), cs[j]? = some c → ∃ u, us[i + j]? = some u ∧ VR X g w c u) → (∀ (j : Nat) (c : PV), ds[j]? = some c → ∃ u, vs[i + j]? = some u ∧ VR X g w c u) →
  cs.length = ds.length → eqCells isb cs ds = some b →
  ((forIn (List.range' i cs.length) (none, PUnit.unit) (fun i (_ : Option Bool × PUnit) => do
    let x ← part e us (i * 1)
    let y ← part e vs (i * 1)
    let r ← Op.equalIn (d + 1) e x y
    if (!r) = true then pure (ForInStep.done (some false, PUnit.unit)) else pure (ForInStep.yield (none, PUnit.unit))) : Sem (Option Bool × PUnit))).run X.P w = .ok (if b then none else some false, PUnit.unit) w
 | [], [], i, b, _, _, _, h => by cases h; simp
 | [], _ :: _, _, _, _, _, hl, _ => by simp at hl
 | _ :: _, [], _, _, _, _, hl, _ => by simp at hl
 | c :: cs, c' :: ds, i, b, hc, hd, hl, h => by
  obtain ⟨r, hr, hcase⟩ := eqCells_cons h
  obtain ⟨u, hu, ru⟩ := hc 0 c rfl
  obtain ⟨v, hv, rv⟩ := hd 0 c' rfl
  have ih := eqArr_loop isb d e us vs hsz hag he cs ds (i + 1) r
   (fun j x hx => by have := hc (j + 1) x (by simpa using hx); rwa [show i + (j + 1) = i + 1 + j by omega] at this)
   (fun j x hx => by have := hd (j + 1) x (by simpa using hx); rwa [show i + (j + 1) = i + 1 + j by omega] at this) (by simpa using hl) hr
  simp only [Nat.add_zero] at hu hv
  have p1 : (part e us (i * 1)).run X.P w = .ok u w := by simp [part, hag, hu]
  have p2 : (part e vs (i * 1)).run X.P w = .ok v w := by simp [part, hag, hv]
  simp only [List.length_cons, List.range'_succ, List.forIn_cons, Sem.run_bind, p1, p2, Result.andThen_ok]
  have hq : ∃ q, (Op.equalIn (d + 1) e u v).run X.P w = .ok q w ∧ b = (q && r) := by
   rcases hcase with ⟨rfl, x, y, rfl, rfl, hb⟩ | ⟨rfl, k, x, y, rfl, rfl, hb⟩
   ·cases ru; cases rv
    simp only [if_true] at he
    exact ⟨x == y, by simp [Op.equalIn, run_underlying he], hb⟩
   ·cases ru; cases rv
    simp only [Bool.false_eq_true, if_false] at he
    obtain ⟨k', he⟩ := he
    exact ⟨x == y, by simp [Op.equalIn, run_underlying he], hb⟩
  obtain ⟨q, hq1, hq2⟩ := hq
  rw [hq1]
  simp only [Result.andThen_ok]
  cases q
  ·simp only [hq2]
   simp
  ·simp only [Bool.not_true, Bool.false_eq_true, if_false, Sem.run_pure, Result.andThen_ok]
   rw [hq2]
   simpa using ih

theorem eqa_sim {neg isb : Bool} {m : Nat} {t : TypeId} {x y : Operand} {cs ds : List PV} {us vs : Array Value} {b : Bool} (ht : scalArr X.P t isb m = true)
  (hl : cs.length = m) (hl' : ds.length = m) (he : eqCells isb cs ds = some b) (r1 : VRL X g w cs us) (r2 : VRL X g w ds vs) :
  ((eqGuard (eqOp neg) t x y (.agg us) (.agg vs)).bind fun _ => binOp (eqOp neg) t (.agg us) (.agg vs)).run X.P w = .ok (.bool (if neg then !b else b)) w := by
 unfold scalArr at ht
 split at ht
 ·rename_i m' e hu
  simp only [Bool.and_eq_true, beq_iff_eq, Bool.not_eq_true'] at ht
  obtain ⟨⟨⟨rfl, h2⟩, h3⟩, h4⟩ := ht
  have hsz : (Go.sizeOf e).run X.P w = .ok 1 w := by
   split at h2
   ·rename_i i hi; simp only [beq_iff_eq] at h2; simp [Go.sizeOf, typeInfo, hi, h2]
   ·cases h2
  have hag : (isAgg e).run X.P w = .ok false w := by
   split at h3
   ·rename_i hu; simp [isAgg, run_underlying hu]
   ·rename_i hu; simp [isAgg, run_underlying hu]
   ·cases h3
  have hee : if isb then X.P.underlying e = some .bool else ∃ k, X.P.underlying e = some (.int k) := by
   split at h3
   ·rename_i hu; simp [h3, hu]
   ·rename_i k hu; simp only [Bool.not_eq_true'] at h3; simp [h3, hu]
   ·cases h3
  have hin : ∀ D, (∃ d, D = d + 1) → (Op.equalIn (D + 1) t (.agg us) (.agg vs)).run X.P w = .ok b w := by
   intro D hD
   simp only [Op.equalIn, Sem.run_bind, run_underlying hu, Result.andThen_ok, hsz, Std.Legacy.Range.forIn_eq_forIn_range', Std.Legacy.Range.size, Nat.sub_zero, Nat.add_sub_cancel, Nat.div_one]
   obtain ⟨d, rfl⟩ := hD
   have := eqArr_loop isb d e us vs hsz hag hee cs ds 0 b
    (fun j c hc => by
     have : j < us.size := by rw [← r1.1]; exact (List.getElem?_eq_some_iff.1 hc).1
     exact ⟨us[j], by simp [this], r1.2 j c _ hc (by simp [this])⟩)
    (fun j c hc => by
     have : j < vs.size := by rw [← r2.1]; exact (List.getElem?_eq_some_iff.1 hc).1
     exact ⟨vs[j], by simp [this], r2.2 j c _ hc (by simp [this])⟩) (by omega) he
   rw [hl] at this
   rw [this]
   cases b <;> simp
  have hg : (eqGuard (eqOp neg) t x y (.agg us) (.agg vs)).run X.P w = .ok () w := by
   cases neg <;> simp [eqGuard, eqOp, h4]
  have he' : (Op.equal t (.agg us) (.agg vs)).run X.P w = .ok b w := hin 9999 ⟨9998, rfl⟩
  rw [Sem.run_bind', hg]
  cases neg
  ·simp [eqOp, binOp, he']
  ·simp [eqOp, binOp, he']
 ·cases ht


theorem eqCells_split {isb : Bool} : ∀ (k : Nat) {cs ds : List PV} {b : Bool}, eqCells isb cs ds = some b → cs.length = ds.length → ∃ r1 r2, eqCells isb (cs.take k) (ds.take k) = some r1 ∧ eqCells isb (cs.drop k) (ds.drop k) = some r2 ∧ b = (r1 && r2)
 | 0, cs, ds, b, h, _ => ⟨true, b, by simp [eqCells], by simpa using h, by simp⟩
 | k + 1, [], [], b, h, _ => ⟨true, b, by simp [eqCells], by simpa using h, by simp⟩
 | k + 1, [], _ :: _, b, h, hl => by simp at hl
 | k + 1, _ :: _, [], b, h, hl => by simp at hl
 | k + 1, c :: cs, d :: ds, b, h, hl => by
  obtain ⟨r, hr, hcase⟩ := eqCells_cons h
  obtain ⟨r1, r2, e1, e2, e3⟩ := eqCells_split k hr (by simpa using hl)
  rcases hcase with ⟨rfl, x, y, rfl, rfl, hb⟩ | ⟨rfl, q, x, y, rfl, rfl, hb⟩
  ·refine ⟨x == y && r1, r2, ?_, by simpa using e2, by rw [hb, e3, Bool.and_assoc]⟩
   simp [eqCells, e1]
  ·refine ⟨x == y && r1, r2, ?_, by simpa using e2, by rw [hb, e3, Bool.and_assoc]⟩
   simp [eqCells, e1]

def RowAt (X : Tie) (g : Gh) (w : World) (us : Array Value) (off : Nat) (cs : List PV) : Prop := ∀ (j : Nat) (c : PV), cs[j]? = some c → ∃ u, us[off + j]? = some u ∧ VR X g w c u

def PartEq (X : Tie) (g : Gh) (w : World) (D : Nat) (t : TypeId) (n : Nat) : Prop := ∀ (us vs : Array Value) (off : Nat) (cs ds : List PV) (b : Bool), cs.length = n → ds.length = n → RowAt X g w us off cs → RowAt X g w vs off ds → eqCells false cs ds = some b →
 ∃ x y, (part t us off).run X.P w = .ok x w ∧ (part t vs off).run X.P w = .ok y w ∧ (Op.equalIn D t x y).run X.P w = .ok b w

theorem flatFs_le {P : Program} {G : TypeId → Nat → Bool} : ∀ {l : List Field} {off n : Nat}, flatFs P G l off n = true → off ≤ n
 | [], off, n, h => by simp only [flatFs, beq_iff_eq] at h; omega
 | f :: l, off, n, h => by
  simp only [flatFs, Bool.and_eq_true] at h
  have h3 := h.2
  split at h3
  ·simp only [Bool.and_eq_true] at h3
   have := flatFs_le h3.2
   omega
  ·cases h3
theorem flat_fields {D : Nat} {G : TypeId → Nat → Bool} (hG : ∀ t n, G t n = true → (∃ i, X.P.info? t = some i ∧ i.size = n) → PartEq X g w D t n) (us vs : Array Value) : ∀ (l : List Field) (off n : Nat) (cs ds : List PV) (b : Bool),
  flatFs X.P G l off n = true → off + cs.length = n → cs.length = ds.length → RowAt X g w us off cs → RowAt X g w vs off ds → eqCells false cs ds = some b →
  ((forIn l (none, PUnit.unit) (fun f (_ : Option Bool × PUnit) =>
    if f.name ≠ "_" then do
     let x ← part f.type us f.offset
     let y ← part f.type vs f.offset
     let r ← Op.equalIn D f.type x y
     if (!r) = true then pure (ForInStep.done (some false, PUnit.unit)) else pure (ForInStep.yield (none, PUnit.unit))
    else pure (ForInStep.yield (none, PUnit.unit))) : Sem (Option Bool × PUnit))).run X.P w = .ok (if b then none else some false, PUnit.unit) w
 | [], off, n, cs, ds, b, hf, hn, hl, _, _, he => by
  simp only [flatFs, beq_iff_eq] at hf
  have hc : cs = [] := List.length_eq_zero_iff.1 (by omega)
  subst hc
  have hd : ds = [] := List.length_eq_zero_iff.1 (by simpa using hl.symm)
  subst hd
  cases he
  simp
 | f :: l, off, n, cs, ds, b, hf, hn, hl, hc, hd, he => by
  simp only [flatFs, Bool.and_eq_true, bne_iff_ne, beq_iff_eq] at hf
  obtain ⟨⟨h1, h2⟩, h3⟩ := hf
  split at h3
  ·rename_i i hi
   simp only [Bool.and_eq_true] at h3
   obtain ⟨h3, h4⟩ := h3
   have hle := flatFs_le h4
   obtain ⟨r1, r2, e1, e2, rfl⟩ := eqCells_split i.size he hl
   obtain ⟨x, y, p1, p2, p3⟩ := hG f.type i.size h3 ⟨i, hi, rfl⟩ us vs off (cs.take i.size) (ds.take i.size) r1 (by rw [List.length_take]; omega) (by rw [List.length_take]; omega)
    (fun j c hj => hc j c (by
     have : j < i.size := by have := (List.getElem?_eq_some_iff.1 hj).1; rw [List.length_take] at this; omega
     rwa [List.getElem?_take_of_lt this] at hj))
    (fun j c hj => hd j c (by
     have : j < i.size := by have := (List.getElem?_eq_some_iff.1 hj).1; rw [List.length_take] at this; omega
     rwa [List.getElem?_take_of_lt this] at hj)) e1
   have ih := flat_fields hG us vs l (off + i.size) n (cs.drop i.size) (ds.drop i.size) r2 h4 (by rw [List.length_drop]; omega) (by rw [List.length_drop, List.length_drop]; omega)
    (fun j c hj => by
     rw [List.getElem?_drop] at hj
     have := hc _ c hj
     rwa [← Nat.add_assoc] at this)
    (fun j c hj => by
     rw [List.getElem?_drop] at hj
     have := hd _ c hj
     rwa [← Nat.add_assoc] at this) e2
   rw [← h2] at p1 p2
   simp only [List.forIn_cons, Sem.run_bind, ne_eq, h1, not_false_eq_true, if_true, p1, p2, p3, Result.andThen_ok]
   cases r1
   ·simp
   ·simp only [Bool.not_true, Bool.false_eq_true, if_false, Sem.run_pure, Result.andThen_ok, Bool.true_and]
    simpa using ih
  ·cases h3

theorem flat_str {D d n : Nat} {t : TypeId} {fs : Array Field} (hG : ∀ t n, flatI X.P d t n = true → (∃ i, X.P.info? t = some i ∧ i.size = n) → PartEq X g w D t n) (hu : X.P.underlying t = some (.struct fs)) (hs : X.P.stoodInHeld t = false)
  (hf : flatFs X.P (flatI X.P d) fs.toList 0 n = true) {us vs : Array Value} {cs ds : List PV} {b : Bool} (hn : cs.length = n) (hl : cs.length = ds.length) (hc : RowAt X g w us 0 cs) (hd : RowAt X g w vs 0 ds) (he : eqCells false cs ds = some b) :
  (Op.equalIn (D + 1) t (.agg us) (.agg vs)).run X.P w = .ok b w := by
 have := flat_fields hG us vs fs.toList 0 n cs ds b hf (by omega) hl hc hd he
 have hp : (program).run X.P w = .ok X.P w := by simp
 simp only [Op.equalIn, Sem.run_bind, run_underlying hu, Result.andThen_ok, hp, hs, Bool.false_eq_true, if_false, ← Array.forIn_toList, this]
 cases b <;> simp

theorem flat_part : ∀ (d : Nat) {D : Nat}, d ≤ D → ∀ t n, flatI X.P d t n = true → (∃ i, X.P.info? t = some i ∧ i.size = n) → PartEq X g w D t n
 | 0, D, _, t, n, h, _ => by simp [flatI] at h
 | d + 1, D, hD, t, n, h, ⟨i, hi, hin⟩ => by
  obtain ⟨D, rfl⟩ : ∃ k, D = k + 1 := ⟨D - 1, by omega⟩
  intro us vs off cs ds b hn hl hc hd he
  unfold flatI at h
  split at h
  ·rename_i k hu
   simp only [beq_iff_eq] at h
   subst h
   have hag : (isAgg t).run X.P w = .ok false w := by simp [isAgg, run_underlying hu]
   match cs, ds, hn, hl with
   | [c], [c'], _, _ =>
    obtain ⟨r, hr, hcase⟩ := eqCells_cons he
    cases hr
    obtain ⟨u, hu1, ru⟩ := hc 0 c rfl
    obtain ⟨v, hv1, rv⟩ := hd 0 c' rfl
    simp only [Nat.add_zero] at hu1 hv1
    refine ⟨u, v, by simp [part, hag, hu1], by simp [part, hag, hv1], ?_⟩
    rcases hcase with ⟨h, _⟩ | ⟨_, q, x, y, rfl, rfl, hb⟩
    ·cases h
    ·cases ru; cases rv
     simp [Op.equalIn, run_underlying hu, hb]
  ·rename_i fs hu
   simp only [Bool.and_eq_true, Bool.not_eq_true'] at h
   have hag : (isAgg t).run X.P w = .ok true w := by simp [isAgg, run_underlying hu]
   have hsz : (Go.sizeOf t).run X.P w = .ok n w := by simp [Go.sizeOf, typeInfo, hi, hin]
   refine ⟨.agg (us.extract off (off + n)), .agg (vs.extract off (off + n)), by simp [part, hag, hsz], by simp [part, hag, hsz], ?_⟩
   refine flat_str (d := d) (n := n) (fun t n h k => flat_part d (by omega) t n h k) hu h.1 h.2 hn (by omega) ?_ ?_ he
   ·intro j c hj
    have hjn : j < n := by rw [← hn]; exact (List.getElem?_eq_some_iff.1 hj).1
    obtain ⟨u, e1, e2⟩ := hc j c hj
    refine ⟨u, ?_, e2⟩
    rw [Nat.zero_add, Array.getElem?_extract]
    have := (Array.getElem?_eq_some_iff.1 e1).1
    rw [if_pos (by omega)]
    exact e1
   ·intro j c hj
    have hjn : j < n := by rw [← hl]; exact (List.getElem?_eq_some_iff.1 hj).1
    obtain ⟨u, e1, e2⟩ := hd j c hj
    refine ⟨u, ?_, e2⟩
    rw [Nat.zero_add, Array.getElem?_extract]
    have := (Array.getElem?_eq_some_iff.1 e1).1
    rw [if_pos (by omega)]
    exact e1
  ·cases h

theorem eqs_sim {neg : Bool} {m : Nat} {t : TypeId} {x y : Operand} {cs ds : List PV} {us vs : Array Value} {b : Bool} (ht : intStr X.P t m = true)
  (hl : cs.length = m) (hl' : ds.length = m) (he : eqCells false cs ds = some b) (r1 : VRL X g w cs us) (r2 : VRL X g w ds vs) :
  ((eqGuard (eqOp neg) t x y (.agg us) (.agg vs)).bind fun _ => binOp (eqOp neg) t (.agg us) (.agg vs)).run X.P w = .ok (.bool (if neg then !b else b)) w := by
 unfold intStr at ht
 simp only [Bool.and_eq_true, Bool.not_eq_true'] at ht
 obtain ⟨⟨h1, h2⟩, h4⟩ := ht
 split at h1
 ·rename_i fs hu
  unfold flatI at h2
  rw [hu] at h2
  simp only [Bool.and_eq_true, Bool.not_eq_true'] at h2
  have he' : (Op.equal t (.agg us) (.agg vs)).run X.P w = .ok b w := by
   refine flat_str (g := g) (D := 9999) (d := 5) (n := m) (fun t n h k => flat_part 5 (by omega) t n h k) hu h2.1 h2.2 hl (by omega) ?_ ?_ he
   ·intro j c hc
    have : j < us.size := by rw [← r1.1]; exact (List.getElem?_eq_some_iff.1 hc).1
    exact ⟨us[j], by simp [this], r1.2 j c _ hc (by simp [this])⟩
   ·intro j c hc
    have : j < vs.size := by rw [← r2.1]; exact (List.getElem?_eq_some_iff.1 hc).1
    exact ⟨vs[j], by simp [this], r2.2 j c _ hc (by simp [this])⟩
  have hg : (eqGuard (eqOp neg) t x y (.agg us) (.agg vs)).run X.P w = .ok () w := by
   cases neg <;> simp [eqGuard, eqOp, h4]
  rw [Sem.run_bind', hg]
  cases neg
  ·simp [eqOp, binOp, he']
  ·simp [eqOp, binOp, he']
 ·cases h1

end
end Ps
