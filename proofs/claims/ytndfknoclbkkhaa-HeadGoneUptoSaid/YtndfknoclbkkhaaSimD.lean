/- Arrays of scalars held against each other; then: whatever only computes. -/
import Derived.Test.YtndfknoclbkkhaaSimC
namespace Ps
open Go

section
variable {X : Tie} {g : Gh} {w : World} {n : Dn} {fr : Fr} {a : Act}

theorem eqCells_cons {isb : Bool} {c d : PV} {l m : List PV} {b : Bool} (h : eqCells isb (c :: l) (d :: m) = some b) :
    ∃ r, eqCells isb l m = some r ∧ ((isb = true ∧ ∃ x y, c = .bool x ∧ d = .bool y ∧ b = (x == y && r)) ∨ (isb = false ∧ ∃ k x y, c = .int k x ∧ d = .int k y ∧ b = (x == y && r))) := by
  unfold eqCells at h
  split at h
  · rename_i heq; cases heq
  · rename_i x l' y m' h1 h2
    cases h1; cases h2
    split at h
    · rename_i hb
      split at h
      · rename_i r hr; cases h; exact ⟨r, hr, .inl ⟨hb, x, y, rfl, rfl, rfl⟩⟩
      · cases h
    · cases h
  · rename_i k x l' j y m' h1 h2
    cases h1; cases h2
    split at h
    · rename_i hk
      simp only [Bool.and_eq_true, Bool.not_eq_true', decide_eq_true_eq] at hk
      obtain ⟨hb, hk⟩ := hk
      subst hk
      split at h
      · rename_i r hr; cases h; exact ⟨r, hr, .inr ⟨hb, k, x, y, rfl, rfl, rfl⟩⟩
      · cases h
    · cases h
  · cases h

theorem eqArr_loop (isb : Bool) (d : Nat) (e : TypeId) (us vs : Array Value) (hsz : (Go.sizeOf e).run X.P w = .ok 1 w) (hag : (isAgg e).run X.P w = .ok false w)
    (he : if isb then X.P.underlying e = some .bool else ∃ k, X.P.underlying e = some (.int k)) : ∀ (cs ds : List PV) (i : Nat) (b : Bool),
    (∀ (j : Nat) (c : PV), cs[j]? = some c → ∃ u, us[i + j]? = some u ∧ VR X g w c u) → (∀ (j : Nat) (c : PV), ds[j]? = some c → ∃ u, vs[i + j]? = some u ∧ VR X g w c u) →
    cs.length = ds.length → eqCells isb cs ds = some b →
    ((forIn (List.range' i cs.length) (none, PUnit.unit) (fun i (_ : Option Bool × PUnit) => do
        let x ← part e us (i * 1)
        let y ← part e vs (i * 1)
        let r ← Op.equalIn (d + 1) e x y
        if (!r) = true then pure (ForInStep.done (some false, PUnit.unit)) else pure (ForInStep.yield (none, PUnit.unit))) : Sem (Option Bool × PUnit))).run X.P w = .ok (if b then none else some false, PUnit.unit) w
  | [], [], i, b, _, _, _, h => by cases h; simp
  | [], _ :: _, _, _, _, _, hl, _ => by simp at hl
  | _ :: _, [], _, _, _, _, hl, _ => by simp at hl
  | c :: cs, c' :: ds, i, b, hc, hd, hl, h => by
    obtain ⟨r, hr, hcase⟩ := eqCells_cons h
    obtain ⟨u, hu, ru⟩ := hc 0 c rfl
    obtain ⟨v, hv, rv⟩ := hd 0 c' rfl
    have ih := eqArr_loop isb d e us vs hsz hag he cs ds (i + 1) r
      (fun j x hx => by have := hc (j + 1) x (by simpa using hx); rwa [show i + (j + 1) = i + 1 + j by omega] at this)
      (fun j x hx => by have := hd (j + 1) x (by simpa using hx); rwa [show i + (j + 1) = i + 1 + j by omega] at this) (by simpa using hl) hr
    simp only [Nat.add_zero] at hu hv
    have p1 : (part e us (i * 1)).run X.P w = .ok u w := by simp [part, hag, hu]
    have p2 : (part e vs (i * 1)).run X.P w = .ok v w := by simp [part, hag, hv]
    simp only [List.length_cons, List.range'_succ, List.forIn_cons, Sem.run_bind, p1, p2, Result.andThen_ok]
    have hq : ∃ q, (Op.equalIn (d + 1) e u v).run X.P w = .ok q w ∧ b = (q && r) := by
      rcases hcase with ⟨rfl, x, y, rfl, rfl, hb⟩ | ⟨rfl, k, x, y, rfl, rfl, hb⟩
      · cases ru; cases rv
        simp only [if_true] at he
        exact ⟨x == y, by simp [Op.equalIn, run_underlying he], hb⟩
      · cases ru; cases rv
        simp only [Bool.false_eq_true, if_false] at he
        obtain ⟨k', he⟩ := he
        exact ⟨x == y, by simp [Op.equalIn, run_underlying he], hb⟩
    obtain ⟨q, hq1, hq2⟩ := hq
    rw [hq1]
    simp only [Result.andThen_ok]
    cases q
    · simp only [hq2]
      simp
    · simp only [Bool.not_true, Bool.false_eq_true, if_false, Sem.run_pure, Result.andThen_ok]
      rw [hq2]
      simpa using ih

theorem eqa_sim {neg isb : Bool} {m : Nat} {t : TypeId} {x y : Operand} {cs ds : List PV} {us vs : Array Value} {b : Bool} (ht : scalArr X.P t isb m = true)
    (hl : cs.length = m) (hl' : ds.length = m) (he : eqCells isb cs ds = some b) (r1 : VRL X g w cs us) (r2 : VRL X g w ds vs) :
    ((eqGuard (eqOp neg) t x y (.agg us) (.agg vs)).bind fun _ => binOp (eqOp neg) t (.agg us) (.agg vs)).run X.P w = .ok (.bool (if neg then !b else b)) w := by
  unfold scalArr at ht
  split at ht
  · rename_i m' e hu
    simp only [Bool.and_eq_true, beq_iff_eq, Bool.not_eq_true'] at ht
    obtain ⟨⟨⟨rfl, h2⟩, h3⟩, h4⟩ := ht
    have hsz : (Go.sizeOf e).run X.P w = .ok 1 w := by
      split at h2
      · rename_i i hi; simp only [beq_iff_eq] at h2; simp [Go.sizeOf, typeInfo, hi, h2]
      · cases h2
    have hag : (isAgg e).run X.P w = .ok false w := by
      split at h3
      · rename_i hu; simp [isAgg, run_underlying hu]
      · rename_i hu; simp [isAgg, run_underlying hu]
      · cases h3
    have hee : if isb then X.P.underlying e = some .bool else ∃ k, X.P.underlying e = some (.int k) := by
      split at h3
      · rename_i hu; simp [h3, hu]
      · rename_i k hu; simp only [Bool.not_eq_true'] at h3; simp [h3, hu]
      · cases h3
    have hin : ∀ D, (∃ d, D = d + 1) → (Op.equalIn (D + 1) t (.agg us) (.agg vs)).run X.P w = .ok b w := by
      intro D hD
      simp only [Op.equalIn, Sem.run_bind, run_underlying hu, Result.andThen_ok, hsz, Std.Legacy.Range.forIn_eq_forIn_range', Std.Legacy.Range.size, Nat.sub_zero, Nat.add_sub_cancel, Nat.div_one]
      obtain ⟨d, rfl⟩ := hD
      have := eqArr_loop isb d e us vs hsz hag hee cs ds 0 b
        (fun j c hc => by
          have : j < us.size := by rw [← r1.1]; exact (List.getElem?_eq_some_iff.1 hc).1
          exact ⟨us[j], by simp [this], r1.2 j c _ hc (by simp [this])⟩)
        (fun j c hc => by
          have : j < vs.size := by rw [← r2.1]; exact (List.getElem?_eq_some_iff.1 hc).1
          exact ⟨vs[j], by simp [this], r2.2 j c _ hc (by simp [this])⟩) (by omega) he
      rw [hl] at this
      rw [this]
      cases b <;> simp
    have hg : (eqGuard (eqOp neg) t x y (.agg us) (.agg vs)).run X.P w = .ok () w := by
      cases neg <;> simp [eqGuard, eqOp, h4]
    have he' : (Op.equal t (.agg us) (.agg vs)).run X.P w = .ok b w := hin 9999 ⟨9998, rfl⟩
    rw [Sem.run_bind', hg]
    cases neg
    · simp [eqOp, binOp, he']
    · simp [eqOp, binOp, he']
  · cases ht


theorem eqCells_split {isb : Bool} : ∀ (k : Nat) {cs ds : List PV} {b : Bool}, eqCells isb cs ds = some b → cs.length = ds.length → ∃ r1 r2, eqCells isb (cs.take k) (ds.take k) = some r1 ∧ eqCells isb (cs.drop k) (ds.drop k) = some r2 ∧ b = (r1 && r2)
  | 0, cs, ds, b, h, _ => ⟨true, b, by simp [eqCells], by simpa using h, by simp⟩
  | k + 1, [], [], b, h, _ => ⟨true, b, by simp [eqCells], by simpa using h, by simp⟩
  | k + 1, [], _ :: _, b, h, hl => by simp at hl
  | k + 1, _ :: _, [], b, h, hl => by simp at hl
  | k + 1, c :: cs, d :: ds, b, h, hl => by
    obtain ⟨r, hr, hcase⟩ := eqCells_cons h
    obtain ⟨r1, r2, e1, e2, e3⟩ := eqCells_split k hr (by simpa using hl)
    rcases hcase with ⟨rfl, x, y, rfl, rfl, hb⟩ | ⟨rfl, q, x, y, rfl, rfl, hb⟩
    · refine ⟨x == y && r1, r2, ?_, by simpa using e2, by rw [hb, e3, Bool.and_assoc]⟩
      simp [eqCells, e1]
    · refine ⟨x == y && r1, r2, ?_, by simpa using e2, by rw [hb, e3, Bool.and_assoc]⟩
      simp [eqCells, e1]

def RowAt (X : Tie) (g : Gh) (w : World) (us : Array Value) (off : Nat) (cs : List PV) : Prop := ∀ (j : Nat) (c : PV), cs[j]? = some c → ∃ u, us[off + j]? = some u ∧ VR X g w c u

def PartEq (X : Tie) (g : Gh) (w : World) (D : Nat) (t : TypeId) (n : Nat) : Prop := ∀ (us vs : Array Value) (off : Nat) (cs ds : List PV) (b : Bool), cs.length = n → ds.length = n → RowAt X g w us off cs → RowAt X g w vs off ds → eqCells false cs ds = some b →
  ∃ x y, (part t us off).run X.P w = .ok x w ∧ (part t vs off).run X.P w = .ok y w ∧ (Op.equalIn D t x y).run X.P w = .ok b w

theorem flatFs_le {P : Program} {G : TypeId → Nat → Bool} : ∀ {l : List Field} {off n : Nat}, flatFs P G l off n = true → off ≤ n
  | [], off, n, h => by simp only [flatFs, beq_iff_eq] at h; omega
  | f :: l, off, n, h => by
    simp only [flatFs, Bool.and_eq_true] at h
    have h3 := h.2
    split at h3
    · simp only [Bool.and_eq_true] at h3
      have := flatFs_le h3.2
      omega
    · cases h3
theorem flat_fields {D : Nat} {G : TypeId → Nat → Bool} (hG : ∀ t n, G t n = true → (∃ i, X.P.info? t = some i ∧ i.size = n) → PartEq X g w D t n) (us vs : Array Value) : ∀ (l : List Field) (off n : Nat) (cs ds : List PV) (b : Bool),
    flatFs X.P G l off n = true → off + cs.length = n → cs.length = ds.length → RowAt X g w us off cs → RowAt X g w vs off ds → eqCells false cs ds = some b →
    ((forIn l (none, PUnit.unit) (fun f (_ : Option Bool × PUnit) =>
        if f.name ≠ "_" then do
          let x ← part f.type us f.offset
          let y ← part f.type vs f.offset
          let r ← Op.equalIn D f.type x y
          if (!r) = true then pure (ForInStep.done (some false, PUnit.unit)) else pure (ForInStep.yield (none, PUnit.unit))
        else pure (ForInStep.yield (none, PUnit.unit))) : Sem (Option Bool × PUnit))).run X.P w = .ok (if b then none else some false, PUnit.unit) w
  | [], off, n, cs, ds, b, hf, hn, hl, _, _, he => by
    simp only [flatFs, beq_iff_eq] at hf
    have hc : cs = [] := List.length_eq_zero_iff.1 (by omega)
    subst hc
    have hd : ds = [] := List.length_eq_zero_iff.1 (by simpa using hl.symm)
    subst hd
    cases he
    simp
  | f :: l, off, n, cs, ds, b, hf, hn, hl, hc, hd, he => by
    simp only [flatFs, Bool.and_eq_true, bne_iff_ne, beq_iff_eq] at hf
    obtain ⟨⟨h1, h2⟩, h3⟩ := hf
    split at h3
    · rename_i i hi
      simp only [Bool.and_eq_true] at h3
      obtain ⟨h3, h4⟩ := h3
      have hle := flatFs_le h4
      obtain ⟨r1, r2, e1, e2, rfl⟩ := eqCells_split i.size he hl
      obtain ⟨x, y, p1, p2, p3⟩ := hG f.type i.size h3 ⟨i, hi, rfl⟩ us vs off (cs.take i.size) (ds.take i.size) r1 (by rw [List.length_take]; omega) (by rw [List.length_take]; omega)
        (fun j c hj => hc j c (by
          have : j < i.size := by have := (List.getElem?_eq_some_iff.1 hj).1; rw [List.length_take] at this; omega
          rwa [List.getElem?_take_of_lt this] at hj))
        (fun j c hj => hd j c (by
          have : j < i.size := by have := (List.getElem?_eq_some_iff.1 hj).1; rw [List.length_take] at this; omega
          rwa [List.getElem?_take_of_lt this] at hj)) e1
      have ih := flat_fields hG us vs l (off + i.size) n (cs.drop i.size) (ds.drop i.size) r2 h4 (by rw [List.length_drop]; omega) (by rw [List.length_drop, List.length_drop]; omega)
        (fun j c hj => by
          rw [List.getElem?_drop] at hj
          have := hc _ c hj
          rwa [← Nat.add_assoc] at this)
        (fun j c hj => by
          rw [List.getElem?_drop] at hj
          have := hd _ c hj
          rwa [← Nat.add_assoc] at this) e2
      rw [← h2] at p1 p2
      simp only [List.forIn_cons, Sem.run_bind, ne_eq, h1, not_false_eq_true, if_true, p1, p2, p3, Result.andThen_ok]
      cases r1
      · simp
      · simp only [Bool.not_true, Bool.false_eq_true, if_false, Sem.run_pure, Result.andThen_ok, Bool.true_and]
        simpa using ih
    · cases h3

theorem flat_str {D d n : Nat} {t : TypeId} {fs : Array Field} (hG : ∀ t n, flatI X.P d t n = true → (∃ i, X.P.info? t = some i ∧ i.size = n) → PartEq X g w D t n) (hu : X.P.underlying t = some (.struct fs)) (hs : X.P.stoodInHeld t = false)
    (hf : flatFs X.P (flatI X.P d) fs.toList 0 n = true) {us vs : Array Value} {cs ds : List PV} {b : Bool} (hn : cs.length = n) (hl : cs.length = ds.length) (hc : RowAt X g w us 0 cs) (hd : RowAt X g w vs 0 ds) (he : eqCells false cs ds = some b) :
    (Op.equalIn (D + 1) t (.agg us) (.agg vs)).run X.P w = .ok b w := by
  have := flat_fields hG us vs fs.toList 0 n cs ds b hf (by omega) hl hc hd he
  have hp : (program).run X.P w = .ok X.P w := by simp
  simp only [Op.equalIn, Sem.run_bind, run_underlying hu, Result.andThen_ok, hp, hs, Bool.false_eq_true, if_false, ← Array.forIn_toList, this]
  cases b <;> simp

theorem flat_part : ∀ (d : Nat) {D : Nat}, d ≤ D → ∀ t n, flatI X.P d t n = true → (∃ i, X.P.info? t = some i ∧ i.size = n) → PartEq X g w D t n
  | 0, D, _, t, n, h, _ => by simp [flatI] at h
  | d + 1, D, hD, t, n, h, ⟨i, hi, hin⟩ => by
    obtain ⟨D, rfl⟩ : ∃ k, D = k + 1 := ⟨D - 1, by omega⟩
    intro us vs off cs ds b hn hl hc hd he
    unfold flatI at h
    split at h
    · rename_i k hu
      simp only [beq_iff_eq] at h
      subst h
      have hag : (isAgg t).run X.P w = .ok false w := by simp [isAgg, run_underlying hu]
      match cs, ds, hn, hl with
      | [c], [c'], _, _ =>
        obtain ⟨r, hr, hcase⟩ := eqCells_cons he
        cases hr
        obtain ⟨u, hu1, ru⟩ := hc 0 c rfl
        obtain ⟨v, hv1, rv⟩ := hd 0 c' rfl
        simp only [Nat.add_zero] at hu1 hv1
        refine ⟨u, v, by simp [part, hag, hu1], by simp [part, hag, hv1], ?_⟩
        rcases hcase with ⟨h, _⟩ | ⟨_, q, x, y, rfl, rfl, hb⟩
        · cases h
        · cases ru; cases rv
          simp [Op.equalIn, run_underlying hu, hb]
    · rename_i fs hu
      simp only [Bool.and_eq_true, Bool.not_eq_true'] at h
      have hag : (isAgg t).run X.P w = .ok true w := by simp [isAgg, run_underlying hu]
      have hsz : (Go.sizeOf t).run X.P w = .ok n w := by simp [Go.sizeOf, typeInfo, hi, hin]
      refine ⟨.agg (us.extract off (off + n)), .agg (vs.extract off (off + n)), by simp [part, hag, hsz], by simp [part, hag, hsz], ?_⟩
      refine flat_str (d := d) (n := n) (fun t n h k => flat_part d (by omega) t n h k) hu h.1 h.2 hn (by omega) ?_ ?_ he
      · intro j c hj
        have hjn : j < n := by rw [← hn]; exact (List.getElem?_eq_some_iff.1 hj).1
        obtain ⟨u, e1, e2⟩ := hc j c hj
        refine ⟨u, ?_, e2⟩
        rw [Nat.zero_add, Array.getElem?_extract]
        have := (Array.getElem?_eq_some_iff.1 e1).1
        rw [if_pos (by omega)]
        exact e1
      · intro j c hj
        have hjn : j < n := by rw [← hl]; exact (List.getElem?_eq_some_iff.1 hj).1
        obtain ⟨u, e1, e2⟩ := hd j c hj
        refine ⟨u, ?_, e2⟩
        rw [Nat.zero_add, Array.getElem?_extract]
        have := (Array.getElem?_eq_some_iff.1 e1).1
        rw [if_pos (by omega)]
        exact e1
    · cases h

theorem eqs_sim {neg : Bool} {m : Nat} {t : TypeId} {x y : Operand} {cs ds : List PV} {us vs : Array Value} {b : Bool} (ht : intStr X.P t m = true)
    (hl : cs.length = m) (hl' : ds.length = m) (he : eqCells false cs ds = some b) (r1 : VRL X g w cs us) (r2 : VRL X g w ds vs) :
    ((eqGuard (eqOp neg) t x y (.agg us) (.agg vs)).bind fun _ => binOp (eqOp neg) t (.agg us) (.agg vs)).run X.P w = .ok (.bool (if neg then !b else b)) w := by
  unfold intStr at ht
  simp only [Bool.and_eq_true, Bool.not_eq_true'] at ht
  obtain ⟨⟨h1, h2⟩, h4⟩ := ht
  split at h1
  · rename_i fs hu
    unfold flatI at h2
    rw [hu] at h2
    simp only [Bool.and_eq_true, Bool.not_eq_true'] at h2
    have he' : (Op.equal t (.agg us) (.agg vs)).run X.P w = .ok b w := by
      refine flat_str (g := g) (D := 9999) (d := 5) (n := m) (fun t n h k => flat_part 5 (by omega) t n h k) hu h2.1 h2.2 hl (by omega) ?_ ?_ he
      · intro j c hc
        have : j < us.size := by rw [← r1.1]; exact (List.getElem?_eq_some_iff.1 hc).1
        exact ⟨us[j], by simp [this], r1.2 j c _ hc (by simp [this])⟩
      · intro j c hc
        have : j < vs.size := by rw [← r2.1]; exact (List.getElem?_eq_some_iff.1 hc).1
        exact ⟨vs[j], by simp [this], r2.2 j c _ hc (by simp [this])⟩
    have hg : (eqGuard (eqOp neg) t x y (.agg us) (.agg vs)).run X.P w = .ok () w := by
      cases neg <;> simp [eqGuard, eqOp, h4]
    rw [Sem.run_bind', hg]
    cases neg
    · simp [eqOp, binOp, he']
    · simp [eqOp, binOp, he']
  · cases h1

end
end Ps
