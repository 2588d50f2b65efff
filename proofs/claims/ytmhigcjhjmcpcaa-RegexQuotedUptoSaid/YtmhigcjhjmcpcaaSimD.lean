/- Arrays of scalars held against each other; then: whatever only computes. -/
import Derived.Test.YtmhigcjhjmcpcaaSimC
namespace Ps
open Go

section
variable {X : Tie} {g : Gh} {w : World} {n : Nat} {fr : Fr} {a : Act}

theorem eqCells_cons {isb : Bool} {c d : PV} {l m : List PV} {b : Bool} (h : eqCells isb (c :: l) (d :: m) = some b) :
    ∃ r, eqCells isb l m = some r ∧ ((isb = true ∧ ∃ x y, c = .bool x ∧ d = .bool y ∧ b = (x == y && r)) ∨ (isb = false ∧ ∃ k x y, c = .int k x ∧ d = .int k y ∧ b = (x == y && r))) := by
  unfold eqCells at h
  split at h
  · rename_i heq; cases heq
  · rename_i x l' y m' h1 h2
    cases h1; cases h2
    split at h
    · rename_i hb
      split at h
      · rename_i r hr; cases h; exact ⟨r, hr, .inl ⟨hb, x, y, rfl, rfl, rfl⟩⟩
      · cases h
    · cases h
  · rename_i k x l' j y m' h1 h2
    cases h1; cases h2
    split at h
    · rename_i hk
      simp only [Bool.and_eq_true, Bool.not_eq_true', decide_eq_true_eq] at hk
      obtain ⟨hb, hk⟩ := hk
      subst hk
      split at h
      · rename_i r hr; cases h; exact ⟨r, hr, .inr ⟨hb, k, x, y, rfl, rfl, rfl⟩⟩
      · cases h
    · cases h
  · cases h

theorem eqArr_loop (isb : Bool) (d : Nat) (e : TypeId) (us vs : Array Value) (hsz : (Go.sizeOf e).run X.P w = .ok 1 w) (hag : (isAgg e).run X.P w = .ok false w)
    (he : if isb then X.P.underlying e = some .bool else ∃ k, X.P.underlying e = some (.int k)) : ∀ (cs ds : List PV) (i : Nat) (b : Bool),
    (∀ (j : Nat) (c : PV), cs[j]? = some c → ∃ u, us[i + j]? = some u ∧ VR X g w c u) → (∀ (j : Nat) (c : PV), ds[j]? = some c → ∃ u, vs[i + j]? = some u ∧ VR X g w c u) →
    cs.length = ds.length → eqCells isb cs ds = some b →
    ((forIn (List.range' i cs.length) (none, PUnit.unit) (fun i (_ : Option Bool × PUnit) => do
        let x ← part e us (i * 1)
        let y ← part e vs (i * 1)
        let r ← Op.equalIn (d + 1) e x y
        if (!r) = true then pure (ForInStep.done (some false, PUnit.unit)) else pure (ForInStep.yield (none, PUnit.unit))) : Sem (Option Bool × PUnit))).run X.P w = .ok (if b then none else some false, PUnit.unit) w
  | [], [], i, b, _, _, _, h => by cases h; simp
  | [], _ :: _, _, _, _, _, hl, _ => by simp at hl
  | _ :: _, [], _, _, _, _, hl, _ => by simp at hl
  | c :: cs, c' :: ds, i, b, hc, hd, hl, h => by
    obtain ⟨r, hr, hcase⟩ := eqCells_cons h
    obtain ⟨u, hu, ru⟩ := hc 0 c rfl
    obtain ⟨v, hv, rv⟩ := hd 0 c' rfl
    have ih := eqArr_loop isb d e us vs hsz hag he cs ds (i + 1) r
      (fun j x hx => by have := hc (j + 1) x (by simpa using hx); rwa [show i + (j + 1) = i + 1 + j by omega] at this)
      (fun j x hx => by have := hd (j + 1) x (by simpa using hx); rwa [show i + (j + 1) = i + 1 + j by omega] at this) (by simpa using hl) hr
    simp only [Nat.add_zero] at hu hv
    have p1 : (part e us (i * 1)).run X.P w = .ok u w := by simp [part, hag, hu]
    have p2 : (part e vs (i * 1)).run X.P w = .ok v w := by simp [part, hag, hv]
    simp only [List.length_cons, List.range'_succ, List.forIn_cons, Sem.run_bind, p1, p2, Result.andThen_ok]
    have hq : ∃ q, (Op.equalIn (d + 1) e u v).run X.P w = .ok q w ∧ b = (q && r) := by
      rcases hcase with ⟨rfl, x, y, rfl, rfl, hb⟩ | ⟨rfl, k, x, y, rfl, rfl, hb⟩
      · cases ru; cases rv
        simp only [if_true] at he
        exact ⟨x == y, by simp [Op.equalIn, run_underlying he], hb⟩
      · cases ru; cases rv
        simp only [Bool.false_eq_true, if_false] at he
        obtain ⟨k', he⟩ := he
        exact ⟨x == y, by simp [Op.equalIn, run_underlying he], hb⟩
    obtain ⟨q, hq1, hq2⟩ := hq
    rw [hq1]
    simp only [Result.andThen_ok]
    cases q
    · simp only [hq2]
      simp
    · simp only [Bool.not_true, Bool.false_eq_true, if_false, Sem.run_pure, Result.andThen_ok]
      rw [hq2]
      simpa using ih

theorem eqa_sim {neg isb : Bool} {m : Nat} {t : TypeId} {x y : Operand} {cs ds : List PV} {us vs : Array Value} {b : Bool} (ht : scalArr X.P t isb m = true)
    (hl : cs.length = m) (hl' : ds.length = m) (he : eqCells isb cs ds = some b) (r1 : VRL X g w cs us) (r2 : VRL X g w ds vs) :
    ((eqGuard (eqOp neg) t x y (.agg us) (.agg vs)).bind fun _ => binOp (eqOp neg) t (.agg us) (.agg vs)).run X.P w = .ok (.bool (if neg then !b else b)) w := by
  unfold scalArr at ht
  split at ht
  · rename_i m' e hu
    simp only [Bool.and_eq_true, beq_iff_eq, Bool.not_eq_true'] at ht
    obtain ⟨⟨⟨rfl, h2⟩, h3⟩, h4⟩ := ht
    have hsz : (Go.sizeOf e).run X.P w = .ok 1 w := by
      split at h2
      · rename_i i hi; simp only [beq_iff_eq] at h2; simp [Go.sizeOf, typeInfo, hi, h2]
      · cases h2
    have hag : (isAgg e).run X.P w = .ok false w := by
      split at h3
      · rename_i hu; simp [isAgg, run_underlying hu]
      · rename_i hu; simp [isAgg, run_underlying hu]
      · cases h3
    have hee : if isb then X.P.underlying e = some .bool else ∃ k, X.P.underlying e = some (.int k) := by
      split at h3
      · rename_i hu; simp [h3, hu]
      · rename_i k hu; simp only [Bool.not_eq_true'] at h3; simp [h3, hu]
      · cases h3
    have hin : ∀ D, (∃ d, D = d + 1) → (Op.equalIn (D + 1) t (.agg us) (.agg vs)).run X.P w = .ok b w := by
      intro D hD
      simp only [Op.equalIn, Sem.run_bind, run_underlying hu, Result.andThen_ok, hsz, Std.Legacy.Range.forIn_eq_forIn_range', Std.Legacy.Range.size, Nat.sub_zero, Nat.add_sub_cancel, Nat.div_one]
      obtain ⟨d, rfl⟩ := hD
      have := eqArr_loop isb d e us vs hsz hag hee cs ds 0 b
        (fun j c hc => by
          have : j < us.size := by rw [← r1.1]; exact (List.getElem?_eq_some_iff.1 hc).1
          exact ⟨us[j], by simp [this], r1.2 j c _ hc (by simp [this])⟩)
        (fun j c hc => by
          have : j < vs.size := by rw [← r2.1]; exact (List.getElem?_eq_some_iff.1 hc).1
          exact ⟨vs[j], by simp [this], r2.2 j c _ hc (by simp [this])⟩) (by omega) he
      rw [hl] at this
      rw [this]
      cases b <;> simp
    have hg : (eqGuard (eqOp neg) t x y (.agg us) (.agg vs)).run X.P w = .ok () w := by
      cases neg <;> simp [eqGuard, eqOp, h4]
    have he' : (Op.equal t (.agg us) (.agg vs)).run X.P w = .ok b w := hin 9999 ⟨9998, rfl⟩
    rw [Sem.run_bind', hg]
    cases neg
    · simp [eqOp, binOp, he']
    · simp [eqOp, binOp, he']
  · cases ht

end
end Ps
