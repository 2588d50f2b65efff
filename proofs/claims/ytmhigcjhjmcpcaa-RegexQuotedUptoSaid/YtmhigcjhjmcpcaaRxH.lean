/- The trees' values; what a reading call leaves. -/
import Derived.Test.YtmhigcjhjmcpcaaRxF
namespace Ps
set_option linter.unusedSimpArgs false
set_option linter.unusedVariables false
open Go

theorem fin_new {S S1 : St} {os ex : List (List PV)} {t : List (Nat × Nat)} {r r' : PV} (h1 : S1.objs = os ++ ex) (hl : os.length = S.objs.length) (ht : S1.tips = S.tips ++ t) (hf : freeLL os = true)
    (hs : sol S1.objs S.objs.length solFuel r = some r') : finish false S S1 r = (r'.frz, ⟨os, S.tips⟩) ∨ finish false S S1 r = (r', ⟨os, S.tips ++ t⟩) := by
  unfold finish
  have e1 : S1.objs.take S.objs.length = os := by rw [h1, ← hl]; simp
  have e2 : S1.tips.take S.tips.length = S.tips := by rw [ht]; simp
  simp only [Bool.false_eq_true, if_false]
  rw [hs, e1, e2]
  simp only [hf, if_true]
  split
  · rename_i h; rw [← beqLL_eq h]; exact .inl rfl
  · rw [ht]; exact .inr rfl

theorem class_val (w : List UInt8) (de mo : Int) (tips : List (Nat × Nat)) (hw : w.length ≤ 5000) :
    ∃ f r', cval T 392 [.ptr 0 0] ⟨[rc ⟨w, de, mo, false⟩], tips⟩ = some (.iface 12 (.ref (bc f)), ⟨[rc r'], tips⟩) ∧
      (match clsF w with | some (g, rr) => bc f = bc g ∧ r' = ⟨rr, de, mo, false⟩ | none => r'.bad = true) := by
  have key := cval_ex (T := T) (f := 392) (c := regex_reader_class) fn_392 (args := [.ptr 0 0]) (S := ⟨[rc ⟨w, de, mo, false⟩], tips⟩) rfl
    (R := fun r S2 => ∃ f r', r = .iface 12 (.ref (bc f)) ∧ S2 = ⟨[rc r'], tips⟩ ∧ (match clsF w with | some (g, rr) => bc f = bc g ∧ r' = ⟨rr, de, mo, false⟩ | none => r'.bad = true)) ?_
  · obtain ⟨r, S2, h1, f, r', rfl, rfl, h2⟩ := key
    exact ⟨f, r', h1, h2⟩
  have hN := next_val ⟨w, de, mo, false⟩ [94] [bc fun _ => false] tips
  have hT := take_val ⟨w, de, mo, false⟩ [bc fun _ => false] tips
  -- the end
  have fin : ∀ (f : Nat → Bool) (r' : Rd), finish false ⟨[rc ⟨w, de, mo, false⟩], tips⟩ ⟨[rc r', bc f], tips⟩ (.iface 12 (.ptr 1 0)) = (.iface 12 (.ref (bc f)), ⟨[rc r'], tips⟩) := by
    intro f r'
    have hs : sol [rc r', bc f] 1 solFuel (.iface 12 (.ptr 1 0)) = some (.iface 12 (.ref (bc f))) := sol_one (Nat.le_refl _) rfl
    have hz : (PV.iface 12 (.ref (bc f))).frz = .iface 12 (.ref (bc f)) := by simp [PV.frz, frzL_bc]
    rcases fin_new (S := ⟨[rc ⟨w, de, mo, false⟩], tips⟩) (S1 := ⟨[rc r', bc f], tips⟩) (os := [rc r']) (ex := [bc f]) (t := []) rfl rfl (by simp) rfl hs with h | h
    · rw [h, hz]
    · rw [h]; simp
  -- behind the loop
  have tail : ∀ (no : Bool) (f : Nat → Bool) (r1 : Rd) (fr : Fr) (n : Nat) (Q : Fr → St → Prop), fr 0 = .ptr 0 0 → fr 3 = .ptr 1 0 → fr 4 = .bool no → fr 5 = .int .i64 n →
      (∀ fr', fr' 2 = .iface 12 (.ptr 1 0) → Q fr' ⟨[rc { (takeR r1).2 with bad := (takeR r1).2.bad || decide (n = 0) }, bc (fun i => f i != no)], tips⟩) →
      Ok (gval T [.code (.seq (.clr [(62, 64)] (.region regex_reader_class_r18)) (.seq (.clr [(64, 75)] (.region regex_reader_class_r19)) (.seq (.seq (.region regex_reader_class_r20) (.block 4 (.loop regex_reader_class_l2))) (.seq (.clr [(90, 92)] (.region regex_reader_class_r25)) .ret))))] fr ⟨[rc r1, bc f], tips⟩) Q := by
    intro no f r1 fr n Q h0 h3 h4 h5 k
    have hT := take_val r1 [bc f] tips
    have hz : ((n : Int) == 0) = decide (n = 0) := by
      by_cases h : n = 0
      · subst h; rfl
      · simp [h]
    simp -implicitDefEqProofs [h0, h3, h4, h5, hT, pstep, hz]
    have e0 : bc f = bc (fun i => if i < 0 then f i != no else f i) := bc_ext (fun i _ => by simp)
    rw [e0]
    refine cls_l2 (f := f) (b := no) _ 0 _ rfl (by omega) (by simp [h3]) (by simp [h4]) (by simp) (fun fr' a => ?_)
    have a' : fr' 3 = .ptr 1 0 := by rw [a]; simp [h3]
    simp -implicitDefEqProofs [a']
    exact k _ (by simp)
  have main : ∀ Q : Fr → St → Prop, (∀ (f : Nat → Bool) (r' : Rd) (fr' : Fr), fr' 2 = .iface 12 (.ptr 1 0) → (match clsF w with | some (g, rr) => bc f = bc g ∧ r' = ⟨rr, de, mo, false⟩ | none => r'.bad = true) → Q fr' ⟨[rc r', bc f], tips⟩) →
      Ok (gval T [.code regex_reader_class.body] (argsFr [.ptr 0 0]) ⟨[rc ⟨w, de, mo, false⟩], tips⟩) Q := by
   intro Q ends
   have goal : ∀ (no : Bool) (w1 : List UInt8) (fr : Fr), w1.length ≤ 5000 → clsF w = (if nextB w1 [93] then none else match itemsF w1 with | none => none | some (g, r) => some (fun i => g i != no, r)) → fr 0 = .ptr 0 0 → fr 3 = .ptr 1 0 → fr 4 = .bool no → fr 5 = .int .i64 (0 : Nat) →
      Ok (gval T (.lp regex_reader_class_l0 :: .blk 0 :: [.code (.seq (.clr [(62, 64)] (.region regex_reader_class_r18)) (.seq (.clr [(64, 75)] (.region regex_reader_class_r19)) (.seq (.seq (.region regex_reader_class_r20) (.block 4 (.loop regex_reader_class_l2))) (.seq (.clr [(90, 92)] (.region regex_reader_class_r25)) .ret))))]) fr ⟨[rc ⟨w1, de, mo, false⟩, bc (fun _ => false)], tips⟩) Q := by
    intro no w1 fr hw1 hcl h0 h3 h4 h5
    refine cls_loop w1.length w1 rfl (fun _ => false) 0 fr (by omega) h0 h3 h4 h5 (fun g rr fr' n' e1 b0 b3 b4 b5 b6 => ?_) (fun e1 f' r' fr' n' b1 b0 b3 b4 b5 => ?_)
    · refine tail no _ _ fr' n' _ b0 b3 b4 b5 (fun fr2 c2 => ends _ _ fr2 c2 ?_)
      rw [hcl]
      by_cases hn : nextB w1 [93] = true
      · rw [if_pos hn]
        cases w1 with
        | nil => cases hn
        | cons a w2 =>
          have ha : a = 93 := by simpa [nextB] using hn
          subst ha
          rw [itemsF.eq_def] at e1
          simp only at e1
          rw [if_pos trivial] at e1
          cases e1
          have : n' = 0 := b6.2 ⟨rfl, rfl⟩
          simp [this]
      · rw [if_neg hn, e1]
        have hn' : n' ≠ 0 := fun q => by
          obtain ⟨_, q⟩ := b6.1 q
          rw [q] at hn
          exact hn rfl
        refine ⟨bc_ext (fun i _ => by simp), ?_⟩
        simp [takeR, hn']
    · refine tail no _ _ fr' n' _ b0 b3 b4 b5 (fun fr2 c2 => ends _ _ fr2 c2 ?_)
      rw [hcl, e1]
      have hb : (takeR r').2.bad = true := by
        unfold takeR
        split
        · rfl
        · exact b1
      split <;> rename_i h <;> simp [hb]
      · split at h <;> cases h
   simp -implicitDefEqProofs [-List.all_eq_true, regex_reader_class, peval, fillParts, bc_zero, pstep, all_bc, hN]
   refine ok_br (fun hc => ?_) (fun hc => ?_)
   · cases w with
     | nil => cases hc
     | cons a w1 =>
       have ha : a = 94 := by simpa [nextB] using hc
       subst ha
       have hT' : cval T 304 [.ptr 0 0] ⟨[rc ⟨94 :: w1, de, mo, false⟩, bc fun _ => false], tips⟩ = some (.int .u8 94, ⟨[rc ⟨w1, de, mo, false⟩, bc fun _ => false], tips⟩) := hT
       simp -implicitDefEqProofs [hT']
       refine goal true w1 _ (by simp at hw; omega) ?_ (by simp) (by simp) (by simp [hc]) (by simp)
       rw [clsF.eq_def]
       simp only
       rw [if_pos trivial]
       cases w1 with
       | nil => simp [nextB, itemsF]
       | cons b w2 =>
         simp only
         by_cases hb : b = 93
         · subst hb; simp [nextB]
         · rw [if_neg hb, if_neg (by simp [nextB, hb])]
           rfl
   · have hc' : nextB w [94] = false := by simpa using hc
     try simp -implicitDefEqProofs
     refine goal false w _ hw ?_ (by simp) (by simp) (by simp [hc']) (by simp)
     cases w with
     | nil => simp [clsF, nextB, itemsF]
     | cons a w1 =>
       have ha : a ≠ 94 := by rintro rfl; simp [nextB] at hc'
       rw [clsF.eq_def]
       simp only
       rw [if_neg ha]
       by_cases hb : a = 93
       · subst hb; simp [nextB]
       · rw [if_neg hb, if_neg (by simp [nextB, hb])]
         rfl
  refine main _ (fun f r' fr' h hm => ⟨[fr' 2], rfl, f, r', ?_, ?_, hm⟩)
  · show (finish false _ _ (fr' 2)).1 = _; rw [h, fin f r']
  · show (finish false _ _ (fr' 2)).2 = _; rw [h, fin f r']

mutual
inductive NdR : Nd → PV → Prop where
  | one {f : Nat → Bool} : NdR (.one f) (.iface 12 (.ref (bc f)))
  | row {x : Nd} {tip : Option (Nat × Nat)} {es : List PV} (h : RowR x es) : NdR x (.iface 10 (.sl tip es []))
  | pat {x : Nd} {tip : Option (Nat × Nat)} {es : List PV} (h : PatR x es) : NdR x (.iface 5 (.sl tip es []))
  | again {p : Nd} {v : PV} {n m : Bool} (h : NdR p v) : NdR (.again p n m) (.iface 9 (.agg [v, .bool n, .bool m]))
inductive RowR : Nd → List PV → Prop where
  | nil : RowR .rnil []
  | cons {p l : Nd} {v : PV} {es : List PV} (h : NdR p v) (t : RowR l es) : RowR (.rcons p l) (v :: es)
inductive PatR : Nd → List PV → Prop where
  | nil : PatR .enil []
  | cons {p l : Nd} {v : PV} {es : List PV} (h : NdR p v) (t : PatR l es) : PatR (.econs p l) (v :: es)
end

theorem nd_frz : ∀ x : Nd, (∀ v, NdR x v → NdR x v.frz) ∧ (∀ es, RowR x es → RowR x (PV.frzL es)) ∧ (∀ es, PatR x es → PatR x (PV.frzL es)) := by
  intro x
  induction x with
  | one f =>
    refine ⟨fun v h => ?_, fun es h => (by cases h), fun es h => (by cases h)⟩
    cases h with
    | one => simp only [PV.frz, frzL_bc]; exact .one
    | row h => cases h
    | pat h => cases h
  | rnil =>
    have hr : ∀ es, RowR .rnil es → RowR .rnil (PV.frzL es) := fun es h => by cases h; exact .nil
    refine ⟨fun v h => ?_, hr, fun es h => (by cases h)⟩
    cases h with
    | row h => simp only [PV.frz, PV.frzL]; exact .row (hr _ h)
    | pat h => cases h
  | enil =>
    have hr : ∀ es, PatR .enil es → PatR .enil (PV.frzL es) := fun es h => by cases h; exact .nil
    refine ⟨fun v h => ?_, fun es h => (by cases h), hr⟩
    cases h with
    | row h => cases h
    | pat h => simp only [PV.frz, PV.frzL]; exact .pat (hr _ h)
  | rcons p l ip il =>
    have hr : ∀ es, RowR (.rcons p l) es → RowR (.rcons p l) (PV.frzL es) := fun es h => by
      cases h with | cons h t => simp only [PV.frzL]; exact .cons (ip.1 _ h) (il.2.1 _ t)
    refine ⟨fun v h => ?_, hr, fun es h => (by cases h)⟩
    cases h with
    | row h => simp only [PV.frz, PV.frzL]; exact .row (hr _ h)
    | pat h => cases h
  | econs p l ip il =>
    have hr : ∀ es, PatR (.econs p l) es → PatR (.econs p l) (PV.frzL es) := fun es h => by
      cases h with | cons h t => simp only [PV.frzL]; exact .cons (ip.1 _ h) (il.2.2 _ t)
    refine ⟨fun v h => ?_, fun es h => (by cases h), hr⟩
    cases h with
    | row h => cases h
    | pat h => simp only [PV.frz, PV.frzL]; exact .pat (hr _ h)
  | again p n m ip =>
    refine ⟨fun v h => ?_, fun es h => (by cases h), fun es h => (by cases h)⟩
    cases h with
    | again h => simp only [PV.frz, PV.frzL]; exact .again (ip.1 _ h)
    | row h => cases h
    | pat h => cases h
theorem NdR.frz {x : Nd} {v : PV} (h : NdR x v) : NdR x v.frz := (nd_frz x).1 v h

/-- What a reading call leaves. -/
structure Out (o : Option (Nd × Nat × List UInt8)) (de mo : Int) (v : PV) (r' : Rd) : Prop where
  free : v.free = true
  ifc : ∃ t u, v = .iface t u
  out : match o with | some (x, d, rr) => r' = ⟨rr, de, max mo (de + d), false⟩ ∧ NdR x v | none => r'.bad = true
mutual
theorem frz_free : ∀ v : PV, v.free = true → v.frz.free = true
  | .und, h => h
  | .int .., h => h
  | .bool .., h => h
  | .str .., h => h
  | .nilp, h => h
  | .nils, h => h
  | .nili, h => h
  | .nilf, h => h
  | .ptr .., h => h
  | .osl .., h => h
  | .ref cs, h => by simp only [PV.free, PV.frz] at h ⊢; exact frz_freeL cs h
  | .sl t a b, h => by simp only [PV.free, PV.frz, Bool.and_eq_true] at h ⊢; exact ⟨frz_freeL a h.1, frz_freeL b h.2⟩
  | .iface t v, h => by simp only [PV.free, PV.frz] at h ⊢; exact frz_free v h
  | .agg cs, h => by simp only [PV.free, PV.frz] at h ⊢; exact frz_freeL cs h
  | .tup cs, h => by simp only [PV.free, PV.frz] at h ⊢; exact frz_freeL cs h
  | .fn f cs, h => by simp only [PV.free, PV.frz] at h ⊢; exact frz_freeL cs h
theorem frz_freeL : ∀ l : List PV, PV.freeL l = true → PV.freeL (PV.frzL l) = true
  | [], h => h
  | v :: l, h => by simp only [PV.freeL, PV.frzL, Bool.and_eq_true] at h ⊢; exact ⟨frz_free v h.1, frz_freeL l h.2⟩
end
theorem Out.frz {o : Option (Nd × Nat × List UInt8)} {de mo : Int} {v : PV} {r' : Rd} (h : Out o de mo v r') : Out o de mo v.frz r' := by
  obtain ⟨a, ⟨t, u, rfl⟩, c⟩ := h
  refine ⟨frz_free _ a, ⟨t, u.frz, rfl⟩, ?_⟩
  cases o with
  | none => exact c
  | some q => exact ⟨c.1, c.2.frz⟩

theorem fin_out {o : Option (Nd × Nat × List UInt8)} {de mo : Int} {r0 r' : Rd} {ex : List (List PV)} {tips t : List (Nat × Nat)} {r v : PV}
    (hs : sol (rc r' :: ex) 1 solFuel r = some v) (h : Out o de mo v r') :
    ∃ v' t', finish false ⟨[rc r0], tips⟩ ⟨rc r' :: ex, tips ++ t⟩ r = (v', ⟨[rc r'], tips ++ t'⟩) ∧ Out o de mo v' r' := by
  rcases fin_new (S := ⟨[rc r0], tips⟩) (S1 := ⟨rc r' :: ex, tips ++ t⟩) (os := [rc r']) (ex := ex) (t := t) rfl rfl rfl rfl hs with e | e
  · exact ⟨_, [], by rw [e]; simp, h.frz⟩
  · exact ⟨_, t, e, h⟩

/-- A slice that grows, of arrays that are there since some time. -/
def AccT (T0 : List (Nat × Nat)) (tips : List (Nat × Nat)) (v : PV) (es : List PV) : Prop := AccG ⟨[], T0⟩ 1 ⟨[], tips⟩ v es
theorem AccT.ext {T0 tips : List (Nat × Nat)} {v : PV} {es : List PV} (h : AccT T0 tips v es) (t : List (Nat × Nat)) : AccT T0 (tips ++ t) v es := AccG.arrs h t
theorem AccT.tips {T0 tips : List (Nat × Nat)} {v : PV} {es : List PV} (h : AccT T0 tips v es) : ∃ t, tips = T0 ++ t := by
  obtain ⟨⟨o, t, e⟩, _⟩ := h
  cases e
  exact ⟨t, rfl⟩
theorem appendTo_objs {sz b : Nat} {o o' : List (List PV)} {tips : List (Nat × Nat)} {v v' : PV} {new : List PV} {S' : St} (h : appendTo sz b ⟨o, tips⟩ v new = some (v', S')) : appendTo sz b ⟨o', tips⟩ v new = some (v', ⟨o', S'.tips⟩) := by
  unfold appendTo at h ⊢
  cases v with
  | nils =>
    simp only at h ⊢
    split at h
    · cases h; rename_i q; rw [if_pos q]
    · rename_i q; rw [if_neg q]
      split at h
      · rename_i q2; rw [if_pos q2]; cases h; rfl
      · cases h
  | sl tip es sp =>
    simp only at h ⊢
    split at h
    · cases h; rename_i q; rw [if_pos q]
    · rename_i q; rw [if_neg q]
      split at h
      · split at h
        · rename_i q2; rw [if_pos q2]; cases h; rfl
        · cases h
      · cases h
  | _ => cases h
theorem AccT.app {T0 tips : List (Nat × Nat)} {v : PV} {es : List PV} (h : AccT T0 tips v es) (b : Nat) (x : PV) (hb : (es.length + 1) * b ≤ 140737488355328) (o : List (List PV)) :
    ∃ v' tips', appendTo 1 b ⟨o, tips⟩ v [x] = some (v', ⟨o, tips'⟩) ∧ AccT T0 tips' v' (es ++ [x]) := by
  obtain ⟨v', S', a1, a2, a3⟩ := AccG.app h (bytes := b) [x] hb
  have hS : S' = ⟨[], S'.tips⟩ := by obtain ⟨o', t'⟩ := S'; simp only at a3; subst a3; rfl
  refine ⟨v', S'.tips, appendTo_objs a1, ?_⟩
  unfold AccT
  rw [← hS]
  exact a2
theorem AccT.sl {T0 tips : List (Nat × Nat)} {v : PV} {es : List PV} (h : AccT T0 tips v es) (hn : v ≠ .nils) : ∃ tip, v = .sl tip es [] := by
  rcases h.acc with ⟨e, _⟩ | ⟨id, _, e, _⟩
  · exact absurd e hn
  · exact ⟨_, e⟩
theorem accT_new {T0 tips : List (Nat × Nat)} (es : List PV) (h : ∃ t, tips = T0 ++ t) : AccT T0 (tips ++ [(es.length, 1)]) (.sl (some (tips.length, es.length)) es []) es := by
  obtain ⟨t, rfl⟩ := h
  exact accg_new (S0 := ⟨[], T0⟩) (S := ⟨[], T0 ++ t⟩) 1 es ⟨[], t, by simp⟩
theorem freeL_app {a b : List PV} : PV.freeL (a ++ b) = (PV.freeL a && PV.freeL b) := by
  induction a with
  | nil => simp [PV.freeL]
  | cons x a ih => simp [PV.freeL, ih, Bool.and_assoc]

theorem altW_eq (w : List UInt8) : patW w = match rowW w with
    | none => none
    | some (r, d, w1) => match (match w1 with | [] => some (.enil, 0, []) | c :: w2 => if c = 124 then patW w2 else some (.enil, 0, c :: w2)) with
      | none => none
      | some (e, d2, w3) => some (.econs r e, max d d2, w3) := by
  rw [patW_eq]
  cases rowW w with
  | none => rfl
  | some q =>
    obtain ⟨r, d, w1⟩ := q
    cases w1 with
    | nil => simp
    | cons c w2 =>
      simp only
      split
      · rfl
      · simp
end Ps
