/- A class's value; the trees' values. -/
import Derived.Test.YtmhigcjhjmcpcaaRxF
namespace Ps
set_option linter.unusedSimpArgs false
set_option linter.unusedVariables false
open Go

theorem fin_new {S S1 : St} {os ex : List (List PV)} {t : List (Nat × Nat)} {r r' : PV} (h1 : S1.objs = os ++ ex) (hl : os.length = S.objs.length) (ht : S1.tips = S.tips ++ t) (hf : freeLL os = true)
    (hs : sol S1.objs S.objs.length solFuel r = some r') : finish false S S1 r = (r'.frz, ⟨os, S.tips⟩) ∨ finish false S S1 r = (r', ⟨os, S.tips ++ t⟩) := by
  unfold finish
  have e1 : S1.objs.take S.objs.length = os := by rw [h1, ← hl]; simp
  have e2 : S1.tips.take S.tips.length = S.tips := by rw [ht]; simp
  simp only [Bool.false_eq_true, if_false]
  rw [hs, e1, e2]
  simp only [hf, if_true]
  split
  · rename_i h; rw [← beqLL_eq h]; exact .inl rfl
  · rw [ht]; exact .inr rfl

theorem class_val (w : List UInt8) (de mo : Int) (tips : List (Nat × Nat)) (hw : w.length ≤ 5000) :
    ∃ f r', cval T 392 [.ptr 0 0] ⟨[rc ⟨w, de, mo, false⟩], tips⟩ = some (.iface 12 (.ref (bc f)), ⟨[rc r'], tips⟩) ∧
      (match clsF w with | some (g, rr) => bc f = bc g ∧ r' = ⟨rr, de, mo, false⟩ | none => r'.bad = true) := by
  have key := cval_ex (T := T) (f := 392) (c := regex_reader_class) fn_392 (args := [.ptr 0 0]) (S := ⟨[rc ⟨w, de, mo, false⟩], tips⟩) rfl
    (R := fun r S2 => ∃ f r', r = .iface 12 (.ref (bc f)) ∧ S2 = ⟨[rc r'], tips⟩ ∧ (match clsF w with | some (g, rr) => bc f = bc g ∧ r' = ⟨rr, de, mo, false⟩ | none => r'.bad = true)) ?_
  · obtain ⟨r, S2, h1, f, r', rfl, rfl, h2⟩ := key
    exact ⟨f, r', h1, h2⟩
  have hN := next_val ⟨w, de, mo, false⟩ [94] [bc fun _ => false] tips
  have hT := take_val ⟨w, de, mo, false⟩ [bc fun _ => false] tips
  -- the end
  have fin : ∀ (f : Nat → Bool) (r' : Rd), finish false ⟨[rc ⟨w, de, mo, false⟩], tips⟩ ⟨[rc r', bc f], tips⟩ (.iface 12 (.ptr 1 0)) = (.iface 12 (.ref (bc f)), ⟨[rc r'], tips⟩) := by
    intro f r'
    have hs : sol [rc r', bc f] 1 solFuel (.iface 12 (.ptr 1 0)) = some (.iface 12 (.ref (bc f))) := sol_one (Nat.le_refl _) rfl
    have hz : (PV.iface 12 (.ref (bc f))).frz = .iface 12 (.ref (bc f)) := by simp [PV.frz, frzL_bc]
    rcases fin_new (S := ⟨[rc ⟨w, de, mo, false⟩], tips⟩) (S1 := ⟨[rc r', bc f], tips⟩) (os := [rc r']) (ex := [bc f]) (t := []) rfl rfl (by simp) rfl hs with h | h
    · rw [h, hz]
    · rw [h]; simp
  -- behind the loop
  have tail : ∀ (no : Bool) (f : Nat → Bool) (r1 : Rd) (fr : Fr) (n : Nat) (Q : Fr → St → Prop), fr 0 = .ptr 0 0 → fr 3 = .ptr 1 0 → fr 4 = .bool no → fr 5 = .int .i64 n →
      (∀ fr', fr' 2 = .iface 12 (.ptr 1 0) → Q fr' ⟨[rc { (takeR r1).2 with bad := (takeR r1).2.bad || decide (n = 0) }, bc (fun i => f i != no)], tips⟩) →
      Ok (gval T [.code (.seq (.clr [(62, 64)] (.region regex_reader_class_r18)) (.seq (.clr [(64, 75)] (.region regex_reader_class_r19)) (.seq (.seq (.region regex_reader_class_r20) (.block 4 (.loop regex_reader_class_l2))) (.seq (.clr [(90, 92)] (.region regex_reader_class_r25)) .ret))))] fr ⟨[rc r1, bc f], tips⟩) Q := by
    intro no f r1 fr n Q h0 h3 h4 h5 k
    have hT := take_val r1 [bc f] tips
    have hz : ((n : Int) == 0) = decide (n = 0) := by
      by_cases h : n = 0
      · subst h; rfl
      · simp [h]
    simp -implicitDefEqProofs [h0, h3, h4, h5, hT, pstep, hz]
    have e0 : bc f = bc (fun i => if i < 0 then f i != no else f i) := bc_ext (fun i _ => by simp)
    rw [e0]
    refine cls_l2 (f := f) (b := no) _ 0 _ rfl (by omega) (by simp [h3]) (by simp [h4]) (by simp) (fun fr' a => ?_)
    have a' : fr' 3 = .ptr 1 0 := by rw [a]; simp [h3]
    simp -implicitDefEqProofs [a']
    exact k _ (by simp)
  have main : ∀ Q : Fr → St → Prop, (∀ (f : Nat → Bool) (r' : Rd) (fr' : Fr), fr' 2 = .iface 12 (.ptr 1 0) → (match clsF w with | some (g, rr) => bc f = bc g ∧ r' = ⟨rr, de, mo, false⟩ | none => r'.bad = true) → Q fr' ⟨[rc r', bc f], tips⟩) →
      Ok (gval T [.code regex_reader_class.body] (argsFr [.ptr 0 0]) ⟨[rc ⟨w, de, mo, false⟩], tips⟩) Q := by
   intro Q ends
   have goal : ∀ (no : Bool) (w1 : List UInt8) (fr : Fr), w1.length ≤ 5000 → clsF w = (if nextB w1 [93] then none else match itemsF w1 with | none => none | some (g, r) => some (fun i => g i != no, r)) → fr 0 = .ptr 0 0 → fr 3 = .ptr 1 0 → fr 4 = .bool no → fr 5 = .int .i64 (0 : Nat) →
      Ok (gval T (.lp regex_reader_class_l0 :: .blk 0 :: [.code (.seq (.clr [(62, 64)] (.region regex_reader_class_r18)) (.seq (.clr [(64, 75)] (.region regex_reader_class_r19)) (.seq (.seq (.region regex_reader_class_r20) (.block 4 (.loop regex_reader_class_l2))) (.seq (.clr [(90, 92)] (.region regex_reader_class_r25)) .ret))))]) fr ⟨[rc ⟨w1, de, mo, false⟩, bc (fun _ => false)], tips⟩) Q := by
    intro no w1 fr hw1 hcl h0 h3 h4 h5
    refine cls_loop w1.length w1 rfl (fun _ => false) 0 fr (by omega) h0 h3 h4 h5 (fun g rr fr' n' e1 b0 b3 b4 b5 b6 => ?_) (fun e1 f' r' fr' n' b1 b0 b3 b4 b5 => ?_)
    · refine tail no _ _ fr' n' _ b0 b3 b4 b5 (fun fr2 c2 => ends _ _ fr2 c2 ?_)
      rw [hcl]
      by_cases hn : nextB w1 [93] = true
      · rw [if_pos hn]
        cases w1 with
        | nil => cases hn
        | cons a w2 =>
          have ha : a = 93 := by simpa [nextB] using hn
          subst ha
          rw [itemsF.eq_def] at e1
          simp only at e1
          rw [if_pos trivial] at e1
          cases e1
          have : n' = 0 := b6.2 ⟨rfl, rfl⟩
          simp [this]
      · rw [if_neg hn, e1]
        have hn' : n' ≠ 0 := fun q => by
          obtain ⟨_, q⟩ := b6.1 q
          rw [q] at hn
          exact hn rfl
        refine ⟨bc_ext (fun i _ => by simp), ?_⟩
        simp [takeR, hn']
    · refine tail no _ _ fr' n' _ b0 b3 b4 b5 (fun fr2 c2 => ends _ _ fr2 c2 ?_)
      rw [hcl, e1]
      have hb : (takeR r').2.bad = true := by
        unfold takeR
        split
        · rfl
        · exact b1
      split <;> rename_i h <;> simp [hb]
      · split at h <;> cases h
   simp -implicitDefEqProofs [-List.all_eq_true, regex_reader_class, peval, fillParts, bc_zero, pstep, all_bc, hN]
   refine ok_br (fun hc => ?_) (fun hc => ?_)
   · cases w with
     | nil => cases hc
     | cons a w1 =>
       have ha : a = 94 := by simpa [nextB] using hc
       subst ha
       have hT' : cval T 304 [.ptr 0 0] ⟨[rc ⟨94 :: w1, de, mo, false⟩, bc fun _ => false], tips⟩ = some (.int .u8 94, ⟨[rc ⟨w1, de, mo, false⟩, bc fun _ => false], tips⟩) := hT
       simp -implicitDefEqProofs [hT']
       refine goal true w1 _ (by simp at hw; omega) ?_ (by simp) (by simp) (by simp [hc]) (by simp)
       rw [clsF.eq_def]
       simp only
       rw [if_pos trivial]
       cases w1 with
       | nil => simp [nextB, itemsF]
       | cons b w2 =>
         simp only
         by_cases hb : b = 93
         · subst hb; simp [nextB]
         · rw [if_neg hb, if_neg (by simp [nextB, hb])]
           rfl
   · have hc' : nextB w [94] = false := by simpa using hc
     try simp -implicitDefEqProofs
     refine goal false w _ hw ?_ (by simp) (by simp) (by simp [hc']) (by simp)
     cases w with
     | nil => simp [clsF, nextB, itemsF]
     | cons a w1 =>
       have ha : a ≠ 94 := by rintro rfl; simp [nextB] at hc'
       rw [clsF.eq_def]
       simp only
       rw [if_neg ha]
       by_cases hb : a = 93
       · subst hb; simp [nextB]
       · rw [if_neg hb, if_neg (by simp [nextB, hb])]
         rfl
  refine main _ (fun f r' fr' h hm => ⟨[fr' 2], rfl, f, r', ?_, ?_, hm⟩)
  · show (finish false _ _ (fr' 2)).1 = _; rw [h, fin f r']
  · show (finish false _ _ (fr' 2)).2 = _; rw [h, fin f r']
end Ps
