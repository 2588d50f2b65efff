/- The document's Ends and Fits, walked; the law of RegexFits. -/
import Derived.Test.YtmhigcjhjmcpcaaRxY
namespace Ps
set_option linter.unusedSimpArgs false
set_option linter.unusedVariables false
open Go

theorem fn_227 : T.fn 227 = some (.code ref07_alternative) := rfl
theorem fn_124 : T.fn 124 = some (.code ref07_Ends) := rfl
theorem fn_43 : T.fn 43 = some (.code ref07_Fits) := rfl
theorem fn_10 : T.fn 10 = some (.code law07_RegexFits) := rfl

theorem alt_loop {p s : List UInt8} (hp : p.length ≤ 100000) (hs : s.length ≤ 100000) (hE : ∀ u d' x, u.length < p.length → patW u = some (x, d', []) → ReachV 124 (fun vl => [.str u, .str s, vl]) x s) {K : List Kt} {Q : Fr → St → Prop} {S : St} : ∀ (k : Nat) (w : List UInt8), w.length = k → ∀ (i : Nat) (r : Nd) (d : Nat) (l : List Nat) (vl : PV) (fr : Fr), p.drop i = w → i ≤ p.length → rowW w = some (r, d, []) → Ris l → (∀ j ∈ l, j ≤ s.length) → InI vl l →
    fr 0 = .str p → fr 1 = .str s → fr 2 = vl → fr 7 = .int .i64 i →
    (∀ fr' v l', fr' 2 = v → InI v l' → Ris l' → (∀ j ∈ l', j ≤ s.length) → (∀ j, j ∈ l' ↔ Rch r s (fun i => i ∈ l) j) → Ok (gval T K fr' S) Q) →
    Ok (gval T (.lp ref07_alternative_l0 :: .blk 0 :: K) fr S) Q := by
  intro k
  induction k using Nat.strongRecOn with
  | _ k ih =>
    intro w hw i r d l vl fr hd hi hrow hr hb hv h0 h1 h2 h7 kk
    rw [gval_lp]
    cases w with
    | nil =>
      have hl := drop_nil hd
      have hlt : ¬ (i : Int) < (p.length : Int) := by omega
      rw [rowW_eq] at hrow
      cases hrow
      simp -implicitDefEqProofs [h0, h7, hlt]
      exact kk _ vl l (by simp [h2]) hv hr hb (fun j => by rw [rch_rnil]; exact ⟨fun h => ⟨h, hb j h⟩, fun h => h.1⟩)
    | cons a w0 =>
      obtain ⟨d1, d2, d3⟩ := drop_cons hd
      have hlt : (i : Int) < (p.length : Int) := by omega
      have hRW := rowW_eq (a :: w0)
      simp only at hRW
      rw [hrow] at hRW
      by_cases hc : a = 124 ∨ a = 41
      · rw [if_pos hc] at hRW; cases hRW
      rw [if_neg hc] at hRW
      cases ha : atomW (a :: w0) with
      | none => rw [ha] at hRW; cases hRW
      | some q =>
        obtain ⟨x, dd, w1⟩ := q
        rw [ha] at hRW
        simp only at hRW
        cases hrm : rowW (markF x w1).2 with
        | none => rw [hrm] at hRW; cases hRW
        | some q =>
          obtain ⟨r', d2', w3⟩ := q
          rw [hrm] at hRW
          cases hRW
          have hat := ratom_pval (p := p) (by omega) (fun q hq => right_pval (by omega)) hi
          have hEq : atomE p i = p.length - w1.length := by unfold atomE; rw [hd, ha]
          have l1 := atomW_len ha
          have l2 := markF_len x w1
          obtain ⟨u, eu, ku⟩ := atomW_loc ha
          have hku := ku []
          rw [List.append_nil] at hku
          have hlw : (a :: w0).length = p.length - i := by rw [← hd, List.length_drop]
          have hd1 : p.drop (p.length - w1.length) = w1 := drop_suf (hd.trans eu) hi
          rw [hEq] at hat
          have hul : u.length + w1.length = (a :: w0).length := by rw [eu, List.length_append]
          generalize hj : p.length - w1.length = j at *
          have hsub : (p.take j).drop i = u := by
            rw [List.drop_take, hd, eu, show j - i = u.length by omega, List.take_left]
          have bb : bounds p.length p.length (some (.int .i64 (i : Int))) (some (.int .i64 (j : Int))) = some (i, j) := bounds_lh (by omega) (by omega)
          have hwj := wrap_len (a := j) (by omega)
          have hone := one_val (s := s) (by omega) hs hku (fun u' d' q1 q2 => hE u' d' x (by omega) q2)
          -- behind the mark
          have tail : ∀ (m : UInt8) (i' : Nat) (fr' : Fr) (v1 : PV) (l1 : List Nat), pieceN x m = (markF x w1).1 → SlI v1 l1 → Ris l1 → (∀ j ∈ l1, j ≤ s.length) → (∀ j, j ∈ l1 ↔ Rch (pieceN x m) s (fun i => i ∈ l) j) → p.drop i' = (markF x w1).2 → i' ≤ p.length → fr' 0 = .str p → fr' 1 = .str s → fr' 2 = v1 → fr' 7 = .int .i64 i' →
              Ok (gval T (.lp ref07_alternative_l0 :: .blk 0 :: K) fr' S) Q := by
            intro m i' fr' v1 l1 g1 g2 g3 g4 g5 g6 g7 c0 c1 c2 c7
            refine ih (markF x w1).2.length (by omega) (markF x w1).2 rfl i' r' d2' l1 v1 fr' g6 g7 hrm g3 g4 (.inl g2) c0 c1 c2 c7 (fun fr2 v l' b1 b2 b4 b5 b6 => kk fr2 v l' b1 b2 b4 b5 (fun j => ?_))
            rw [b6, rch_rcons, ← g1]
            exact ⟨fun h => rch_mono h (fun i hi => (g5 i).1 hi), fun h => rch_mono h (fun i hi => (g5 i).2 hi)⟩
          cases w1 with
          | nil =>
            have hltj : ¬ (j : Int) < (p.length : Int) := by simp at hj; omega
            obtain ⟨v1, l1, q1, q2, q3, q4, q5⟩ := piece_val (m := 0) hs hone (.inl rfl) l vl S hv hr hb
            have q1' : cval T 307 [.str u, .int .u8 0, .str s, vl] S = some (v1, S) := q1
            simp -implicitDefEqProofs [h0, h1, h2, h7, hlt, hat, hltj, bb, hsub, q1']
            exact tail 0 j _ v1 l1 rfl q2 q3 q4 q5 (by rw [hd1]; rfl) (by omega) (by simp [h0]) (by simp [h1]) (by simp) (by simp)
          | cons m w3 =>
            obtain ⟨f1, f2, f3⟩ := drop_cons hd1
            have f2' : p[j] = m := by rw [List.getElem?_eq_getElem f1] at f2; exact Option.some.inj f2
            have hltj : (j : Int) < (p.length : Int) := by omega
            have e42 := u8eq m 42
            have e43 := u8eq m 43
            have e63 := u8eq m 63
            have e0 := u8ne m 0
            simp at e42 e43 e63 e0
            have hmk : markF x (m :: w3) = if m = 42 ∨ m = 43 ∨ m = 63 then (.again x (m != 43) (m != 63), w3) else (x, m :: w3) := rfl
            by_cases hm : m = 42 ∨ m = 43 ∨ m = 63
            · rw [if_pos hm] at hmk
              have hm0 : m ≠ 0 := by rcases hm with rfl | rfl | rfl <;> decide
              have e0' : ((m.toNat : Int) != 0) = true := by rw [e0]; simp [hm0]
              have hor : (decide (m = 42) || decide (m = 43) || decide (m = 63)) = true := by simpa [or_assoc] using hm
              obtain ⟨v1, l1, q1, q2, q3, q4, q5⟩ := piece_val (m := m) hs hone (.inr hm) l vl S hv hr hb
              simp -implicitDefEqProofs [h0, h1, h2, h7, hlt, hat, hltj, f1, f2, f2', e42, e43, e63]
              refine ok_br (fun hq => ?_) (fun hq => ?_)
              · simp -implicitDefEqProofs [h0, h1, h2, bb, hsub, f1, f2, f2', q1, e0', hwj]
                exact tail m (j + 1) _ v1 l1 (by rw [hmk]; simp [pieceN, hm0]) q2 q3 q4 q5 (by rw [hmk]; exact f3) (by omega) (by simp [h0]) (by simp [h1]) (by simp) (by simp)
              · rw [hor] at hq; cases hq
            · rw [if_neg hm] at hmk
              have hor : (decide (m = 42) || decide (m = 43) || decide (m = 63)) = false := by
                cases q : (decide (m = 42) || decide (m = 43) || decide (m = 63)) with
                | false => rfl
                | true => exact absurd (by simpa [or_assoc] using q) hm
              obtain ⟨v1, l1, q1, q2, q3, q4, q5⟩ := piece_val (m := 0) hs hone (.inl rfl) l vl S hv hr hb
              have q1' : cval T 307 [.str u, .int .u8 0, .str s, vl] S = some (v1, S) := q1
              simp -implicitDefEqProofs [h0, h1, h2, h7, hlt, hat, hltj, f1, f2, f2', e42, e43, e63]
              refine ok_br (fun hq => ?_) (fun hq => ?_)
              · rw [hor] at hq; cases hq
              · simp -implicitDefEqProofs [h0, h1, h2, bb, hsub, q1']
                exact tail 0 j _ v1 l1 (by rw [hmk]; rfl) q2 q3 q4 q5 (by rw [hmk]; exact hd1) (by omega) (by simp [h0]) (by simp [h1]) (by simp) (by simp)

theorem alternative_val {p s : List UInt8} {r : Nd} {d : Nat} (hp : p.length ≤ 100000) (hs : s.length ≤ 100000) (hE : ∀ u d' x, u.length < p.length → patW u = some (x, d', []) → ReachV 124 (fun vl => [.str u, .str s, vl]) x s) (hrow : rowW p = some (r, d, [])) :
    ReachV 227 (fun vl => [.str p, .str s, vl]) r s := by
  intro l vl S hv hr hb
  have main : ∀ Q : Fr → St → Prop, (∀ fr l', (fr 6).free = true → SlI (fr 6).frz l' → Ris l' → (∀ j ∈ l', j ≤ s.length) → (∀ j, j ∈ l' ↔ Rch r s (fun i => i ∈ l) j) → Q fr S) → Ok (gval T [.code ref07_alternative.body] (argsFr [.str p, .str s, vl]) S) Q := by
    intro Q ends
    simp -implicitDefEqProofs [ref07_alternative]
    refine alt_loop hp hs hE _ p rfl 0 r d l vl _ rfl (by omega) hrow hr hb hv (by simp) (by simp) (by simp) (by simp) (fun fr' v l' a1 a2 a4 a5 a6 => ?_)
    simp -implicitDefEqProofs [a1]
    exact ends _ l' (by simpa using a2.free) (by simpa using a2.out) a4 a5 a6
  have key := cval_ex (T := T) (f := 227) (c := ref07_alternative) fn_227 (args := [.str p, .str s, vl]) (S := S) rfl (R := fun v S2 => S2 = S ∧ ∃ l', SlI v l' ∧ Ris l' ∧ (∀ j ∈ l', j ≤ s.length) ∧ ∀ j, j ∈ l' ↔ Rch r s (fun i => i ∈ l) j) ?_
  · obtain ⟨v, S2, k1, rfl, l', k2, k3, k4, k5⟩ := key
    exact ⟨v, l', k1, k2, k3, k4, k5⟩
  refine main _ (fun fr l' a1 a2 a3 a4 a5 => ⟨[fr 6], rfl, ?_⟩)
  show (finish false S S (fr 6)).2 = S ∧ ∃ l', SlI (finish false S S (fr 6)).1 l' ∧ _
  rw [fin_free (Grows.refl S) a1]
  exact ⟨rfl, l', a2, a3, a4, a5⟩

theorem ends_loop {p s : List UInt8} (hp : p.length ≤ 100000) (hs : s.length ≤ 100000) (hE : ∀ u d' x, u.length < p.length → patW u = some (x, d', []) → ReachV 124 (fun vl => [.str u, .str s, vl]) x s)
    {l : List Nat} {vl : PV} (hv : InI vl l) (hr : Ris l) (hb : ∀ j ∈ l, j ≤ s.length) {all : List (List UInt8)} (hall : all.length ≤ 200000) (hal : ∀ a ∈ all, a.length ≤ p.length) {S : St} {K : List Kt} {Q : Fr → St → Prop} {rest : List (List UInt8)} {e : Nd} (h : AltsR rest e) :
    ∀ (pre : List (List UInt8)) (lo : List Nat) (fr : Fr), all = pre ++ rest → SlI (fr 9) lo → Ris lo → (∀ j ∈ lo, j ≤ s.length) → fr 1 = .str s → fr 2 = vl → fr 7 = .sl none (all.map PV.str) [] → fr 10 = .int .i64 pre.length →
    (∀ fr' l', SlI (fr' 9) l' → Ris l' → (∀ j ∈ l', j ≤ s.length) → (∀ j, j ∈ l' ↔ j ∈ lo ∨ Rch e s (fun i => i ∈ l) j) → Ok (gval T K fr' S) Q) →
    Ok (gval T (.lp ref07_Ends_l0 :: .blk 0 :: K) fr S) Q := by
  have hrd : Reads1 1 (.sl none (all.map PV.str) []) (all.map PV.str) := reads_sl (strs_cells all)
  have hlen := hrd.len
  rw [List.length_map] at hlen
  induction h with
  | nil =>
    intro pre lo fr he h9 hrl hbl h1 h2 h7 h10 kk
    rw [List.append_nil] at he
    subst he
    rw [gval_lp]
    simp -implicitDefEqProofs [h7, h10, hlen]
    exact kk _ lo (by simpa using h9) hrl hbl (fun j => ⟨.inl, fun h => h.elim id (fun q => absurd q rch_enil)⟩)
  | @cons a rest r e d hrow t ih =>
    intro pre lo fr he h9 hrl hbl h1 h2 h7 h10 kk
    have hplt : pre.length < all.length := by rw [he]; simp
    have hlt : (pre.length : Int) < (all.length : Int) := by omega
    have hg := hrd.get pre.length (by rw [List.length_map]; exact hplt) .i64
    have hge : (all.map PV.str)[pre.length]'(by rw [List.length_map]; exact hplt) = .str a := by simp [he]
    rw [hge] at hg
    simp only [PV.cells] at hg
    have hp1 : partOf false 1 [PV.str a] = some (.str a) := rfl
    have hap : a.length ≤ p.length := hal a (by rw [he]; simp)
    obtain ⟨v1, l1, q1, q2, q3, q4, q5⟩ := alternative_val (s := s) (by omega) hs (fun u d' x g1 g2 => hE u d' x (by omega) g2) hrow l vl S hv hr hb
    have hll := ris_len hrl hbl
    have hll1 := ris_len q3 q4
    obtain ⟨v2, l2, r1, r2, r3, r4⟩ := merge_val h9.isl q2.isl hrl q3 (by omega) S
    have hwp := wrap_len (a := pre.length) (by omega)
    rw [gval_lp]
    simp -implicitDefEqProofs [h1, h2, h7, h10, hlen, hlt, hg, hp1, q1, r1, hwp]
    refine ih (pre ++ [a]) l2 _ (by simp [he]) (by simpa using r2) r3 (fun j hj => ((r4 j).1 hj).elim (hbl j) (q4 j)) (by simp [h1]) (by simp [h2]) (by simp [h7]) (by simp [hwp]) (fun fr' l' a1 a2 a3 a4 => kk fr' l' a1 a2 a3 (fun j => ?_))
    rw [a4, r4, q5, rch_econs, or_assoc]

theorem alts_bound : ∀ (k : Nat) (w : List UInt8), w.length ≤ k → ∀ (cur : List UInt8) (l : List (List UInt8)), cutF cur w = some l → l.length ≤ w.length + 1 ∧ ∀ a ∈ l, a.length ≤ cur.length + w.length := by
  intro k
  induction k with
  | zero =>
    intro w hw cur l h
    have : w = [] := by simpa using hw
    subst this
    rw [cutF_nil] at h; cases h
    exact ⟨by simp, fun a ha => by simp at ha; subst ha; simp⟩
  | succ k ih =>
    intro w hw cur l h
    cases w with
    | nil =>
      rw [cutF_nil] at h; cases h
      exact ⟨by simp, fun a ha => by simp at ha; subst ha; simp⟩
    | cons c w0 =>
      simp only [List.length_cons] at hw ⊢
      rw [cutF_cons] at h
      split at h
      · cases hq : cutF [] w0 with
        | none => rw [hq] at h; cases h
        | some l' =>
          rw [hq] at h; cases h
          obtain ⟨b1, b2⟩ := ih w0 (by omega) [] l' hq
          refine ⟨by simp; omega, fun a ha => ?_⟩
          rcases List.mem_cons.1 ha with rfl | ha
          · omega
          · have := b2 a ha; simp at this; omega
      · cases ha : atomW (c :: w0) with
        | none => rw [ha] at h; cases h
        | some q =>
          obtain ⟨x, d, w1⟩ := q
          rw [ha] at h
          simp only at h
          have l1 := atomW_len ha
          have l2 := markF_len x w1
          simp only [List.length_cons] at l1
          obtain ⟨b1, b2⟩ := ih (markF x w1).2 (by omega) _ l h
          refine ⟨by omega, fun a ha => ?_⟩
          have := b2 a ha
          rw [List.length_append, List.length_take] at this
          simp only [List.length_cons] at this
          omega

theorem ends_step {p s : List UInt8} {x : Nd} {d : Nat} (hp : p.length ≤ 100000) (hs : s.length ≤ 100000) (hE : ∀ u d' x, u.length < p.length → patW u = some (x, d', []) → ReachV 124 (fun vl => [.str u, .str s, vl]) x s) (hpat : patW p = some (x, d, [])) : ReachV 124 (fun vl => [.str p, .str s, vl]) x s := by
  intro l vl S hv hr hb
  have hcut := cut_pval (p := p) (by omega) (fun q hq => right_pval (by omega))
  cases hc : cutF [] p with
  | none =>
    have := cut_ok (w := p)
    rw [hc, okP_iff.2 ⟨x, d, hpat⟩] at this
    cases this
  | some alts =>
    rw [hc] at hcut
    simp only [altsV] at hcut
    obtain ⟨x', d', e1, e2⟩ := cut_some hc
    rw [hpat] at e1
    cases e1
    obtain ⟨b1, b2⟩ := alts_bound _ p (Nat.le_refl _) [] alts hc
    have main : ∀ Q : Fr → St → Prop, (∀ fr l', SlI (fr 6) l' → Ris l' → (∀ j ∈ l', j ≤ s.length) → (∀ j, j ∈ l' ↔ Rch x s (fun i => i ∈ l) j) → Q fr S) → Ok (gval T [.code ref07_Ends.body] (argsFr [.str p, .str s, vl]) S) Q := by
      intro Q ends
      simp -implicitDefEqProofs [ref07_Ends, hcut]
      refine ends_loop (p := p) (s := s) hp hs hE hv hr hb (all := alts) (by omega) (fun a ha => by have := b2 a ha; simpa using this) e2 [] [] _ rfl (by simpa using nilI) (by simp [Ris]) (by simp) (by simp) (by simp) (by simp) (by simp) (fun fr' l' a1 a2 a3 a4 => ?_)
      simp -implicitDefEqProofs
      exact ends _ l' (by simpa using a1) a2 a3 (fun j => by rw [a4]; simp)
    have key := cval_ex (T := T) (f := 124) (c := ref07_Ends) fn_124 (args := [.str p, .str s, vl]) (S := S) rfl (R := fun v S2 => S2 = S ∧ ∃ l', SlI v l' ∧ Ris l' ∧ (∀ j ∈ l', j ≤ s.length) ∧ ∀ j, j ∈ l' ↔ Rch x s (fun i => i ∈ l) j) ?_
    · obtain ⟨v, S2, k1, rfl, l', k2, k3, k4, k5⟩ := key
      exact ⟨v, l', k1, k2, k3, k4, k5⟩
    refine main _ (fun fr l' a1 a2 a3 a4 => ⟨[fr 6], rfl, ?_⟩)
    show (finish false S S (fr 6)).2 = S ∧ ∃ l', SlI (finish false S S (fr 6)).1 l' ∧ _
    rw [fin_free (Grows.refl S) a1.free, a1.frz]
    exact ⟨rfl, l', a1, a2, a3, a4⟩

theorem ends_all {s : List UInt8} (hs : s.length ≤ 100000) : ∀ (k : Nat) (p : List UInt8), p.length = k → k ≤ 100000 → ∀ x d, patW p = some (x, d, []) → ReachV 124 (fun vl => [.str p, .str s, vl]) x s := by
  intro k
  induction k using Nat.strongRecOn with
  | _ k ih =>
    intro p hp hk x d hpat
    exact ends_step (by omega) hs (fun u d' x' q1 q2 => ih u.length (by omega) u rfl (by omega) x' d' q2) hpat

theorem rfits_pval (p s : List UInt8) (hp : p.length ≤ maxLen) : pval T 43 [.str p, .str s] = some (.tup [.bool (fitsP p s), .int .i64 (fitsE p s)]) := by
  refine pval_st ?_ rfl rfl
  have hck := rcheck_pval p hp
  refine cval_ok' fn_43 rfl ?_
  have hne : ((chkP p : Int) != 0) = decide (chkP p ≠ 0) := by
    by_cases h : chkP p = 0
    · simp [h]
    · simp [h]
  by_cases hc : chkP p = 0
  · have hne' : ((chkP p : Int) != 0) = false := by rw [hne]; simp [hc]
    by_cases hs : 64 < s.length
    · have hs' : (64 : Int) < (s.length : Int) := by omega
      have hf : fitsP p s = false := by simp only [fitsP, decide_eq_false_iff_not]; rintro ⟨_, q, _⟩; omega
      have he : fitsE p s = 3 := by simp [fitsE, hc, hs]
      rw [hf, he]
      simp -implicitDefEqProofs [ref07_Fits, hck, hne', hs']
    · have hs' : ¬ (64 : Int) < (s.length : Int) := by omega
      obtain ⟨hl, x, d, hpat, _⟩ := chk_ok hc
      obtain ⟨v, l, k1, k2, k3, k4, k5⟩ := ends_all (s := s) (by omega) p.length p rfl (by omega) x d hpat [0] (.sl (some (0, 1)) [.int .i64 0] []) ⟨[], [(1, 1)]⟩ (.inr ⟨_, rfl⟩) (by simp [Ris]) (by simp)
      have k1' : cval T 124 [.str p, .str s, .sl (some (0, 1)) [.int .i64 0] []] ⟨[], [(1, 1)]⟩ = some (v, ⟨[], [(1, 1)]⟩) := k1
      have hll := isl_len k2.isl
      have hf : fitsP p s = decide (s.length ∈ l) := by
        rw [Bool.eq_iff_iff, decide_eq_true_eq, k5, fitsP_iff hpat hc (by omega)]
        have : Rch x s (fun i => i ∈ [0]) s.length ↔ Rch x s (fun i => decide (i = 0) = true) s.length := by
          constructor <;> (intro h; refine rch_mono h (fun i hi => ?_))
          · simpa using hi
          · simpa using hi
        rw [this, rch_start]
      have he : fitsE p s = 0 := by simp [fitsE, hc]; omega
      rw [hf, he]
      have fin : ∀ (b : Bool), finish false ⟨[], []⟩ ⟨[], [(1, 1)]⟩ (.tup [.bool b, .int .i64 0]) = (.tup [.bool b, .int .i64 0], ⟨[], []⟩) := fun b => fin_free ⟨[], [(1, 1)], rfl⟩ rfl
      rcases List.eq_nil_or_concat l with rfl | ⟨l0, z, hz⟩
      · have hll' : lenP false v = some (.int .i64 0) := hll
        simp -implicitDefEqProofs [ref07_Fits, hck, hne', hs', pstep, elems, setParts, St0, k1', hll']
        exact fin false
      · have hz' : l = l0 ++ [z] := by simpa using hz
        subst hz'
        have hll' : lenP false v = some (.int .i64 ((l0.length : Int) + 1)) := by rw [hll]; simp
        have hgt : (0 : Int) < (l0.length : Int) + 1 := by omega
        have hlb := ris_len k3 k4
        rw [List.length_append] at hlb
        have hwl : IntKind.i64.wrap ((l0.length : Int) + 1 - 1) = (l0.length : Int) := by rw [Int.add_sub_cancel]; exact wrap_i64 (by omega) (by omega)
        have hwl2 : IntKind.i64.wrap (l0.length : Int) = (l0.length : Int) := wrap_i64 (by omega) (by omega)
        have hlast := isl_last k2.isl (k := .i64)
        have hp1 : partOf false 1 [PV.int .i64 (z : Int)] = some (.int .i64 z) := rfl
        have hmem : decide (s.length ∈ l0 ++ [z]) = ((z : Int) == (s.length : Int)) := by
          rw [Bool.eq_iff_iff, decide_eq_true_eq]
          simp only [beq_iff_eq, List.mem_append, List.mem_singleton]
          constructor
          · rintro (h | h)
            · have h1 := (List.pairwise_append.1 k3).2.2 _ h z (by simp)
              have h2 := k4 z (by simp)
              omega
            · omega
          · intro h
            exact .inr (by omega)
        rw [hmem]
        simp -implicitDefEqProofs [ref07_Fits, hck, hne', hs', pstep, elems, setParts, St0, k1', hll', hgt, hwl, hwl2, hlast, hp1]
        exact fin _
  · have hne' : ((chkP p : Int) != 0) = true := by rw [hne]; simp [hc]
    have hf : fitsP p s = false := by simp [fitsP, hc]
    have he : fitsE p s = chkP p := by simp [fitsE, hc]
    rw [hf, he]
    simp -implicitDefEqProofs [ref07_Fits, hck, hne']

theorem core_Fits (p s : List UInt8) (hp : p.length ≤ maxLen) : cval T 10 [.str p, .str s] St0 = some (.bool true, St0) := by
  refine cval_ok' fn_10 rfl ?_
  simp -implicitDefEqProofs [law07_RegexFits, fits_pval, rfits_pval p s hp, lives_pval]
theorem law_RegexFits (xs : denL [.str, .str]) (h : wfL [.str, .str] xs) : ∃ S', cval T 10 (pvL [.str, .str] xs) St0 = some (.bool true, S') := by
  obtain ⟨p, s, u⟩ := xs
  obtain ⟨h1, _⟩ := h
  exact ⟨St0, core_Fits p s h1⟩
end Ps
