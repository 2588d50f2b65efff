/- Labels, read of a text by the document: the walk. -/
import Derived.Test.YtfimbhaiegkkeaaLW
namespace Ps
set_option linter.unusedSimpArgs false
open Go

theorem unR_some {b v q : List UInt8} (h : unR b = some (v, q)) : quotT v ++ q = b := by
  unfold unR at h
  split at h
  · cases h
  · split at h
    · cases h
    · split at h
      · rename_i e
        simp only [Option.some.injEq, Prod.mk.injEq] at h
        rw [← h.1, ← h.2]; exact e
      · cases h

theorem quotT_le (v : List UInt8) : v.length + 2 ≤ (quotT v).length := by
  have : ∀ v : List UInt8, v.length ≤ (v.flatMap escB).length := by
    intro v
    induction v with
    | nil => simp
    | cons c v ih =>
      have hc : 1 ≤ (escB c).length := by unfold escB; split; simp; split <;> simp
      rw [List.flatMap_cons, List.length_append, List.length_cons]; omega
  have := this v
  rw [quotT, List.length_append, List.length_cons, List.length_singleton]; omega

set_option maxHeartbeats 1000000 in
theorem rpa_loop {s : List UInt8} (hs : s.length ≤ 20000000) {S0 : St} {K : List Kt} {Q : Fr → St → Prop} : ∀ (n : Nat) (u pre : List UInt8) (l : List Lab), s = pre ++ u → u.length < n → wid l + 5 * u.length ≤ 100000000 → ∀ (fr : Fr) (S : St),
    fr 0 = .str s → fr 5 = .int .i64 pre.length → AccG S0 2 S (fr 4) (l.map labV) →
    (∀ l', rparA n l u = some l' → wid l' ≤ 100000000 → ∀ fr' S', fr' 0 = .str s → AccG S0 2 S' (fr' 4) (l'.map labV) → Ok (gval T K fr' S') Q) →
    (rparA n l u = none → ∀ fr' S', Grows S0 S' → fr' 2 = .nils → fr' 3 = .int .i64 14 → Q fr' S') →
    Ok (gval T (.lp ref06_Parse_l0 :: .blk 0 :: K) fr S) Q := by
  intro n
  induction n with
  | zero => intro u pre l hp hn; omega
  | succ n ih =>
    intro u pre l hp hn hw fr S h0 h5 ha k1 k3
    have hlen := ha.len
    rw [List.length_map] at hlen
    have hwl := wid_len l
    cases u with
    | nil =>
      rw [List.append_nil] at hp; subst hp
      rw [gval_lp]
      simp -implicitDefEqProofs [h0, h5]
      exact k1 l (by simp [rparA]) (by omega) _ _ (by simp [h0]) (by simpa using ha)
    | cons c r =>
      have hi : pre.length < s.length := by rw [hp]; simp
      have hc : s[pre.length] = c := by simp [hp]
      have hsl : s.length = pre.length + (r.length + 1) := by rw [hp]; simp
      by_cases q125 : c = 125
      · subst q125
        rw [gval_lp]
        simp -implicitDefEqProofs [h0, h5, hi, hc]
        exact k1 l (by simp [rparA]) (by omega) _ _ (by simp [h0]) (by simpa using ha)
      have f125 : ((c.toNat : Int) != 125) = true := by
        simp; intro e; exact q125 (UInt8.toNat_inj.1 (by show c.toNat = 125; omega))
      by_cases h8 : 8 < l.length
      · have h8' : ¬ (l.length : Int) ≤ 8 := by omega
        have h8'' : ¬ l.length ≤ 8 := by omega
        rw [gval_lp]
        simp -implicitDefEqProofs [h0, h5, hi, hc, f125, hlen, h8', h8'']
        exact k1 l (by simp [rparA, h8]) (by omega) _ _ (by simp [h0]) (by simpa using ha)
      have h8' : (l.length : Int) ≤ 8 := by omega
      have h8'' : l.length ≤ 8 := by omega
      have hno : ¬ (c :: r = [] ∨ (c :: r).head? = some 125 ∨ 8 < l.length) := by simp [q125]; omega
      have hp0 : rparA (n + 1) l (c :: r) = (match cutT (c :: r) with
        | none => none
        | some (a, b) => match unR b with
          | none => none
          | some (v, q) => rparA n (l ++ [(a, v, ())]) (skipC q)) := by
        rw [rparA, if_neg hno]
        cases cutT (c :: r) with
        | none => rfl
        | some ab =>
          obtain ⟨a, b⟩ := ab
          simp only
          cases unR b <;> rfl
      rw [hp0] at k1 k3
      rw [gval_lp]
      simp -implicitDefEqProofs [h0, h5, hi, hc, f125, hlen, h8', h8'']
      refine scan_loop (s := s) (by omega) (c :: r) pre hp _ (by simp [h0]) (by simp [h5]) (fun fr' g0 g4 g6 g5 => ?_)
      simp at g4 g6
      cases e1 : cutT (c :: r) with
      | none =>
        rw [e1] at k1 k3
        have hf : pre.length + far (c :: r) = s.length := by rw [far, e1]; simp [hsl]
        rw [hf] at g5
        simp -implicitDefEqProofs [g0, g5]
        exact k3 rfl _ _ ha.grows (by simp) (by simp)
      | some ab =>
        obtain ⟨a, b⟩ := ab
        obtain ⟨ec, _⟩ := cutT_some e1
        have hf : far (c :: r) = a.length := by rw [far, e1]
        rw [hf] at g5
        have hab : a.length + 1 + b.length = r.length + 1 := by
          have := congrArg List.length ec
          simp at this; omega
        rw [e1] at k1 k3
        simp only at k1 k3
        have hge : ¬ (s.length : Int) ≤ (pre.length : Int) + (a.length : Int) := by omega
        have w1 : IntKind.i64.wrap ((pre.length : Int) + (a.length : Int) + 1) = (pre.length : Int) + (a.length : Int) + 1 := wrap_i64 (by omega) (by omega)
        have b1 : bounds s.length s.length (some (.int .i64 ((pre.length : Int) + (a.length : Int) + 1))) none = some (pre.length + a.length + 1, s.length) := by
          have := bounds_lo (len := s.length) (cap := s.length) (lo := pre.length + a.length + 1) (k := .i64) (by omega)
          simpa using this
        have es : s = (pre ++ a ++ [61]) ++ b := by rw [hp, ec]; simp
        have el : pre.length + a.length + 1 = (pre ++ a ++ [61]).length := by simp; omega
        have d1 : s.drop (pre.length + a.length + 1) = b := by rw [el, es, List.drop_left]
        have hun := unq_val (s := b) (by omega)
        unfold unV at hun
        cases e2 : unR b with
        | none =>
          rw [e2] at k1 k3 hun
          simp only at k1 k3 hun
          simp -implicitDefEqProofs [g0, g5, hge, w1, b1, d1, hun]
          exact k3 trivial _ _ ha.grows (by simp) (by simp)
        | some vq =>
          obtain ⟨v, q⟩ := vq
          have eb := unR_some e2
          have hvl := quotT_le v
          have hbl : (quotT v).length + q.length = b.length := by rw [← eb]; simp
          rw [e2] at k1 k3 hun
          simp only at k1 k3 hun
          have hn0 : ((b.length : Int) - (q.length : Int) == 0) = false := by simp; omega
          have b2 : bounds s.length s.length (some (.int .i64 (pre.length : Int))) (some (.int .i64 ((pre.length : Int) + (a.length : Int)))) = some (pre.length, pre.length + a.length) := by
            have := bounds_lh (len := s.length) (cap := s.length) (lo := pre.length) (h := pre.length + a.length) (k := .i64) (j := .i64) (by omega) (by omega)
            simpa using this
          have d2 : (s.take (pre.length + a.length)).drop pre.length = a := by
            have e : s = (pre ++ a) ++ (61 :: b) := by rw [es]; simp
            have e' : pre.length + a.length = (pre ++ a).length := by simp
            rw [e', e, List.take_left, List.drop_left]
          have hbq : (b.length : Int) - (q.length : Int) = ((quotT v).length : Int) := by omega
          have es2 : s = (pre ++ a ++ [61] ++ quotT v) ++ q := by rw [es, ← eb]; simp
          have el2 : pre.length + a.length + 1 + (quotT v).length = (pre ++ a ++ [61] ++ quotT v).length := by simp; omega
          rw [hbq] at hun hn0
          have hz2 : 2 ≤ (quotT v).length := quotT_ge v
          have hsl2 : s.length = pre.length + a.length + 1 + (quotT v).length + q.length := by omega
          have w5 : IntKind.i64.wrap ((pre.length : Int) + (a.length : Int) + 1 + ((quotT v).length : Int)) = (pre.length : Int) + (a.length : Int) + 1 + ((quotT v).length : Int) := wrap_i64 (by omega) (by omega)
          have w6 : IntKind.i64.wrap ((pre.length : Int) + (a.length : Int) + 1 + ((quotT v).length : Int) + 1) = (pre.length : Int) + (a.length : Int) + 1 + ((quotT v).length : Int) + 1 := wrap_i64 (by omega) (by omega)
          have w7 : IntKind.i64.wrap ((pre.length : Int) + (a.length : Int) + 1 + ((quotT v).length : Int) + 2) = (pre.length : Int) + (a.length : Int) + 1 + ((quotT v).length : Int) + 2 := wrap_i64 (by omega) (by omega)
          have t7 : ((pre.length : Int) + (a.length : Int) + 1 + ((quotT v).length : Int)).toNat = pre.length + a.length + 1 + (quotT v).length := by omega
          have z7 : (0 : Int) ≤ (pre.length : Int) + (a.length : Int) + 1 + ((quotT v).length : Int) := by omega
          obtain ⟨v', S', a1, a2, a3⟩ := (ha.arrs [(1, 2)]).app (bytes := 32) [labV (a, v, ())] (by simp; omega)
          simp only [labV] at a1
          have next : ∀ (q' pre' : List UInt8), s = pre' ++ q' → skipC q = q' → q'.length ≤ q.length → ∀ fr'', fr'' 0 = .str s → fr'' 5 = .int .i64 pre'.length → fr'' 4 = v' → Ok (gval T (.lp ref06_Parse_l0 :: .blk 0 :: K) fr'' S') Q := by
            intro q' pre' x1 x2 x3 fr'' y0 y5 y4
            rw [x2] at k1 k3
            simp only [List.length_cons] at hn hw
            refine ih q' pre' (l ++ [(a, v, ())]) x1 (by omega) (by rw [wid_app]; simp only [wid]; omega) fr'' S' y0 y5 (by rw [y4]; simpa [labV] using a2) k1 k3
          generalize hz : (quotT v).length = z at *
          by_cases hc2 : ∃ e q2, q = 44 :: e :: q2
          · obtain ⟨e, q2, rfl⟩ := hc2
            simp only [List.length_cons] at hsl2
            have g8 : (pre.length : Int) + (a.length : Int) + 1 + (z : Int) + 1 < (s.length : Int) := by omega
            have i8 : pre.length + a.length + 1 + z < s.length := by omega
            have c8 : s[pre.length + a.length + 1 + z] = 44 := by
              have : s[pre.length + a.length + 1 + z]? = some 44 := by rw [el2, es2]; simp
              simpa [i8] using this
            simp -implicitDefEqProofs [g0, g4, g5, g6, hge, w1, b1, d1, hun, hn0, b2, d2, pstep, peval, fillParts, elems, setParts, putCells, a1, w5, w6, w7, t7, z7, g8, i8, c8]
            exact next q2 (pre ++ a ++ [61] ++ quotT v ++ [44, e]) (by rw [es2]; simp) rfl (by simp; omega) _ (by simp [g0]) (by simp [hz]; omega) (by simp)
          · have hsk : skipC q = q := by
              unfold skipC
              split
              · rename_i e q2; exact absurd ⟨_, _, rfl⟩ hc2
              · rfl
            by_cases g8 : (pre.length : Int) + (a.length : Int) + 1 + (z : Int) + 1 < (s.length : Int)
            · have i8 : pre.length + a.length + 1 + z < s.length := by omega
              obtain ⟨d, e, q2, rfl⟩ : ∃ d e q2, q = d :: e :: q2 := by
                cases q with
                | nil => simp at hsl2; omega
                | cons d q =>
                  cases q with
                  | nil => simp at hsl2; omega
                  | cons e q2 => exact ⟨d, e, q2, rfl⟩
              have c8 : s[pre.length + a.length + 1 + z] = d := by
                have : s[pre.length + a.length + 1 + z]? = some d := by rw [el2, es2]; simp
                simpa [i8] using this
              have f44 : ((d.toNat : Int) == 44) = false := by
                simp; intro e'
                exact hc2 ⟨e, q2, by rw [UInt8.toNat_inj.1 (show d.toNat = (44 : UInt8).toNat by show d.toNat = 44; omega)]⟩
              simp -implicitDefEqProofs [g0, g4, g5, g6, hge, w1, b1, d1, hun, hn0, b2, d2, pstep, peval, fillParts, elems, setParts, putCells, a1, w5, w6, w7, t7, z7, g8, i8, c8, f44]
              exact next _ (pre ++ a ++ [61] ++ quotT v) es2 hsk (Nat.le_refl _) _ (by simp [g0]) (by simp [hz]; omega) (by simp)
            · simp -implicitDefEqProofs [g0, g4, g5, g6, hge, w1, b1, d1, hun, hn0, b2, d2, pstep, peval, fillParts, elems, setParts, putCells, a1, w5, w6, w7, t7, z7, g8]
              exact next q (pre ++ a ++ [61] ++ quotT v) es2 hsk (Nat.le_refl _) _ (by simp [g0]) (by simp [hz]; omega) (by simp)
end Ps
