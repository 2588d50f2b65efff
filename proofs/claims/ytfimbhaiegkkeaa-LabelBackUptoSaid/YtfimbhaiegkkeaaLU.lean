/- The document's way to read a value: the walk. -/
import Derived.Test.YtfimbhaiegkkeaaLT
namespace Ps
set_option linter.unusedSimpArgs false
open Go

set_option maxHeartbeats 1000000 in
theorem un_loop {s : List UInt8} (hs : s.length ≤ 100000000) {S0 : St} {K : List Kt} {Q : Fr → St → Prop} : ∀ (n : Nat) (u pre b : List UInt8), s = pre ++ u → u.length < n → b.length + u.length ≤ 100000000 → ∀ (fr : Fr) (S : St),
    fr 0 = .str s → fr 5 = .int .i64 pre.length → AccG S0 1 S (fr 4) (ofBytes b) →
    (∀ v q, unA n u b = some (v, q) → ∀ fr' S' pre', fr' 0 = .str s → s = pre' ++ 34 :: q → fr' 5 = .int .i64 pre'.length → v.length ≤ 100000000 → AccG S0 1 S' (fr' 4) (ofBytes v) → Ok (gval T K fr' S') Q) →
    (unA n u b = none → ∀ fr' S', fr' 0 = .str s → fr' 5 = .int .i64 s.length → Grows S0 S' → Ok (gval T K fr' S') Q) →
    (unA n u b = none → ∀ fr' S', Grows S0 S' → fr' 2 = .str [] → fr' 3 = .int .i64 0 → Q fr' S') →
    Ok (gval T (.lp ref06_Unquoted_l0 :: .blk 0 :: K) fr S) Q := by
  intro n
  induction n with
  | zero => intro u pre b hp hn; omega
  | succ n ih =>
    intro u pre b hp hn hl fr S h0 h5 ha k1 k2 k3
    cases u with
    | nil =>
      rw [List.append_nil] at hp; subst hp
      rw [gval_lp]
      simp -implicitDefEqProofs [h0, h5]
      exact k2 (by simp [unA]) _ _ (by simp [h0]) (by simp [h5]) ha.grows
    | cons c r =>
      have hst : ∀ e : UInt8, ∃ v' S', appendTo 1 1 ⟨S.objs, S.tips ++ [(1, 1)]⟩ (fr 4) [.int .u8 (e.toNat : Int)] = some (v', S') ∧ AccG S0 1 S' v' (ofBytes (b ++ [e])) ∧ S'.objs = S.objs := by
        intro e
        have := (ha.arrs [(1, 1)]).app (bytes := 1) (ofBytes [e]) (by rw [ofBytes_len, ofBytes_len]; simp at hl ⊢; omega)
        rw [← ofBytes_app] at this
        exact this
      have hi : pre.length < s.length := by rw [hp]; simp
      have hc : s[pre.length] = c := by simp [hp]
      have hsl : s.length = pre.length + (r.length + 1) := by rw [hp]; simp
      simp only [List.length_cons] at hn hl
      have w1 : IntKind.i64.wrap ((pre.length : Int) + 1) = (pre.length : Int) + 1 := wrap_i64 (by omega) (by omega)
      have w2 : IntKind.i64.wrap ((pre.length : Int) + 2) = (pre.length : Int) + 2 := wrap_i64 (by omega) (by omega)
      have w3 : IntKind.i64.wrap ((pre.length : Int) + 3) = (pre.length : Int) + 3 := wrap_i64 (by omega) (by omega)
      have w4 : IntKind.i64.wrap ((pre.length : Int) + 4) = (pre.length : Int) + 4 := wrap_i64 (by omega) (by omega)
      have t1 : ((pre.length : Int) + 1).toNat = pre.length + 1 := by omega
      have t2 : ((pre.length : Int) + 2).toNat = pre.length + 2 := by omega
      have t3 : ((pre.length : Int) + 3).toNat = pre.length + 3 := by omega
      have z1 : (0 : Int) ≤ (pre.length : Int) + 1 := by omega
      have z2 : (0 : Int) ≤ (pre.length : Int) + 2 := by omega
      have z3 : (0 : Int) ≤ (pre.length : Int) + 3 := by omega
      by_cases q34 : c = 34
      · subst q34
        rw [gval_lp]
        simp -implicitDefEqProofs [h0, h5, hi, hc]
        exact k1 b r (by simp [unA]) _ _ pre (by simp [h0]) hp (by simp [h5]) (by omega) (by simpa using ha)
      have f34 : ((c.toNat : Int) == 34) = false := by
        simp; intro e; exact q34 (UInt8.toNat_inj.1 (by show c.toNat = 34; omega))
      have f34' : ((c.toNat : Int) != 34) = true := by simp only [bne, f34]; rfl
      by_cases q92 : c = 92
      · subst q92
        cases r with
        | nil =>
          have g1 : ¬ (pre.length : Int) + 1 < (s.length : Int) := by simp at hsl; omega
          have g3 : ¬ (pre.length : Int) + 3 < (s.length : Int) := by simp at hsl; omega
          rw [gval_lp]
          simp -implicitDefEqProofs [h0, h5, hi, hc, w1, w3, g1, g3]
          exact k3 (by simp [unA]) _ _ ha.grows (by simp) (by simp)
        | cons d r2 =>
          have i1 : pre.length + 1 < s.length := by simp at hsl; omega
          have c1 : s[pre.length + 1] = d := by simp [hp]
          have g1 : (pre.length : Int) + 1 < (s.length : Int) := by omega
          simp only [List.length_cons] at hn hl hsl
          by_cases d1 : d = 92 ∨ d = 34
          · obtain ⟨v', S', e1, e2, e3⟩ := hst d
            have hv : unA (n + 1) (92 :: d :: r2) b = unA n r2 (b ++ [d]) := by simp [unA, d1]
            rw [hv] at k1 k2 k3
            have L := fun fr' (g0 : fr' 0 = .str s) (g5 : fr' 5 = .int .i64 ((pre.length : Int) + 2)) (g4 : fr' 4 = v') => ih r2 (pre ++ [92, d]) (b ++ [d]) (by simp [hp]) (by omega) (by simp; omega) fr' S' g0 (by simpa using g5) (by rw [g4]; exact e2) k1 k2 k3
            rcases d1 with rfl | rfl
            · rw [gval_lp]
              have e1' : appendTo 1 1 ⟨S.objs, S.tips ++ [(1, 1)]⟩ (fr 4) [.int .u8 92] = some (v', S') := e1
              simp -implicitDefEqProofs [h0, h5, hi, hc, i1, c1, g1, w1, w2, t1, z1, pstep, elems, setParts, e1']
              exact L _ (by simp [h0]) (by simp) (by simp)
            · rw [gval_lp]
              have e1' : appendTo 1 1 ⟨S.objs, S.tips ++ [(1, 1)]⟩ (fr 4) [.int .u8 34] = some (v', S') := e1
              simp -implicitDefEqProofs [h0, h5, hi, hc, i1, c1, g1, w1, w2, t1, z1, pstep, elems, setParts, e1']
              exact L _ (by simp [h0]) (by simp) (by simp)
          have fd1 : ((d.toNat : Int) == 92) = false := by
            simp; intro e; exact d1 (.inl (UInt8.toNat_inj.1 (by show d.toNat = 92; omega)))
          have fd2 : ((d.toNat : Int) == 34) = false := by
            simp; intro e; exact d1 (.inr (UInt8.toNat_inj.1 (by show d.toNat = 34; omega)))
          by_cases d2 : d = 120
          · subst d2
            by_cases hlen : 2 ≤ r2.length
            · obtain ⟨x, y, r4, rfl⟩ : ∃ x y r4, r2 = x :: y :: r4 := by
                cases r2 with
                | nil => simp at hlen
                | cons x r3 =>
                  cases r3 with
                  | nil => simp at hlen
                  | cons y r4 => exact ⟨x, y, r4, rfl⟩
              simp only [List.length_cons] at hn hl hsl
              have i2 : pre.length + 2 < s.length := by omega
              have i3 : pre.length + 3 < s.length := by omega
              have c2 : s[pre.length + 2] = x := by simp [hp]
              have c3 : s[pre.length + 3] = y := by simp [hp]
              have g3 : (pre.length : Int) + 3 < (s.length : Int) := by omega
              have dx := digit_val (c := x)
              have dy := digit_val (c := y)
              unfold findI at dx dy
              cases e1 : findB hexD x with
              | none =>
                have hv : unA (n + 1) (92 :: 120 :: x :: y :: r4) b = none := by simp [unA, e1]
                rw [e1] at dx
                simp only at dx
                rw [gval_lp]
                simp -implicitDefEqProofs [h0, h5, hi, hc, i1, c1, i2, c2, i3, c3, g1, g3, w1, w2, w3, t1, t2, t3, z1, z2, z3, dx, purV]
                exact k3 hv _ _ ha.grows (by simp) (by simp)
              | some m =>
                rw [e1] at dx
                have hm := findB_lt e1
                have gm : (0 : Int) ≤ (m : Int) := by omega
                cases e2 : findB hexD y with
                | none =>
                  have hv : unA (n + 1) (92 :: 120 :: x :: y :: r4) b = none := by simp [unA, e1, e2]
                  rw [e2] at dy
                  simp only at dx dy
                  rw [gval_lp]
                  simp -implicitDefEqProofs [h0, h5, hi, hc, i1, c1, i2, c2, i3, c3, g1, g3, w1, w2, w3, t1, t2, t3, z1, z2, z3, dx, dy, gm, purV]
                  exact k3 hv _ _ ha.grows (by simp) (by simp)
                | some k =>
                  rw [e2] at dy
                  simp only at dx dy
                  have hk := findB_lt e2
                  have gk : (0 : Int) ≤ (k : Int) := by omega
                  have hv : unA (n + 1) (92 :: 120 :: x :: y :: r4) b = unA n r4 (b ++ [UInt8.ofNat (16 * m + k)]) := by simp [unA, e1, e2]
                  obtain ⟨v', S', e3, e4, e5⟩ := hst (UInt8.ofNat (16 * m + k))
                  have u1 : IntKind.i64.wrap (16 * (m : Int)) = 16 * (m : Int) := wrap_i64 (by omega) (by omega)
                  have u2 : IntKind.i64.wrap (16 * (m : Int) + (k : Int)) = 16 * (m : Int) + (k : Int) := wrap_i64 (by omega) (by omega)
                  have u3 : IntKind.u8.wrap (16 * (m : Int) + (k : Int)) = ((UInt8.ofNat (16 * m + k)).toNat : Int) := by
                    rw [wrap_u8 (by omega) (by omega)]
                    simp only [UInt8.toNat_ofNat']; omega
                  rw [← u3] at e3
                  rw [hv] at k1 k2 k3
                  rw [gval_lp]
                  simp -implicitDefEqProofs [h0, h5, hi, hc, i1, c1, i2, c2, i3, c3, g1, g3, w1, w2, w3, w4, t1, t2, t3, z1, z2, z3, dx, dy, gm, gk, u1, u2, purV, pstep, elems, setParts, e3]
                  exact ih r4 (pre ++ [92, 120, x, y]) (b ++ [UInt8.ofNat (16 * m + k)]) (by simp [hp]) (by omega) (by simp; omega) _ S' (by simp [h0]) (by simp) (by simpa using e4) k1 k2 k3
            · have g3 : ¬ (pre.length : Int) + 3 < (s.length : Int) := by omega
              have hv : unA (n + 1) (92 :: 120 :: r2) b = none := by
                cases r2 with
                | nil => simp [unA]
                | cons x r3 =>
                  cases r3 with
                  | nil => simp [unA]
                  | cons y r4 => simp at hlen
              rw [gval_lp]
              simp -implicitDefEqProofs [h0, h5, hi, hc, i1, c1, g1, g3, w1, w2, w3, t1, z1]
              exact k3 hv _ _ ha.grows (by simp) (by simp)
          · have fd3 : ((d.toNat : Int) == 120) = false := by
              simp; intro e; exact d2 (UInt8.toNat_inj.1 (by show d.toNat = 120; omega))
            have hv : unA (n + 1) (92 :: d :: r2) b = none := by simp [unA, d1, d2]
            by_cases g3 : (pre.length : Int) + 3 < (s.length : Int)
            · rw [gval_lp]
              simp -implicitDefEqProofs [h0, h5, hi, hc, i1, c1, g1, g3, w1, w2, w3, t1, z1, fd1, fd2, fd3]
              exact k3 hv _ _ ha.grows (by simp) (by simp)
            · rw [gval_lp]
              simp -implicitDefEqProofs [h0, h5, hi, hc, i1, c1, g1, g3, w1, w2, w3, t1, z1, fd1, fd2, fd3]
              exact k3 hv _ _ ha.grows (by simp) (by simp)
      · have f92 : ((c.toNat : Int) == 92) = false := by
          simp; intro e; exact q92 (UInt8.toNat_inj.1 (by show c.toNat = 92; omega))
        obtain ⟨v', S', e1, e2, e3⟩ := hst c
        have hv : unA (n + 1) (c :: r) b = unA n r (b ++ [c]) := by simp [unA, q34, q92]
        rw [hv] at k1 k2 k3
        rw [gval_lp]
        simp -implicitDefEqProofs [h0, h5, hi, hc, f34, f34', f92, pstep, elems, setParts, e1, w1]
        exact ih r (pre ++ [c]) (b ++ [c]) (by simp [hp]) (by omega) (by simp; omega) _ S' (by simp [h0]) (by simp) (by simpa using e2) k1 k2 k3
end Ps
