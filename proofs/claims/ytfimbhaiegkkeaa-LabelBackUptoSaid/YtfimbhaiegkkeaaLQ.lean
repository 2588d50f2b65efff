/- A value between its marks, read. -/
import Derived.Test.YtfimbhaiegkkeaaLO
namespace Ps
set_option linter.unusedSimpArgs false
open Go

theorem fn_94 : T.fn 94 = some (.code strings_CutPrefix) := rfl
theorem fn_208 : T.fn 208 = some (.code stringslite_CutPrefix) := rfl
theorem fn_210 : T.fn 210 = some (.code strings_HasPrefix) := rfl
theorem fn_297 : T.fn 297 = some (.code stringslite_HasPrefix) := rfl
theorem fn_95 : T.fn 95 = some (.code strings_Cut) := rfl
theorem fn_209 : T.fn 209 = some (.code stringslite_Cut) := rfl
theorem fn_298 : T.fn 298 = some (.code stringslite_Index) := rfl
theorem fn_299 : T.fn 299 = some (.code stringslite_IndexByte) := rfl
theorem fn_211 : T.fn 211 = some (.code strings_IndexByte) := rfl
theorem fn_351 : T.fn 351 = some .indexByte := rfl

/-- What is left behind a front. -/
def stripP : List UInt8 → List UInt8 → Option (List UInt8)
  | [], s => some s
  | _ :: _, [] => none
  | a :: p, b :: s => if a = b then stripP p s else none

theorem stripP_some : ∀ {p s r : List UInt8}, stripP p s = some r → s = p ++ r
  | [], s, r, h => by simpa [stripP] using h
  | a :: p, [], r, h => by simp [stripP] at h
  | a :: p, b :: s, r, h => by
    simp only [stripP] at h
    split at h
    · rename_i e; rw [stripP_some h, e]; rfl
    · cases h
theorem stripP_app : ∀ (p r : List UInt8), stripP p (p ++ r) = some r
  | [], r => rfl
  | a :: p, r => by simp [stripP, stripP_app p r]
theorem stripP_bool (p s : List UInt8) : (s.take p.length == p && decide (p.length ≤ s.length)) = (stripP p s).isSome := by
  cases h : stripP p s with
  | some r => rw [stripP_some h]; simp
  | none =>
    simp only [Option.isSome_none]
    rw [Bool.and_eq_false_iff]
    by_cases e : s.take p.length = p
    · have : s = p ++ s.drop p.length := by rw [← List.take_append_drop p.length s]; rw [e]; simp
      rw [this, stripP_app] at h; cases h
    · exact .inl (by simpa using e)

theorem hasPre_val {s p : List UInt8} (h1 : s.length ≤ maxLen) (S : St) : cval T 297 [.str s, .str p] S = some (.bool (stripP p s).isSome, S) := by
  refine cval_ok' fn_297 rfl ?_
  have hb := stripP_bool p s
  by_cases h : p.length ≤ s.length
  · have hbo : bounds s.length s.length none (some (.int .i64 (p.length : Int))) = some (0, p.length) := bounds_hi h
    simp [h] at hb
    simp -implicitDefEqProofs [stringslite_HasPrefix, h, hbo]
    exact hb
  · simp [h] at hb
    simp -implicitDefEqProofs [stringslite_HasPrefix, h]
    exact hb
theorem hasPre_pv {s p : List UInt8} (h1 : s.length ≤ maxLen) : pval T 297 [.str s, .str p] = some (.bool (stripP p s).isSome) := pval_st (hasPre_val h1 St0) rfl rfl
theorem hasP_val {s p : List UInt8} (h1 : s.length ≤ maxLen) : pval T 210 [.str s, .str p] = some (.bool (stripP p s).isSome) := by
  refine pval_st (cval_ok' fn_210 rfl ?_) rfl rfl
  simp -implicitDefEqProofs [strings_HasPrefix, hasPre_pv h1]

def cutPV (p s : List UInt8) : PV := match stripP p s with
  | some r => .tup [.str r, .bool true]
  | none => .tup [.str s, .bool false]
theorem cutP_val {s p : List UInt8} (h1 : s.length ≤ maxLen) : pval T 208 [.str s, .str p] = some (cutPV p s) := by
  have hp := hasPre_pv (s := s) (p := p) h1
  unfold cutPV
  cases h : stripP p s with
  | none =>
    rw [h] at hp
    refine pval_st (cval_ok' fn_208 rfl ?_) rfl rfl
    simp -implicitDefEqProofs [stringslite_CutPrefix, hp]
  | some r =>
    rw [h] at hp
    have e := stripP_some h
    have hbo : bounds s.length s.length (some (.int .i64 (p.length : Int))) none = some (p.length, s.length) := bounds_lo (by rw [e]; simp)
    have hd : s.drop p.length = r := by rw [e]; simp
    refine pval_st (cval_ok' fn_208 rfl ?_) rfl rfl
    simp -implicitDefEqProofs [stringslite_CutPrefix, hp, hbo, hd]
theorem cutPre_val {s p : List UInt8} (h1 : s.length ≤ maxLen) : pval T 94 [.str s, .str p] = some (cutPV p s) := by
  have hp := cutP_val (s := s) (p := p) h1
  unfold cutPV at hp ⊢
  cases h : stripP p s with
  | none =>
    rw [h] at hp
    refine pval_st (cval_ok' fn_94 rfl ?_) rfl rfl
    simp -implicitDefEqProofs [strings_CutPrefix, hp]
  | some r =>
    rw [h] at hp
    refine pval_st (cval_ok' fn_94 rfl ?_) rfl rfl
    simp -implicitDefEqProofs [strings_CutPrefix, hp]

/-! A byte's place. -/
def findB (s : List UInt8) (c : UInt8) : Option Nat := (List.range s.length).find? (fun i => (s.getD i 0) == c)
def findI (s : List UInt8) (c : UInt8) : Int := match findB s c with | some i => (i : Int) | none => -1
theorem idxB_351 {s : List UInt8} {c : UInt8} (S : St) : cval T 351 [.str s, .int .u8 (c.toNat : Int)] S = some (.int .i64 (findI s c), S) := by
  refine cval_some.2 ⟨1, ?_⟩
  have e : UInt8.ofNat ((c.toNat : Int).toNat) = c := by simp
  simp only [pcall, fn_351, indexByteP, e]; rfl
theorem idxB_299 {s : List UInt8} {c : UInt8} : pval T 299 [.str s, .int .u8 (c.toNat : Int)] = some (.int .i64 (findI s c)) := by
  refine pval_st (cval_ok' fn_299 rfl ?_) rfl rfl
  have h := pval_st (idxB_351 (s := s) (c := c) St0) rfl rfl
  simp -implicitDefEqProofs [stringslite_IndexByte, h]
theorem idxB_val {s : List UInt8} {c : UInt8} : pval T 211 [.str s, .int .u8 (c.toNat : Int)] = some (.int .i64 (findI s c)) := by
  refine pval_st (cval_ok' fn_211 rfl ?_) rfl rfl
  simp -implicitDefEqProofs [strings_IndexByte, idxB_299]
theorem idx_val {s : List UInt8} : pval T 298 [.str s, .str [61]] = some (.int .i64 (findI s 61)) := by
  refine pval_st (cval_ok' fn_298 rfl ?_) rfl rfl
  have h := idxB_299 (s := s) (c := 61)
  have e : (((61 : UInt8).toNat : Nat) : Int) = 61 := rfl
  rw [e] at h
  simp -implicitDefEqProofs [stringslite_Index, h]
  refine ok_br (fun a => ?_) (fun _ => by simp)
  have a' : s = [61] := by simpa using (beq_iff_eq.1 a).symm
  have : findI s 61 = 0 := by rw [a']; rfl
  simp [this]

/-- Cut at the first byte 61. -/
def cutT : List UInt8 → Option (List UInt8 × List UInt8)
  | [] => none
  | c :: s => if c = 61 then some ([], s) else (cutT s).map fun q => (c :: q.1, q.2)
theorem cutT_some : ∀ {s a b : List UInt8}, cutT s = some (a, b) → s = a ++ 61 :: b ∧ 61 ∉ a
  | [], a, b, h => by simp [cutT] at h
  | c :: s, a, b, h => by
    simp only [cutT] at h
    split at h
    · rename_i e; subst e; simp only [Option.some.injEq, Prod.mk.injEq] at h; obtain ⟨rfl, rfl⟩ := h; simp
    · rename_i e
      obtain ⟨⟨x, y⟩, h1, h2⟩ := Option.map_eq_some_iff.1 h
      simp only [Prod.mk.injEq] at h2
      obtain ⟨rfl, rfl⟩ := h2
      obtain ⟨q1, q2⟩ := cutT_some h1
      exact ⟨by rw [q1]; rfl, by simp [q2]; exact fun q => e q.symm⟩
theorem cutT_none : ∀ {s : List UInt8}, cutT s = none → 61 ∉ s
  | [], _ => by simp
  | c :: s, h => by
    simp only [cutT] at h
    split at h
    · cases h
    · rename_i e
      have := cutT_none (s := s) (by simpa using h)
      simp [this]; exact fun q => e q.symm
theorem cutT_app {a b : List UInt8} (h : 61 ∉ a) : cutT (a ++ 61 :: b) = some (a, b) := by
  induction a with
  | nil => simp [cutT]
  | cons c a ih =>
    simp only [List.mem_cons, not_or] at h
    rw [List.cons_append, cutT, if_neg (fun q => h.1 q.symm), ih h.2]; rfl
theorem findI_cut {s : List UInt8} : findI s 61 = match cutT s with | some (a, _) => (a.length : Int) | none => -1 := by
  unfold findI findB
  cases h : cutT s with
  | none =>
    have hn := cutT_none h
    have : (List.range s.length).find? (fun i => (s.getD i 0) == 61) = none := by
      rw [List.find?_eq_none]
      intro i hi e
      have hi' : i < s.length := by simpa using hi
      have : s[i] = 61 := by simpa [hi'] using e
      exact hn (this ▸ List.getElem_mem hi')
    rw [this]
  | some q =>
    obtain ⟨a, b⟩ := q
    obtain ⟨e, hn⟩ := cutT_some h
    have : (List.range s.length).find? (fun i => (s.getD i 0) == 61) = some a.length := by
      rw [List.find?_range_eq_some]
      subst e
      refine ⟨by simp, by simp, fun j hj => ?_⟩
      simp only [List.getD_eq_getElem?_getD, List.getElem?_append_left hj]
      simp [hj]
      intro e
      exact hn (e ▸ List.getElem_mem hj)
    rw [this]
def cutV (s : List UInt8) : PV := match cutT s with
  | some (a, b) => .tup [.str a, .str b, .bool true]
  | none => .tup [.str s, .str [], .bool false]
theorem cut_209 {s : List UInt8} (hs : s.length ≤ 1000000000) : pval T 209 [.str s, .str [61]] = some (cutV s) := by
  have hi := idx_val (s := s)
  rw [findI_cut] at hi
  unfold cutV
  refine pval_st (cval_ok' fn_209 rfl ?_) ?_ ?_
  · cases h : cutT s with
    | none =>
      rw [h] at hi
      simp -implicitDefEqProofs [stringslite_Cut, hi]
    | some q =>
      obtain ⟨a, b⟩ := q
      rw [h] at hi
      obtain ⟨e, _⟩ := cutT_some h
      have hl : a.length + 1 + b.length = s.length := by rw [e]; simp; omega
      have hw : IntKind.i64.wrap ((a.length : Int) + 1) = ((a.length + 1 : Nat) : Int) := wrap_len (by omega)
      have b1 : bounds s.length s.length none (some (.int .i64 (a.length : Int))) = some (0, a.length) := bounds_hi (by omega)
      have b2 : bounds s.length s.length (some (.int .i64 ((a.length : Int) + 1))) none = some (a.length + 1, s.length) := by
        have := bounds_lo (len := s.length) (cap := s.length) (lo := a.length + 1) (k := .i64) (by omega)
        simpa using this
      have d1 : s.take a.length = a := by rw [e]; simp
      have d2 : s.drop (a.length + 1) = b := by rw [e]; simp
      have g0 : (0 : Int) ≤ (a.length : Int) := by omega
      simp only at hi
      simp -implicitDefEqProofs [stringslite_Cut, hi, hw, b1, b2, d1, d2, g0]
  · cases cutT s <;> rfl
  · cases cutT s <;> rfl
theorem cutS_val {s : List UInt8} (hs : s.length ≤ 1000000000) : pval T 95 [.str s, .str [61]] = some (cutV s) := by
  have hc := cut_209 hs
  unfold cutV at hc ⊢
  refine pval_st (cval_ok' fn_95 rfl ?_) ?_ ?_
  · cases h : cutT s with
    | none => rw [h] at hc; simp -implicitDefEqProofs [strings_Cut, hc]
    | some q => rw [h] at hc; simp -implicitDefEqProofs [strings_Cut, hc]
  · cases cutT s <;> rfl
  · cases cutT s <;> rfl

theorem fn_96 : T.fn 96 = some (.code label_value) := rfl

/-- What a value's text comes to, from behind its first mark on. -/
def valA : Nat → List UInt8 → List UInt8 → Option (List UInt8 × List UInt8)
  | 0, _, _ => none
  | _ + 1, [], _ => none
  | n + 1, c :: r, b => if c = 34 then some (b, r) else if c = 92 then
      (match r with
      | [] => none
      | d :: r2 => if d = 120 then
          (match r2 with
          | h :: l :: r3 => (match findB hexD h, findB hexD l with
            | some x, some y => valA n r3 (b ++ [UInt8.ofNat (16 * x + y)])
            | _, _ => none)
          | _ => none) else valA n r2 (b ++ [d])) else valA n r (b ++ [c])

theorem findB_lt {c : UInt8} {x : Nat} (h : findB hexD c = some x) : x < 16 := by
  have := List.mem_of_find?_eq_some h
  simpa [hexD] using this
theorem ar_shl4 {a : Int} : arith .shl (.int .i64 a) (.int .u64 4) = some (.int .i64 (IntKind.i64.wrap (a * 16))) := rfl
theorem or16_fin : ∀ m k : Fin 16, orI .i64 ((16 * m.val : Nat) : Int) ((k.val : Nat) : Int) = ((16 * m.val + k.val : Nat) : Int) := by decide +kernel

theorem v_loop {S0 : St} {K : List Kt} {Q : Fr → St → Prop} : ∀ (n : Nat) (rest b : List UInt8), rest.length < n → b.length + rest.length ≤ 100000000 → ∀ (fr : Fr) (S : St),
    fr 5 = .str rest → fr 6 = .bool true → AccG S0 1 S (fr 7) (ofBytes b) →
    (∀ b' r', valA n rest b = some (b', r') → ∀ fr' S', fr' 5 = .str (34 :: r') → fr' 6 = .bool true → b'.length ≤ 100000000 → r'.length ≤ rest.length → AccG S0 1 S' (fr' 7) (ofBytes b') → Ok (gval T K fr' S') Q) →
    (valA n rest b = none → ∀ fr' S', fr' 5 = .str [] → fr' 6 = .bool true → Grows S0 S' → Ok (gval T K fr' S') Q) →
    (valA n rest b = none → ∀ fr' S', Grows S0 S' → fr' 2 = .str [] → fr' 3 = .str [] → fr' 4 = .bool false → Q fr' S') →
    Ok (gval T (.lp label_value_l0 :: .blk 0 :: K) fr S) Q := by
  intro n
  induction n with
  | zero => intro rest b hn; omega
  | succ n ih =>
    intro rest b hn hl fr S h5 h6 ha k1 k2 k3
    cases rest with
    | nil =>
      rw [gval_lp]
      simp -implicitDefEqProofs [h5, h6]
      exact k2 (by simp [valA]) _ _ (by simp [h5]) (by simp [h6]) ha.grows
    | cons c r =>
      have hst : ∀ e : UInt8, ∃ v' S', appendTo 1 1 ⟨S.objs, S.tips ++ [(1, 1)]⟩ (fr 7) [.int .u8 (e.toNat : Int)] = some (v', S') ∧ AccG S0 1 S' v' (ofBytes (b ++ [e])) ∧ S'.objs = S.objs := by
        intro e
        have := (ha.arrs [(1, 1)]).app (bytes := 1) (ofBytes [e]) (by rw [ofBytes_len, ofBytes_len]; simp at hl ⊢; omega)
        rw [← ofBytes_app] at this
        exact this
      simp only [List.length_cons] at hn hl
      by_cases q34 : c = 34
      · subst q34
        rw [gval_lp]
        simp -implicitDefEqProofs [h5, h6]
        exact k1 b r (by simp [valA]) _ _ (by simp [h5]) (by simp [h6]) (by omega) (by simp) (by simpa using ha)
      have f34 : ((c.toNat : Int) == 34) = false := by
        simp; intro e; exact q34 (UInt8.toNat_inj.1 (by show c.toNat = 34; omega))
      have f34' : ((c.toNat : Int) != 34) = true := by simp only [bne, f34]; rfl
      by_cases q92 : c = 92
      · subst q92
        cases r with
        | nil =>
          have hp := hasP_val (s := [92]) (p := [92, 120]) (by decide)
          rw [gval_lp]
          simp -implicitDefEqProofs [h5, h6, hp, stripP]
          exact k3 (by simp [valA]) _ _ ha.grows (by simp) (by simp) (by simp)
        | cons d r2 =>
          simp only [List.length_cons] at hn hl
          have hp := hasP_val (s := 92 :: d :: r2) (p := [92, 120]) (by unfold maxLen; simp; omega)
          by_cases q120 : d = 120
          · subst q120
            have hs : (stripP [92, 120] (92 :: 120 :: r2)).isSome = true := rfl
            rw [hs] at hp
            cases r2 with
            | nil =>
              rw [gval_lp]
              simp -implicitDefEqProofs [h5, h6, hp]
              exact k3 (by simp [valA]) _ _ ha.grows (by simp) (by simp) (by simp)
            | cons h r3 =>
              cases r3 with
              | nil =>
                rw [gval_lp]
                simp -implicitDefEqProofs [h5, h6, hp]
                exact k3 (by simp [valA]) _ _ ha.grows (by simp) (by simp) (by simp)
              | cons l r4 =>
                have i1 := idxB_val (s := hexD) (c := h)
                have i2 := idxB_val (s := hexD) (c := l)
                unfold findI at i1 i2
                simp only [List.length_cons] at hn hl
                have g4 : ¬ (r4.length : Int) + 1 + 1 + 1 + 1 < 4 := by omega
                have hb : bounds (r4.length + 1 + 1 + 1 + 1) (r4.length + 1 + 1 + 1 + 1) (some (.int .i64 4)) none = some (4, r4.length + 1 + 1 + 1 + 1) := bounds_lo (lo := 4) (by omega)
                cases e1 : findB hexD h with
                | none =>
                  rw [e1] at i1
                  have hv : valA (n + 1) (92 :: 120 :: h :: l :: r4) b = none := by simp [valA, e1]
                  cases e2 : findB hexD l with
                  | none =>
                    rw [e2] at i2
                    simp only at i1 i2
                    rw [gval_lp]
                    simp -implicitDefEqProofs [h5, h6, hp, g4, hexD_eq, i1, i2]
                    exact k3 hv _ _ ha.grows (by simp) (by simp) (by simp)
                  | some y =>
                    rw [e2] at i2
                    simp only at i1 i2
                    rw [gval_lp]
                    simp -implicitDefEqProofs [h5, h6, hp, g4, hexD_eq, i1, i2]
                    exact k3 hv _ _ ha.grows (by simp) (by simp) (by simp)
                | some x =>
                  rw [e1] at i1
                  have hx := findB_lt e1
                  have gx : ¬ (x : Int) < 0 := by omega
                  cases e2 : findB hexD l with
                  | none =>
                    rw [e2] at i2
                    simp only at i1 i2
                    have hv : valA (n + 1) (92 :: 120 :: h :: l :: r4) b = none := by simp [valA, e1, e2]
                    rw [gval_lp]
                    simp -implicitDefEqProofs [h5, h6, hp, g4, hexD_eq, i1, i2, gx]
                    exact k3 hv _ _ ha.grows (by simp) (by simp) (by simp)
                  | some y =>
                    rw [e2] at i2
                    simp only at i1 i2
                    have hy := findB_lt e2
                    have gy : ¬ (y : Int) < 0 := by omega
                    have hv : valA (n + 1) (92 :: 120 :: h :: l :: r4) b = valA n r4 (b ++ [UInt8.ofNat (16 * x + y)]) := by simp [valA, e1, e2]
                    obtain ⟨v', S', e3, e4, e5⟩ := hst (UInt8.ofNat (16 * x + y))
                    have w1 : IntKind.i64.wrap ((x : Int) * 16) = ((16 * x : Nat) : Int) := by rw [wrap_i64 (by omega) (by omega)]; omega
                    have w2 : IntKind.u8.wrap (orI .i64 (IntKind.i64.wrap ((x : Int) * 16)) (y : Int)) = ((UInt8.ofNat (16 * x + y)).toNat : Int) := by
                      rw [w1, or16_fin ⟨x, hx⟩ ⟨y, hy⟩, wrap_u8 (by simp only; omega) (by simp only; omega)]
                      simp only [UInt8.toNat_ofNat']; omega
                    rw [← w2] at e3
                    rw [hv] at k1 k2 k3
                    rw [gval_lp]
                    simp -implicitDefEqProofs [h5, h6, hp, g4, hexD_eq, i1, i2, gx, gy, ar_shl4, pstep, elems, setParts, e3, hb]
                    refine ih r4 (b ++ [UInt8.ofNat (16 * x + y)]) (by omega) (by simp; omega) _ S' (by simp) (by simp [h6]) (by simpa using e4) (fun b' r' g => fun fr' S'' x1 x2 x3 x4 x5 => k1 b' r' g fr' S'' x1 x2 x3 (by simp; omega) x5) k2 k3
          · have hs : (stripP [92, 120] (92 :: d :: r2)).isSome = false := by simp [stripP, show ¬ (120 = d) from fun e => q120 e.symm]
            rw [hs] at hp
            obtain ⟨v', S', e1, e2, e3⟩ := hst d
            have hb : bounds (r2.length + 1 + 1) (r2.length + 1 + 1) (some (.int .i64 2)) none = some (2, r2.length + 1 + 1) := bounds_lo (lo := 2) (by omega)
            have hw1 : IntKind.i64.wrap 1 = 1 := by decide
            have hv : valA (n + 1) (92 :: d :: r2) b = valA n r2 (b ++ [d]) := by simp [valA, q120]
            have g2 : ¬ (r2.length : Int) + 1 + 1 < 2 := by omega
            rw [hv] at k1 k2 k3
            rw [gval_lp]
            simp -implicitDefEqProofs [h5, h6, hp, pstep, elems, setParts, e1, hb, hw1, g2]
            refine ih r2 (b ++ [d]) (by omega) (by simp; omega) _ S' (by simp) (by simp [h6]) (by simpa using e2) (fun b' r' g => fun fr' S'' x1 x2 x3 x4 x5 => k1 b' r' g fr' S'' x1 x2 x3 (by simp; omega) x5) k2 k3
      · have f92 : ((c.toNat : Int) == 92) = false := by
          simp; intro e; exact q92 (UInt8.toNat_inj.1 (by show c.toNat = 92; omega))
        obtain ⟨v', S', e1, e2, e3⟩ := hst c
        have hb : bounds (r.length + 1) (r.length + 1) (some (.int .i64 1)) none = some (1, r.length + 1) := bounds_lo (lo := 1) (by omega)
        have hw0 : IntKind.i64.wrap 0 = 0 := by decide
        have hv : valA (n + 1) (c :: r) b = valA n r (b ++ [c]) := by simp [valA, q34, q92]
        rw [hv] at k1 k2 k3
        rw [gval_lp]
        simp -implicitDefEqProofs [h5, h6, f34, f34', f92, pstep, elems, setParts, e1, hb, hw0]
        refine ih r (b ++ [c]) (by omega) (by simp; omega) _ S' (by simp) (by simp [h6]) (by simpa using e2) (fun b' r' g => fun fr' S'' x1 x2 x3 x4 x5 => k1 b' r' g fr' S'' x1 x2 x3 (by simp; omega) x5) k2 k3
def valR (s : List UInt8) : Option (List UInt8 × List UInt8) := match stripP [34] s with
  | none => none
  | some r => valA (r.length + 1) r []
def valV (s : List UInt8) : PV := match valR s with
  | some (v, r) => .tup [.str v, .str r, .bool true]
  | none => .tup [.str [], .str [], .bool false]

theorem fin_pure {S1 : St} {r : PV} (h : Grows St0 S1) (hf : r.free = true) (hz : r.frz = r) : finish false St0 S1 r = (r, St0) := by
  rw [fin_free h hf, hz]

theorem value_val {s : List UInt8} (hs : s.length ≤ 100000000) : pval T 96 [.str s] = some (valV s) := by
  have hc := cutPre_val (s := s) (p := [34]) (by unfold maxLen; omega)
  unfold cutPV at hc
  have hV : (valV s).free = true ∧ (valV s).frz = valV s := by
    unfold valV; cases valR s <;> exact ⟨rfl, rfl⟩
  refine pval_st (cval_ok' fn_96 rfl ?_) hV.1 hV.2
  generalize hW : valV s = W
  unfold valV valR at hW
  cases h : stripP [34] s with
  | none =>
    rw [h] at hc hW
    simp only at hc hW
    subst hW
    simp -implicitDefEqProofs [label_value, hc]
    rw [gval_lp]
    simp -implicitDefEqProofs
  | some r =>
    rw [h] at hc hW
    simp only at hc hW
    have e := stripP_some h
    have hr : r.length + 1 = s.length := by rw [e]; simp
    simp -implicitDefEqProofs [label_value, hc]
    refine v_loop (S0 := St0) (r.length + 1) r [] (by omega) (by simp; omega) _ _ (by simp) (by simp) (by simpa [ofBytes] using accg_nil 1 (Grows.refl St0)) (fun b' r' g fr' S' x1 x2 x3 x4 x5 => ?_) (fun g fr' S' x1 x2 x3 => ?_) (fun g fr' S' x1 x2 x3 x4 => ?_)
    · rw [g] at hW
      subst hW
      have ts := toStr_of (x5.isSl (ofBytes_cells _))
      have hb : bounds (r'.length + 1) (r'.length + 1) (some (.int .i64 1)) none = some (1, r'.length + 1) := bounds_lo (lo := 1) (by omega)
      simp -implicitDefEqProofs [x1, x2, ts, hb]
    · rw [g] at hW
      subst hW
      simp -implicitDefEqProofs [x1, x2]
    · rw [g] at hW
      subst hW
      simp -implicitDefEqProofs [x2, x3, x4]
end Ps
