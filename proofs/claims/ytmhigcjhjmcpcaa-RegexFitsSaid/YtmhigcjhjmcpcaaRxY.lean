/- The document's atoms on a text, walked. -/
import Derived.Test.YtmhigcjhjmcpcaaRxX
namespace Ps
set_option linter.unusedSimpArgs false
set_option linter.unusedVariables false
open Go

theorem fn_393 : T.fn 393 = some (.code ref07_byteOf) := rfl
theorem fn_358 : T.fn 358 = some (.code ref07_one) := rfl
theorem fn_307 : T.fn 307 = some (.code ref07_piece) := rfl

theorem atom_cases {a : List UInt8} {x : Nd} {d : Nat} (h : atomW a = some (x, d, [])) :
    (∃ f, x = .one f ∧ ((∃ c, a = [c] ∧ plainB c = true ∧ f = fun i => i == c.toNat) ∨ (a = [46] ∧ f = fun _ => true) ∨ (∃ e, a = [92, e] ∧ f = fun i => i == e.toNat) ∨ (∃ u, a = 91 :: u ∧ clsF u = some (f, [])))) ∨
    ∃ u d', a = 40 :: (u ++ [41]) ∧ patW u = some (x, d', []) := by
  rw [atomW_eq] at h
  cases a with
  | nil => cases h
  | cons c w0 =>
    simp only at h
    by_cases h1 : plainB c = true
    · rw [if_pos h1] at h; cases h; exact .inl ⟨_, rfl, .inl ⟨c, rfl, h1, rfl⟩⟩
    rw [if_neg h1] at h
    by_cases h2 : c = 46
    · rw [if_pos h2] at h; cases h; exact .inl ⟨_, rfl, .inr (.inl ⟨by rw [h2], rfl⟩)⟩
    rw [if_neg h2] at h
    by_cases h3 : c = 92
    · rw [if_pos h3] at h
      cases w0 with
      | nil => cases h
      | cons e w1 =>
        simp only at h
        by_cases h4 : plainB e = true
        · rw [if_pos h4] at h; cases h
        · rw [if_neg h4] at h; cases h; exact .inl ⟨_, rfl, .inr (.inr (.inl ⟨e, by rw [h3], rfl⟩))⟩
    rw [if_neg h3] at h
    by_cases h4 : c = 91
    · rw [if_pos h4] at h
      cases hc : clsF w0 with
      | none => rw [hc] at h; cases h
      | some q =>
        obtain ⟨f, r⟩ := q
        rw [hc] at h; cases h
        exact .inl ⟨_, rfl, .inr (.inr (.inr ⟨w0, by rw [h4], hc⟩))⟩
    rw [if_neg h4] at h
    by_cases h5 : c = 40
    · rw [if_pos h5] at h
      cases hp : patW w0 with
      | none => rw [hp] at h; cases h
      | some q =>
        obtain ⟨p, d1, w1⟩ := q
        rw [hp] at h
        simp only at h
        cases w1 with
        | nil => cases h
        | cons e w2 =>
          simp only at h
          by_cases he : e = 41
          · rw [if_pos he] at h; cases h
            obtain ⟨_, u, eu, ku⟩ := patW_loc hp
            have := ku [] trivial
            rw [List.append_nil] at this
            exact .inr ⟨u, d1, by rw [h5, eu, he], this⟩
          · rw [if_neg he] at h; cases h
    · rw [if_neg h5] at h; cases h

theorem byteOf_pval {a : List UInt8} {f : Nat → Bool} {d : Nat} (hl : a.length ≤ 1000000) (h : atomW a = some (.one f, d, [])) (h40 : ∀ w, a ≠ 40 :: w) (c : UInt8) : pval T 393 [.str a, .int .u8 c.toNat] = some (.bool (f c.toNat)) := by
  refine pval_st ?_ rfl rfl
  refine cval_ok' fn_393 rfl ?_
  rcases atom_cases h with ⟨f', ef, hc⟩ | ⟨u, d', ea, _⟩
  · cases ef
    rcases hc with ⟨e, rfl, hp, rfl⟩ | ⟨rfl, rfl⟩ | ⟨e, rfl, rfl⟩ | ⟨u, rfl, hu⟩
    · have e92 := u8eq e 92
      have e91 := u8eq e 91
      have e46 := u8eq e 46
      simp at e92 e91 e46
      obtain ⟨n1, n2, _, _⟩ := plain_ne hp
      have n3 : e ≠ 46 := by rintro rfl; revert hp; decide
      rw [decide_eq_false n1] at e92
      rw [decide_eq_false n2] at e91
      rw [decide_eq_false n3] at e46
      have hec := u8eq e c
      have hce : (c.toNat == e.toNat) = decide (e = c) := by
        rw [← hec, Bool.eq_iff_iff]; simp only [beq_iff_eq]; omega
      simp -implicitDefEqProofs [ref07_byteOf, e92, e91, e46, hec, hce]
    · simp -implicitDefEqProofs [ref07_byteOf]
    · have hec := u8eq e c
      have hce : (c.toNat == e.toNat) = decide (e = c) := by
        rw [← hec, Bool.eq_iff_iff]; simp only [beq_iff_eq]; omega
      simp -implicitDefEqProofs [ref07_byteOf, hec, hce]
    · have hc := rclass_pval (p := 91 :: u) hl (at_ := 0) (by simp) c
      have hv : clsV (91 :: u) 0 c = ((91 :: u).length, f c.toNat) := by simp [clsV, hu]
      rw [hv] at hc
      have hc' : pval T 305 [.str (91 :: u), .int .i64 0, .int .u8 c.toNat] = some (.tup [.int .i64 ((91 :: u).length : Nat), .bool (f c.toNat)]) := hc
      simp -implicitDefEqProofs [ref07_byteOf, hc']
  · exact absurd ea (h40 _)

theorem rone_loop {a s : List UInt8} {f : Nat → Bool} {d : Nat} (hla : a.length ≤ 1000000) (hs : s.length ≤ 1000000) (h : atomW a = some (.one f, d, [])) (h40 : ∀ w, a ≠ 40 :: w) {l : List Nat} (hr : Ris l) (hbl : l.length ≤ 1000000) {vl : PV} (hv : IsSl 1 vl (intsV l)) {S0 : St} {K : List Kt} {Q : Fr → St → Prop} : ∀ (r p lo : List Nat) (fr : Fr) (S : St), l = p ++ r → lo.length ≤ p.length → Ris lo →
    (∀ j, j ∈ lo ↔ ∃ i c, j = i + 1 ∧ i ∈ p ∧ s[i]? = some c ∧ f c.toNat = true) → fr 0 = .str a → fr 1 = .str s → fr 2 = vl → fr 8 = .int .i64 p.length → AccG S0 1 S (fr 7) (intsV lo) →
    (∀ fr' S' l', AccG S0 1 S' (fr' 7) (intsV l') → Ris l' → (∀ j, j ∈ l' ↔ ∃ i c, j = i + 1 ∧ i ∈ l ∧ s[i]? = some c ∧ f c.toNat = true) → Ok (gval T K fr' S') Q) →
    Ok (gval T (.lp ref07_one_l0 :: .blk 0 :: K) fr S) Q := by
  intro r
  induction r with
  | nil =>
    intro p lo fr S hl hlo hrl hm h0 h1 h2 h8 hacc kk
    rw [List.append_nil] at hl
    subst hl
    have hll := isl_len hv
    rw [gval_lp]
    simp -implicitDefEqProofs [h2, h8, hll]
    exact kk _ S lo (by simpa using hacc) hrl hm
  | cons n r ih =>
    intro p lo fr S hl hlo hrl hm h0 h1 h2 h8 hacc kk
    have hll := isl_len hv
    have hplt : p.length < l.length := by rw [hl]; simp
    have hlt : (p.length : Int) < (l.length : Int) := by omega
    have hg := hv.reads.get p.length (by rw [intsV_len]; exact hplt) .i64
    have hge : (intsV l)[p.length]'(by rw [intsV_len]; exact hplt) = .int .i64 n := by simp [intsV, hl]
    rw [hge] at hg
    simp only [PV.cells] at hg
    have hp1 : partOf false 1 [PV.int .i64 (n : Int)] = some (.int .i64 n) := rfl
    have hwp := wrap_len (a := p.length) (by omega)
    have hnew : ∀ j, (∃ i c, j = i + 1 ∧ i ∈ p ++ [n] ∧ s[i]? = some c ∧ f c.toNat = true) ↔ (j ∈ lo ∨ ∃ c, j = n + 1 ∧ s[n]? = some c ∧ f c.toNat = true) := by
      intro j
      rw [hm]
      constructor
      · rintro ⟨i, c, e1, e2, e3, e4⟩
        rcases List.mem_append.1 e2 with e2 | e2
        · exact .inl ⟨i, c, e1, e2, e3, e4⟩
        · simp at e2; subst e2; exact .inr ⟨c, e1, e3, e4⟩
      · rintro (⟨i, c, e1, e2, e3, e4⟩ | ⟨c, e1, e3, e4⟩)
        · exact ⟨i, c, e1, by simp [e2], e3, e4⟩
        · exact ⟨n, c, e1, by simp, e3, e4⟩
    have skip : (¬ ∃ c, s[n]? = some c ∧ f c.toNat = true) → ∀ fr' : Fr, fr' 0 = .str a → fr' 1 = .str s → fr' 2 = vl → fr' 8 = .int .i64 ((p ++ [n]).length : Nat) → fr' 7 = fr 7 → Ok (gval T (.lp ref07_one_l0 :: .blk 0 :: K) fr' S) Q := by
      intro hno fr' c0 c1 c2 c8 c7
      refine ih (p ++ [n]) lo fr' S (by simp [hl]) (by simp; omega) hrl (fun j => ?_) c0 c1 c2 c8 (by rw [c7]; exact hacc) kk
      rw [hnew j]
      exact ⟨.inl, fun h => h.elim id (fun ⟨c, _, e3, e4⟩ => absurd ⟨c, e3, e4⟩ hno)⟩
    by_cases hns : n < s.length
    · have hns' : (n : Int) < (s.length : Int) := by omega
      obtain ⟨c, hc⟩ : ∃ c, s[n]? = some c := ⟨_, List.getElem?_eq_getElem hns⟩
      have hc' : s[n] = c := by rw [List.getElem?_eq_getElem hns] at hc; exact Option.some.inj hc
      have hb := byteOf_pval hla h h40 c
      have hb2 : purV T 393 [.str a, .int .u8 c.toNat] = some (.bool (f c.toNat)) := (purV_free rfl).trans hb
      have hwn := wrap_len (a := n) (by omega)
      cases hf : f c.toNat with
      | false =>
        rw [hf] at hb hb2
        rw [gval_lp]
        simp -implicitDefEqProofs [h0, h1, h2, h8, hll, hlt, hg, hp1, hns, hns', hc, hc', hb, hb2, hwp]
        refine skip ?_ _ (by simp [h0]) (by simp [h1]) (by simp [h2]) (by simp [hwp]) (by simp)
        rintro ⟨c2, q1, q2⟩
        rw [hc] at q1
        cases q1
        rw [hf] at q2; cases q2
      | true =>
        rw [hf] at hb hb2
        obtain ⟨v', S', a1, a2, a3⟩ := (hacc.arrs [(1, 1)]).app (bytes := 8) [.int .i64 ((n + 1 : Nat) : Int)] (by rw [intsV_len]; simp; omega)
        have a2' : AccG S0 1 S' v' (intsV (lo ++ [n + 1])) := by rw [intsV_app]; exact a2
        have a1' : appendTo 1 8 ⟨S.objs, S.tips ++ [(1, 1)]⟩ (fr 7) [.int .i64 ((n : Int) + 1)] = some (v', S') := a1
        rw [gval_lp]
        simp -implicitDefEqProofs [h0, h1, h2, h8, hll, hlt, hg, hp1, hns, hns', hc, hc', hb, hb2, hwp, hwn, pstep, elems, setParts, a1']
        refine ih (p ++ [n]) (lo ++ [n + 1]) _ S' (by simp [hl]) (by simp; omega) (ris_app hrl (fun j hj => ?_)) (fun j => ?_) (by simp [h0]) (by simp [h1]) (by simp [h2]) (by simp [hwp]) (by simpa using a2') kk
        · obtain ⟨i, c2, e1, e2, _⟩ := (hm j).1 hj
          have hpn : i < n := by
            rw [hl] at hr
            exact (List.pairwise_append.1 hr).2.2 i e2 n (by simp)
          omega
        · rw [hnew j, List.mem_append, List.mem_singleton]
          constructor
          · rintro (q | q)
            · exact .inl q
            · exact .inr ⟨c, q, hc, hf⟩
          · rintro (q | ⟨_, q, _⟩)
            · exact .inl q
            · exact .inr q
    · have hns' : ¬ (n : Int) < (s.length : Int) := by omega
      rw [gval_lp]
      simp -implicitDefEqProofs [h0, h1, h2, h8, hll, hlt, hg, hp1, hns', hwp]
      refine skip ?_ _ (by simp [h0]) (by simp [h1]) (by simp [h2]) (by simp [hwp]) (by simp)
      rintro ⟨c2, q1, _⟩
      rw [List.getElem?_eq_none (by omega)] at q1
      cases q1

/-- Places as they are handed in. -/
def InI (v : PV) (l : List Nat) : Prop := SlI v l ∨ ∃ tip, v = .sl tip (intsV l) []
theorem InI.isl {v : PV} {l : List Nat} (h : InI v l) : IsSl 1 v (intsV l) := by
  rcases h with h | ⟨tip, rfl⟩
  · exact h.isl
  · exact .inr ⟨tip, [], rfl, by simpa using intsV_cells l⟩
theorem InI.free {v : PV} {l : List Nat} (h : InI v l) : v.free = true := by
  rcases h with h | ⟨tip, rfl⟩
  · exact h.free
  · simp [PV.free, intsV_free, PV.freeL]
theorem InI.out {v : PV} {l : List Nat} (h : InI v l) : SlI v.frz l := by
  rcases h with h | ⟨tip, rfl⟩
  · rw [h.frz]; exact h
  · refine ⟨.inr ⟨none, [], by simp [PV.frz, PV.frzL, intsV_frz], by simpa using intsV_cells l⟩, by simp [PV.frz, PV.free, PV.frzL, PV.freeL, intsV_frz, intsV_free], by simp [PV.frz, PV.frzL, intsV_frz]⟩
theorem intsV_inj : ∀ {a b : List Nat}, intsV a = intsV b → a = b
  | [], [], _ => rfl
  | [], _ :: _, h => by simp [intsV] at h
  | _ :: _, [], h => by simp [intsV] at h
  | x :: a, y :: b, h => by
    simp only [intsV, List.map_cons, List.cons.injEq, PV.int.injEq, true_and] at h
    have := intsV_inj (a := a) (b := b) h.2
    have hx : x = y := by omega
    rw [hx, this]
theorem isl_inj {v : PV} {a b : List Nat} (h : IsSl 1 v (intsV a)) (k : IsSl 1 v (intsV b)) : a = b := by
  apply intsV_inj
  rcases h with ⟨rfl, h⟩ | ⟨t, sp, rfl, _⟩
  · rcases k with ⟨_, k⟩ | ⟨_, _, e, _⟩
    · rw [h, k]
    · cases e
  · rcases k with ⟨e, _⟩ | ⟨_, _, e, _⟩
    · cases e
    · injection e

/-- What a call on a text and places tells: the places reached. -/
def ReachV (g : Nat) (args : PV → List PV) (x : Nd) (s : List UInt8) : Prop := ∀ (l : List Nat) (vl : PV) (S : St), InI vl l → Ris l → (∀ j ∈ l, j ≤ s.length) →
  ∃ v l', cval T g (args vl) S = some (v, S) ∧ SlI v l' ∧ Ris l' ∧ (∀ j ∈ l', j ≤ s.length) ∧ ∀ j, j ∈ l' ↔ Rch x s (fun i => i ∈ l) j

theorem one_val {a s : List UInt8} {x : Nd} {d : Nat} (hla : a.length ≤ 100000) (hs : s.length ≤ 100000) (h : atomW a = some (x, d, [])) (hE : ∀ u d', u.length < a.length → patW u = some (x, d', []) → ReachV 124 (fun vl => [.str u, .str s, vl]) x s) : ReachV 358 (fun vl => [.str a, .str s, vl]) x s := by
  intro l vl S hv hr hb
  have hbl : l.length ≤ 1000000 := by have := ris_len hr hb; omega
  rcases atom_cases h with ⟨f, rfl, hc⟩ | ⟨u, d', rfl, hu⟩
  · have h40 : ∀ w, a ≠ 40 :: w := by
      intro w e
      rcases hc with ⟨c, rfl, hp, _⟩ | ⟨rfl, _⟩ | ⟨c, rfl, _⟩ | ⟨u, rfl, _⟩
      · cases e; revert hp; decide
      · cases e
      · cases e
      · cases e
    have key := cval_ex (T := T) (f := 358) (c := ref07_one) fn_358 (args := [.str a, .str s, vl]) (S := S) rfl (R := fun r S2 => S2 = S ∧ ∃ l', SlI r l' ∧ Ris l' ∧ (∀ j, j ∈ l' ↔ ∃ i c, j = i + 1 ∧ i ∈ l ∧ s[i]? = some c ∧ f c.toNat = true)) ?_
    · obtain ⟨r, S2, k1, rfl, l', k2, k3, k4⟩ := key
      have hmem : ∀ j, j ∈ l' ↔ Rch (.one f) s (fun i => i ∈ l) j := fun j => by rw [k4, rch_one]
      exact ⟨r, l', k1, k2, k3, fun j hj => rch_le ((hmem j).1 hj), hmem⟩
    have main : ∀ Q : Fr → St → Prop, (∀ fr S' l', AccG S 1 S' (fr 6) (intsV l') → Ris l' → (∀ j, j ∈ l' ↔ ∃ i c, j = i + 1 ∧ i ∈ l ∧ s[i]? = some c ∧ f c.toNat = true) → Q fr S') → Ok (gval T [.code ref07_one.body] (argsFr [.str a, .str s, vl]) S) Q := by
      intro Q ends
      cases a with
      | nil => rw [atomW_eq] at h; cases h
      | cons a0 aw =>
        have hne : ((a0.toNat : Int) == 40) = false := by
          have e40 := u8eq a0 40
          simp at e40
          rw [e40]
          exact decide_eq_false (fun e => h40 aw (by rw [e]))
        simp -implicitDefEqProofs [ref07_one, hne]
        refine rone_loop (S0 := S) (s := s) (by omega) (by omega) h h40 hr hbl hv.isl l [] [] _ S rfl (by simp) (by simp [Ris]) (fun j => by simp) (by simp) (by simp) (by simp) (by simp) (by simpa [intsV] using accg_nil 1 (Grows.refl S)) (fun fr' S' l' a1 a2 a3 => ?_)
        simp -implicitDefEqProofs
        exact ends _ S' l' (by simpa using a1) a2 a3
    refine main _ (fun fr S' l' a1 a2 a3 => ⟨[fr 6], rfl, ?_⟩)
    show (finish false S S' (fr 6)).2 = S ∧ ∃ l', SlI (finish false S S' (fr 6)).1 l' ∧ _
    rw [acc_ints a1]
    exact ⟨rfl, l', slF_int a1, a2, a3⟩
  · obtain ⟨v, l', k1, k2, k3, k4, k5⟩ := hE u d' (by simp; omega) hu l vl S hv hr hb
    refine ⟨v, l', ?_, k2, k3, k4, k5⟩
    refine cval_ok' fn_358 rfl ?_
    have hlen : ((40 :: (u ++ [41]) : List UInt8).length : Int) = (u.length : Int) + 1 + 1 := by simp
    have hw : IntKind.i64.wrap ((u.length : Int) + 1 + 1 - 1) = ((u.length + 1 : Nat) : Int) := by rw [Int.add_sub_cancel]; exact wrap_i64 (by omega) (by simp at hla; omega)
    have hb1 : bounds (u.length + 1 + 1) (u.length + 1 + 1) (some (.int .i64 1)) (some (.int .i64 ((u.length : Int) + 1))) = some (1, u.length + 1) := bounds_lh (lo := 1) (h := u.length + 1) (by omega) (by omega)
    have htk : (40 :: (u ++ [41]) : List UInt8).take (u.length + 1) = 40 :: u := by simp
    have hwu : IntKind.i64.wrap ((u.length : Int) + 1) = (u.length : Int) + 1 := wrap_i64 (by omega) (by simp at hla; omega)
    simp -implicitDefEqProofs [ref07_one, hlen, hw, hwu, hb1, htk, k1]
    rw [fin_free (Grows.refl S) k2.free, k2.frz]

/-- The places of an atom with a mark behind it, or none (0). -/
def pieceN (x : Nd) (m : UInt8) : Nd := if m = 0 then x else .again x (m != 43) (m != 63)

theorem piece_loop {a s : List UInt8} {x : Nd} (hs : s.length ≤ 100000) (h1 : ReachV 358 (fun vl => [.str a, .str s, vl]) x s) {P : Nat → Prop} {K : List Kt} {Q : Fr → St → Prop} {S : St} : ∀ (m k : Nat) (l : List Nat) (fr : Fr), s.length - k = m → k ≤ s.length → Ris l → (∀ j ∈ l, j ≤ s.length) →
    (∀ j, Rch x s P j → j ∈ l) → (∀ j ∈ l, Rch (.again x false true) s P j) → (l = [] ∨ k + 1 ≤ l.length) → SlI (fr 9) l → fr 0 = .str a → fr 2 = .str s → fr 10 = .int .i64 k →
    (∀ fr' l', SlI (fr' 9) l' → Ris l' → (∀ j ∈ l', j ≤ s.length) → (∀ j, j ∈ l' ↔ Rch (.again x false true) s P j) → fr' 1 = fr 1 → fr' 3 = fr 3 → Ok (gval T K fr' S) Q) →
    Ok (gval T (.lp ref07_piece_l0 :: .blk 0 :: K) fr S) Q := by
  intro m
  induction m with
  | zero =>
    intro k l fr hm hk hr hb i1 i2 i3 hv h0 h2 h10 kk
    have hke : k = s.length := by omega
    subst hke
    rw [gval_lp]
    simp -implicitDefEqProofs [h2, h10]
    have hcl : ∀ j, Rch x s (fun i => i ∈ l) j → j ∈ l := by
      intro j hj
      rcases i3 with rfl | i3
      · obtain ⟨i, hi, _⟩ := hj; simp at hi
      · exact ris_full hr hb i3 (rch_le hj)
    exact kk _ l (by simpa using hv) hr hb (rch_fix i1 hcl i2) (by simp) (by simp)
  | succ m ih =>
    intro k l fr hm hk hr hb i1 i2 i3 hv h0 h2 h10 kk
    have hlt : (k : Int) < (s.length : Int) := by omega
    have hwk := wrap_len (a := k) (by omega)
    obtain ⟨v1, l1, q1, q2, q3, q4, q5⟩ := h1 l (fr 9) S (.inl hv) hr hb
    have hll := ris_len hr hb
    have hll1 := ris_len q3 q4
    obtain ⟨v2, l2, r1, r2, r3, r4⟩ := merge_val hv.isl q2.isl hr q3 (by omega) S
    have hb2 : ∀ j ∈ l2, j ≤ s.length := fun j hj => ((r4 j).1 hj).elim (hb j) (q4 j)
    have hll2 := ris_len r3 hb2
    have hlen := isl_len hv.isl
    have hlen2 := isl_len r2.isl
    have hle : l.length ≤ l2.length := nodup_len hr.nodup (fun j hj => (r4 j).2 (.inl hj))
    rw [gval_lp]
    by_cases he : l2.length = l.length
    · have he' : ((l2.length : Int) == (l.length : Int)) = true := by rw [he]; simp
      have hall := nodup_all hr.nodup (fun j hj => (r4 j).2 (.inl hj)) (by omega)
      have hcl : ∀ j, Rch x s (fun i => i ∈ l) j → j ∈ l := fun j hj => hall j ((r4 j).2 (.inr ((q5 j).2 hj)))
      simp -implicitDefEqProofs [h0, h2, h10, hlt, q1, r1, hlen, hlen2, he']
      exact kk _ l (by simpa using hv) hr hb (rch_fix i1 hcl i2) (by simp) (by simp)
    · have he' : ((l2.length : Int) == (l.length : Int)) = false := by
        have : ¬ (l2.length : Int) = (l.length : Int) := by omega
        simpa using this
      simp -implicitDefEqProofs [h0, h2, h10, hlt, q1, r1, hlen, hlen2, he', hwk]
      refine ih (k + 1) l2 _ (by omega) (by omega) r3 hb2 (fun j hj => (r4 j).2 (.inl (i1 j hj))) (fun j hj => ?_) ?_ (by simpa using r2) (by simp [h0]) (by simp [h2]) (by simp) (fun fr' l' a1 a2 a3 a4 a5 a6 => kk fr' l' a1 a2 a3 a4 (by rw [a5]; simp) (by rw [a6]; simp))
      · rcases (r4 j).1 hj with h | h
        · exact i2 j h
        · exact rch_more (rch_mono ((q5 j).1 h) (fun i hi => i2 i hi))
      · rcases i3 with rfl | i3
        · -- nothing reached
          have : l1 = [] := by
            cases l1 with
            | nil => rfl
            | cons y ys =>
              have := (q5 y).1 (by simp)
              obtain ⟨i, hi, _⟩ := this
              simp at hi
          subst this
          refine .inl ?_
          cases l2 with
          | nil => rfl
          | cons y ys => have := (r4 y).1 (by simp); simp at this
        · exact .inr (by omega)

theorem piece_val {a s : List UInt8} {x : Nd} {m : UInt8} (hs : s.length ≤ 100000) (h1 : ReachV 358 (fun vl => [.str a, .str s, vl]) x s) (hm : m = 0 ∨ m = 42 ∨ m = 43 ∨ m = 63) : ReachV 307 (fun vl => [.str a, .int .u8 m.toNat, .str s, vl]) (pieceN x m) s := by
  intro l vl S hv hr hb
  have hbl := ris_len hr hb
  obtain ⟨v1, l1, q1, q2, q3, q4, q5⟩ := h1 l vl S hv hr hb
  have hbl1 := ris_len q3 q4
  have main : ∀ Q : Fr → St → Prop, (∀ fr v l', fr 8 = v → SlI v l' → Ris l' → (∀ j ∈ l', j ≤ s.length) → (∀ j, j ∈ l' ↔ Rch (pieceN x m) s (fun i => i ∈ l) j) → Q fr S) → Ok (gval T [.code ref07_piece.body] (argsFr [.str a, .int .u8 m.toNat, .str s, vl]) S) Q := by
    intro Q ends
    rcases hm with rfl | rfl | rfl | rfl
    · simp -implicitDefEqProofs [ref07_piece, q1]
      exact ends _ v1 l1 (by simp) q2 q3 q4 (by simpa [pieceN] using q5)
    · simp -implicitDefEqProofs [ref07_piece, q1]
      refine piece_loop hs h1 (P := fun i => i ∈ l) _ 0 l1 _ rfl (by omega) q3 q4 (fun j hj => (q5 j).2 hj) (fun j hj => rch_once ((q5 j).1 hj)) (by cases l1 <;> simp) (by simpa using q2) (by simp) (by simp) (by simp) (fun fr' l' a1 a2 a3 a4 a5 a6 => ?_)
      have hl2 := ris_len a2 a3
      obtain ⟨v2, l2, r1, r2, r3, r4⟩ := merge_val a1.isl hv.isl a2 hr (by omega) S
      have a5' : fr' 1 = .int .u8 42 := by rw [a5]; simp
      have a6' : fr' 3 = vl := by rw [a6]; simp
      simp -implicitDefEqProofs [a5', a6', r1]
      refine ends _ v2 l2 (by simp) r2 r3 (fun j hj => ((r4 j).1 hj).elim (a3 j) (hb j)) (fun j => ?_)
      rw [r4, a4]
      show _ ↔ Rch (.again x true true) s _ j
      rw [rch_none]
      exact ⟨fun h => h.elim .inl (fun h => .inr ⟨h, hb j h⟩), fun h => h.elim .inl (fun h => .inr h.1)⟩
    · simp -implicitDefEqProofs [ref07_piece, q1]
      refine piece_loop hs h1 (P := fun i => i ∈ l) _ 0 l1 _ rfl (by omega) q3 q4 (fun j hj => (q5 j).2 hj) (fun j hj => rch_once ((q5 j).1 hj)) (by cases l1 <;> simp) (by simpa using q2) (by simp) (by simp) (by simp) (fun fr' l' a1 a2 a3 a4 a5 a6 => ?_)
      have a5' : fr' 1 = .int .u8 43 := by rw [a5]; simp
      simp -implicitDefEqProofs [a5']
      exact ends _ (fr' 9) l' (by simp) a1 a2 a3 (fun j => a4 j)
    · obtain ⟨v2, l2, r1, r2, r3, r4⟩ := merge_val q2.isl hv.isl q3 hr (by omega) S
      simp -implicitDefEqProofs [ref07_piece, q1, r1]
      refine ends _ v2 l2 (by simp) r2 r3 (fun j hj => ((r4 j).1 hj).elim (q4 j) (hb j)) (fun j => ?_)
      rw [r4, q5]
      show _ ↔ Rch (.again x true false) s _ j
      rw [rch_none, rch_again1]
      exact ⟨fun h => h.elim .inl (fun h => .inr ⟨h, hb j h⟩), fun h => h.elim .inl (fun h => .inr h.1)⟩
  have key := cval_ex (T := T) (f := 307) (c := ref07_piece) fn_307 (args := [.str a, .int .u8 m.toNat, .str s, vl]) (S := S) rfl (R := fun r S2 => S2 = S ∧ ∃ l', SlI r l' ∧ Ris l' ∧ (∀ j ∈ l', j ≤ s.length) ∧ ∀ j, j ∈ l' ↔ Rch (pieceN x m) s (fun i => i ∈ l) j) ?_
  · obtain ⟨r, S2, k1, rfl, l', k2, k3, k4, k5⟩ := key
    exact ⟨r, l', k1, k2, k3, k4, k5⟩
  refine main _ (fun fr v l' a1 a2 a3 a4 a5 => ⟨[fr 8], rfl, ?_⟩)
  show (finish false S S (fr 8)).2 = S ∧ ∃ l', SlI (finish false S S (fr 8)).1 l' ∧ _
  rw [a1, fin_free (Grows.refl S) a2.free, a2.frz]
  exact ⟨rfl, l', a2, a3, a4, a5⟩
end Ps
