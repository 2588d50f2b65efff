/- The whole part of a log's bytes. -/
import Derived.Test.YtppjibgophfdfaaWI
import Derived.Test.YtppjibgophfdfaaFB
namespace Ps
set_option linter.unusedSimpArgs false
open Go
theorem recN_full {r : RecM} (h : recN r = 0) :
    (∃ l, r = ⟨1, l, [], [], 0, 0⟩ ∧ checkN l = 0) ∨ (∃ l, r = ⟨2, [], l, [], 0, 0⟩ ∧ rowsN l = 0) ∨
    (∃ l a b, r = ⟨3, [], [], l, a, b⟩ ∧ postN l = 0 ∧ 0 ≤ a ∧ a ≤ b ∧ b ≤ 1099511627776) := by
  have hz := recN_zero h
  unfold recN at h
  obtain ⟨k, labs, rows, ids, lo, hi⟩ := r
  simp only at h hz
  by_cases a : k = 1 ∧ rows.length = 0 ∧ ids.length = 0 ∧ lo = 0 ∧ hi = 0
  · rw [if_pos a] at h
    obtain ⟨rfl, a1, a2, rfl, rfl⟩ := a
    rw [List.length_eq_zero_iff] at a1 a2
    subst a1; subst a2
    exact .inl ⟨labs, rfl, h⟩
  rw [if_neg a] at h
  by_cases b : k = 2 ∧ labs.length = 0 ∧ ids.length = 0 ∧ lo = 0 ∧ hi = 0
  · rw [if_pos b] at h
    obtain ⟨rfl, a1, a2, rfl, rfl⟩ := b
    rw [List.length_eq_zero_iff] at a1 a2
    subst a1; subst a2
    exact .inr (.inl ⟨rows, rfl, h⟩)
  rw [if_neg b] at h
  by_cases c : k = 3 ∧ labs.length = 0 ∧ rows.length = 0
  · obtain ⟨rfl, a1, a2⟩ := c
    rw [List.length_eq_zero_iff] at a1 a2
    subst a1; subst a2
    rcases hz with ⟨q, _⟩ | ⟨q, _⟩ | ⟨_, q⟩
    · cases q
    · cases q
    · exact .inr (.inr ⟨ids, lo, hi, rfl, q⟩)
  · rw [if_neg c] at h; cases h
theorem readS_put {p w : List UInt8} {n : Nat} (h : n < 9223372036854775808) : readS (p ++ (uintB n ++ w)) p.length false = (n, (p ++ uintB n).length, false) := by
  unfold readS
  rw [getU_put h]
  simp
theorem zag_zig {v : Int} : zagN (zigN v) = v := by
  unfold zagN zigN
  split
  · have : (-2 * v - 1).toNat % 2 = 1 := by omega
    rw [if_pos this]; omega
  · have : ¬ (2 * v).toNat % 2 = 1 := by omega
    rw [if_neg this]; omega
theorem row1_put {p w : List UInt8} {x : RowM} (h : rowOk x) : row1 (p ++ (rowB x ++ w)) p.length false = (x, (p ++ rowB x).length, false) := by
  obtain ⟨x1, x2, x3⟩ := h
  obtain ⟨m1, m2, m3, m4⟩ := may_bounds x3
  have a := readS_put (p := p) (w := uintB x.2.1.toNat ++ (uintB (zigN x.2.2) ++ w)) (n := x.1.toNat) (by omega)
  have b := readS_put (p := p ++ uintB x.1.toNat) (w := uintB (zigN x.2.2) ++ w) (n := x.2.1.toNat) (by omega)
  have c := readS_put (p := p ++ uintB x.1.toNat ++ uintB x.2.1.toNat) (w := w) (n := zigN x.2.2) (zigN_lt m3 m4)
  have e : p ++ (rowB x ++ w) = p ++ (uintB x.1.toNat ++ (uintB x.2.1.toNat ++ (uintB (zigN x.2.2) ++ w))) := by simp [rowB]
  have e2 : p ++ (uintB x.1.toNat ++ (uintB x.2.1.toNat ++ (uintB (zigN x.2.2) ++ w))) = (p ++ uintB x.1.toNat) ++ (uintB x.2.1.toNat ++ (uintB (zigN x.2.2) ++ w)) := by simp
  have e3 : p ++ (uintB x.1.toNat ++ (uintB x.2.1.toNat ++ (uintB (zigN x.2.2) ++ w))) = (p ++ uintB x.1.toNat ++ uintB x.2.1.toNat) ++ (uintB (zigN x.2.2) ++ w) := by simp
  rw [← e2] at b
  rw [← e3] at c
  unfold row1
  rw [e, a]
  simp only
  rw [b]
  simp only
  rw [c]
  have n1 : ((x.1.toNat : Nat) : Int) = x.1 := by omega
  have n2 : ((x.2.1.toNat : Nat) : Int) = x.2.1 := by omega
  simp only [n1, n2, zag_zig]
  simp [rowB]
  try omega
theorem rowsP_put {w : List UInt8} : ∀ (l : List RowM) (p : List UInt8) (l0 : List RowM), (∀ x ∈ l, rowOk x) → rowsP (p ++ (l.flatMap rowB ++ w)) l.length l0 p.length false = (l0 ++ l, (p ++ l.flatMap rowB).length, false)
  | [], p, l0, _ => by simp [rowsP]
  | x :: l, p, l0, h => by
    have a := row1_put (p := p) (w := l.flatMap rowB ++ w) (h x (by simp))
    have ih := rowsP_put (w := w) l (p ++ rowB x) (l0 ++ [x]) (fun y hy => h y (by simp [hy]))
    have e : p ++ ((x :: l).flatMap rowB ++ w) = p ++ (rowB x ++ (l.flatMap rowB ++ w)) := by simp
    have e2 : p ++ (rowB x ++ (l.flatMap rowB ++ w)) = (p ++ rowB x) ++ (l.flatMap rowB ++ w) := by simp
    rw [← e2] at ih
    rw [e, List.length_cons, rowsP, if_neg (by decide), a]
    simp only
    rw [ih]
    simp
theorem pR_put {w : List UInt8} : ∀ (l : List Int) (p : List UInt8) (last : Int) (l0 : List Int), ((l0 = [] ∧ last = 0 ∧ postR none l = 0) ∨ (0 ≤ last ∧ postR (some last) l = 0)) →
    pR (p ++ (postD last l ++ w)) l.length p.length last l0 = (l0 ++ l, (p ++ postD last l).length, 0)
  | [], p, last, l0, _ => by simp [pR, postD]
  | n :: l, p, last, l0, h => by
    have hb : 0 ≤ n ∧ n ≤ 1099511627776 ∧ (l0 ≠ [] → last < n) ∧ last ≤ n ∧ 0 ≤ last ∧ postR (some n) l = 0 := by
      rcases h with ⟨rfl, rfl, h⟩ | ⟨h0, h⟩
      · rw [postR_cons] at h
        by_cases a : n < 0 ∨ 1099511627776 < n
        · rw [if_pos a] at h; cases h
        · rw [if_neg a, if_neg (by simp)] at h
          exact ⟨by omega, by omega, fun q => absurd rfl q, by omega, by omega, h⟩
      · rw [postR_cons] at h
        by_cases a : n < 0 ∨ 1099511627776 < n
        · rw [if_pos a] at h; cases h
        · rw [if_neg a] at h
          by_cases b : n ≤ last
          · rw [if_pos (by simpa using b)] at h; cases h
          · rw [if_neg (by simpa using b)] at h
            exact ⟨by omega, by omega, fun _ => by omega, by omega, h0, h⟩
    obtain ⟨h1, h2, h3, h4, h5, h6⟩ := hb
    have hn : (((n - last).toNat : Nat) : Int) = n - last := by omega
    have a := getU_put (p := p) (w := postD n l ++ w) (n := (n - last).toNat) (by omega)
    have ih := pR_put (w := w) l (p ++ uintB (n - last).toNat) n (l0 ++ [n]) (.inr ⟨h1, h6⟩)
    have e : p ++ (postD last (n :: l) ++ w) = p ++ (uintB (n - last).toNat ++ (postD n l ++ w)) := by simp [postD_cons]
    have e2 : p ++ (uintB (n - last).toNat ++ (postD n l ++ w)) = (p ++ uintB (n - last).toNat) ++ (postD n l ++ w) := by simp
    rw [← e2] at ih
    rw [e, List.length_cons, pR, a]
    simp only [hn]
    rw [if_neg (by decide), if_neg (by
      rintro (q | ⟨q1, q2⟩)
      · omega
      · have := h3 (by intro z; rw [z] at q1; simp at q1)
        omega)]
    rw [show last + (n - last) = n by omega, show p.length + (uintB (n - last).toNat).length = (p ++ uintB (n - last).toNat).length by simp, ih]
    simp [postD_cons]
theorem postRd_put {p w : List UInt8} {l : List Int} (h : postN l = 0) : postRd (p ++ (postB l ++ w)) (p.length : Int) = (l, (p ++ postB l).length, 0) := by
  obtain ⟨hl, _⟩ := postN_asc h
  have hr : postR none l = 0 := by
    unfold postN at h
    rw [if_neg (by omega)] at h; exact h
  have a := getU_put (p := p) (w := postD 0 l ++ w) (n := l.length) (by omega)
  have b := pR_put (w := w) l (p ++ uintB l.length) 0 [] (.inl ⟨rfl, rfl, hr⟩)
  have e : p ++ (postB l ++ w) = p ++ (uintB l.length ++ (postD 0 l ++ w)) := by simp [postB]
  have e2 : p ++ (uintB l.length ++ (postD 0 l ++ w)) = (p ++ uintB l.length) ++ (postD 0 l ++ w) := by simp
  rw [← e2] at b
  unfold postRd
  rw [e, a]
  simp only
  rw [if_neg (by decide), if_neg (by omega), show p.length + (uintB l.length).length = (p ++ uintB l.length).length by simp, b]
  simp [postB]
theorem parP_put {r : RecM} (h : recN r = 0) : parP (recB r) = (r, true) := by
  rcases recN_full h with ⟨l, rfl, z⟩ | ⟨l, rfl, z⟩ | ⟨l, x, y, rfl, z, z1, z2, z3⟩
  · have he : recB ⟨1, l, [], [], 0, 0⟩ = [] ++ (uintB 1 ++ labsB l) := by simp [recB]
    have a := readS_put (p := []) (w := labsB l) (n := 1) (by omega)
    have b := readN_put (p := uintB 1) (w := []) z
    simp only [List.append_nil] at b
    rw [he]
    simp only [List.nil_append, List.length_nil] at a ⊢
    unfold parP
    rw [a]
    simp only
    rw [b]
    simp
  · obtain ⟨y1, y2, y3⟩ := rowsN_ok z
    have he : recB ⟨2, [], l, [], 0, 0⟩ = uintB 2 ++ (uintB l.length ++ (l.flatMap rowB ++ [])) := by simp [recB]
    have a := readS_put (p := []) (w := uintB l.length ++ (l.flatMap rowB ++ [])) (n := 2) (by omega)
    have b := readS_put (p := uintB 2) (w := l.flatMap rowB ++ []) (n := l.length) (by omega)
    have c := rowsP_put (w := []) l (uintB 2 ++ uintB l.length) [] y3
    have e2 : uintB 2 ++ (uintB l.length ++ (l.flatMap rowB ++ [])) = (uintB 2 ++ uintB l.length) ++ (l.flatMap rowB ++ []) := by simp
    rw [← e2] at c
    rw [he]
    simp only [List.nil_append, List.length_nil] at a c ⊢
    unfold parP
    rw [a]
    simp only
    rw [b]
    simp only
    rw [show min l.length 65 = l.length by omega, c]
    simp
  · have n1 : ((x.toNat : Nat) : Int) = x := by omega
    have n2 : ((y.toNat : Nat) : Int) = y := by omega
    have he : recB ⟨3, [], [], l, x, y⟩ = uintB 3 ++ (postB l ++ (uintB x.toNat ++ (uintB y.toNat ++ []))) := by simp [recB]
    have a := readS_put (p := []) (w := postB l ++ (uintB x.toNat ++ (uintB y.toNat ++ []))) (n := 3) (by omega)
    have b := postRd_put (p := uintB 3) (w := uintB x.toNat ++ (uintB y.toNat ++ [])) z
    have c := readS_put (p := uintB 3 ++ postB l) (w := uintB y.toNat ++ []) (n := x.toNat) (by omega)
    have d := readS_put (p := uintB 3 ++ postB l ++ uintB x.toNat) (w := []) (n := y.toNat) (by omega)
    have e2 : uintB 3 ++ (postB l ++ (uintB x.toNat ++ (uintB y.toNat ++ []))) = (uintB 3 ++ postB l) ++ (uintB x.toNat ++ (uintB y.toNat ++ [])) := by simp
    have e3 : uintB 3 ++ (postB l ++ (uintB x.toNat ++ (uintB y.toNat ++ []))) = (uintB 3 ++ postB l ++ uintB x.toNat) ++ (uintB y.toNat ++ []) := by simp
    rw [← e2] at c
    rw [← e3] at d
    rw [he]
    simp only [List.nil_append, List.length_nil] at a ⊢
    unfold parP
    rw [a]
    simp only
    rw [b]
    simp only
    rw [c]
    simp only
    rw [d]
    simp [n1, n2]
end Ps
namespace Ps
set_option linter.unusedSimpArgs false
open Go
theorem fn_249 : T.fn 249 = some (.code z63) := rfl
def ofR (x : List UInt8) : Option RecM := if (parP x).2 = true ∧ recN (parP x).1 = 0 ∧ recB (parP x).1 = x then some (parP x).1 else none
theorem ofR_put {r : RecM} (h : recN r = 0) : ofR (recB r) = some r := by
  unfold ofR
  rw [parP_put h]
  simp [h]
theorem ofR_some {x : List UInt8} {r : RecM} (h : ofR x = some r) : recN r = 0 ∧ recB r = x := by
  unfold ofR at h
  split at h
  · rename_i q; cases h; exact ⟨q.2.1, q.2.2⟩
  · cases h
structure RecF (r : RecM) (cs : List PV) : Prop where
  c : RecC r cs
  free : PV.freeL cs = true
  frz : PV.frzL cs = cs
theorem ofR_val {s : List UInt8} {v : PV} (hv : IsSl 1 v (ofBytes s)) (hs : s.length ≤ 67108864) (S : St) :
    (∃ r cs, ofR s = some r ∧ RecF r cs ∧ cval T 143 [v] S = some (.tup [.agg cs, .int .i64 0], S)) ∨ (ofR s = none ∧ cval T 143 [v] S = some (.tup [.agg emptyC, .int .i64 5], S)) := by
  obtain ⟨x, h1, h2, h3, h4⟩ := of_valF hv hs S
  rcases h2 with ⟨q1, q2, q3, cs, q4, rfl⟩ | ⟨q1, rfl⟩
  · left
    simp only [PV.free, PV.freeL, Bool.and_true] at h3
    simp only [PV.frz, PV.frzL, PV.tup.injEq, List.cons.injEq, PV.agg.injEq, and_true] at h4
    exact ⟨_, cs, by unfold ofR; rw [if_pos ⟨q1, q2, q3⟩], ⟨q4, h3, h4⟩, h1⟩
  · right
    exact ⟨by unfold ofR; rw [if_neg q1], h1⟩
def RecsF : List PV → List RecM → Prop
  | [], [] => True
  | e :: es, r :: rs => (∃ cs, e = .agg cs ∧ RecF r cs) ∧ RecsF es rs
  | _, _ => False
theorem RecsF.snoc : ∀ {es : List PV} {rs : List RecM} {cs : List PV} {r : RecM}, RecsF es rs → RecF r cs → RecsF (es ++ [.agg cs]) (rs ++ [r])
  | [], [], cs, r, _, h => ⟨⟨cs, rfl, h⟩, trivial⟩
  | e :: es, q :: rs, cs, r, h, k => ⟨h.1, h.2.snoc k⟩
  | [], _ :: _, _, _, h, _ => by cases h
  | _ :: _, [], _, _, h, _ => by cases h
theorem RecsF.cells : ∀ {es : List PV} {rs : List RecM}, RecsF es rs → ∀ e ∈ es, e.cells.length = 6
  | [], [], _, e, he => by cases he
  | x :: es, q :: rs, h, e, he => by
    rcases List.mem_cons.1 he with rfl | he
    · obtain ⟨cs, rfl, hc⟩ := h.1
      exact (recC_all hc.c).1
    · exact h.2.cells e he
  | [], _ :: _, h, _, _ => by cases h
  | _ :: _, [], h, _, _ => by cases h
theorem RecsF.free : ∀ {es : List PV} {rs : List RecM}, RecsF es rs → PV.freeL es = true
  | [], [], _ => rfl
  | x :: es, q :: rs, h => by
    obtain ⟨cs, rfl, hc⟩ := h.1
    simp only [PV.freeL, PV.free, hc.free, h.2.free, Bool.and_self]
  | [], _ :: _, h => by cases h
  | _ :: _, [], h => by cases h
theorem RecsF.frz : ∀ {es : List PV} {rs : List RecM}, RecsF es rs → PV.frzL es = es
  | [], [], _ => rfl
  | x :: es, q :: rs, h => by
    obtain ⟨cs, rfl, hc⟩ := h.1
    simp only [PV.frzL, PV.frz, hc.frz, h.2.frz]
  | [], _ :: _, h => by cases h
  | _ :: _, [], h => by cases h
theorem RecsF.len : ∀ {es : List PV} {rs : List RecM}, RecsF es rs → es.length = rs.length
  | [], [], _ => rfl
  | x :: es, q :: rs, h => by simp only [List.length_cons, h.2.len]
  | [], _ :: _, h => by cases h
  | _ :: _, [], h => by cases h
theorem RecsF.take : ∀ {es : List PV} {rs : List RecM} (k : Nat), RecsF es rs → RecsF (es.take k) (rs.take k)
  | _, _, 0, _ => by simp [RecsF]
  | [], [], k + 1, _ => trivial
  | x :: es, q :: rs, k + 1, h => ⟨h.1, h.2.take k⟩
  | [], _ :: _, _ + 1, h => by cases h
  | _ :: _, [], _ + 1, h => by cases h
def wholeS (s : List UInt8) : Nat → Nat → List RecM × Nat
  | 0, i => ([], i)
  | k + 1, i => match getF s i with
    | none => ([], i)
    | some (x, n) => match ofR x with
      | none => ([], i)
      | some r => (r :: (wholeS s k n).1, (wholeS s k n).2)
theorem getF_lt {s : List UInt8} {i : Nat} {x : List UInt8} {n : Nat} (h : getF s i = some (x, n)) : i + 6 ≤ n ∧ n ≤ s.length ∧ x.length ≤ s.length := by
  unfold getF at h
  split at h
  · rename_i b0 b1 r hr
    have hl : (s.drop i).length = r.length + 2 := by rw [hr]; simp
    rw [List.length_drop] at hl
    simp only at h
    split at h
    · cases h
    · rename_i hc
      split at h
      · simp only [Option.some.injEq, Prod.mk.injEq] at h
        obtain ⟨h1, h2⟩ := h
        refine ⟨by omega, by omega, ?_⟩
        rw [← h1]
        simp only [List.length_drop, List.length_take, List.length_cons]
        omega
      · cases h
  · cases h
theorem pt6 {cs : List PV} (h : cs.length = 6) : partOf true 6 cs = some (.agg cs) := pt_all h
theorem whole_loop {s : List UInt8} {bv : PV} (hv : IsSl 1 bv (ofBytes s)) (hs : s.length ≤ 900000) {S0 : St} {K : List Kt} {Q : Fr → St → Prop} : ∀ (k i : Nat), s.length < k + i → i ≤ s.length → ∀ (rs : List RecM) (es : List PV) (fr : Fr) (S : St),
    es.length + k ≤ 2000000 → AccG S0 6 S (fr 4) es → RecsF es rs → fr 0 = bv → fr 5 = .int .i64 (i : Int) →
    (∀ fr' S' es', AccG S0 6 S' (fr' 2) es' → RecsF es' (rs ++ (wholeS s k i).1) → fr' 3 = .int .i64 ((wholeS s k i).2 : Int) → Q fr' S') →
    Ok (gval T (.lp z63_l0 :: .blk 0 :: K) fr S) Q := by
  intro k
  induction k with
  | zero => intro i h1 h2; omega
  | succ k ih =>
    intro i h1 h2 rs es fr S hk ha hr h0 h5 cont
    obtain ⟨x, g1, g2⟩ := get_val hv hs h2 S
    cases hg : getF s i with
    | none =>
      rw [hg] at g2
      obtain ⟨e, he, rfl⟩ := g2
      have hw : wholeS s (k + 1) i = ([], i) := by simp [wholeS, hg]
      rw [hw] at cont
      have he' : (e != 0) = true := by simpa using he
      have hR : ∀ fr', fr' 2 = fr 4 → fr' 3 = .int .i64 (i : Int) → Q fr' S := fun fr' q2 q3 => cont fr' S es (by rw [q2]; exact ha) (by simpa using hr) q3
      clear cont ih
      rw [gval_lp]
      simp -implicitDefEqProofs [h0, h5, g1, he']
      exact hR _ (by simp) (by simp [h5])
    | some p =>
      obtain ⟨y, n⟩ := p
      rw [hg] at g2
      obtain ⟨yv, rfl, hy⟩ := g2
      obtain ⟨n1, n2, n3⟩ := getF_lt hg
      obtain ⟨S1, hS1⟩ : ∃ S1 : St, S1 = ⟨S.objs ++ [[.int .i64 0, .nils, .nils, .nils, .int .i64 0, .int .i64 0]], S.tips⟩ := ⟨_, rfl⟩
      rcases ofR_val hy.isl (by omega) S with ⟨r, cs, o1, o2, o3⟩ | ⟨o1, o3⟩
      · have hw : wholeS s (k + 1) i = (r :: (wholeS s k n).1, (wholeS s k n).2) := by simp [wholeS, hg, o1]
        rw [hw] at cont
        obtain ⟨c6, c1⟩ := recC_all o2.c
        have c1' : (∀ x, x ∈ cs → x.one = true) = True := eq_true (by simpa using c1)
        have hsz : szOk 6 [PV.agg cs] = true := by simp [szOk, c6]
        obtain ⟨v', S', a1, a2, a3⟩ := ((ha.objs [cs]).arrs [(1, 6)]).app (bytes := 96) [PV.agg cs] (by simp; omega)
        have hp := pt6 c6
        have hz : putCells [PV.int .i64 0, .nils, .nils, .nils, .int .i64 0, .int .i64 0] 0 cs = cs := put_all (by simp [c6])
        have hL : ∀ fr', fr' 0 = bv → fr' 4 = v' → fr' 5 = .int .i64 (n : Int) → Ok (gval T (.lp z63_l0 :: .blk 0 :: K) fr' S') Q := by
          intro fr' q0 q4 q5
          refine ih n (by omega) n2 (rs ++ [r]) (es ++ [.agg cs]) fr' S' (by simp; omega) (by rw [q4]; exact a2) (hr.snoc o2) q0 q5 (fun fr2 S2 es2 w1 w2 w3 => cont fr2 S2 es2 w1 (by simpa using w2) w3)
        clear cont ih
        rw [gval_lp]
        simp -implicitDefEqProofs [h0, h5, g1, o3, pstep, newObj, c6, c1, c1', hz, hp, loadP_last, elems, setParts, newArr, appended, hsz, a1]
        exact hL _ (by simp [h0]) (by simp) (by simp)
      · have hw : wholeS s (k + 1) i = ([], i) := by simp [wholeS, hg, o1]
        rw [hw] at cont
        have hR : ∀ fr', fr' 2 = fr 4 → fr' 3 = .int .i64 (i : Int) → Q fr' ⟨S.objs ++ [emptyC], S.tips⟩ := fun fr' q2 q3 => cont fr' _ es (by rw [q2]; exact ha.objs [emptyC]) (by simpa using hr) q3
        have hz : putCells [PV.int .i64 0, .nils, .nils, .nils, .int .i64 0, .int .i64 0] 0 emptyC = emptyC := rfl
        have c6 : emptyC.length = 6 := rfl
        have c1 : emptyC.all PV.one = true := rfl
        clear cont ih
        rw [gval_lp]
        simp -implicitDefEqProofs [h0, h5, g1, o3, pstep, newObj, c6, c1, hz]
        exact hR _ (by simp) (by simp [h5])
theorem whole_val {s : List UInt8} {bv : PV} (hv : IsSl 1 bv (ofBytes s)) (hs : s.length ≤ 900000) (S : St) :
    ∃ v es S1, cval T 249 [bv] S = some (.tup [v, .int .i64 ((wholeS s (s.length + 1) 0).2 : Int)], S1) ∧ AccG S 6 S1 v es ∧ RecsF es (wholeS s (s.length + 1) 0).1 := by
  have key := cval_ex (T := T) (f := 249) (c := z63) fn_249 (args := [bv]) (S := S) rfl
    (R := fun r S2 => ∃ v es, r = .tup [v, .int .i64 ((wholeS s (s.length + 1) 0).2 : Int)] ∧ AccG S 6 S2 v es ∧ RecsF es (wholeS s (s.length + 1) 0).1) ?_
  · obtain ⟨r, S2, h1, v, es, rfl, h2⟩ := key
    exact ⟨v, es, S2, h1, h2⟩
  simp -implicitDefEqProofs [z63]
  refine whole_loop hv hs (S0 := S) (s.length + 1) 0 (by omega) (by omega) [] [] _ S (by simp; omega) (by simpa using accg_nil 6 (Grows.refl S)) trivial (by simp) (by simp) (fun fr' S' es' q1 q2 q3 => ?_)
  rw [List.nil_append] at q2
  simp -implicitDefEqProofs [q3, finish]
  exact ⟨es', q1, q2⟩
end Ps
