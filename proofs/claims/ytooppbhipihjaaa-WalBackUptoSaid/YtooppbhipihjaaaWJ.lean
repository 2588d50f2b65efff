/- A record's bytes are read back (plain law). -/
import Derived.Test.YtooppbhipihjaaaWI
namespace Ps
set_option linter.unusedSimpArgs false
set_option linter.unusedVariables false
open Go

theorem recN_full {r : RecM} (h : recN r = 0) :
    (∃ l, r = ⟨1, l, [], [], 0, 0⟩ ∧ checkN l = 0) ∨ (∃ l, r = ⟨2, [], l, [], 0, 0⟩ ∧ rowsN l = 0) ∨
    (∃ l a b, r = ⟨3, [], [], l, a, b⟩ ∧ postN l = 0 ∧ 0 ≤ a ∧ a ≤ b ∧ b ≤ 1099511627776) := by
  have hz := recN_zero h
  unfold recN at h
  obtain ⟨k, labs, rows, ids, lo, hi⟩ := r
  simp only at h hz
  by_cases a : k = 1 ∧ rows.length = 0 ∧ ids.length = 0 ∧ lo = 0 ∧ hi = 0
  · rw [if_pos a] at h
    obtain ⟨rfl, a1, a2, rfl, rfl⟩ := a
    rw [List.length_eq_zero_iff] at a1 a2
    subst a1; subst a2
    exact .inl ⟨labs, rfl, h⟩
  rw [if_neg a] at h
  by_cases b : k = 2 ∧ labs.length = 0 ∧ ids.length = 0 ∧ lo = 0 ∧ hi = 0
  · rw [if_pos b] at h
    obtain ⟨rfl, a1, a2, rfl, rfl⟩ := b
    rw [List.length_eq_zero_iff] at a1 a2
    subst a1; subst a2
    exact .inr (.inl ⟨rows, rfl, h⟩)
  rw [if_neg b] at h
  by_cases c : k = 3 ∧ labs.length = 0 ∧ rows.length = 0
  · obtain ⟨rfl, a1, a2⟩ := c
    rw [List.length_eq_zero_iff] at a1 a2
    subst a1; subst a2
    rcases hz with ⟨q, _⟩ | ⟨q, _⟩ | ⟨_, q⟩
    · cases q
    · cases q
    · exact .inr (.inr ⟨ids, lo, hi, rfl, q⟩)
  · rw [if_neg c] at h; cases h

theorem readS_put {p w : List UInt8} {n : Nat} (h : n < 9223372036854775808) : readS (p ++ (uintB n ++ w)) p.length false = (n, (p ++ uintB n).length, false) := by
  unfold readS
  rw [getU_put h]
  simp
theorem zag_zig {v : Int} : zagN (zigN v) = v := by
  unfold zagN zigN
  split
  · have : (-2 * v - 1).toNat % 2 = 1 := by omega
    rw [if_pos this]; omega
  · have : ¬ (2 * v).toNat % 2 = 1 := by omega
    rw [if_neg this]; omega

theorem row1_put {p w : List UInt8} {x : RowM} (h : rowOk x) : row1 (p ++ (rowB x ++ w)) p.length false = (x, (p ++ rowB x).length, false) := by
  obtain ⟨x1, x2, x3⟩ := h
  obtain ⟨m1, m2, m3, m4⟩ := may_bounds x3
  have a := readS_put (p := p) (w := uintB x.2.1.toNat ++ (uintB (zigN x.2.2) ++ w)) (n := x.1.toNat) (by omega)
  have b := readS_put (p := p ++ uintB x.1.toNat) (w := uintB (zigN x.2.2) ++ w) (n := x.2.1.toNat) (by omega)
  have c := readS_put (p := p ++ uintB x.1.toNat ++ uintB x.2.1.toNat) (w := w) (n := zigN x.2.2) (zigN_lt m3 m4)
  have e : p ++ (rowB x ++ w) = p ++ (uintB x.1.toNat ++ (uintB x.2.1.toNat ++ (uintB (zigN x.2.2) ++ w))) := by simp [rowB]
  have e2 : p ++ (uintB x.1.toNat ++ (uintB x.2.1.toNat ++ (uintB (zigN x.2.2) ++ w))) = (p ++ uintB x.1.toNat) ++ (uintB x.2.1.toNat ++ (uintB (zigN x.2.2) ++ w)) := by simp
  have e3 : p ++ (uintB x.1.toNat ++ (uintB x.2.1.toNat ++ (uintB (zigN x.2.2) ++ w))) = (p ++ uintB x.1.toNat ++ uintB x.2.1.toNat) ++ (uintB (zigN x.2.2) ++ w) := by simp
  rw [← e2] at b
  rw [← e3] at c
  unfold row1
  rw [e, a]
  simp only
  rw [b]
  simp only
  rw [c]
  have n1 : ((x.1.toNat : Nat) : Int) = x.1 := by omega
  have n2 : ((x.2.1.toNat : Nat) : Int) = x.2.1 := by omega
  simp only [n1, n2, zag_zig]
  simp [rowB]
  try omega
theorem rowsP_put {w : List UInt8} : ∀ (l : List RowM) (p : List UInt8) (l0 : List RowM), (∀ x ∈ l, rowOk x) → rowsP (p ++ (l.flatMap rowB ++ w)) l.length l0 p.length false = (l0 ++ l, (p ++ l.flatMap rowB).length, false)
  | [], p, l0, _ => by simp [rowsP]
  | x :: l, p, l0, h => by
    have a := row1_put (p := p) (w := l.flatMap rowB ++ w) (h x (by simp))
    have ih := rowsP_put (w := w) l (p ++ rowB x) (l0 ++ [x]) (fun y hy => h y (by simp [hy]))
    have e : p ++ ((x :: l).flatMap rowB ++ w) = p ++ (rowB x ++ (l.flatMap rowB ++ w)) := by simp
    have e2 : p ++ (rowB x ++ (l.flatMap rowB ++ w)) = (p ++ rowB x) ++ (l.flatMap rowB ++ w) := by simp
    rw [← e2] at ih
    rw [e, List.length_cons, rowsP, if_neg (by decide), a]
    simp only
    rw [ih]
    simp

theorem pR_put {w : List UInt8} : ∀ (l : List Int) (p : List UInt8) (last : Int) (l0 : List Int), ((l0 = [] ∧ last = 0 ∧ postR none l = 0) ∨ (0 ≤ last ∧ postR (some last) l = 0)) →
    pR (p ++ (postD last l ++ w)) l.length p.length last l0 = (l0 ++ l, (p ++ postD last l).length, 0)
  | [], p, last, l0, _ => by simp [pR, postD]
  | n :: l, p, last, l0, h => by
    have hb : 0 ≤ n ∧ n ≤ 1099511627776 ∧ (l0 ≠ [] → last < n) ∧ last ≤ n ∧ 0 ≤ last ∧ postR (some n) l = 0 := by
      rcases h with ⟨rfl, rfl, h⟩ | ⟨h0, h⟩
      · rw [postR_cons] at h
        by_cases a : n < 0 ∨ 1099511627776 < n
        · rw [if_pos a] at h; cases h
        · rw [if_neg a, if_neg (by simp)] at h
          exact ⟨by omega, by omega, fun q => absurd rfl q, by omega, by omega, h⟩
      · rw [postR_cons] at h
        by_cases a : n < 0 ∨ 1099511627776 < n
        · rw [if_pos a] at h; cases h
        · rw [if_neg a] at h
          by_cases b : n ≤ last
          · rw [if_pos (by simpa using b)] at h; cases h
          · rw [if_neg (by simpa using b)] at h
            exact ⟨by omega, by omega, fun _ => by omega, by omega, h0, h⟩
    obtain ⟨h1, h2, h3, h4, h5, h6⟩ := hb
    have hn : (((n - last).toNat : Nat) : Int) = n - last := by omega
    have a := getU_put (p := p) (w := postD n l ++ w) (n := (n - last).toNat) (by omega)
    have ih := pR_put (w := w) l (p ++ uintB (n - last).toNat) n (l0 ++ [n]) (.inr ⟨h1, h6⟩)
    have e : p ++ (postD last (n :: l) ++ w) = p ++ (uintB (n - last).toNat ++ (postD n l ++ w)) := by simp [postD_cons]
    have e2 : p ++ (uintB (n - last).toNat ++ (postD n l ++ w)) = (p ++ uintB (n - last).toNat) ++ (postD n l ++ w) := by simp
    rw [← e2] at ih
    rw [e, List.length_cons, pR, a]
    simp only [hn]
    rw [if_neg (by decide), if_neg (by
      rintro (q | ⟨q1, q2⟩)
      · omega
      · have := h3 (by intro z; rw [z] at q1; simp at q1)
        omega)]
    rw [show last + (n - last) = n by omega, show p.length + (uintB (n - last).toNat).length = (p ++ uintB (n - last).toNat).length by simp, ih]
    simp [postD_cons]
theorem postRd_put {p w : List UInt8} {l : List Int} (h : postN l = 0) : postRd (p ++ (postB l ++ w)) (p.length : Int) = (l, (p ++ postB l).length, 0) := by
  obtain ⟨hl, _⟩ := postN_asc h
  have hr : postR none l = 0 := by
    unfold postN at h
    rw [if_neg (by omega)] at h; exact h
  have a := getU_put (p := p) (w := postD 0 l ++ w) (n := l.length) (by omega)
  have b := pR_put (w := w) l (p ++ uintB l.length) 0 [] (.inl ⟨rfl, rfl, hr⟩)
  have e : p ++ (postB l ++ w) = p ++ (uintB l.length ++ (postD 0 l ++ w)) := by simp [postB]
  have e2 : p ++ (uintB l.length ++ (postD 0 l ++ w)) = (p ++ uintB l.length) ++ (postD 0 l ++ w) := by simp
  rw [← e2] at b
  unfold postRd
  rw [e, a]
  simp only
  rw [if_neg (by decide), if_neg (by omega), show p.length + (uintB l.length).length = (p ++ uintB l.length).length by simp, b]
  simp [postB]

/-- The program's reading of a right record's bytes. -/
theorem parP_put {r : RecM} (h : recN r = 0) : parP (recB r) = (r, true) := by
  rcases recN_full h with ⟨l, rfl, z⟩ | ⟨l, rfl, z⟩ | ⟨l, x, y, rfl, z, z1, z2, z3⟩
  · have he : recB ⟨1, l, [], [], 0, 0⟩ = [] ++ (uintB 1 ++ labsB l) := by simp [recB]
    have a := readS_put (p := []) (w := labsB l) (n := 1) (by omega)
    have b := readN_put (p := uintB 1) (w := []) z
    simp only [List.append_nil] at b
    rw [he]
    simp only [List.nil_append, List.length_nil] at a ⊢
    unfold parP
    rw [a]
    simp only
    rw [b]
    simp
  · obtain ⟨y1, y2, y3⟩ := rowsN_ok z
    have he : recB ⟨2, [], l, [], 0, 0⟩ = uintB 2 ++ (uintB l.length ++ (l.flatMap rowB ++ [])) := by simp [recB]
    have a := readS_put (p := []) (w := uintB l.length ++ (l.flatMap rowB ++ [])) (n := 2) (by omega)
    have b := readS_put (p := uintB 2) (w := l.flatMap rowB ++ []) (n := l.length) (by omega)
    have c := rowsP_put (w := []) l (uintB 2 ++ uintB l.length) [] y3
    have e2 : uintB 2 ++ (uintB l.length ++ (l.flatMap rowB ++ [])) = (uintB 2 ++ uintB l.length) ++ (l.flatMap rowB ++ []) := by simp
    rw [← e2] at c
    rw [he]
    simp only [List.nil_append, List.length_nil] at a c ⊢
    unfold parP
    rw [a]
    simp only
    rw [b]
    simp only
    rw [show min l.length 65 = l.length by omega, c]
    simp
  · have n1 : ((x.toNat : Nat) : Int) = x := by omega
    have n2 : ((y.toNat : Nat) : Int) = y := by omega
    have he : recB ⟨3, [], [], l, x, y⟩ = uintB 3 ++ (postB l ++ (uintB x.toNat ++ (uintB y.toNat ++ []))) := by simp [recB]
    have a := readS_put (p := []) (w := postB l ++ (uintB x.toNat ++ (uintB y.toNat ++ []))) (n := 3) (by omega)
    have b := postRd_put (p := uintB 3) (w := uintB x.toNat ++ (uintB y.toNat ++ [])) z
    have c := readS_put (p := uintB 3 ++ postB l) (w := uintB y.toNat ++ []) (n := x.toNat) (by omega)
    have d := readS_put (p := uintB 3 ++ postB l ++ uintB x.toNat) (w := []) (n := y.toNat) (by omega)
    have e2 : uintB 3 ++ (postB l ++ (uintB x.toNat ++ (uintB y.toNat ++ []))) = (uintB 3 ++ postB l) ++ (uintB x.toNat ++ (uintB y.toNat ++ [])) := by simp
    have e3 : uintB 3 ++ (postB l ++ (uintB x.toNat ++ (uintB y.toNat ++ []))) = (uintB 3 ++ postB l ++ uintB x.toNat) ++ (uintB y.toNat ++ []) := by simp
    rw [← e2] at c
    rw [← e3] at d
    rw [he]
    simp only [List.nil_append, List.length_nil] at a ⊢
    unfold parP
    rw [a]
    simp only
    rw [b]
    simp only
    rw [c]
    simp only
    rw [d]
    simp [n1, n2]
theorem recB_inj {r r' : RecM} (h : recN r = 0) (h' : recN r' = 0) (e : recB r = recB r') : r = r' := by
  have a := parP_put h
  have b := parP_put h'
  rw [e, b] at a
  exact (Prod.mk.inj a).1.symm

/-- What bytes are read as, without the reader. -/
def OfIs (s : List UInt8) (x : PV) : Prop :=
  (∃ r cs, recN r = 0 ∧ recB r = s ∧ RecC r cs ∧ x = .tup [.agg cs, .int .i64 0]) ∨ ((∀ r, recN r = 0 → recB r ≠ s) ∧ x = .tup [.agg emptyC, .int .i64 5])
theorem ofIs_of {s : List UInt8} {x : PV} (h : OfTo s x) : OfIs s x := by
  rcases h with ⟨h1, h2, h3, cs, h4, h5⟩ | ⟨h1, h2⟩
  · exact .inl ⟨_, cs, h2, h3, h4, h5⟩
  · refine .inr ⟨fun r hr e => h1 ?_, h2⟩
    have := parP_put hr
    rw [e] at this
    rw [this]
    exact ⟨rfl, hr, e⟩
end Ps
