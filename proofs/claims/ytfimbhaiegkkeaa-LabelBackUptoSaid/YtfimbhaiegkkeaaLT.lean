/- The text of a right set is read back. -/
import Derived.Test.YtfimbhaiegkkeaaLR
namespace Ps
set_option linter.unusedSimpArgs false
open Go

theorem fn_212 : T.fn 212 = some (.code ref06_digit) := rfl
theorem fn_97 : T.fn 97 = some (.code ref06_Unquoted) := rfl

def digI (c : Nat) : Int := if 48 ≤ c ∧ c ≤ 57 then (c : Int) - 48 else if 97 ≤ c ∧ c ≤ 102 then (c : Int) - 97 + 10 else -1
theorem digI_fin : ∀ m : Fin 256, digI m.val = findI hexD (UInt8.ofNat m.val) := by decide +kernel
theorem digI_eq (c : UInt8) : digI c.toNat = findI hexD c := by
  have := digI_fin ⟨c.toNat, c.toNat_lt⟩
  simpa using this
theorem digit_val {c : UInt8} : pval T 212 [.int .u8 (c.toNat : Int)] = some (.int .i64 (findI hexD c)) := by
  rw [← digI_eq]
  have hlt := c.toNat_lt
  have w0 : IntKind.i64.wrap (c.toNat : Int) = (c.toNat : Int) := wrap_i64 (by omega) (by omega)
  have w1 : IntKind.i64.wrap ((c.toNat : Int) - 48) = (c.toNat : Int) - 48 := wrap_i64 (by omega) (by omega)
  have w2 : IntKind.i64.wrap ((c.toNat : Int) - 97) = (c.toNat : Int) - 97 := wrap_i64 (by omega) (by omega)
  have w3 : IntKind.i64.wrap ((c.toNat : Int) - 97 + 10) = (c.toNat : Int) - 97 + 10 := wrap_i64 (by omega) (by omega)
  refine pval_st (cval_ok' fn_212 rfl ?_) rfl rfl
  generalize hR : digI c.toNat = R
  unfold digI at hR
  simp -implicitDefEqProofs [ref06_digit, w0, w1, w2, w3]
  refine ok_br (fun a => ?_) (fun a => ok_br (fun b => ?_) (fun b => ?_))
  · simp at a
    rw [if_pos (by omega)] at hR
    simp [hR]
  · simp at a b
    rw [if_neg (by omega), if_pos (by omega)] at hR
    simp [hR]
  · simp at a b
    rw [if_neg (by omega), if_neg (by omega)] at hR
    simp [hR]

/-- What a value's text comes to by the document, from behind its first mark on. -/
def unA : Nat → List UInt8 → List UInt8 → Option (List UInt8 × List UInt8)
  | 0, _, _ => none
  | _ + 1, [], _ => none
  | n + 1, c :: r, b => if c = 34 then some (b, r) else if c = 92 then
      (match r with
      | [] => none
      | d :: r2 => if d = 92 ∨ d = 34 then unA n r2 (b ++ [d]) else if d = 120 then
          (match r2 with
          | h :: l :: r3 => (match findB hexD h, findB hexD l with
            | some x, some y => unA n r3 (b ++ [UInt8.ofNat (16 * x + y)])
            | _, _ => none)
          | _ => none) else none) else unA n r (b ++ [c])

theorem unA_valA : ∀ (n : Nat) (u b : List UInt8) (q : List UInt8 × List UInt8), unA n u b = some q → valA n u b = some q := by
  intro n
  induction n with
  | zero => intro u b q h; simp [unA] at h
  | succ n ih =>
    intro u b q h
    cases u with
    | nil => simp [unA] at h
    | cons c r =>
      simp only [unA, valA] at h ⊢
      split
      · rename_i e; rw [if_pos e] at h; exact h
      · rename_i e
        rw [if_neg e] at h
        split
        · rename_i e2
          rw [if_pos e2] at h
          cases r with
          | nil => cases h
          | cons d r2 =>
            simp only at h ⊢
            by_cases h1 : d = 92 ∨ d = 34
            · rw [if_pos h1] at h
              rw [if_neg (by rcases h1 with rfl | rfl <;> decide)]
              exact ih _ _ _ h
            · rw [if_neg h1] at h
              by_cases h2 : d = 120
              · rw [if_pos h2] at h ⊢
                cases r2 with
                | nil => cases h
                | cons x r3 =>
                  cases r3 with
                  | nil => cases h
                  | cons y r4 =>
                    simp only at h ⊢
                    cases e1 : findB hexD x with
                    | none => rw [e1] at h; cases h
                    | some i =>
                      cases e3 : findB hexD y with
                      | none => rw [e1, e3] at h; cases h
                      | some j => rw [e1, e3] at h; exact ih _ _ _ h
              · rw [if_neg h2] at h; cases h
        · rename_i e2
          rw [if_neg e2] at h
          exact ih _ _ _ h

theorem hexB_find : ∀ m : Fin 16, findB hexD (hexB m.val) = some m.val := by decide +kernel

/-- A value's text is read back. -/
theorem unA_esc : ∀ (v : List UInt8) (n : Nat) (r b : List UInt8), (v.flatMap escB).length < n → unA n (v.flatMap escB ++ 34 :: r) b = some (b ++ v, r) := by
  intro v
  induction v with
  | nil =>
    intro n r b hn
    cases n with
    | zero => omega
    | succ n => simp [unA]
  | cons c v ih =>
    intro n r b hn
    rw [List.flatMap_cons, List.length_append] at hn
    have hc : 1 ≤ (escB c).length := by unfold escB; split; simp; split <;> simp
    cases n with
    | zero => omega
    | succ n =>
      have hi := ih n r (b ++ [c]) (by omega)
      rw [List.append_assoc] at hi
      rw [List.flatMap_cons, List.append_assoc]
      generalize v.flatMap escB ++ 34 :: r = U at hi
      unfold escB
      by_cases h1 : c.toNat = 34 ∨ c.toNat = 92
      · rw [if_pos h1]
        have h1' : c = 92 ∨ c = 34 := by
          rcases h1 with h | h
          · exact .inr (UInt8.toNat_inj.1 h)
          · exact .inl (UInt8.toNat_inj.1 h)
        simp only [List.cons_append, List.nil_append, unA]
        rw [if_neg (by decide), if_pos (by decide), if_pos h1']
        simpa using hi
      · rw [if_neg h1]
        by_cases h2 : c.toNat < 32 ∨ 126 < c.toNat
        · rw [if_pos h2]
          have hlt := c.toNat_lt
          have f1 := hexB_find ⟨c.toNat / 16, by omega⟩
          have f2 := hexB_find ⟨c.toNat % 16, by omega⟩
          simp only at f1 f2
          have he : UInt8.ofNat (16 * (c.toNat / 16) + c.toNat % 16) = c := by
            rw [Nat.div_add_mod]; simp
          simp only [List.cons_append, List.nil_append, unA]
          rw [if_neg (by decide), if_pos (by decide), if_neg (by decide), if_pos (by decide), f1, f2]
          simp only [he]
          simpa using hi
        · rw [if_neg h2]
          simp only [List.cons_append, List.nil_append, unA]
          rw [if_neg (fun e => h1 (.inl (by rw [e]; rfl))), if_neg (fun e => h1 (.inr (by rw [e]; rfl)))]
          simpa using hi

/-- What a value's text comes to by the document. -/
def unR (s : List UInt8) : Option (List UInt8 × List UInt8) := match stripP [34] s with
  | none => none
  | some r => match unA (r.length + 1) r [] with
    | none => none
    | some (v, q) => if quotT v ++ q = s then some (v, q) else none
theorem unR_quot (v q : List UInt8) : unR (quotT v ++ q) = some (v, q) := by
  have e : quotT v ++ q = 34 :: (v.flatMap escB ++ 34 :: q) := by simp [quotT]
  have h := unA_esc v ((v.flatMap escB ++ 34 :: q).length + 1) q [] (by simp; omega)
  unfold unR
  rw [e]
  simp only [stripP, if_true, h, List.nil_append]
  rw [if_pos (by rw [e])]
theorem valR_quot (v q : List UInt8) : valR (quotT v ++ q) = some (v, q) := by
  have e : quotT v ++ q = 34 :: (v.flatMap escB ++ 34 :: q) := by simp [quotT]
  have h := unA_valA _ _ _ _ (unA_esc v ((v.flatMap escB ++ 34 :: q).length + 1) q [] (by simp; omega))
  unfold valR
  rw [e]
  simp only [stripP, if_true, h, List.nil_append]

/-- The text that is left, behind the labels that are read. -/
def tT : Bool → List Lab → List UInt8
  | _, [] => [125]
  | f, x :: r => (if f then [] else [44, 32]) ++ (x.1 ++ 61 :: (quotT x.2.1 ++ tT false r))

theorem joinB_tT : ∀ (l : List Lab), joinB [44, 32] (l.map partT) ++ [125] = tT true l
  | [] => rfl
  | [x] => by simp [joinB, tT, partT]
  | x :: y :: r => by
    have h := joinB_tT (y :: r)
    have e : tT false (y :: r) = [44, 32] ++ tT true (y :: r) := by simp [tT]
    rw [tT, e, ← h]
    simp [joinB, partT]
theorem printT_tT (l : List Lab) : printT l = 123 :: tT true l := by
  rw [printT, List.cons_append, joinB_tT]

theorem name61 {s : List UInt8} (h : nameB s = true) : 61 ∉ s := by
  intro m
  cases s with
  | nil => simp at m
  | cons c l =>
    simp only [nameB, Bool.and_eq_true] at h
    rcases List.mem_cons.1 m with e | m
    · rw [← e] at h; exact absurd h.1.1 (by decide)
    · have := List.all_eq_true.1 h.1.2 61 m
      exact absurd this (by decide)

theorem quotT_ge (v : List UInt8) : 2 ≤ (quotT v).length := by simp [quotT]
theorem tT_ge (f : Bool) (l : List Lab) : 1 ≤ (tT f l).length := by
  cases l with
  | nil => exact Nat.le_refl _
  | cons x r => simp [tT]; omega

theorem parA_tT : ∀ (r p : List Lab) (n : Nat), (∀ x ∈ r, 61 ∉ x.1) → (p ++ r).length ≤ 8 → (tT p.isEmpty r).length < n → parA n p (tT p.isEmpty r) = some (p ++ r) := by
  intro r
  induction r with
  | nil =>
    intro p n _ _ hn
    cases n with
    | zero => omega
    | succ n => simp [parA, tT]
  | cons x r ih =>
    intro p n h1 h2 hn
    cases n with
    | zero => omega
    | succ n =>
      have hq := quotT_ge x.2.1
      have hg := tT_ge false r
      have hne : tT p.isEmpty (x :: r) ≠ [125] := by
        intro e
        have := congrArg List.length e
        simp [tT] at this; omega
      have hs : (if p.length = 0 then some (tT p.isEmpty (x :: r)) else stripP [44, 32] (tT p.isEmpty (x :: r))) = some (x.1 ++ 61 :: (quotT x.2.1 ++ tT false r)) := by
        cases p with
        | nil => simp [tT]
        | cons y p => simp [tT, stripP]
      have hi := ih (p ++ [x]) n (fun y hy => h1 y (List.mem_cons_of_mem _ hy)) (by simpa using h2) (by
        have : (p ++ [x]).isEmpty = false := by simp
        rw [this]
        simp [tT] at hn; omega)
      have he : (p ++ [x]).isEmpty = false := by simp
      rw [he] at hi
      have h8 : p.length < 8 := by simp at h2; omega
      rw [parA, if_neg hne, hs]
      simp only
      rw [cutT_app (h1 x (by simp))]
      simp only [valR_quot, if_pos h8]
      simpa using hi

theorem parL_print {l : List Lab} (h : checkN l = 0) : parL (printT l) = some l := by
  obtain ⟨h1, h2, _⟩ := checkN_zero.1 h
  have hp := parA_tT l [] ((tT true l).length + 1) (fun x hx => name61 (h2 x hx).1) (by simpa using h1) (Nat.lt_succ_self _)
  have hs : stripP [123] (printT l) = some (tT true l) := by rw [printT_tT]; simp [stripP]
  unfold parL
  rw [hs]
  simp only
  have hp' : parA ((tT true l).length + 1) [] (tT true l) = some l := by simpa using hp
  rw [hp']
  simp [h]
theorem parL_some {s : List UInt8} {l : List Lab} (h : parL s = some l) : checkN l = 0 ∧ printT l = s := by
  unfold parL at h
  split at h
  · cases h
  · split at h
    · cases h
    · split at h
      · rename_i q
        simp only [Option.some.injEq] at h
        subst h; exact q
      · cases h
end Ps
