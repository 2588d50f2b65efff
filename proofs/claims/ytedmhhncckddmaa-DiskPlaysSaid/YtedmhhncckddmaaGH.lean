/- The disk in plain words and the document's: directories. -/
import Derived.Test.YtedmhhncckddmaaGG
namespace Ps
set_option linter.unusedSimpArgs false
set_option linter.unusedVariables false
open Go

theorem blt_iff {a b : List UInt8} : Op.bytesLess a b = true ↔ a < b := by
  induction a generalizing b with
  | nil => cases b <;> simp [Op.bytesLess]
  | cons x a ih => cases b with
    | nil => simp [Op.bytesLess]
    | cons y b => simp [Op.bytesLess, ih, List.cons_lt_cons_iff]

abbrev Srt (M : List RE) : Prop := M.Pairwise fun a b => a.1 < b.1

theorem withR_true (e : RE) : ∀ l : List RE, withR e true l = withoutR e.1 l
  | [] => rfl
  | x :: l => by
    simp only [withR, Bool.not_true, Bool.false_and, Bool.false_eq_true, if_false, List.nil_append, Bool.true_or, withR_true e l]
    unfold withoutR
    cases h : (x.1 == e.1) <;> simp [h]
theorem withR_mem (e : RE) : ∀ (l : List RE) (x : RE), x ∈ withR e false l → x = e ∨ x ∈ l
  | [], x, h => by simp [withR] at h; exact .inl h
  | y :: l, x, h => by
    simp only [withR, Bool.not_false, Bool.true_and, Bool.false_or] at h
    cases hb : Op.bytesLess e.1 y.1 with
    | true =>
      rw [hb, withR_true] at h
      simp only [if_true, List.mem_append, List.mem_cons, List.not_mem_nil, or_false] at h
      rcases h with h | h | h
      · exact .inl h
      · split at h
        · simp at h; exact .inr (by simp [h])
        · cases h
      · exact .inr (List.mem_cons_of_mem _ (List.mem_filter.1 h).1)
    | false =>
      rw [hb] at h
      simp only [Bool.false_eq_true, if_false, List.nil_append, List.mem_append] at h
      rcases h with h | h
      · split at h
        · simp at h; exact .inr (by simp [h])
        · cases h
      · rcases withR_mem e l x h with h | h
        · exact .inl h
        · exact .inr (List.mem_cons_of_mem _ h)

theorem withR_ok (e : RE) : ∀ l : List RE, Srt l → Srt (withR e false l) ∧ (withR e false l).Perm (e :: withoutR e.1 l)
  | [], _ => by simp [withR, withoutR, Srt]
  | x :: l, h => by
    have h1 := (List.pairwise_cons.1 h).1
    obtain ⟨i1, i2⟩ := withR_ok e l (List.pairwise_cons.1 h).2
    simp only [withR, Bool.not_false, Bool.true_and, Bool.false_or]
    cases hb : Op.bytesLess e.1 x.1 with
    | true =>
      have hlt := blt_iff.1 hb
      have hne : (x.1 == e.1) = false := by
        rw [beq_eq_false_iff_ne]; intro k; rw [k] at hlt; exact List.lt_irrefl _ hlt
      rw [withR_true]
      have e1 : ([e] ++ ([x] ++ withoutR e.1 l)) = e :: withoutR e.1 (x :: l) := by simp [withoutR, hne]
      simp only [hne, Bool.not_false, if_true]
      rw [e1]
      refine ⟨List.pairwise_cons.2 ⟨?_, h.filter _⟩, .refl _⟩
      intro y hy
      rcases List.mem_cons.1 (List.mem_filter.1 hy).1 with hy | hy
      · rw [hy]; exact hlt
      · exact List.lt_trans hlt (h1 y hy)
    | false =>
      simp only [Bool.false_eq_true, if_false, List.nil_append]
      cases hx : (x.1 == e.1) with
      | true =>
        refine ⟨by simpa using i1, ?_⟩
        simpa [withoutR, hx] using i2
      | false =>
        have hnl : ¬ e.1 < x.1 := fun k => by rw [blt_iff.2 k] at hb; cases hb
        have hle : x.1 < e.1 := by
          by_cases k : x.1 < e.1
          · exact k
          · have : x.1 = e.1 := List.le_antisymm (List.not_lt.1 hnl) (List.not_lt.1 k)
            rw [this] at hx; simp at hx
        simp only [Bool.not_false, if_true, List.singleton_append]
        refine ⟨List.pairwise_cons.2 ⟨?_, i1⟩, ?_⟩
        · intro y hy
          rcases withR_mem e l y hy with hy | hy
          · rw [hy]; exact hle
          · exact h1 y hy
        · have e1 : withoutR e.1 (x :: l) = x :: withoutR e.1 l := by simp [withoutR, hx]
          rw [e1]
          exact (i2.cons x).trans (List.Perm.swap _ _ _)

def mp (φ : Nat → Int) (l : List (Nm × Nat)) : List RE := l.map fun p => (p.1, φ p.2)
def DR (φ : Nat → Int) (l : List (Nm × Nat)) (M : List RE) : Prop := (mp φ l).Perm M ∧ Srt M

theorem DR.nd {φ : Nat → Int} {l : List (Nm × Nat)} {M : List RE} (h : DR φ l M) : l.Pairwise fun a b => a.1 ≠ b.1 := by
  have h2 : M.Pairwise fun a b => a.1 ≠ b.1 := h.2.imp fun k e => by rw [e] at k; exact List.lt_irrefl _ k
  have h3 := (h.1.pairwise_iff (R := fun a b : RE => a.1 ≠ b.1) (fun k => Ne.symm k)).2 h2
  unfold mp at h3
  exact (List.pairwise_map (f := fun p : Nm × Nat => (p.1, φ p.2)) (R := fun a b : RE => a.1 ≠ b.1)).1 h3

theorem put_perm (k : Nm) (f : Nat) : ∀ l : List (Nm × Nat), (put k f l).Perm ((k, f) :: del k l)
  | [] => .refl _
  | (q, u) :: l => by
    simp only [put, del]
    split
    · exact .refl _
    · exact ((put_perm k f l).cons _).trans (List.Perm.swap _ _ _)
theorem del_filter (k : Nm) : ∀ l : List (Nm × Nat), l.Pairwise (fun a b => a.1 ≠ b.1) → del k l = l.filter fun p => !(p.1 == k)
  | [], _ => rfl
  | (q, u) :: l, h => by
    obtain ⟨h1, h2⟩ := List.pairwise_cons.1 h
    simp only [del]
    by_cases e : (k == q) = true
    · have e' : k = q := by simpa using e
      subst e'
      have : (l.filter fun p => !(p.1 == k)) = l := by
        rw [List.filter_eq_self]
        intro p hp
        have := h1 p hp
        simp only [Bool.not_eq_true', beq_eq_false_iff_ne]
        exact Ne.symm this
      simp [this]
    · have e' : (q == k) = false := by
        rw [beq_eq_false_iff_ne]; intro x; exact e (by simp [x])
      simp [e, e', del_filter k l h2]
theorem DR.del {φ : Nat → Int} {l : List (Nm × Nat)} {M : List RE} (h : DR φ l M) (k : Nm) : DR φ (del k l) (withoutR k M) := by
  refine ⟨?_, h.2.filter _⟩
  rw [del_filter k l h.nd]
  have : mp φ (l.filter fun p => !(p.1 == k)) = withoutR k (mp φ l) := by
    unfold mp withoutR
    rw [List.filter_map]; rfl
  rw [this]
  exact h.1.filter _
theorem DR.put {φ : Nat → Int} {l : List (Nm × Nat)} {M : List RE} (h : DR φ l M) (k : Nm) (f : Nat) : DR φ (put k f l) (withR (k, φ f) false M) := by
  obtain ⟨h1, h2⟩ := withR_ok (k, φ f) M h.2
  refine ⟨?_, h1⟩
  refine List.Perm.trans ?_ h2.symm
  have : (mp φ (Ps.put k f l)).Perm (mp φ ((k, f) :: Ps.del k l)) := (put_perm k f l).map _
  exact this.trans ((h.del k).1.cons _)
theorem atR_mem {n : Nm} {x : Int} : ∀ {M : List RE}, M.Pairwise (fun a b => a.1 ≠ b.1) → (n, x) ∈ M → atR n M = x
  | (q, f) :: l, h, hm => by
    obtain ⟨h1, h2⟩ := List.pairwise_cons.1 h
    simp only [atR]
    rcases List.mem_cons.1 hm with hm | hm
    · cases hm; simp
    · have : (q == n) = false := by
        rw [beq_eq_false_iff_ne]; exact h1 _ hm
      simp only [this, Bool.false_eq_true, if_false]
      exact atR_mem h2 hm
theorem atR_none {n : Nm} : ∀ {M : List RE}, (∀ e ∈ M, e.1 ≠ n) → atR n M = -1
  | [], _ => rfl
  | (q, f) :: l, h => by
    have : (q == n) = false := by
      rw [beq_eq_false_iff_ne]; exact h (q, f) (by simp)
    simp only [atR, this, Bool.false_eq_true, if_false]
    exact atR_none fun e he => h e (by simp [he])
theorem lk_none {k : Nm} : ∀ {l : List (Nm × Nat)}, lk k l = none → ∀ p ∈ l, p.1 ≠ k
  | [], _, p, hp => by cases hp
  | (q, f) :: l, h, p, hp => by
    simp only [lk] at h
    split at h
    · cases h
    · rename_i e
      rcases List.mem_cons.1 hp with hp | hp
      · subst hp; intro x; exact e (by simp [← x])
      · exact lk_none h p hp
theorem DR.at {φ : Nat → Int} {l : List (Nm × Nat)} {M : List RE} (h : DR φ l M) (n : Nm) : atR n M = match lk n l with | some f => φ f | none => -1 := by
  have h2 : M.Pairwise fun a b => a.1 ≠ b.1 := h.2.imp fun k e => by rw [e] at k; exact List.lt_irrefl _ k
  cases hl : lk n l with
  | some f =>
    have := lk_mem hl
    exact atR_mem h2 (h.1.mem_iff.1 (List.mem_map.2 ⟨(n, f), this, rfl⟩))
  | none =>
    refine atR_none fun e he => ?_
    obtain ⟨p, hp, rfl⟩ := List.mem_map.1 (h.1.mem_iff.2 he)
    exact lk_none hl p hp

def stepOf (φ : Nat → Int) (x : Ent) : RS := match x.2.2 with | some f => ⟨1, x.2.1, [], φ f⟩ | none => if x.2.1 = [] then ⟨3, x.1, [], 0⟩ else ⟨2, x.1, x.2.1, 0⟩

theorem DR.doE {φ : Nat → Int} {l : List (Nm × Nat)} {M : List RE} (h : DR φ l M) (x : Ent) (hx : okE x l) (hn : x.2.2 ≠ none → x.2.1 ≠ []) : DR φ (Ps.doE x l) (stepDir M (stepOf φ x)) := by
  obtain ⟨a, b, c⟩ := x
  cases c with
  | some f =>
    have hb : b ≠ [] := hn (by simp)
    simp only [Ps.doE, hb, if_false, stepOf, stepDir, if_true]
    exact h.put b f
  | none =>
    obtain ⟨f, hf⟩ := Option.isSome_iff_exists.1 (hx rfl)
    simp only at hf
    by_cases hb : b = []
    · subst hb
      simp only [Ps.doE, hf, if_true, stepOf, stepDir]
      simpa using h.del a
    · simp only [Ps.doE, hf, hb, if_false, stepOf, stepDir]
      have ha := h.at a
      rw [hf] at ha
      simp only at ha
      simp only [ha]
      simpa using (h.del a).put b f
theorem DR.doA {φ : Nat → Int} : ∀ (ws : List Ent) {l : List (Nm × Nat)} {M : List RE}, DR φ l M → okA ws l → (∀ x ∈ ws, x.2.2 ≠ none → x.2.1 ≠ []) → DR φ (doA ws l) (dirL M (ws.map (stepOf φ)))
  | [], l, M, h, _, _ => h
  | x :: ws, l, M, h, ho, hn => by
    simp only [Ps.doA, List.map_cons, dirL, List.foldl_cons]
    exact DR.doA ws (h.doE x ho.1 (hn x (by simp))) ho.2 fun y hy => hn y (by simp [hy])

theorem DR.len {φ : Nat → Int} {l : List (Nm × Nat)} {M : List RE} (h : DR φ l M) : M.length = l.length := by
  rw [← h.1.length_eq]; simp [mp]
theorem DR.congr {φ ψ : Nat → Int} {l : List (Nm × Nat)} {M : List RE} (h : DR φ l M) (he : ∀ p ∈ l, φ p.2 = ψ p.2) : DR ψ l M := by
  refine ⟨?_, h.2⟩
  have : mp ψ l = mp φ l := List.map_congr_left fun p hp => by rw [he p hp]
  rw [this]; exact h.1
theorem DR.nil (φ : Nat → Int) : DR φ [] [] := ⟨.refl _, .nil⟩

theorem DR.sort {φ : Nat → Int} {l : List (Nm × Nat)} {M : List RE} (h : DR φ l M) : sortN l = M.map (·.1) := by
  have hp : (l.map (·.1)).Perm (M.map (·.1)) := by
    have := h.1.map (·.1)
    unfold mp at this
    rw [List.map_map] at this
    exact this
  unfold sortN
  have h1 : (l.map (·.1)).mergeSort leB = (M.map (·.1)).mergeSort leB := mergeSort_of_perm hp
  rw [h1]
  refine List.mergeSort_of_pairwise ?_
  rw [List.pairwise_map]
  exact h.2.imp fun k => by simpa [leB] using List.le_of_lt k

end Ps
