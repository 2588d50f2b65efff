/- Lists of places; the document's merge, walked. -/
import Derived.Test.YtmhigcjhjmcpcaaRxW
namespace Ps
set_option linter.unusedSimpArgs false
set_option linter.unusedVariables false
open Go

theorem fn_226 : T.fn 226 = some (.code ref07_merge) := rfl

theorem nodup_len {α : Type} [BEq α] [LawfulBEq α] : ∀ {A B : List α}, A.Nodup → (∀ x ∈ A, x ∈ B) → A.length ≤ B.length
  | [], B, _, _ => by simp
  | a :: A, B, h, hs => by
    have hn := List.nodup_cons.1 h
    have hb := hs a (by simp)
    have := nodup_len (A := A) (B := B.erase a) hn.2 (fun x hx => (List.mem_erase_of_ne (fun e => hn.1 (by rw [← e]; exact hx))).2 (hs x (by simp [hx])))
    rw [List.length_erase_of_mem hb] at this
    have hp : 0 < B.length := List.length_pos_of_mem hb
    simp only [List.length_cons]; omega
theorem nodup_all {α : Type} [BEq α] [LawfulBEq α] {A B : List α} (h : A.Nodup) (hs : ∀ x ∈ A, x ∈ B) (hl : B.length ≤ A.length) : ∀ x ∈ B, x ∈ A := by
  intro x hx
  apply Classical.byContradiction
  intro hn
  have := nodup_len (A := x :: A) (B := B) (List.nodup_cons.2 ⟨hn, h⟩) (fun y hy => by
    rcases List.mem_cons.1 hy with rfl | hy
    · exact hx
    · exact hs y hy)
  simp only [List.length_cons] at this
  omega

/-- Places, rising. -/
def Ris (l : List Nat) : Prop := l.Pairwise (· < ·)
theorem Ris.nodup {l : List Nat} (h : Ris l) : l.Nodup := List.Pairwise.imp (fun h => Nat.ne_of_lt h) h
theorem ris_len {l : List Nat} (h : Ris l) {n : Nat} (hb : ∀ j ∈ l, j ≤ n) : l.length ≤ n + 1 := by
  have := nodup_len h.nodup (B := List.range (n + 1)) (fun x hx => List.mem_range.2 (by have := hb x hx; omega))
  simpa using this
theorem ris_full {l : List Nat} (h : Ris l) {n : Nat} (hb : ∀ j ∈ l, j ≤ n) (hl : n + 1 ≤ l.length) {j : Nat} (hj : j ≤ n) : j ∈ l :=
  nodup_all h.nodup (B := List.range (n + 1)) (fun x hx => List.mem_range.2 (by have := hb x hx; omega)) (by simpa using hl) j (List.mem_range.2 (by omega))
theorem ris_app {l : List Nat} {n : Nat} (h : Ris l) (hb : ∀ j ∈ l, j < n) : Ris (l ++ [n]) := by
  unfold Ris
  rw [List.pairwise_append]
  exact ⟨h, by simp, fun a ha b hb' => by simp at hb'; subst hb'; exact hb a ha⟩

def intsV (l : List Nat) : List PV := l.map fun (n : Nat) => PV.int .i64 (n : Int)
theorem intsV_len (l : List Nat) : (intsV l).length = l.length := by simp [intsV]
theorem intsV_free (l : List Nat) : PV.freeL (intsV l) = true := freeL_map _ (fun _ => rfl) l
theorem intsV_frz (l : List Nat) : PV.frzL (intsV l) = intsV l := frzL_map' _ (fun _ => rfl) l
theorem intsV_cells (l : List Nat) : ∀ e ∈ intsV l, e.cells.length = 1 := by
  intro e he
  obtain ⟨x, _, rfl⟩ := List.mem_map.1 he
  rfl
theorem intsV_app (a b : List Nat) : intsV (a ++ b) = intsV a ++ intsV b := by simp [intsV]
/-- Places, handed back. -/
structure SlI (v : PV) (l : List Nat) : Prop where
  isl : IsSl 1 v (intsV l)
  free : v.free = true
  frz : v.frz = v
theorem nilI : SlI .nils [] := ⟨.inl ⟨rfl, rfl⟩, rfl, rfl⟩
theorem slF_int {S0 S : St} {v : PV} {l : List Nat} (ha : AccG S0 1 S v (intsV l)) : SlI (slF v (intsV l)) l := by
  refine ⟨slF_isSl ha (intsV_cells _), ?_, ?_⟩
  · rcases ha.acc with ⟨h, _⟩ | ⟨id, _, h, _⟩
    · rw [h]; rfl
    · rw [h]; simp [slF, PV.free, intsV_free, PV.freeL]
  · rcases ha.acc with ⟨h, _⟩ | ⟨id, _, h, _⟩
    · rw [h]; rfl
    · rw [h]; simp [slF, PV.frz, intsV_frz, PV.frzL]
theorem acc_ints {S0 S : St} {v : PV} {l : List Nat} (ha : AccG S0 1 S v (intsV l)) : finish false S0 S v = (slF v (intsV l), S0) := ha.fin (intsV_free _) (intsV_frz _)

theorem isl_get0 {v : PV} {x : Nat} {l : List Nat} (h : IsSl 1 v (intsV (x :: l))) {k : IntKind} : iaddrP 1 v (.int k 0) = some (.ref [.int .i64 x]) := by
  have := h.reads.get 0 (by rw [intsV_len]; simp) k
  simpa [intsV, PV.cells] using this
theorem isl_tail {v : PV} {x : Nat} {l : List Nat} (h : IsSl 1 v (intsV (x :: l))) {k : IntKind} : ∃ v', slcP 1 (some (.int k 1)) none v = some v' ∧ IsSl 1 v' (intsV l) := by
  obtain ⟨v', a, b⟩ := h.lo (lo := 1) (k := k) (by rw [intsV_len]; simp)
  exact ⟨v', a, by simpa [intsV] using b⟩
theorem isl_len {v : PV} {l : List Nat} (h : IsSl 1 v (intsV l)) : lenP false v = some (.int .i64 l.length) := by
  have := h.len
  rwa [intsV_len] at this
theorem isl_last {v : PV} {x : Nat} {l : List Nat} (h : IsSl 1 v (intsV (l ++ [x]))) {k : IntKind} : iaddrP 1 v (.int k (l.length : Int)) = some (.ref [.int .i64 x]) := by
  have := h.reads.get l.length (by rw [intsV_len]; simp) k
  simpa [intsV, PV.cells] using this

theorem merge_loop {S0 : St} {K : List Kt} {Q : Fr → St → Prop} : ∀ (k : Nat) (ra rb lo : List Nat) (fr : Fr) (S : St), ra.length + rb.length = k → lo.length + k ≤ 1000000 →
    Ris ra → Ris rb → Ris lo → (∀ x ∈ lo, (∀ y ∈ ra, x ≤ y) ∧ ∀ y ∈ rb, x ≤ y) → IsSl 1 (fr 0) (intsV ra) → IsSl 1 (fr 1) (intsV rb) → AccG S0 1 S (fr 5) (intsV lo) →
    (∀ fr' S' l', AccG S0 1 S' (fr' 5) (intsV l') → Ris l' → (∀ j, j ∈ l' ↔ j ∈ lo ∨ j ∈ ra ∨ j ∈ rb) → Ok (gval T K fr' S') Q) →
    Ok (gval T (.lp ref07_merge_l0 :: .blk 0 :: K) fr S) Q := by
  intro k
  induction k using Nat.strongRecOn with
  | _ k ih =>
    intro ra rb lo fr S hk hbd hra hrb hlo hle ha hb hacc kk
    have hla := isl_len ha
    have hlb := isl_len hb
    have hisl := hacc.isSl (intsV_cells _)
    have hll := isl_len hisl
    -- with one number taken
    have push : ∀ (n : Nat) (ra1 rb1 : List Nat) (fr1 : Fr), ra1.length + rb1.length + 1 = k → Ris ra1 → Ris rb1 → (∀ x ∈ lo, x ≤ n) → (∀ y ∈ ra1, n ≤ y) → (∀ y ∈ rb1, n ≤ y) → (∀ x ∈ lo, (∀ y ∈ ra1, x ≤ y) ∧ ∀ y ∈ rb1, x ≤ y) →
        (∀ j, (j = n ∨ j ∈ ra1 ∨ j ∈ rb1) ↔ (j ∈ ra ∨ j ∈ rb)) → IsSl 1 (fr1 0) (intsV ra1) → IsSl 1 (fr1 1) (intsV rb1) → fr1 5 = fr 5 → fr1 6 = .int .i64 n →
        Ok (gval T (.ops ref07_merge_r9 :: .clr [(42, 54)] :: .code (.cond (.tmp 54) (.clr [(55, 59)] (.region ref07_merge_r10)) .skip) :: .blk 1 :: .lp ref07_merge_l0 :: .blk 0 :: K) fr1 S) Q := by
      intro n ra1 rb1 fr1 g1 g2 g3 g4 g5 g6 g7 g8 g9 g10 g11 g12
      obtain ⟨v', S', a1, a2, a3⟩ := (hacc.arrs [(1, 1)]).app (bytes := 8) [.int .i64 n] (by rw [intsV_len]; simp; omega)
      have a2' : AccG S0 1 S' v' (intsV (lo ++ [n])) := by rw [intsV_app]; exact a2
      have app : (∀ x ∈ lo, x < n) → ∀ fr2 : Fr, IsSl 1 (fr2 0) (intsV ra1) → IsSl 1 (fr2 1) (intsV rb1) → fr2 5 = v' → Ok (gval T (.lp ref07_merge_l0 :: .blk 0 :: K) fr2 S') Q := by
        intro hlt fr2 c0 c1 c5
        refine ih (ra1.length + rb1.length) (by omega) ra1 rb1 (lo ++ [n]) fr2 S' rfl (by simp; omega) g2 g3 (ris_app hlo hlt) (fun x hx => ?_) c0 c1 (by rw [c5]; exact a2') (fun fr3 S3 l' e1 e2 e3 => kk fr3 S3 l' e1 e2 (fun j => ?_))
        · rcases List.mem_append.1 hx with hx | hx
          · exact g7 x hx
          · simp at hx; subst hx; exact ⟨g5, g6⟩
        · rw [e3, List.mem_append, List.mem_singleton, ← g8]
          simp only [or_assoc]
      rcases List.eq_nil_or_concat lo with hnil | ⟨lo0, z, hz⟩
      · subst hnil
        have hll' : lenP false (fr 5) = some (.int .i64 0) := hll
        simp -implicitDefEqProofs [g11, g12, hll', pstep, elems, setParts, a1]
        exact app (fun x hx => by simp at hx) _ (by simpa using g9) (by simpa using g10) (by simp)
      · have hz' : lo = lo0 ++ [z] := by simpa using hz
        have hll' : lenP false (fr 5) = some (.int .i64 ((lo0.length : Int) + 1)) := by rw [hll, hz']; simp
        have hne0 : ((lo0.length : Int) + 1 == 0) = false := by
          have : ¬ (lo0.length : Int) + 1 = 0 := by omega
          simpa using this
        have hwl : IntKind.i64.wrap ((lo0.length : Int) + 1 - 1) = (lo0.length : Int) := by rw [Int.add_sub_cancel]; exact wrap_i64 (by have := hbd; rw [hz'] at this; simp at this; omega) (by have := hbd; rw [hz'] at this; simp at this; omega)
        have hwl2 : IntKind.i64.wrap (lo0.length : Int) = (lo0.length : Int) := by rw [← hwl, Int.add_sub_cancel] ; rw [Int.add_sub_cancel] at hwl; rw [hwl, hwl]
        rw [hz'] at hisl
        have hlast := isl_last hisl (k := .i64)
        have hp1 : partOf false 1 [PV.int .i64 (z : Int)] = some (.int .i64 z) := rfl
        have hzn : z ≤ n := g4 z (by rw [hz']; simp)
        by_cases hq : z = n
        · have hq' : ((z : Int) != (n : Int)) = false := by subst hq; simp
          simp -implicitDefEqProofs [g11, g12, hll', hne0, hwl, hwl2, hlast, hp1, hq']
          refine ih (ra1.length + rb1.length) (by omega) ra1 rb1 lo _ S rfl (by omega) g2 g3 hlo g7 (by simpa using g9) (by simpa using g10) (by simpa [g11] using hacc) (fun fr3 S3 l' e1 e2 e3 => kk fr3 S3 l' e1 e2 (fun j => ?_))
          rw [e3, ← g8]
          constructor
          · rintro (h | h)
            · exact .inl h
            · exact .inr (.inr h)
          · rintro (h | h | h)
            · exact .inl h
            · exact .inl (by rw [h, hz', ← hq]; simp)
            · exact .inr h
        · have hq' : ((z : Int) != (n : Int)) = true := by
            have : ¬ (z : Int) = (n : Int) := by omega
            simpa using this
          simp -implicitDefEqProofs [g11, g12, hll', hne0, hwl, hwl2, hlast, hp1, hq', pstep, elems, setParts, a1]
          refine app (fun x hx => ?_) _ (by simpa using g9) (by simpa using g10) (by simp)
          rw [hz'] at hx hlo
          rcases List.mem_append.1 hx with hx | hx
          · have := (List.pairwise_append.1 hlo).2.2 x hx z (by simp)
            omega
          · simp at hx; omega
    rw [gval_lp]
    cases ra with
    | nil =>
      cases rb with
      | nil =>
        simp only [List.length_nil] at hla hlb
        simp -implicitDefEqProofs [hla, hlb]
        exact kk _ S lo (by simpa using hacc) hlo (fun j => by simp)
      | cons y rb' =>
        have hg := isl_get0 hb (k := .i64)
        obtain ⟨v1, t1, t2⟩ := isl_tail hb (k := .i64)
        have hp1 : partOf false 1 [PV.int .i64 (y : Int)] = some (.int .i64 y) := rfl
        have hlb' : lenP false (fr 1) = some (.int .i64 ((rb'.length : Int) + 1)) := by simpa using hlb
        have hgt : (0 : Int) < (rb'.length : Int) + 1 := by omega
        have hne : ((rb'.length : Int) + 1 == 0) = false := by
          have : ¬ (rb'.length : Int) + 1 = 0 := by omega
          simpa using this
        simp only [List.length_nil] at hla
        have hP := fun fr1 => push y [] rb' fr1 (by simp at hk ⊢; omega) (by simp [Ris]) (List.pairwise_cons.1 hrb).2 (fun x hx => (hle x hx).2 y (by simp)) (by simp) (fun z hz => Nat.le_of_lt ((List.pairwise_cons.1 hrb).1 z hz)) (fun x hx => ⟨by simp, fun z hz => (hle x hx).2 z (by simp [hz])⟩) (fun j => by simp)
        simp -implicitDefEqProofs [-ref07_merge_r9_go, hla, hlb', hgt, hne, hg, hp1, t1]
        exact hP _ (by simpa using ha) (by simpa using t2) (by simp) (by simp)
    | cons x ra' =>
      have hgx := isl_get0 ha (k := .i64)
      obtain ⟨vx, tx1, tx2⟩ := isl_tail ha (k := .i64)
      have hpx : partOf false 1 [PV.int .i64 (x : Int)] = some (.int .i64 x) := rfl
      have hla' : lenP false (fr 0) = some (.int .i64 ((ra'.length : Int) + 1)) := by simpa using hla
      have hgtx : (0 : Int) < (ra'.length : Int) + 1 := by omega
      have hrx := List.pairwise_cons.1 hra
      cases rb with
      | nil =>
        simp only [List.length_nil] at hlb
        have hP := fun fr1 => push x ra' [] fr1 (by simp at hk ⊢; omega) hrx.2 (by simp [Ris]) (fun z hz => (hle z hz).1 x (by simp)) (fun z hz => Nat.le_of_lt (hrx.1 z hz)) (by simp) (fun z hz => ⟨fun y hy => (hle z hz).1 y (by simp [hy]), by simp⟩) (fun j => by simp)
        simp -implicitDefEqProofs [-ref07_merge_r9_go, hla', hlb, hgtx, hgx, hpx, tx1]
        exact hP _ (by simpa using tx2) (by simpa using hb) (by simp) (by simp)
      | cons y rb' =>
        have hgy := isl_get0 hb (k := .i64)
        obtain ⟨vy, ty1, ty2⟩ := isl_tail hb (k := .i64)
        have hpy : partOf false 1 [PV.int .i64 (y : Int)] = some (.int .i64 y) := rfl
        have hlb' : lenP false (fr 1) = some (.int .i64 ((rb'.length : Int) + 1)) := by simpa using hlb
        have hgty : (0 : Int) < (rb'.length : Int) + 1 := by omega
        have hney : ((rb'.length : Int) + 1 == 0) = false := by
          have : ¬ (rb'.length : Int) + 1 = 0 := by omega
          simpa using this
        have hry := List.pairwise_cons.1 hrb
        by_cases hxy : x ≤ y
        · have hxy' : (x : Int) ≤ (y : Int) := by omega
          have hP := fun fr1 => push x ra' (y :: rb') fr1 (by simp at hk ⊢; omega) hrx.2 hrb (fun z hz => (hle z hz).1 x (by simp)) (fun z hz => Nat.le_of_lt (hrx.1 z hz)) (fun z hz => by
            rcases List.mem_cons.1 hz with rfl | hz
            · exact hxy
            · have := hry.1 z hz; omega) (fun z hz => ⟨fun y hy => (hle z hz).1 y (by simp [hy]), (hle z hz).2⟩) (fun j => by simp only [List.mem_cons, or_assoc])
          simp -implicitDefEqProofs [-ref07_merge_r9_go, hla', hlb', hgtx, hgty, hney, hgx, hgy, hpx, hpy, tx1, hxy]
          exact hP _ (by simpa using tx2) (by simpa using hb) (by simp) (by simp)
        · have hxy' : ¬ (x : Int) ≤ (y : Int) := by omega
          have hP := fun fr1 => push y (x :: ra') rb' fr1 (by simp at hk ⊢; omega) hra hry.2 (fun z hz => (hle z hz).2 y (by simp)) (fun z hz => by
            rcases List.mem_cons.1 hz with rfl | hz
            · omega
            · have := hrx.1 z hz; omega) (fun z hz => Nat.le_of_lt (hry.1 z hz)) (fun z hz => ⟨(hle z hz).1, fun y hy => (hle z hz).2 y (by simp [hy])⟩) (fun j => by
              simp only [List.mem_cons]
              constructor
              · rintro (h | h | h)
                · exact .inr (.inl h)
                · exact .inl h
                · exact .inr (.inr h)
              · rintro (h | h | h)
                · exact .inr (.inl h)
                · exact .inl h
                · exact .inr (.inr h))
          simp -implicitDefEqProofs [-ref07_merge_r9_go, hla', hlb', hgtx, hgty, hney, hgx, hgy, hpx, hpy, ty1, hxy]
          exact hP _ (by simpa using ha) (by simpa using ty2) (by simp) (by simp)

theorem merge_val {la lb : List Nat} {va vb : PV} (ha : IsSl 1 va (intsV la)) (hb : IsSl 1 vb (intsV lb)) (h1 : Ris la) (h2 : Ris lb) (hl : la.length + lb.length ≤ 1000000) (S : St) :
    ∃ v l, cval T 226 [va, vb] S = some (v, S) ∧ SlI v l ∧ Ris l ∧ ∀ j, j ∈ l ↔ j ∈ la ∨ j ∈ lb := by
  have key := cval_ex (T := T) (f := 226) (c := ref07_merge) fn_226 (args := [va, vb]) (S := S) rfl (R := fun r S2 => S2 = S ∧ ∃ l, SlI r l ∧ Ris l ∧ ∀ j, j ∈ l ↔ j ∈ la ∨ j ∈ lb) ?_
  · obtain ⟨r, S2, k1, rfl, l, k2, k3, k4⟩ := key
    exact ⟨r, l, k1, k2, k3, k4⟩
  have main : ∀ Q : Fr → St → Prop, (∀ fr S' l, AccG S 1 S' (fr 4) (intsV l) → Ris l → (∀ j, j ∈ l ↔ j ∈ la ∨ j ∈ lb) → Q fr S') → Ok (gval T [.code ref07_merge.body] (argsFr [va, vb]) S) Q := by
    intro Q ends
    simp -implicitDefEqProofs [ref07_merge]
    refine merge_loop (S0 := S) _ la lb [] _ S rfl (by simp; omega) h1 h2 (by simp [Ris]) (by simp) (by simpa using ha) (by simpa using hb) (by simpa [intsV] using accg_nil 1 (Grows.refl S)) (fun fr' S' l' a1 a2 a3 => ?_)
    simp -implicitDefEqProofs
    exact ends _ S' l' (by simpa using a1) a2 (fun j => by rw [a3]; simp)
  refine main _ (fun fr S' l a1 a2 a3 => ⟨[fr 4], rfl, ?_⟩)
  show (finish false S S' (fr 4)).2 = S ∧ ∃ l, SlI (finish false S S' (fr 4)).1 l ∧ _
  rw [acc_ints a1]
  exact ⟨rfl, l, slF_int a1, a2, a3⟩
end Ps
