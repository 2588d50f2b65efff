/- Merging; the law LabelParts. -/
import Derived.Test.YtfimbhaiegkkeaaLG
namespace Ps
set_option linter.unusedSimpArgs false
open Go

theorem fn_41 : T.fn 41 = some (.code label_Merge) := rfl
theorem fn_8 : T.fn 8 = some (.code law06_LabelParts) := rfl

def ltL (x y : Lab) : Bool := Op.bytesLess y.1 x.1
def eqL (x y : Lab) : Bool := y.1 == x.1
def mergeL : List Lab → List Lab → List Lab
  | [], b => b
  | x :: a, b => b.takeWhile (ltL x) ++ x :: mergeL a ((b.dropWhile (ltL x)).dropWhile (eqL x))

theorem tw_len (f : Lab → Bool) (b : List Lab) : (b.takeWhile f).length + (b.dropWhile f).length = b.length := by
  rw [← List.length_append, List.takeWhile_append_dropWhile]
theorem mergeL_len : ∀ a b : List Lab, (mergeL a b).length ≤ a.length + b.length
  | [], b => by simp [mergeL]
  | x :: a, b => by
    have h1 := mergeL_len a ((b.dropWhile (ltL x)).dropWhile (eqL x))
    have h2 := tw_len (ltL x) b
    have h3 := tw_len (eqL x) (b.dropWhile (ltL x))
    simp only [mergeL, List.length_append, List.length_cons]
    omega

theorem merge1_loop {x : Lab} {id : Nat} {S0 : St} {K : List Kt} {Q : Fr → St → Prop} : ∀ (b : List Lab) (out : List Lab), out.length + b.length ≤ 4194304 → ∀ (fr : Fr) (S : St),
    IsSl 2 (fr 1) (b.map labV) → fr 7 = .ptr id 0 → S.objs[id]? = some [.str x.1, .str x.2.1] → AccG S0 2 S (fr 5) (out.map labV) →
    (∀ fr' S', fr' 7 = fr 7 → fr' 8 = fr 8 → fr' 9 = fr 9 → fr' 10 = fr 10 → IsSl 2 (fr' 1) ((b.dropWhile (ltL x)).map labV) → S'.objs = S.objs → AccG S0 2 S' (fr' 5) ((out ++ b.takeWhile (ltL x)).map labV) → Ok (gval T K fr' S') Q) →
    Ok (gval T (.lp label_Merge_l1 :: .blk 2 :: K) fr S) Q := by
  intro b
  induction b with
  | nil =>
    intro out hn fr S h1 h7 ho ha k
    have hlen := h1.len
    rw [gval_lp]
    simp -implicitDefEqProofs [hlen]
    exact k _ _ (by simp) (by simp) (by simp) (by simp) (by simpa using h1) rfl (by simpa using ha)
  | cons y b ih =>
    intro out hn fr S h1 h7 ho ha k
    have hlen := h1.len
    rw [List.length_map, List.length_cons] at hlen
    have hg : iaddrP 2 (fr 1) (.int .i64 0) = some (.ref [.str y.1, .str y.2.1]) := by simpa using h1.reads.get 0 (by simp) .i64
    have hpos : (0 : Int) < (b.length : Int) + 1 := by omega
    simp only [List.length_cons] at hn
    obtain ⟨v1, e1, e2⟩ := h1.lo (lo := 1) (k := .i64) (by simp)
    rw [gval_lp]
    simp -implicitDefEqProofs [hlen, hg, hpos, h7, loadP_ptr ho, p1, p2, pstep, elems, setParts]
    refine ok_br (fun a => ?_) (fun a => ?_)
    · obtain ⟨v', S', f1, f2, f3⟩ := (ha.arrs [(1, 2)]).app (bytes := 32) [labV y] (by simp; omega)
      simp only [labV] at f1
      have e1' : slcP 2 (some (.int .i64 1)) none (fr 1) = some v1 := e1
      simp -implicitDefEqProofs [f1, e1']
      refine ih (out ++ [y]) (by simp; omega) _ S' (by simpa using e2) (by simp [h7]) (by rw [f3]; exact ho) (by simpa using f2) (fun fr' S'' g7 g8 g9 g10 gi go ga => k fr' S'' (by simpa using g7) (by simpa using g8) (by simpa using g9) (by simpa using g10) ?_ (by rw [go, f3]) ?_)
      · rw [List.dropWhile_cons_of_pos (show ltL x y = true from a)]; exact gi
      · rw [List.takeWhile_cons_of_pos (show ltL x y = true from a)]; simpa using ga
    · have a' : ¬ ltL x y = true := by simp [ltL, a]
      refine k _ _ (by simp) (by simp) (by simp) (by simp) ?_ rfl ?_
      · rw [List.dropWhile_cons_of_neg a']; simpa using h1
      · rw [List.takeWhile_cons_of_neg a']; simpa using ha

theorem merge2_loop {x : Lab} {id : Nat} {S : St} {K : List Kt} {Q : Fr → St → Prop} : ∀ (b : List Lab), b.length ≤ 4194304 → ∀ (fr : Fr),
    IsSl 2 (fr 1) (b.map labV) → fr 7 = .ptr id 0 → S.objs[id]? = some [.str x.1, .str x.2.1] →
    (∀ fr', fr' 5 = fr 5 → fr' 7 = fr 7 → fr' 8 = fr 8 → fr' 9 = fr 9 → fr' 10 = fr 10 → IsSl 2 (fr' 1) ((b.dropWhile (eqL x)).map labV) → Ok (gval T K fr' S) Q) →
    Ok (gval T (.lp label_Merge_l2 :: .blk 4 :: K) fr S) Q := by
  intro b
  induction b with
  | nil =>
    intro hn fr h1 h7 ho k
    have hlen := h1.len
    rw [gval_lp]
    simp -implicitDefEqProofs [hlen]
    exact k _ (by simp) (by simp) (by simp) (by simp) (by simp) (by simpa using h1)
  | cons y b ih =>
    intro hn fr h1 h7 ho k
    have hlen := h1.len
    rw [List.length_map, List.length_cons] at hlen
    have hg : iaddrP 2 (fr 1) (.int .i64 0) = some (.ref [.str y.1, .str y.2.1]) := by simpa using h1.reads.get 0 (by simp) .i64
    have hpos : (0 : Int) < (b.length : Int) + 1 := by omega
    simp only [List.length_cons] at hn
    obtain ⟨v1, e1, e2⟩ := h1.lo (lo := 1) (k := .i64) (by simp)
    have e1' : slcP 2 (some (.int .i64 1)) none (fr 1) = some v1 := e1
    rw [gval_lp]
    simp -implicitDefEqProofs [hlen, hg, hpos, h7, loadP_ptr ho, p1, e1']
    refine ok_br (fun a => ?_) (fun a => ?_)
    · refine ih (by omega) _ (by simpa using e2) (by simp [h7]) ho (fun fr' g5 g7 g8 g9 g10 gi => k fr' (by simpa using g5) (by simpa using g7) (by simpa using g8) (by simpa using g9) (by simpa using g10) ?_)
      rw [List.dropWhile_cons_of_pos (show eqL x y = true from a)]; exact gi
    · have a' : ¬ eqL x y = true := by simp only [eqL, a]; decide
      refine k _ (by simp) (by simp) (by simp) (by simp) (by simp) ?_
      rw [List.dropWhile_cons_of_neg a']; simpa using h1

theorem merge_loop {l : List Lab} {v : PV} (hv : Reads1 2 v (l.map labV)) (hl : l.length ≤ maxLen) {S0 : St} {K : List Kt} {Q : Fr → St → Prop} : ∀ (r p b out : List Lab), l = p ++ r → out.length + r.length + b.length ≤ 4194304 → ∀ (fr : Fr) (S : St),
    fr 8 = v → fr 9 = .int .i64 l.length → fr 10 = .int .i64 p.length → IsSl 2 (fr 1) (b.map labV) → AccG S0 2 S (fr 5) (out.map labV) →
    (∀ fr' S' b' out', IsSl 2 (fr' 1) (b'.map labV) → AccG S0 2 S' (fr' 5) (out'.map labV) → out' ++ b' = out ++ mergeL r b → out'.length + b'.length ≤ 4194304 → Ok (gval T K fr' S') Q) →
    Ok (gval T (.lp label_Merge_l0 :: .blk 0 :: K) fr S) Q := by
  intro r
  induction r with
  | nil =>
    intro p b out e hn fr S h8 h9 h10 h1 ha k
    rw [List.append_nil] at e; subst e
    rw [gval_lp]
    simp -implicitDefEqProofs [h8, h9, h10]
    exact k _ _ b out (by simpa using h1) (by simpa using ha) rfl (by simpa using hn)
  | cons x r ih =>
    intro p b out e hn fr S h8 h9 h10 h1 ha k
    have hlt : p.length < l.length := by rw [e]; simp
    have hg := sl_get hv e
    unfold maxLen at hl
    have hw := wrap_len (a := p.length) (by omega)
    simp only [List.length_cons] at hn
    have hd1 := tw_len (ltL x) b
    have hd2 := tw_len (eqL x) (b.dropWhile (ltL x))
    rw [gval_lp]
    simp -implicitDefEqProofs [h8, h9, h10, hlt, hg, p2, pstep, putCells]
    refine merge1_loop (x := x) (id := S.objs.length) (S0 := S0) b out (by omega) _ _ (by simpa using h1) (by simp) (by simp) (by simpa using ha.objs [[.str x.1, .str x.2.1]]) (fun fr1 S1 g7 g8 g9 g10 gi go ga => ?_)
    simp -implicitDefEqProofs
    refine merge2_loop (x := x) (id := S.objs.length) (b.dropWhile (ltL x)) (by omega) fr1 gi (by simpa using g7) (by rw [go]; simp) (fun fr2 f5 f7 f8 f9 f10 fi => ?_)
    have ho1 : S1.objs[S.objs.length]? = some [.str x.1, .str x.2.1] := by rw [go]; simp
    have f7' : fr2 7 = .ptr S.objs.length 0 := by rw [f7]; simpa using g7
    have ga2 : AccG S0 2 S1 (fr2 5) ((out ++ b.takeWhile (ltL x)).map labV) := by rw [f5]; exact ga
    obtain ⟨v', S', a1, a2, a3⟩ := (ga2.arrs [(1, 2)]).app (bytes := 32) [labV x] (by simp; omega)
    simp only [labV] at a1
    simp -implicitDefEqProofs [f7', loadP_ptr ho1, p2, pstep, elems, setParts, a1]
    have f8' : fr2 8 = v := by rw [f8]; simpa [h8] using g8
    have f9' : fr2 9 = .int .i64 l.length := by rw [f9]; simpa [h9] using g9
    have f10' : fr2 10 = .int .i64 p.length := by rw [f10]; simpa [h10] using g10
    simp -implicitDefEqProofs [f10', hw]
    refine ih (p ++ [x]) ((b.dropWhile (ltL x)).dropWhile (eqL x)) (out ++ b.takeWhile (ltL x) ++ [x]) (by simp [e]) (by simp; omega) _ S' (by simp [f8']) (by simp [f9']) (by simp) (by simpa using fi) (by simpa using a2) (fun fr' S'' b' out' q1 q2 q3 q4 => k fr' S'' b' out' q1 q2 ?_ q4)
    rw [q3, mergeL]; simp

theorem merge_val {l b : List Lab} {v v2 : PV} (hv : Reads1 2 v (l.map labV)) (hl : l.length ≤ 1048576) (hv2 : IsSl 2 v2 (b.map labV)) (hb : b.length ≤ 1048576) (S : St) :
    ∃ v', cval T 41 [v, v2] S = some (v', S) ∧ SlL v' (mergeL l b) := by
  have key := cval_ex (T := T) (f := 41) (c := label_Merge) fn_41 (args := [v, v2]) (S := S) rfl (R := fun r S2 => S2 = S ∧ SlL r (mergeL l b)) ?_
  · obtain ⟨r, S2, h1, rfl, h2⟩ := key
    exact ⟨r, h1, h2⟩
  have hlen := hv.len
  rw [List.length_map] at hlen
  simp -implicitDefEqProofs [label_Merge, hlen]
  refine merge_loop hv (by unfold maxLen; omega) (S0 := S) l [] b [] rfl (by simp; omega) _ S (by simp) (by simp) (by simp) (by simpa using hv2) (by simpa using accg_nil 2 (Grows.refl S)) (fun fr' S' b' out' h1 ha e hn => ?_)
  obtain ⟨v', S2, a1, a2, a3⟩ := ha.app (bytes := 32) (b'.map labV) (by simp; omega)
  simp -implicitDefEqProofs [h1.appd, a1]
  have ha2 : AccG S 2 S2 v' ((mergeL l b).map labV) := by
    have : out' ++ b' = mergeL l b := by simpa using e
    rw [← this]; simpa using a2
  have hfin := ha2.fin (labs_free _) (labs_frz _)
  simp [hfin]
  exact slF_lab ha2

/-! Right sets, plainly. -/
def okLab (x : Lab) : Prop := nameB x.1 = true ∧ x.2.1 ≠ [] ∧ x.2.1.length ≤ 64
def Right (l : List Lab) : Prop := l.length ≤ 8 ∧ (∀ x ∈ l, okLab x) ∧ l.Pairwise (fun x y => x.1 < y.1)

theorem nle_iff {a b : List UInt8} : (Op.bytesLess b a || b == a) = false ↔ a < b := by
  rw [← bl_iff]
  have h := cmpT_neg a b
  unfold cmpT at h
  cases p : Op.bytesLess a b <;> cases q : Op.bytesLess b a <;> simp [p, q] at h ⊢
  · by_cases e : a = b
    · simp [e]
    · have e' : ¬ b = a := fun k => e k.symm
      simp [e, e'] at h
  · intro e; subst e; rw [p] at q; cases q

theorem chk1_zero {l : List Lab} {i : Nat} (h : i < l.length) : chk1 l i h = 0 ↔ okLab l[i] ∧ (∀ h0 : 0 < i, l[i - 1].1 < l[i].1) := by
  unfold chk1 okLab
  cases hn : nameB l[i].1 with
  | false => simp
  | true =>
    by_cases b : l[i].2.1 = []
    · simp [b]
    · have b' : l[i].2.1.isEmpty = false := by simpa using b
      by_cases c : 64 < l[i].2.1.length
      · have c' : ¬ l[i].2.1.length ≤ 64 := by omega
        simp [b', c, c']
      · have c' : l[i].2.1.length ≤ 64 := by omega
        rw [if_neg (by simp), b', if_neg (by simp), if_neg c]
        by_cases d : 0 < i
        · rw [dif_pos d]
          have q := nle_iff (a := l[i - 1].1) (b := l[i].1)
          cases e : (Op.bytesLess l[i].1 l[i - 1].1 || l[i].1 == l[i - 1].1) with
          | true =>
            rw [e] at q
            simp only [if_true]
            constructor
            · intro k; cases k
            · rintro ⟨_, k⟩
              have := q.2 (k d)
              cases this
          | false =>
            rw [e] at q
            simp only [Bool.false_eq_true, if_false, true_iff]
            exact ⟨⟨trivial, b, c'⟩, fun _ => q.1 rfl⟩
        · rw [dif_neg d]
          simp only [true_iff]
          exact ⟨⟨trivial, b, c'⟩, fun h0 => absurd h0 d⟩

theorem chkIdx_zero {l : List Lab} : ∀ (n i : Nat), l.length - i = n → (chkIdx l i = 0 ↔ ∀ j (h : j < l.length), i ≤ j → chk1 l j h = 0) := by
  intro n
  induction n with
  | zero =>
    intro i hi
    rw [chkIdx, dif_neg (by omega)]
    exact ⟨fun _ j h hj => by omega, fun _ => rfl⟩
  | succ n ih =>
    intro i hi
    rw [chkIdx, dif_pos (by omega)]
    by_cases h0 : chk1 l i (by omega) = 0
    · rw [if_pos h0, ih (i + 1) (by omega)]
      constructor
      · intro k j h hj
        by_cases e : j = i
        · subst e; exact h0
        · exact k j h (by omega)
      · intro k j h hj; exact k j h (by omega)
    · rw [if_neg h0]
      exact ⟨fun e => absurd e h0, fun k => absurd (k i (by omega) (Nat.le_refl _)) h0⟩

theorem checkN_zero {l : List Lab} : checkN l = 0 ↔ Right l := by
  unfold checkN Right
  by_cases h8 : 8 < l.length
  · simp [h8]; omega
  · rw [if_neg h8, chkIdx_zero l.length 0 rfl]
    have h8' : l.length ≤ 8 := by omega
    simp only [h8', true_and]
    constructor
    · intro k
      refine ⟨fun x hx => ?_, ?_⟩
      · obtain ⟨i, hi, rfl⟩ := List.getElem_of_mem hx
        exact ((chk1_zero hi).1 (k i hi (Nat.zero_le _))).1
      · rw [List.pairwise_iff_getElem]
        have adj : ∀ d i j (hi : i < l.length) (hj : j < l.length), j = i + d + 1 → l[i].1 < l[j].1 := by
          intro d
          induction d with
          | zero =>
            intro i j hi hj e
            subst e
            exact ((chk1_zero hj).1 (k _ hj (Nat.zero_le _))).2 (by omega)
          | succ d ih =>
            intro i j hi hj e
            have h1 := ih i (j - 1) hi (by omega) (by omega)
            have h2 := ((chk1_zero hj).1 (k _ hj (Nat.zero_le _))).2 (by omega)
            exact List.lt_trans h1 h2
        intro i j hi hj hij
        exact adj (j - i - 1) i j hi hj (by omega)
    · rintro ⟨k1, k2⟩ j h _
      rw [chk1_zero h]
      rw [List.pairwise_iff_getElem] at k2
      exact ⟨k1 _ (List.getElem_mem h), fun h0 => k2 (j - 1) j (by omega) h (by omega)⟩

theorem right_filter {l : List Lab} (h : Right l) (P : Lab → Bool) : Right (l.filter P) :=
  ⟨Nat.le_trans (List.length_filter_le _ _) h.1, fun x hx => h.2.1 x (List.mem_filter.1 hx).1, h.2.2.filter P⟩

theorem ltL_true {x y : Lab} (h : y.1 < x.1) : ltL x y = true := bl_iff.2 h
theorem ltL_false {x y : Lab} (h : x.1 < y.1) : ltL x y = false := by
  unfold ltL
  rw [Bool.eq_false_iff]
  intro k
  exact List.lt_irrefl _ (List.lt_trans h (bl_iff.1 k))
theorem eqL_false {x y : Lab} (h : x.1 < y.1) : eqL x y = false := by
  unfold eqL
  rw [beq_eq_false_iff_ne]
  intro k
  rw [k] at h; exact List.lt_irrefl _ h

theorem mergeL_parts (P : Lab → Bool) : ∀ l : List Lab, l.Pairwise (fun x y => x.1 < y.1) → mergeL (l.filter P) (l.filter fun x => !P x) = l
  | [], _ => rfl
  | x :: t, h => by
    obtain ⟨hx, ht⟩ := List.pairwise_cons.1 h
    have ih := mergeL_parts P t ht
    by_cases p : P x = true
    · rw [List.filter_cons_of_pos p, List.filter_cons_of_neg (by simp [p]), mergeL]
      have hb : ∀ y ∈ t.filter (fun x => !P x), x.1 < y.1 := fun y hy => hx y (List.mem_filter.1 hy).1
      have e1 : (t.filter fun x => !P x).takeWhile (ltL x) = [] := by
        cases hq : t.filter (fun x => !P x) with
        | nil => rfl
        | cons y q => rw [List.takeWhile_cons_of_neg]; rw [ltL_false (hb y (by rw [hq]; simp))]; simp
      have e2 : (t.filter fun x => !P x).dropWhile (ltL x) = t.filter fun x => !P x := by
        cases hq : t.filter (fun x => !P x) with
        | nil => rfl
        | cons y q => rw [List.dropWhile_cons_of_neg]; rw [ltL_false (hb y (by rw [hq]; simp))]; simp
      have e3 : (t.filter fun x => !P x).dropWhile (eqL x) = t.filter fun x => !P x := by
        cases hq : t.filter (fun x => !P x) with
        | nil => rfl
        | cons y q => rw [List.dropWhile_cons_of_neg]; rw [eqL_false (hb y (by rw [hq]; simp))]; simp
      rw [e1, e2, e3, ih]; rfl
    · have p' : (!P x) = true := by simpa using p
      rw [List.filter_cons_of_neg p, List.filter_cons_of_pos (p := fun x => !P x) p']
      cases hq : t.filter P with
      | nil =>
        rw [hq] at ih
        simp only [mergeL] at ih ⊢
        rw [ih]
      | cons y q =>
        have hy : x.1 < y.1 := hx y (List.mem_filter.1 (by rw [hq]; simp)).1
        rw [hq] at ih
        simp only [mergeL] at ih ⊢
        rw [List.takeWhile_cons_of_pos (ltL_true hy), List.dropWhile_cons_of_pos (ltL_true hy), List.cons_append, ih]

theorem mergeL_parts' (P : Lab → Bool) (l : List Lab) (h : l.Pairwise (fun x y => x.1 < y.1)) : mergeL (l.filter fun x => !P x) (l.filter P) = l := by
  have := mergeL_parts (fun x => !P x) l h
  simpa using this

theorem law_LabelParts (xs : denL [.sl tyLab, .sl .str]) (h : wfL [.sl tyLab, .sl .str] xs) (hb : bulkL [.sl tyLab, .sl .str] xs ≤ 1048576) : ∃ S', cval T 8 (pvL [.sl tyLab, .sl .str] xs) St0 = some (.bool true, S') := by
  obtain ⟨l, m, u⟩ := xs
  obtain ⟨w1, _⟩ := h
  obtain ⟨_, wn⟩ := inL_wf w1
  have hb' : (Ty.sl tyLab).bulk l + ((Ty.sl .str).bulk m + 0) ≤ 1048576 := hb
  have b1 := inL_len l
  have b2 := inS_len m
  have hv := inL_reads l
  obtain ⟨hm, hm1, hm2⟩ := inS_reads m
  refine ⟨St0, ?_⟩
  show cval T 8 [(Ty.sl tyLab).pv l, (Ty.sl .str).pv m] St0 = _
  generalize (Ty.sl tyLab).pv l = v at hv
  generalize (Ty.sl .str).pv m = v2 at hm hm1 hm2
  generalize hl : inL l = L at *
  generalize hn : inS m = N at *
  have hL : L.length ≤ 1048576 := by omega
  have hL2 : L.length ≤ maxLen := by unfold maxLen; omega
  have hN : N.length ≤ maxLen := by unfold maxLen; omega
  have hlen := hv.len
  rw [List.length_map] at hlen
  have c1 := check_val hv (fun x hx => (wn x hx).1) hL2 St0
  obtain ⟨k1, ke, kr⟩ := keep_val hv hL hm hN hm1 hm2 St0
  obtain ⟨d1, de, dr⟩ := drop_val hv hL hm hN hm1 hm2 St0
  refine cval_ok' fn_8 rfl ?_
  simp -implicitDefEqProofs [law06_LabelParts, c1, lives_pval]
  refine ok_br (fun a => ?_) (fun a => ?_)
  · simp
  · have hz : checkN L = 0 := by simpa using a
    have hr := checkN_zero.1 hz
    let P : Lab → Bool := fun x => N.contains x.1
    have hp1 : (L.filter P).length ≤ 1048576 := Nat.le_trans (List.length_filter_le _ _) hL
    have hp2 : (L.filter fun x => !P x).length ≤ 1048576 := Nat.le_trans (List.length_filter_le _ _) hL
    have c2 := check_val kr.reads (fun x hx => (wn x (List.mem_filter.1 hx).1).1) (Nat.le_trans (List.length_filter_le _ _) hL2) St0
    have c3 := check_val dr.reads (fun x hx => (wn x (List.mem_filter.1 hx).1).1) (Nat.le_trans (List.length_filter_le _ _) hL2) St0
    rw [checkN_zero.2 (right_filter hr _)] at c2 c3
    obtain ⟨m1, me, mr⟩ := merge_val kr.reads hp1 dr.isl hp2 St0
    obtain ⟨m2, ne, nr⟩ := merge_val dr.reads hp2 kr.isl hp1 St0
    rw [mergeL_parts P L hr.2.2] at mr
    rw [mergeL_parts' P L hr.2.2] at nr
    have s1 := same_val mr.reads hv hL2 St0
    have s2 := same_val nr.reads hv hL2 St0
    rw [cmpL_zero.2 rfl] at s1 s2
    have hk := kr.reads.len
    have hd := dr.reads.len
    rw [List.length_map] at hk hd
    have hsum : (L.filter P).length + (L.filter fun x => !P x).length = L.length := by
      have : ∀ l : List Lab, (l.filter P).length + (l.filter fun x => !P x).length = l.length := by
        intro l
        induction l with
        | nil => rfl
        | cons x l ih => by_cases p : P x = true <;> simp [p] <;> omega
      exact this L
    have hw : IntKind.i64.wrap (((L.filter P).length : Int) + ((L.filter fun x => !P x).length : Int)) = (L.length : Int) := by rw [wrap_i64] <;> omega
    generalize (L.filter fun x => N.contains x.1).length = n1 at *
    generalize (L.filter fun x => !N.contains x.1).length = n2 at *
    simp -implicitDefEqProofs [ke, de, hk, hd, hw, hlen, c2, c3, me, ne, s1, s2, lives_pval]
end Ps
