/- The document's disk: Dir, Live, step, List, Read, Fuse, New. -/
import Derived.Test.YtedmhhncckddmaaGA
import Derived.Test.YtedmhhncckddmaaDC
namespace Ps
set_option linter.unusedSimpArgs false
set_option linter.unusedVariables false
open Go

theorem fn_203 : T.fn 203 = some (.code ref04_Named) := rfl
theorem fn_204 : T.fn 204 = some (.code ref04_Live) := rfl
theorem fn_205 : T.fn 205 = some (.code ref04_At) := rfl
theorem fn_206 : T.fn 206 = some (.code ref04_step) := rfl
theorem fn_207 : T.fn 207 = some (.code ref04_Dir) := rfl
theorem fn_295 : T.fn 295 = some (.code ref04_with) := rfl
theorem fn_296 : T.fn 296 = some (.code ref04_without) := rfl

theorem rnamed_val {s : Nm} (hs : s.length ≤ maxLen) : cval T 203 [.str s] St0 = some (.bool (namedB s), St0) := by
  refine cval_ok' fn_203 rfl ?_
  simp -implicitDefEqProofs [ref04_Named]
  refine lp_up s.length (fun i fr S => fr 0 = .str s ∧ fr 3 = .int .i64 (i : Int) ∧ (s.take i).all chB = true ∧ S = St0) ?_ ?_ 0 (Nat.zero_le _) _ _ ⟨by simp, by simp, by simp, rfl⟩
  · rintro i fr S hi ⟨h0, h3, ha, rfl⟩ k
    have hw := wrap_up hi hs
    have hc : s[i]? = some s[i] := List.getElem?_eq_getElem hi
    have hL : ∀ fr', fr' 0 = .str s → fr' 3 = .int .i64 ((i : Int) + 1) → chB s[i] = true → Ok (gval T (.lp ref04_Named_l0 :: .blk 0 :: [.code (.seq (.clr [(36, 43)] (.region ref04_Named_r7)) .ret)]) fr' St0) (Ends [.tmp 2] false St0 (.bool (namedB s)) St0) := by
      intro fr' g0 g3 gc
      refine k fr' St0 ⟨g0, by simpa using g3, ?_, rfl⟩
      rw [List.take_add_one, hc, List.all_append, ha]; simpa using gc
    have hR : ∀ fr', fr' 2 = .bool false → chB s[i] = false → Ends [.tmp 2] false St0 (.bool (namedB s)) St0 fr' St0 := by
      intro fr' g2 gc
      have : s.all chB = false := by
        rw [List.all_eq_false]
        exact ⟨s[i], List.getElem_mem hi, by simp [gc]⟩
      simp [g2, namedB, this]
    clear k
    rw [gval_lp]
    simp -implicitDefEqProofs [h0, h3, hi, hc]
    refine ok_br (fun a1 => ok_ret (hR _ (by simp) ?_)) (fun a1 => hL _ (by simp [h0]) (by simp [hw]) ?_)
    · simp [chB] at a1 ⊢; omega
    · simp [chB] at a1 ⊢; omega
  · rintro fr S ⟨h0, h3, ha, rfl⟩
    rw [List.take_length] at ha
    rw [gval_lp]
    simp -implicitDefEqProofs [h0, h3, namedB, ha]
    congr 1; exact decide_eq_decide.2 (by omega)
theorem rnamed_pval {s : Nm} (hs : s.length ≤ maxLen) : pval T 203 [.str s] = some (.bool (namedB s)) := pval_st (rnamed_val hs) rfl rfl


abbrev RE := Nm × Int
def entR (e : RE) : PV := .agg [.str e.1, .int .i64 e.2]
@[simp] theorem entR_cells (e : RE) : (entR e).cells = [.str e.1, .int .i64 e.2] := rfl

def atR (n : Nm) : List RE → Int
  | [] => -1
  | (q, f) :: l => if q == n then f else atR n l
def withoutR (n : Nm) (l : List RE) : List RE := l.filter fun x => !(x.1 == n)
def withR (e : RE) : Bool → List RE → List RE
  | d, [] => if d then [] else [e]
  | d, x :: l => (if !d && Op.bytesLess e.1 x.1 then [e] else []) ++ ((if !(x.1 == e.1) then [x] else []) ++ withR e (d || Op.bytesLess e.1 x.1) l)

theorem entR_free (l : List RE) : PV.freeL (l.map entR) = true := freeL_map _ (fun _ => rfl) l
theorem entR_frz (l : List RE) : PV.frzL (l.map entR) = l.map entR := frzL_map' _ (fun _ => rfl) l
theorem entR_sz (l : List RE) : ∀ e ∈ l.map entR, e.cells.length = 2 := by
  intro e he
  obtain ⟨x, _, rfl⟩ := List.mem_map.1 he
  rfl

theorem at_val {l : List RE} {v : PV} (hv : Reads1 2 v (l.map entR)) (hl : l.length ≤ maxLen) {n : Nm} {S : St} : cval T 205 [v, .str n] S = some (.int .i64 (atR n l), S) := by
  refine cval_ok' fn_205 rfl ?_
  have hlen := hv.len
  rw [List.length_map] at hlen
  simp -implicitDefEqProofs [ref04_At]
  refine lp_up l.length (fun i fr S' => fr 0 = v ∧ fr 1 = .str n ∧ fr 5 = .int .i64 (i : Int) ∧ atR n l = atR n (l.drop i) ∧ S' = S) ?_ ?_ 0 (Nat.zero_le _) _ _ ⟨by simp, by simp, by simp, by simp, rfl⟩
  · rintro i fr S' hi ⟨h0, h1, h5, ha, rfl⟩ k
    have hw := wrap_up hi hl
    have hg := hv.get i (by simpa using hi) .i64
    have hx : (l.map entR)[i]'(by simpa using hi) = entR l[i] := by simp
    rw [hx, entR_cells] at hg
    have hd : l.drop i = l[i] :: l.drop (i + 1) := List.drop_eq_getElem_cons hi
    have hL : ∀ fr', fr' 0 = v → fr' 1 = .str n → fr' 5 = .int .i64 ((i : Int) + 1) → (l[i].1 == n) = false → Ok (gval T (.lp ref04_At_l0 :: .blk 0 :: [.code (.seq (.region ref04_At_r6) .ret)]) fr' S') (Ends [.tmp 4] false S' (.int .i64 (atR n l)) S') := by
      intro fr' g0 g1 g5 gc
      refine k fr' S' ⟨g0, g1, by simpa using g5, ?_, rfl⟩
      rw [ha, hd]; simp only [atR, gc]; rfl
    have hR : ∀ fr', fr' 4 = .int .i64 l[i].2 → (l[i].1 == n) = true → Ends [.tmp 4] false S' (.int .i64 (atR n l)) S' fr' S' := by
      intro fr' g gc
      have : atR n l = l[i].2 := by rw [ha, hd]; simp only [atR, gc]; rfl
      simp [g, this]
    clear k
    by_cases e : (l[i].1 == n) = true
    · rw [gval_lp]
      simp -implicitDefEqProofs [h0, h1, h5, hlen, hi, hg, e]
      have := hR (upd fr 4 (.int .i64 l[i].2)) (by simp) e
      simpa using this
    · have e' : (l[i].1 == n) = false := by simpa using e
      rw [gval_lp]
      simp -implicitDefEqProofs [h0, h1, h5, hlen, hi, hg, e']
      exact hL _ (by simp [h0]) (by simp [h1]) (by simp [hw]) e'
  · rintro fr S' ⟨h0, h1, h5, ha, rfl⟩
    rw [List.drop_length] at ha
    rw [gval_lp]
    simp -implicitDefEqProofs [h0, h1, h5, hlen, ha, atR]

theorem withoutR_snoc (n : Nm) (a : List RE) (x : RE) : withoutR n (a ++ [x]) = withoutR n a ++ (if x.1 == n then [] else [x]) := by
  simp only [withoutR, List.filter_append]
  by_cases h : (x.1 == n) = true
  · simp [h]
  · have h : (x.1 == n) = false := by simpa using h
    simp [h]

theorem without_val {l : List RE} {v : PV} (hv : Reads1 2 v (l.map entR)) (hl : l.length ≤ 1048576) {n : Nm} {S : St} : ∃ v', cval T 296 [v, .str n] S = some (v', S) ∧ Sl0 2 v' ((withoutR n l).map entR) := by
  have hlen := hv.len
  rw [List.length_map] at hlen
  have hl' : l.length ≤ maxLen := by unfold maxLen; omega
  obtain ⟨r, S2, h, h2, h3⟩ := cval_ex (T := T) fn_296 (args := [v, .str n]) (S := S) rfl (R := fun r S2 => S2 = S ∧ Sl0 2 r ((withoutR n l).map entR)) (by
    simp -implicitDefEqProofs [ref04_without]
    refine lp_up l.length (fun i fr S' => fr 0 = v ∧ fr 1 = .str n ∧ fr 6 = .int .i64 (i : Int) ∧ AccG S 2 S' (fr 5) ((withoutR n (l.take i)).map entR)) ?_ ?_ 0 (Nat.zero_le _) _ _ ⟨by simp, by simp, by simp, by simpa [withoutR] using accg_nil 2 (Grows.refl S)⟩
    · rintro i fr S' hi ⟨h0, h1, h6, ha⟩ k
      have hw := wrap_up hi hl'
      have hg := hv.get i (by simpa using hi) .i64
      have hx : (l.map entR)[i]'(by simpa using hi) = entR l[i] := by simp
      rw [hx, entR_cells] at hg
      have ht : l.take (i + 1) = l.take i ++ [l[i]] := by rw [List.take_add_one, List.getElem?_eq_getElem hi]; rfl
      have hle : ((withoutR n (l.take i)).map entR).length ≤ 1048576 := by
        have := List.length_filter_le (fun x : RE => !(x.1 == n)) (l.take i)
        simp only [withoutR, List.length_map, List.length_take] at this ⊢; omega
      by_cases e : (l[i].1 == n) = true
      · have hL : ∀ fr', fr' 0 = v → fr' 1 = .str n → fr' 6 = .int .i64 ((i : Int) + 1) → fr' 5 = fr 5 → Ok (gval T (.lp ref04_without_l0 :: .blk 0 :: [.code (.seq (.clr [(27, 28)] (.region ref04_without_r7)) .ret)]) fr' S') _ := fun fr' g0 g1 g6 g5 => by
          refine k fr' S' ⟨g0, g1, by simpa using g6, ?_⟩
          rw [g5, ht, withoutR_snoc, if_pos e, List.append_nil]; exact ha
        rw [gval_lp]
        simp -implicitDefEqProofs [h0, h1, h6, hlen, hi, hg, e]
        exact hL _ (by simp [h0]) (by simp [h1]) (by simp [hw]) (by simp)
      · have e' : (l[i].1 == n) = false := by simpa using e
        obtain ⟨v', S1, a1, a2, a3⟩ := ha.push (bytes := 24) (entR l[i]) (by omega)
        have hL : ∀ fr', fr' 0 = v → fr' 1 = .str n → fr' 6 = .int .i64 ((i : Int) + 1) → fr' 5 = v' → Ok (gval T (.lp ref04_without_l0 :: .blk 0 :: [.code (.seq (.clr [(27, 28)] (.region ref04_without_r7)) .ret)]) fr' S1) _ := fun fr' g0 g1 g6 g5 => by
          refine k fr' S1 ⟨g0, g1, by simpa using g6, ?_⟩
          rw [g5, ht, withoutR_snoc, if_neg (by simp [e']), List.map_append]; exact a2
        simp only [entR] at a1
        rw [gval_lp]
        simp -implicitDefEqProofs [h0, h1, h6, hlen, hi, hg, e', pstep, elems, setParts, partOf, a1]
        exact hL _ (by simp [h0]) (by simp [h1]) (by simp [hw]) (by simp)
    · rintro fr S' ⟨h0, h1, h6, ha⟩
      rw [List.take_length] at ha
      obtain ⟨f1, f2⟩ := ha.sl0 (entR_sz _) (entR_free _) (entR_frz _)
      rw [gval_lp]
      simp -implicitDefEqProofs [h0, h1, h6, hlen, f1, f2])
  subst h2
  exact ⟨r, h, h3⟩

theorem withR_len (e : RE) : ∀ (d : Bool) (l : List RE), (withR e d l).length ≤ l.length + (if d then 0 else 1)
  | d, [] => by cases d <;> simp [withR]
  | d, x :: l => by
    have := withR_len e (d || Op.bytesLess e.1 x.1) l
    simp only [withR, List.length_append, List.length_cons]
    obtain ⟨m, hm⟩ : ∃ m, m = (if (!(x.1 == e.1)) = true then [x] else []) := ⟨_, rfl⟩
    have h2 : m.length ≤ 1 := by rw [hm]; split <;> simp
    rw [← hm]
    clear hm
    cases d with
    | true => simp at this ⊢; omega
    | false =>
      cases hb : Op.bytesLess e.1 x.1 with
      | true => simp [hb] at this ⊢; omega
      | false => simp [hb] at this ⊢; omega

theorem with_val {l : List RE} {v : PV} (hv : Reads1 2 v (l.map entR)) (hl : l.length ≤ 1048576) {x : RE} {S : St} : ∃ v', cval T 295 [v, entR x] S = some (v', S) ∧ Sl0 2 v' ((withR x false l).map entR) := by
  have hlen := hv.len
  rw [List.length_map] at hlen
  have hl' : l.length ≤ maxLen := by unfold maxLen; omega
  obtain ⟨r, S2, h, h2, h3⟩ := cval_ex (T := T) fn_295 (args := [v, entR x]) (S := S) rfl (R := fun r S2 => S2 = S ∧ Sl0 2 r ((withR x false l).map entR)) (by
    simp -implicitDefEqProofs [ref04_with, pstep]
    refine lp_up l.length (fun i fr S' => fr 0 = v ∧ fr 3 = .ref [.str x.1, .int .i64 x.2] ∧ fr 7 = .int .i64 (i : Int) ∧ ∃ d p, fr 6 = .bool d ∧ AccG S 2 S' (fr 5) (p.map entR) ∧ withR x false l = p ++ withR x d (l.drop i) ∧ p.length ≤ 2 * i) ?_ ?_ 0 (Nat.zero_le _) _ _ ⟨by simp, by simp, by simp, false, [], by simp, by simpa using accg_nil 2 (Grows.refl S), by simp, by simp⟩
    · rintro i fr S' hi ⟨h0, h3, h7, d, p, h6, ha, hp, hpl⟩ k
      have hw := wrap_up hi hl'
      have hg := hv.get i (by simpa using hi) .i64
      have hx : (l.map entR)[i]'(by simpa using hi) = entR l[i] := by simp
      rw [hx, entR_cells] at hg
      have hd : l.drop i = l[i] :: l.drop (i + 1) := List.drop_eq_getElem_cons hi
      rw [hd] at hp
      simp only [withR] at hp
      -- the second half: the entry that is there
      have second : ∀ (fr2 : Fr) (S2 : St) (d2 : Bool) (p2 : List RE), fr2 0 = v → fr2 3 = .ref [.str x.1, .int .i64 x.2] → fr2 7 = .int .i64 (i : Int) → fr2 6 = .bool d2 → AccG S 2 S2 (fr2 5) (p2.map entR) →
          withR x false l = p2 ++ ((if !(l[i].1 == x.1) then [l[i]] else []) ++ withR x d2 (l.drop (i + 1))) → p2.length ≤ 2 * i + 1 →
          Ok (gval T (.ops ref04_with_r9 :: .clr [(30, 37)] :: .code (.cond (V 37) (.clr [(38, 45)] (.region ref04_with_r10)) .skip) :: .blk 1 :: .code (.clr [(12, 14)] (.region ref04_with_r5)) :: .lp ref04_with_l0 :: .blk 0 :: [.code (.seq (.seq (.clr [(45, 46)] (.region ref04_with_r11)) (.cond (V 46) (.clr [(47, 51)] (.region ref04_with_r12)) .skip)) (.seq (.clr [(51, 52)] (.region ref04_with_r13)) .ret))]) fr2 S2)
            (fun fr S1 => (finish false S S1 (fr 4)).2 = S ∧ Sl0 2 (finish false S S1 (fr 4)).1 ((withR x false l).map entR)) := by
        intro fr2 S2 d2 p2 g0 g3 g7 g6 ga gp gl
        have hple : (p2.map entR).length ≤ 4194304 := by simp; omega
        by_cases e : (l[i].1 == x.1) = true
        · have hL : ∀ fr', fr' 0 = v → fr' 3 = .ref [.str x.1, .int .i64 x.2] → fr' 7 = .int .i64 ((i : Int) + 1) → fr' 6 = .bool d2 → fr' 5 = fr2 5 → Ok (gval T (.lp ref04_with_l0 :: .blk 0 :: _) fr' S2) _ := fun fr' q0 q3 q7 q6 q5 =>
            k fr' S2 ⟨q0, q3, by simpa using q7, d2, p2, q6, by rw [q5]; exact ga, by rw [gp, if_neg (by simp [e]), List.nil_append], by omega⟩
          clear k
          simp -implicitDefEqProofs [g0, g3, g7, g6, hg, e]
          exact hL _ (by simp [g0]) (by simp [g3]) (by simp [hw]) (by simp [g6]) (by simp)
        · have e' : (l[i].1 == x.1) = false := by simpa using e
          obtain ⟨v', S1, a1, a2, a3⟩ := ga.push (bytes := 24) (entR l[i]) (by omega)
          have hL : ∀ fr', fr' 0 = v → fr' 3 = .ref [.str x.1, .int .i64 x.2] → fr' 7 = .int .i64 ((i : Int) + 1) → fr' 6 = .bool d2 → fr' 5 = v' → Ok (gval T (.lp ref04_with_l0 :: .blk 0 :: _) fr' S1) _ := fun fr' q0 q3 q7 q6 q5 =>
            k fr' S1 ⟨q0, q3, by simpa using q7, d2, p2 ++ [l[i]], q6, by rw [q5, List.map_append]; exact a2, by rw [gp, if_pos (by simp [e']), List.append_assoc], by simp; omega⟩
          clear k
          simp only [entR] at a1
          simp -implicitDefEqProofs [g0, g3, g7, g6, hg, e', pstep, elems, setParts, partOf, a1]
          exact hL _ (by simp [g0]) (by simp [g3]) (by simp [hw]) (by simp [g6]) (by simp)
      clear k
      rw [gval_lp]
      by_cases c : (!d && Op.bytesLess x.1 l[i].1) = true
      · have hd' : d = false := by cases d <;> simp_all
        have hlt : Op.bytesLess x.1 l[i].1 = true := by cases d <;> simp_all
        subst hd'
        obtain ⟨v', S1, a1, a2, a3⟩ := ha.push (bytes := 24) (entR x) (by simp; omega)
        have hL : ∀ fr', fr' 0 = v → fr' 3 = .ref [.str x.1, .int .i64 x.2] → fr' 7 = .int .i64 (i : Int) → fr' 6 = .bool true → fr' 5 = v' → Ok (gval T (.ops ref04_with_r9 :: .clr [(30, 37)] :: .code (.cond (V 37) (.clr [(38, 45)] (.region ref04_with_r10)) .skip) :: .blk 1 :: .code (.clr [(12, 14)] (.region ref04_with_r5)) :: .lp ref04_with_l0 :: .blk 0 :: _) fr' S1) _ :=
          fun fr' q0 q3 q7 q6 q5 => second fr' S1 true (p ++ [x]) q0 q3 q7 q6 (by rw [q5, List.map_append]; exact a2) (by rw [hp, if_pos (by simp [hlt])]; simp [hlt]) (by simp; omega)
        clear second
        simp only [entR] at a1
        simp -implicitDefEqProofs [-ref04_with_r9_go, h0, h3, h7, h6, hlen, hi, hg, hlt, pstep, elems, setParts, partOf, a1]
        exact hL _ (by simp [h0]) (by simp [h3]) (by simp [h7]) (by simp) (by simp)
      · have c' : (!d && Op.bytesLess x.1 l[i].1) = false := by simpa using c
        have hL : ∀ fr', fr' 0 = v → fr' 3 = .ref [.str x.1, .int .i64 x.2] → fr' 7 = .int .i64 (i : Int) → fr' 6 = .bool d → fr' 5 = fr 5 → Ok (gval T (.ops ref04_with_r9 :: .clr [(30, 37)] :: .code (.cond (V 37) (.clr [(38, 45)] (.region ref04_with_r10)) .skip) :: .blk 1 :: .code (.clr [(12, 14)] (.region ref04_with_r5)) :: .lp ref04_with_l0 :: .blk 0 :: _) fr' S') _ :=
          fun fr' q0 q3 q7 q6 q5 => second fr' S' d p q0 q3 q7 q6 (by rw [q5]; exact ha) (by
            rw [hp, if_neg (by simp [c'])]
            have hdd : (d || Op.bytesLess x.1 l[i].1) = d := by cases d <;> simp_all
            rw [hdd, List.nil_append]) (by omega)
        clear second
        simp -implicitDefEqProofs [-ref04_with_r9_go, h0, h3, h7, h6, hlen, hi, hg]
        cases d with
        | true =>
          simp -implicitDefEqProofs [-ref04_with_r9_go]
          exact hL _ (by simp [h0]) (by simp [h3]) (by simp [h7]) (by simp [h6]) (by simp)
        | false =>
          have hlt : Op.bytesLess x.1 l[i].1 = false := by simpa using c'
          simp -implicitDefEqProofs [-ref04_with_r9_go, hlt]
          exact hL _ (by simp [h0]) (by simp [h3]) (by simp [h7]) (by simp [h6]) (by simp)
    · rintro fr S' ⟨h0, h3, h7, d, p, h6, ha, hp, hpl⟩
      rw [List.drop_length] at hp
      cases d with
      | true =>
        simp only [withR, if_true, List.append_nil] at hp
        rw [← hp] at ha
        obtain ⟨f1, f2⟩ := ha.sl0 (entR_sz _) (entR_free _) (entR_frz _)
        rw [gval_lp]
        simp -implicitDefEqProofs [h0, h3, h7, h6, hlen, f1, f2]
      | false =>
        simp only [withR, Bool.false_eq_true, if_false] at hp
        obtain ⟨v', S1, a1, a2, a3⟩ := ha.push (bytes := 24) (entR x) (by simp; omega)
        have a2 : AccG S 2 S1 v' ((p ++ [x]).map entR) := by rw [List.map_append]; exact a2
        rw [← hp] at a2
        obtain ⟨f1, f2⟩ := a2.sl0 (entR_sz _) (entR_free _) (entR_frz _)
        simp only [entR] at a1
        rw [gval_lp]
        simp -implicitDefEqProofs [h0, h3, h7, h6, hlen, pstep, elems, setParts, partOf, a1, f1, f2])
  subst h2
  exact ⟨r, h, h3⟩

end Ps
namespace Ps
set_option linter.unusedSimpArgs false
set_option linter.unusedVariables false
open Go

structure RS where
  kind : Int
  name : Nm
  to : Nm
  file : Int
def RS.v (s : RS) : PV := .agg [.int .i64 s.kind, .str s.name, .str s.to, .int .i64 s.file]
@[simp] theorem RS.v_cells (s : RS) : s.v.cells = [.int .i64 s.kind, .str s.name, .str s.to, .int .i64 s.file] := rfl
structure RF where
  bv : PV
  b : List UInt8
  s : Int
def RF.v (f : RF) : PV := .agg [f.bv, .int .i64 f.s]
@[simp] theorem RF.v_cells (f : RF) : f.v.cells = [f.bv, .int .i64 f.s] := rfl
structure RD where
  room : Int
  fv : PV
  files : List RF
  bv : PV
  base : List RE
  wv : PV
  wait : List RS
  left : Int
  dark : Bool
  count : Int
def RD.c (R : RD) : List PV := [.int .i64 R.room, R.fv, R.bv, R.wv, .int .i64 R.left, .bool R.dark, .int .i64 R.count]
def RD.v (R : RD) : PV := .agg R.c
@[simp] theorem RD.v_cells (R : RD) : R.v.cells = R.c := rfl

structure RD.Wf (R : RD) (K : Nat) : Prop where
  fs : Sl0 2 R.fv (R.files.map RF.v)
  bs : Sl0 2 R.bv (R.base.map entR)
  ws : Sl0 4 R.wv (R.wait.map RS.v)
  ff : ∀ f ∈ R.files, Sl0 1 f.bv (ofBytes f.b) ∧ 0 ≤ f.s ∧ f.s ≤ f.b.length ∧ f.b.length ≤ 4194304
  fl : R.files.length ≤ K
  bl : R.base.length + R.wait.length ≤ K
  rm : 1 ≤ R.room ∧ R.room ≤ 4194304
  ct : 0 ≤ R.count ∧ R.count ≤ K
  lf : -1 ≤ R.left ∧ R.left ≤ 9223372036854775807

theorem RD.Wf.free {R : RD} {K : Nat} (h : R.Wf K) : R.v.free = true := by simp [RD.v, RD.c, PV.free, PV.freeL, h.fs.free, h.bs.free, h.ws.free]
theorem RD.Wf.frz {R : RD} {K : Nat} (h : R.Wf K) : R.v.frz = R.v := by simp [RD.v, RD.c, PV.frz, PV.frzL, h.fs.frz, h.bs.frz, h.ws.frz]
theorem RD.Wf.one {R : RD} {K : Nat} (h : R.Wf K) : R.c.all PV.one = true := by simp [RD.c, h.fs.one.1, h.bs.one.1, h.ws.one.1]
theorem RD.Wf.freeC {R : RD} {K : Nat} (h : R.Wf K) : PV.freeL R.c = true := by have := h.free; simpa [RD.v, PV.free] using this

def stepDir (l : List RE) (s : RS) : List RE :=
  if s.kind = 1 then withR (s.name, s.file) false l
  else if s.kind = 2 then withR (s.to, atR s.name l) false (withoutR s.name l)
  else if s.kind = 3 then withoutR s.name l else l
def dirL (base : List RE) (ws : List RS) : List RE := ws.foldl stepDir base

theorem withoutR_len (n : Nm) (l : List RE) : (withoutR n l).length ≤ l.length := List.length_filter_le _ _
theorem stepDir_len (l : List RE) (s : RS) : (stepDir l s).length ≤ l.length + 1 := by
  unfold stepDir
  have h1 := withR_len (s.name, s.file) false l
  have h2 := withR_len (s.to, atR s.name l) false (withoutR s.name l)
  have h3 := withoutR_len s.name l
  simp at h1 h2
  split
  · omega
  · split
    · omega
    · split <;> omega
theorem dirL_len : ∀ (ws : List RS) (base : List RE), (dirL base ws).length ≤ base.length + ws.length
  | [], base => by simp [dirL]
  | s :: ws, base => by
    have := dirL_len ws (stepDir base s)
    have h2 := stepDir_len base s
    simp only [dirL, List.foldl_cons, List.length_cons] at this ⊢
    omega
theorem dirL_snoc (base : List RE) (ws : List RS) (s : RS) : dirL base (ws ++ [s]) = stepDir (dirL base ws) s := by simp [dirL, List.foldl_append]

theorem without_pval {l : List RE} {v : PV} (hv : Reads1 2 v (l.map entR)) (hl : l.length ≤ 1048576) {n : Nm} : ∃ v', pval T 296 [v, .str n] = some v' ∧ Sl0 2 v' ((withoutR n l).map entR) := by
  obtain ⟨v', h1, h2⟩ := without_val hv hl (n := n) (S := St0)
  exact ⟨v', pval_st h1 h2.free h2.frz, h2⟩

theorem part4 {a b c d : PV} {l : List PV} : partOf true 4 (a :: b :: c :: d :: l) = some (.agg [a, b, c, d]) := by simp [partOf]
theorem part7 {a b c d e f g : PV} : partOf true 7 [a, b, c, d, e, f, g] = some (.agg [a, b, c, d, e, f, g]) := rfl
theorem part2 {a b : PV} {l : List PV} : partOf true 2 (a :: b :: l) = some (.agg [a, b]) := by simp [partOf]

@[simp] theorem sel_ob {c : Bool} {x : PV} : sel c (some x) = some (gd c x) := sel_some c x

theorem dir_val {R : RD} {K : Nat} (h : R.Wf K) (hK : K ≤ 1048570) {k : Nat} (hk : k ≤ R.wait.length) {S : St} : ∃ v', cval T 207 [R.v, .int .i64 (k : Int)] S = some (v', S) ∧ Sl0 2 v' ((dirL R.base (R.wait.take k)).map entR) := by
  have hkm : k ≤ maxLen := by have := h.bl; unfold maxLen; omega
  have hbl := h.bl
  obtain ⟨r, S2, h1, h2, h3⟩ := cval_ex (T := T) fn_207 (args := [R.v, .int .i64 (k : Int)]) (S := S) rfl (R := fun r S2 => S2 = S ∧ Sl0 2 r ((dirL R.base (R.wait.take k)).map entR)) (by
    simp -implicitDefEqProofs [ref04_Dir, pstep, h.one]
    simp -implicitDefEqProofs [RD.c]
    refine lp_up k (fun i fr S' => fr 1 = .int .i64 (k : Int) ∧ fr 2 = .ref R.c ∧ fr 6 = .int .i64 (i : Int) ∧ Grows S S' ∧ Sl0 2 (fr 5) ((dirL R.base (R.wait.take i)).map entR)) ?_ ?_ 0 (Nat.zero_le _) _ _ ⟨by simp, by simp [RD.c], by simp, Grows.refl S, by simpa [dirL] using h.bs⟩
    · rintro i fr S' hi ⟨f1, f2, f6, hg, hs⟩ kk
      have hw := wrap_up hi hkm
      have hiw : i < R.wait.length := by omega
      have hgw := h.ws.reads.get i (by simpa using hiw) .i64
      have hx : (R.wait.map RS.v)[i]'(by simpa using hiw) = R.wait[i].v := by simp
      rw [hx, RS.v_cells] at hgw
      have ht : R.wait.take (i + 1) = R.wait.take i ++ [R.wait[i]] := by rw [List.take_add_one, List.getElem?_eq_getElem hiw]; rfl
      obtain ⟨s, hs0⟩ : ∃ s, s = R.wait[i] := ⟨_, rfl⟩
      rw [← hs0] at hgw ht
      obtain ⟨l, hl0⟩ : ∃ l, l = dirL R.base (R.wait.take i) := ⟨_, rfl⟩
      rw [← hl0] at hs
      have hll : l.length ≤ 1048576 := by
        have := dirL_len (R.wait.take i) R.base
        rw [hl0]; simp at this; omega
      have hL : ∀ (fr' : Fr) (S1 : St), fr' 1 = .int .i64 (k : Int) → fr' 2 = .ref R.c → fr' 6 = .int .i64 ((i : Int) + 1) → Grows S S1 → Sl0 2 (fr' 5) ((stepDir l s).map entR) → Ok (gval T (.lp ref04_Dir_l0 :: .blk 0 :: [.code (.seq (.clr [(53, 54)] (.region ref04_Dir_r14)) .ret)]) fr' S1) (fun fr S1 => (finish false S S1 (fr 4)).2 = S ∧ Sl0 2 (finish false S S1 (fr 4)).1 ((dirL R.base (R.wait.take k)).map entR)) := by
        intro fr' S1 g1 g2 g6 gg g5
        refine kk fr' S1 ⟨g1, g2, by simpa using g6, gg, ?_⟩
        rw [ht, dirL_snoc, ← hl0]; exact g5
      clear kk
      have hlk : ((i : Int) < (k : Int)) := by omega
      obtain ⟨kind, name, to, file⟩ := s
      simp only at hgw
      rw [gval_lp]
      by_cases e1 : kind = 1
      · subst e1
        obtain ⟨v', w1, w2⟩ := with_val hs.reads hll (x := (name, file)) (S := ⟨S'.objs ++ [[.int .i64 1, .str name, .str to, .int .i64 file]], S'.tips⟩)
        simp only [entR] at w1
        simp -implicitDefEqProofs [f1, f2, f6, RD.c, hlk, hi, hgw, part4, pstep, putCells, peval, fillParts, partOf, w1]
        exact hL _ _ (by simp [f1]) (by simp [f2, RD.c]) (by simp [hw]) (hg.objs _) (by simpa [stepDir] using w2)
      · have e1' : (kind == 1) = false := by simpa using e1
        by_cases e2 : kind = 2
        · subst e2
          have a1 := at_val hs.reads (by unfold maxLen; omega : l.length ≤ maxLen) (n := name) (S := ⟨S'.objs ++ [[.int .i64 2, .str name, .str to, .int .i64 file]], S'.tips⟩)
          obtain ⟨v1, b1, b2⟩ := without_pval hs.reads hll (n := name)
          have hb3 := withoutR_len name l
          obtain ⟨v', w1, w2⟩ := with_val b2.reads (by omega) (x := (to, atR name l)) (S := ⟨S'.objs ++ [[.int .i64 2, .str name, .str to, .int .i64 file]], S'.tips⟩)
          simp only [entR] at w1
          simp -implicitDefEqProofs [f1, f2, f6, RD.c, hlk, hi, hgw, part4, pstep, putCells, peval, fillParts, partOf, a1, hs.free, hs.frz, b1, w1]
          exact hL _ _ (by simp [f1]) (by simp [f2, RD.c]) (by simp [hw]) (hg.objs _) (by simpa [stepDir] using w2)
        · have e2' : (kind == 2) = false := by simpa using e2
          by_cases e3 : kind = 3
          · subst e3
            obtain ⟨v1, b1, b2⟩ := without_val hs.reads hll (n := name) (S := ⟨S'.objs ++ [[.int .i64 3, .str name, .str to, .int .i64 file]], S'.tips⟩)
            simp -implicitDefEqProofs [f1, f2, f6, RD.c, hlk, hi, hgw, part4, pstep, putCells, peval, fillParts, partOf, b1]
            exact hL _ _ (by simp [f1]) (by simp [f2, RD.c]) (by simp [hw]) (hg.objs _) (by simpa [stepDir] using b2)
          · have e3' : (kind == 3) = false := by simpa using e3
            simp -implicitDefEqProofs [f1, f2, f6, RD.c, hlk, hi, hgw, part4, pstep, putCells, peval, fillParts, partOf, e1', e2', e3']
            exact hL _ _ (by simp [f1]) (by simp [f2, RD.c]) (by simp [hw]) (hg.objs _) (by simpa [stepDir, e1, e2, e3] using hs)
    · rintro fr S' ⟨f1, f2, f6, hg, hs⟩
      rw [gval_lp]
      simp -implicitDefEqProofs [f1, f2, f6]
      rw [fin_free hg hs.free, hs.frz]
      exact ⟨rfl, hs⟩)
  subst h2
  exact ⟨r, h1, h3⟩

end Ps
