/- Labels, read of a text. -/
import Derived.Test.YtfimbhaiegkkeaaLQ
namespace Ps
set_option linter.unusedSimpArgs false
open Go

theorem fn_22 : T.fn 22 = some (.code label_Parse) := rfl

theorem valA_len : ∀ (n : Nat) (r b v q : List UInt8), valA n r b = some (v, q) → v.length + q.length + 1 ≤ b.length + r.length := by
  intro n
  induction n with
  | zero => intro r b v q h; simp [valA] at h
  | succ n ih =>
    intro r b v q h
    cases r with
    | nil => simp [valA] at h
    | cons c r =>
      simp only [valA] at h
      split at h
      · simp only [Option.some.injEq, Prod.mk.injEq] at h
        obtain ⟨rfl, rfl⟩ := h
        simp; omega
      · split at h
        · split at h
          · cases h
          · rename_i d r2
            split at h
            · split at h
              · rename_i x y r4
                split at h
                · have := ih _ _ _ _ h; simp at this ⊢; omega
                · cases h
              · cases h
            · have := ih _ _ _ _ h; simp at this ⊢; omega
        · have := ih _ _ _ _ h; simp at this ⊢; omega
theorem valR_len {s v q : List UInt8} (h : valR s = some (v, q)) : v.length + q.length + 2 ≤ s.length := by
  unfold valR at h
  split at h
  · cases h
  · rename_i r e
    have := valA_len _ _ _ _ _ h
    rw [stripP_some e]; simp at this ⊢; omega

/-- What could be labels. -/
def parA : Nat → List Lab → List UInt8 → Option (List Lab)
  | 0, _, _ => none
  | n + 1, l, rest => if rest = [125] then some l else
    match (if l.length = 0 then some rest else stripP [44, 32] rest) with
    | none => none
    | some r1 => match cutT r1 with
      | none => none
      | some (a, b) => match valR b with
        | none => none
        | some (v, left) => if l.length < 8 then parA n (l ++ [(a, v, ())]) left else none

theorem pa_loop {S0 : St} {K : List Kt} {Q : Fr → St → Prop} : ∀ (n : Nat) (rest : List UInt8) (l : List Lab), rest.length < n → wid l + 5 * rest.length ≤ 100000000 → ∀ (fr : Fr) (S : St),
    fr 4 = .str rest → fr 5 = .bool true → AccG S0 2 S (fr 6) (l.map labV) →
    (∀ l', parA n l rest = some l' → wid l' ≤ 100000000 → ∀ fr' S', fr' 0 = fr 0 → fr' 5 = .bool true → AccG S0 2 S' (fr' 6) (l'.map labV) → Ok (gval T K fr' S') Q) →
    (parA n l rest = none → ∀ fr' S', fr' 5 = .bool false → Grows S0 S' → Ok (gval T K fr' S') Q) →
    Ok (gval T (.lp label_Parse_l0 :: .blk 0 :: K) fr S) Q := by
  intro n
  induction n with
  | zero => intro rest l hn; omega
  | succ n ih =>
    intro rest l hn hw fr S h4 h5 ha k1 k2
    have hlen := ha.len
    rw [List.length_map] at hlen
    have hwl := wid_len l
    -- a round that ends for want of what is due
    have no : ∀ fr', fr' 5 = .bool false → parA (n + 1) l rest = none → Ok (gval T (.lp label_Parse_l0 :: .blk 0 :: K) fr' S) Q := by
      intro fr' g5 hz
      rw [gval_lp]
      simp -implicitDefEqProofs [g5]
      exact k2 hz _ _ (by simp [g5]) ha.grows
    by_cases q : rest = [125]
    · subst q
      rw [gval_lp]
      simp -implicitDefEqProofs [h4, h5]
      exact k1 l (by simp [parA]) (by omega) _ _ (by simp) (by simp [h5]) (by simpa using ha)
    have q' : (rest == [125]) = false := by simpa using q
    have q'' : ([125] == rest) = false := by simpa using fun e => q e.symm
    -- behind the comma
    have body : ∀ r1 fr', (if l.length = 0 then some rest else stripP [44, 32] rest) = some r1 → r1.length ≤ rest.length → fr' 0 = fr 0 → fr' 4 = .str r1 → fr' 6 = fr 6 →
        Ok (gval T (.ops label_Parse_r7 :: .clr [(33, 39)] :: .code (.seq (.clr [(39, 45)] (.region label_Parse_r8)) (.seq (.clr [(45, 54)] (.region label_Parse_r9)) (.seq (.region label_Parse_r10) (.cond (.tmp 54) (.clr [(55, 62)] (.region label_Parse_r11)) .skip)))) :: .blk 1 :: .lp label_Parse_l0 :: .blk 0 :: K) fr' S) Q := by
      intro r1 fr' hr hr1 g0 g4 g6
      have hc := cutS_val (s := r1) (by omega)
      unfold cutV at hc
      have hp : parA (n + 1) l rest = (match cutT r1 with
        | none => none
        | some (a, b) => match valR b with
          | none => none
          | some (v, left) => if l.length < 8 then parA n (l ++ [(a, v, ())]) left else none) := by
        rw [parA, if_neg q, hr]
      cases e1 : cutT r1 with
      | none =>
        rw [e1] at hc hp
        simp only at hc hp
        have hvv := value_val (s := []) (by simp)
        have hvv' : valV [] = .tup [.str [], .str [], .bool false] := rfl
        rw [hvv'] at hvv
        simp -implicitDefEqProofs [g4, hc, hvv]
        exact no _ (by simp) hp
      | some ab =>
        obtain ⟨a, b⟩ := ab
        obtain ⟨ec, _⟩ := cutT_some e1
        have hab : a.length + 1 + b.length = r1.length := by rw [ec]; simp; omega
        have hvv := value_val (s := b) (by omega)
        unfold valV at hvv
        rw [e1] at hc hp
        simp only at hc hp
        cases e2 : valR b with
        | none =>
          rw [e2] at hvv hp
          simp only at hvv hp
          simp -implicitDefEqProofs [g4, hc, hvv]
          exact no _ (by simp) hp
        | some vl =>
          obtain ⟨v, left⟩ := vl
          have hvl := valR_len e2
          rw [e2] at hvv hp
          simp only at hvv hp
          by_cases h8 : l.length < 8
          · rw [if_pos h8] at hp
            obtain ⟨v', S', a1, a2, a3⟩ := (ha.arrs [(1, 2)]).app (bytes := 32) [labV (a, v, ())] (by simp; omega)
            simp only [labV] at a1
            have h8' : (l.length : Int) < 8 := by omega
            simp -implicitDefEqProofs [g4, g6, hc, hvv, hlen, h8, h8', pstep, peval, fillParts, elems, setParts, putCells, a1]
            refine ih left (l ++ [(a, v, ())]) (by omega) (by rw [wid_app]; simp only [wid]; omega) _ S' (by simp) (by simp) (by simpa [labV] using a2) (fun l' g gw fr'' S'' y0 y5 ya => k1 l' (by rw [hp]; exact g) gw fr'' S'' (by rw [y0]; simp [g0]) y5 ya) (fun g => k2 (by rw [hp]; exact g))
          · rw [if_neg h8] at hp
            have h8' : ¬ (l.length : Int) < 8 := by omega
            simp -implicitDefEqProofs [g4, g6, hc, hvv, hlen, h8, h8']
            exact no _ (by simp) hp
    by_cases hl : l.length = 0
    · have hgt : ¬ 0 < l.length := by omega
      rw [gval_lp]
      simp -implicitDefEqProofs [h4, h5, q', q'', q, hlen, hgt, hl, -label_Parse_r7_go]
      exact body rest _ (by rw [if_pos hl]) (Nat.le_refl _) (by simp) (by simp [h4]) (by simp)
    · have hgt : 0 < l.length := by omega
      have hc := cutPre_val (s := rest) (p := [44, 32]) (by unfold maxLen; omega)
      unfold cutPV at hc
      cases hs : stripP [44, 32] rest with
      | none =>
        rw [hs] at hc
        simp only at hc
        rw [gval_lp]
        simp -implicitDefEqProofs [h4, h5, q', q'', q, hlen, hgt, hl, hc, -label_Parse_r7_go]
        exact k2 (by rw [parA, if_neg q, if_neg hl, hs]) _ _ (by simp) ha.grows
      | some r1 =>
        rw [hs] at hc
        simp only at hc
        rw [gval_lp]
        simp -implicitDefEqProofs [h4, h5, q', q'', q, hlen, hgt, hl, hc, -label_Parse_r7_go]
        exact body r1 _ (by rw [if_neg hl, hs]) (by have := congrArg List.length (stripP_some hs); simp at this; omega) (by simp) (by simp) (by simp)

def parL (s : List UInt8) : Option (List Lab) := match stripP [123] s with
  | none => none
  | some r => match parA (r.length + 1) [] r with
    | none => none
    | some l => if checkN l = 0 ∧ printT l = s then some l else none
def okN (x : Option (List Lab)) : Nat := if x.isSome then 0 else 14
def ParsesTo (x : Option (List Lab)) (r : PV) : Prop := ∃ v', r = .tup [v', .int .i64 (okN x : Int)] ∧ SlL v' (x.getD [])

theorem res_fin2 {S S' : St} {v : PV} {l : List Lab} {e : Nat} (ha : AccG S 2 S' v (l.map labV)) : finish false S S' (.tup [v, .int .i64 (e : Int)]) = (.tup [slF v (l.map labV), .int .i64 (e : Int)], S) := by
  have hf : v.free = true ∧ v.frz = slF v (l.map labV) := by
    rcases ha.acc with ⟨h, _⟩ | ⟨id, _, h, _⟩
    · rw [h]; exact ⟨rfl, rfl⟩
    · rw [h]; exact ⟨by simp [PV.free, labs_free, PV.freeL], by simp [slF, PV.frz, labs_frz, PV.frzL]⟩
  rw [fin_free ha.grows (by simp [PV.free, PV.freeL, hf.1])]
  simp [PV.frz, PV.frzL, hf.2]

theorem wid_mem : ∀ {l : List Lab} {x : Lab}, x ∈ l → x.1.length + 4 * x.2.1.length + 5 ≤ wid l
  | y :: l, x, h => by
    rcases List.mem_cons.1 h with rfl | h
    · simp only [wid]; omega
    · have := wid_mem h; simp only [wid]; omega

theorem parse_val {s : List UInt8} (hs : s.length ≤ 10000000) (S : St) : ∃ r, cval T 22 [.str s] S = some (r, S) ∧ ParsesTo (parL s) r := by
  have key := cval_ex (T := T) (f := 22) (c := label_Parse) fn_22 (args := [.str s]) (S := S) rfl (R := fun r S2 => S2 = S ∧ ParsesTo (parL s) r) ?_
  · obtain ⟨r, S2, h1, rfl, h2⟩ := key
    exact ⟨r, h1, h2⟩
  have hc := cutPre_val (s := s) (p := [123]) (by unfold maxLen; omega)
  unfold cutPV at hc
  generalize hR : parL s = R
  unfold parL at hR
  have fin_no : ∀ (S' : St), R = none → Grows S S' → (finish false S S' (.tup [.nils, .int .i64 14])).2 = S ∧ ParsesTo R (finish false S S' (.tup [.nils, .int .i64 14])).1 := by
    intro S' hR hg
    rw [fin_free hg rfl]
    exact ⟨rfl, .nils, by rw [hR]; rfl, by rw [hR]; exact nilL⟩
  cases h : stripP [123] s with
  | none =>
    rw [h] at hc hR
    simp only at hc hR
    simp -implicitDefEqProofs [label_Parse, hc]
    rw [gval_lp]
    simp -implicitDefEqProofs
    exact fin_no S hR.symm (Grows.refl S)
  | some r =>
    rw [h] at hc hR
    simp only at hc hR
    have e := stripP_some h
    have hr : r.length + 1 = s.length := by rw [e]; simp
    simp -implicitDefEqProofs [label_Parse, hc]
    refine pa_loop (S0 := S) (r.length + 1) r [] (by omega) (by simp [wid]; omega) _ _ (by simp) (by simp) (by simpa using accg_nil 2 (Grows.refl S)) (fun l' g gw fr' S' x0 x5 xa => ?_) (fun g fr' S' x5 xg => ?_)
    · rw [g] at hR
      simp only at hR
      have x0' : fr' 0 = .str s := by rw [x0]; simp
      have hre := (xa.isSl (labs_cells _)).reads
      have hwl := wid_len l'
      have hck := check_val hre (fun x hx => by have := wid_mem hx; unfold maxLen; omega) (by unfold maxLen; omega) S'
      have hpr := print_val hre (by omega) S'
      by_cases c1 : checkN l' = 0
      · rw [c1] at hck
        by_cases c2 : printT l' = s
        · rw [if_pos ⟨c1, c2⟩] at hR
          rw [c2] at hpr
          have hck' : cval T 40 [fr' 6] S' = some (.int .i64 0, S') := hck
          have hfin := res_fin2 (e := 0) xa
          have hfin' : finish false S S' (.tup [fr' 6, .int .i64 0]) = (.tup [slF (fr' 6) (l'.map labV), .int .i64 0], S) := hfin
          simp -implicitDefEqProofs [x0', x5, hck', hpr, hfin']
          exact ⟨_, by rw [← hR]; rfl, by rw [← hR]; exact slF_lab xa⟩
        · rw [if_neg (fun q => c2 q.2)] at hR
          have c2' : (printT l' == s) = false := by simpa using c2
          have hck' : cval T 40 [fr' 6] S' = some (.int .i64 0, S') := hck
          simp -implicitDefEqProofs [x0', x5, hck', hpr, c2']
          exact fin_no S' hR.symm xa.grows
      · rw [if_neg (fun q => c1 q.1)] at hR
        have c1' : ((checkN l' : Int) != 0) = true := by simpa using c1
        simp -implicitDefEqProofs [x0', x5, hck, c1']
        exact fin_no S' hR.symm xa.grows
    · rw [g] at hR
      simp only at hR
      simp -implicitDefEqProofs [x5]
      exact fin_no S' hR.symm xg
end Ps
