/- Rows and patterns, read. -/
import Derived.Test.YtmhigcjhjmcpcaaRxI
namespace Ps
set_option linter.unusedSimpArgs false
set_option linter.unusedVariables false
open Go

theorem nextB_mark {p : Nd} {w : List UInt8} : (nextB w [42, 43, 63] = false ∧ markF p w = (p, w)) ∨ ∃ c r, w = c :: r ∧ nextB w [42, 43, 63] = true ∧ markF p w = (.again p (c != 43) (c != 63), r) := by
  cases w with
  | nil => exact .inl ⟨rfl, rfl⟩
  | cons c r =>
    by_cases h : c = 42 ∨ c = 43 ∨ c = 63
    · refine .inr ⟨c, r, rfl, ?_, ?_⟩
      · simp [nextB]; exact h
      · simp only [markF]; rw [if_pos h]
    · refine .inl ⟨?_, ?_⟩
      · simp [nextB]; exact ⟨fun q => h (.inl q), fun q => h (.inr (.inl q)), fun q => h (.inr (.inr q))⟩
      · simp only [markF]; rw [if_neg h]

theorem row_bad {K : List Kt} {Q : Fr → St → Prop} {r : Rd} {tips : List (Nat × Nat)} {fr : Fr} (hb : r.bad = true) (h0 : fr 0 = .ptr 0 0)
    (k : ∀ fr', fr' 0 = fr 0 → fr' 3 = fr 3 → Ok (gval T K fr' ⟨[rc r], tips⟩) Q) : Ok (gval T (.lp regex_reader_row_l0 :: .blk 0 :: K) fr ⟨[rc r], tips⟩) Q := by
  obtain ⟨p, d, m, b⟩ := r
  simp only at hb
  subst hb
  rw [gval_lp]
  cases p with
  | nil =>
    simp -implicitDefEqProofs [h0]
    exact k _ (by simp) (by simp)
  | cons c p =>
    simp -implicitDefEqProofs [h0]
    exact k _ (by simp) (by simp)

theorem row_loop {T0 : List (Nat × Nat)} {de : Int} (hde : 0 ≤ de) {K : List Kt} {Q : Fr → St → Prop} : ∀ (n : Nat) (w : List UInt8), w.length = n → (∀ w', w'.length ≤ w.length → w' ≠ [] → AtomOk w') → ∀ (es : List PV) (mo : Int) (tips : List (Nat × Nat)) (fr : Fr),
    AccT T0 tips (fr 3) es → PV.freeL es = true → fr 3 ≠ .nils → fr 0 = .ptr 0 0 → es.length + w.length ≤ 10000 → de ≤ mo → de + w.length ≤ 4000 →
    (∀ x d rr es' fr' tips', rowW w = some (x, d, rr) → RowR x es' → AccT T0 tips' (fr' 3) (es ++ es') → PV.freeL (es ++ es') = true → fr' 3 ≠ .nils → fr' 0 = .ptr 0 0 → Ok (gval T K fr' ⟨[rc ⟨rr, de, max mo (de + (d : Nat)), false⟩], tips'⟩) Q) →
    (rowW w = none → ∀ es'' r' fr' tips', r'.bad = true → AccT T0 tips' (fr' 3) es'' → PV.freeL es'' = true → fr' 3 ≠ .nils → fr' 0 = .ptr 0 0 → Ok (gval T K fr' ⟨[rc r'], tips'⟩) Q) →
    Ok (gval T (.lp regex_reader_row_l0 :: .blk 0 :: K) fr ⟨[rc ⟨w, de, mo, false⟩], tips⟩) Q := by
  intro n
  induction n using Nat.strongRecOn with
  | _ n ih =>
    intro w hw hat es mo tips fr ha hf hn h0 hl hmo hb k1 k2
    have hR := rowW_eq w
    rw [gval_lp]
    cases w with
    | nil =>
      simp only at hR
      simp -implicitDefEqProofs [h0]
      have := fun fr' => k1 .rnil 0 [] [] fr' tips hR .nil
      rw [max_zero hmo, List.append_nil] at this
      exact this _ (by simpa using ha) (by simpa using hf) (by simpa using hn) (by simpa using h0)
    | cons c w0 =>
      have hN := next_val ⟨c :: w0, de, mo, false⟩ [124, 41] [] tips
      have hnx : nextB (c :: w0) [124, 41] = decide (c = 124 ∨ c = 41) := by simp [nextB]
      simp only at hN hR
      rw [hnx] at hN
      by_cases hc : c = 124 ∨ c = 41
      · rw [if_pos hc] at hR
        rw [decide_eq_true hc] at hN
        simp -implicitDefEqProofs [h0, hN]
        have := fun fr' => k1 .rnil 0 (c :: w0) [] fr' tips hR .nil
        rw [max_zero hmo, List.append_nil] at this
        exact this _ (by simpa using ha) (by simpa using hf) (by simpa using hn) (by simpa using h0)
      · rw [if_neg hc] at hR
        rw [decide_eq_false hc] at hN
        obtain ⟨v, r1, t, e1, o1⟩ := hat (c :: w0) (Nat.le_refl _) (by simp) de mo tips hde hmo hb
        obtain ⟨f1, ⟨tt, u, rfl⟩, o1⟩ := o1
        have hN2 := next_val r1 [42, 43, 63] [] (tips ++ t)
        have hT := take_val r1 [] (tips ++ t)
        simp only [List.length_cons] at hl hb hw
        -- what is appended
        have app : ∀ v' : PV, ∃ v'' tips', appendTo 1 16 ⟨[rc r1], tips ++ (t ++ [(1, 1)])⟩ (fr 3) [v'] = some (v'', ⟨[rc r1], tips'⟩) ∧ AccT T0 tips' v'' (es ++ [v']) ∧ v'' ≠ .nils := by
          intro v'
          obtain ⟨v'', tips', a1, a2⟩ := (ha.ext (t ++ [(1, 1)])).app 16 v' (by omega) [rc r1]
          refine ⟨v'', tips', a1, a2, fun q => ?_⟩
          subst q
          rcases a2.acc with ⟨_, e⟩ | ⟨_, _, e, _⟩
          · simp at e
          · cases e
        have ne43 : ∀ d : UInt8, ((d.toNat : Int) != 43) = (d != 43) := fun d => by
          by_cases h : d = 43
          · subst h; rfl
          · have : d.toNat ≠ 43 := fun q => h (UInt8.toNat_inj.1 q)
            have h2 : (d != 43) = true := by simpa using h
            rw [h2]; simp; omega
        have ne63 : ∀ d : UInt8, ((d.toNat : Int) != 63) = (d != 63) := fun d => by
          by_cases h : d = 63
          · subst h; rfl
          · have : d.toNat ≠ 63 := fun q => h (UInt8.toNat_inj.1 q)
            have h2 : (d != 63) = true := by simpa using h
            rw [h2]; simp; omega
        have hl1 : ∀ p d w1, atomW (c :: w0) = some (p, d, w1) → w1.length ≤ w0.length := fun p d w1 h => by
          have := atomW_len h
          simp only [List.length_cons] at this
          omega
        -- behind an atom that is there
        have good : ∀ (p : Nd) (d : Nat) (w1 : List UInt8) (v' v'' : PV) (tips' : List (Nat × Nat)) (fr' : Fr), atomW (c :: w0) = some (p, d, w1) → NdR (markF p w1).1 v' → v'.free = true → AccT T0 tips' v'' (es ++ [v']) → v'' ≠ .nils → fr' 0 = .ptr 0 0 → fr' 3 = v'' →
            Ok (gval T (.lp regex_reader_row_l0 :: .blk 0 :: K) fr' ⟨[rc ⟨(markF p w1).2, de, max mo (de + (d : Nat)), false⟩], tips'⟩) Q := by
          intro p d w1 v' v'' tips' fr' ea hv hvf a2 a3 b0 b3
          rw [ea] at hR
          simp only at hR
          have l1 := hl1 p d w1 ea
          have l2 := markF_len p w1
          refine ih (markF p w1).2.length (by omega) (markF p w1).2 rfl (fun w' q1 q2 => hat w' (by simp only [List.length_cons]; omega) q2) (es ++ [v']) _ tips' fr' (by rw [b3]; exact a2) (by simp [freeL_app, hf, hvf, PV.freeL]) (by rw [b3]; exact a3) b0 (by simp only [List.length_append, List.length_cons, List.length_nil]; omega) (by omega) (by omega)
            (fun x d2 rr es' fr2 tips2 g1 g2 g3 g4 g5 g6 => ?_) (fun g1 es'' r' fr2 tips2 g2 g3 g4 g5 g6 => ?_)
          · rw [g1] at hR
            simp only at hR
            rw [List.append_assoc] at g3 g4
            have := k1 _ _ _ _ fr2 tips2 hR (.cons hv g2) g3 g4 g5 g6
            have e : max mo (de + ((max d d2 : Nat) : Int)) = max (max mo (de + (d : Int))) (de + (d2 : Int)) := by omega
            rw [e] at this
            exact this
          · rw [g1] at hR
            exact k2 hR es'' r' fr2 tips2 g2 g3 g4 g5 g6
        have badd : ∀ (v' v'' : PV) (r2 : Rd) (tips' : List (Nat × Nat)) (fr' : Fr), atomW (c :: w0) = none → r2.bad = true → v'.free = true → AccT T0 tips' v'' (es ++ [v']) → v'' ≠ .nils → fr' 0 = .ptr 0 0 → fr' 3 = v'' →
            Ok (gval T (.lp regex_reader_row_l0 :: .blk 0 :: K) fr' ⟨[rc r2], tips'⟩) Q := by
          intro v' v'' r2 tips' fr' ea hb2 hvf a2 a3 b0 b3
          rw [ea] at hR
          refine row_bad hb2 b0 (fun fr2 c0 c3 => ?_)
          exact k2 hR (es ++ [v']) r2 fr2 tips' hb2 (by rw [c3, b3]; exact a2) (by simp [freeL_app, hf, hvf, PV.freeL]) (by rw [c3, b3]; exact a3) (by rw [c0, b0])
        simp -implicitDefEqProofs [h0, hN, e1, hN2]
        refine ok_br (fun hq => ?_) (fun hq => ?_)
        · obtain ⟨v'', tips', a1, a2, a3⟩ := app (.iface 9 (.agg [.iface tt u, .bool ((takeR r1).1 != 43), .bool ((takeR r1).1 != 63)]))
          have a1' := appendTo_objs (o' := [rc (takeR r1).2]) a1
          simp -implicitDefEqProofs [h0, hT, peval, fillParts, putCells, pstep, elems, setParts, ne43, ne63, a1']
          cases ea : atomW (c :: w0) with
          | none =>
            rw [ea] at o1
            refine badd _ v'' _ tips' _ ea ?_ (by simpa [PV.free] using f1) a2 a3 (by simp [h0]) (by simp)
            unfold takeR
            split
            · rfl
            · exact o1
          | some q =>
            obtain ⟨p, d, w1⟩ := q
            rw [ea] at o1
            obtain ⟨o1, o2⟩ := o1
            rw [o1] at hq a2 ⊢
            simp only at hq
            rcases nextB_mark (p := p) (w := w1) with ⟨g1, g2⟩ | ⟨m, rm, g0, g1, g2⟩
            · rw [g1] at hq; cases hq
            · have := good p d w1 (.iface 9 (.agg [.iface tt u, .bool (m != 43), .bool (m != 63)])) v'' tips'
              rw [g2] at this
              subst g0
              exact this _ ea (.again o2) (by simpa [PV.free] using f1) a2 a3 (by simp [h0]) (by simp)
        · obtain ⟨v'', tips', a1, a2, a3⟩ := app (.iface tt u)
          simp -implicitDefEqProofs [h0, peval, fillParts, putCells, pstep, elems, setParts, a1]
          cases ea : atomW (c :: w0) with
          | none =>
            rw [ea] at o1
            exact badd _ v'' _ tips' _ ea o1 f1 a2 a3 (by simp [h0]) (by simp)
          | some q =>
            obtain ⟨p, d, w1⟩ := q
            rw [ea] at o1
            obtain ⟨o1, o2⟩ := o1
            rw [o1] at hq ⊢
            simp only at hq
            rcases nextB_mark (p := p) (w := w1) with ⟨g1, g2⟩ | ⟨m, rm, g0, g1, g2⟩
            · have := good p d w1 (.iface tt u) v'' tips'
              rw [g2] at this
              exact this _ ea o2 f1 a2 a3 (by simp [h0]) (by simp)
            · rw [g1] at hq; cases hq

theorem row_val (w : List UInt8) (hat : ∀ w', w'.length ≤ w.length → w' ≠ [] → AtomOk w') : RowOk w := by
  intro de mo tips hde hmo hw
  have key := cval_ex (T := T) (f := 302) (c := regex_reader_row) fn_302 (args := [.ptr 0 0]) (S := ⟨[rc ⟨w, de, mo, false⟩], tips⟩) rfl
    (R := fun r S2 => ∃ r' t, S2 = ⟨[rc r'], tips ++ t⟩ ∧ Out (rowW w) de mo r r') ?_
  · obtain ⟨r, S2, h1, r', t, rfl, h2⟩ := key
    exact ⟨r, r', t, h1, h2⟩
  have main : ∀ Q : Fr → St → Prop, (∀ (v : PV) (r' : Rd) (t : List (Nat × Nat)) (fr' : Fr), fr' 2 = v → Out (rowW w) de mo v r' → Q fr' ⟨[rc r'], tips ++ t⟩) →
      Ok (gval T [.code regex_reader_row.body] (argsFr [.ptr 0 0]) ⟨[rc ⟨w, de, mo, false⟩], tips⟩) Q := by
    intro Q ends
    simp -implicitDefEqProofs [regex_reader_row, pstep, elems, setParts]
    refine row_loop (T0 := tips) hde w.length w rfl hat [] mo _ _ (by simpa using accT_new (T0 := tips) (tips := tips) [] ⟨[], by simp⟩) rfl (by simp) (by simp) (by simp only [List.length_nil]; omega) hmo hw
      (fun x d rr es' fr' tips' g1 g2 g3 g4 g5 g6 => ?_) (fun g1 es'' r' fr' tips' g2 g3 g4 g5 g6 => ?_)
    · obtain ⟨tip, hv⟩ := g3.sl g5
      obtain ⟨t, rfl⟩ := g3.tips
      simp -implicitDefEqProofs [hv]
      refine ends (.iface 10 (.sl tip ([] ++ es') [])) _ t _ (by simp) ⟨?_, ⟨_, _, rfl⟩, ?_⟩
      · simpa [PV.free, PV.freeL] using g4
      · rw [g1]
        exact ⟨rfl, .row (by simpa using g2)⟩
    · obtain ⟨tip, hv⟩ := g3.sl g5
      obtain ⟨t, rfl⟩ := g3.tips
      simp -implicitDefEqProofs [hv]
      refine ends (.iface 10 (.sl tip es'' [])) _ t _ (by simp) ⟨?_, ⟨_, _, rfl⟩, ?_⟩
      · simpa [PV.free, PV.freeL] using g4
      · rw [g1]
        exact g2
  refine main _ (fun v r' t fr' h ho => ⟨[fr' 2], rfl, ?_⟩)
  obtain ⟨v', t', q1, q2⟩ := fin_out (r0 := ⟨w, de, mo, false⟩) (ex := []) (tips := tips) (t := t) (sol_of_free ho.free) ho
  show ∃ r' t, (finish false _ _ (fr' 2)).2 = _ ∧ Out _ _ _ (finish false _ _ (fr' 2)).1 _
  rw [h, q1]
  exact ⟨r', t', rfl, q2⟩

theorem pat_bad {K : List Kt} {Q : Fr → St → Prop} {r : Rd} {tips : List (Nat × Nat)} {fr : Fr} (hb : r.bad = true) (h0 : fr 0 = .ptr 0 0)
    (k : ∀ fr', fr' 0 = fr 0 → fr' 3 = fr 3 → Ok (gval T K fr' ⟨[rc r], tips⟩) Q) : Ok (gval T (.lp regex_reader_pattern_l0 :: .blk 0 :: K) fr ⟨[rc r], tips⟩) Q := by
  have hN := next_val r [124] [] tips
  rw [gval_lp]
  cases hq : nextB r.p [124] with
  | true =>
    rw [hq] at hN
    simp -implicitDefEqProofs [h0, hN, hb]
    exact k _ (by simp) (by simp)
  | false =>
    rw [hq] at hN
    simp -implicitDefEqProofs [h0, hN, hb]
    exact k _ (by simp) (by simp)

/-- The alternatives behind the first. -/
def altW (w : List UInt8) : Option (Nd × Nat × List UInt8) := match w with | [] => some (.enil, 0, []) | c :: w2 => if c = 124 then patW w2 else some (.enil, 0, c :: w2)
theorem patW_alt (w : List UInt8) : patW w = match rowW w with
    | none => none
    | some (r, d, w1) => match altW w1 with
      | none => none
      | some (e, d2, w3) => some (.econs r e, max d d2, w3) := altW_eq w

theorem pat_loop {T0 : List (Nat × Nat)} {de : Int} (hde : 0 ≤ de) {K : List Kt} {Q : Fr → St → Prop} : ∀ (n : Nat) (w : List UInt8), w.length = n → (∀ w', w'.length < w.length → RowOk w') → ∀ (es : List PV) (mo : Int) (tips : List (Nat × Nat)) (fr : Fr),
    AccT T0 tips (fr 3) es → PV.freeL es = true → fr 3 ≠ .nils → fr 0 = .ptr 0 0 → es.length + w.length ≤ 10000 → de ≤ mo → de + w.length ≤ 4000 →
    (∀ x d rr es' fr' tips', altW w = some (x, d, rr) → PatR x es' → AccT T0 tips' (fr' 3) (es ++ es') → PV.freeL (es ++ es') = true → fr' 3 ≠ .nils → fr' 0 = .ptr 0 0 → Ok (gval T K fr' ⟨[rc ⟨rr, de, max mo (de + (d : Nat)), false⟩], tips'⟩) Q) →
    (altW w = none → ∀ es'' r' fr' tips', r'.bad = true → AccT T0 tips' (fr' 3) es'' → PV.freeL es'' = true → fr' 3 ≠ .nils → fr' 0 = .ptr 0 0 → Ok (gval T K fr' ⟨[rc r'], tips'⟩) Q) →
    Ok (gval T (.lp regex_reader_pattern_l0 :: .blk 0 :: K) fr ⟨[rc ⟨w, de, mo, false⟩], tips⟩) Q := by
  intro n
  induction n using Nat.strongRecOn with
  | _ n ih =>
    intro w hw hrow es mo tips fr ha hf hn h0 hl hmo hb k1 k2
    have hN := next_val ⟨w, de, mo, false⟩ [124] [] tips
    simp only at hN
    have out : nextB w [124] = false → altW w = some (.enil, 0, w) → Ok (gval T (.lp regex_reader_pattern_l0 :: .blk 0 :: K) fr ⟨[rc ⟨w, de, mo, false⟩], tips⟩) Q := by
      intro q1 q2
      rw [q1] at hN
      rw [gval_lp]
      simp -implicitDefEqProofs [h0, hN]
      have := fun fr' => k1 .enil 0 w [] fr' tips q2 .nil
      rw [max_zero hmo, List.append_nil] at this
      exact this _ (by simpa using ha) (by simpa using hf) (by simpa using hn) (by simpa using h0)
    cases w with
    | nil => exact out rfl rfl
    | cons c w0 =>
      by_cases hc : c = 124
      · subst hc
        have hal : altW (124 :: w0) = patW w0 := by simp [altW]
        rw [hal, patW_alt] at k1 k2
        rw [show nextB (124 :: w0) [124] = true from rfl] at hN
        have hT : cval T 304 [.ptr 0 0] ⟨[rc ⟨124 :: w0, de, mo, false⟩], tips⟩ = some (.int .u8 124, ⟨[rc ⟨w0, de, mo, false⟩], tips⟩) := take_val ⟨124 :: w0, de, mo, false⟩ [] tips
        simp only [List.length_cons] at hl hb hw
        obtain ⟨v, r1, t, e1, o1⟩ := hrow w0 (by simp) de mo tips hde hmo (by omega)
        obtain ⟨f1, ⟨tt, u, rfl⟩, o1⟩ := o1
        obtain ⟨v'', tips', a1, a2⟩ := (ha.ext (t ++ [(1, 1)])).app 16 (.iface tt u) (by omega) [rc r1]
        have a3 : v'' ≠ .nils := fun q => by
          subst q
          rcases a2.acc with ⟨_, e⟩ | ⟨_, _, e, _⟩
          · simp at e
          · cases e
        rw [gval_lp]
        simp -implicitDefEqProofs [h0, hN, hT, e1, pstep, elems, setParts, a1]
        cases er : rowW w0 with
        | none =>
          rw [er] at o1 k2
          refine pat_bad o1 (by simp [h0]) (fun fr2 c0 c3 => ?_)
          exact k2 rfl (es ++ [.iface tt u]) r1 fr2 tips' o1 (by rw [c3]; simpa using a2) (by simpa [freeL_app, hf, PV.freeL, PV.free] using f1) (by rw [c3]; simpa using a3) (by rw [c0]; simp [h0])
        | some q =>
          obtain ⟨x, d, w1⟩ := q
          rw [er] at o1 k1 k2
          obtain ⟨o1, o2⟩ := o1
          rw [o1]
          simp only at k1 k2
          have hl1 := rowW_len er
          refine ih w1.length (by omega) w1 rfl (fun w' q => hrow w' (by simp only [List.length_cons]; omega)) (es ++ [.iface tt u]) _ tips' _ (by simpa using a2) (by simpa [freeL_app, hf, PV.freeL, PV.free] using f1) (by simpa using a3) (by simp [h0]) (by simp only [List.length_append, List.length_cons, List.length_nil]; omega) (by omega) (by omega)
            (fun x2 d2 rr es' fr2 tips2 g1 g2 g3 g4 g5 g6 => ?_) (fun g1 es'' r' fr2 tips2 g2 g3 g4 g5 g6 => ?_)
          · rw [g1] at k1
            rw [List.append_assoc] at g3 g4
            have := k1 _ _ _ _ fr2 tips2 rfl (.cons o2 g2) g3 g4 g5 g6
            have e : max mo (de + ((max d d2 : Nat) : Int)) = max (max mo (de + (d : Int))) (de + (d2 : Int)) := by omega
            rw [e] at this
            exact this
          · rw [g1] at k2
            exact k2 rfl es'' r' fr2 tips2 g2 g3 g4 g5 g6
      · exact out (by simp [nextB]; exact hc) (by simp [altW, hc])

theorem pat_val (w : List UInt8) (hrow : ∀ w', w'.length ≤ w.length → RowOk w') : PatOk w := by
  intro de mo tips hde hmo hw
  have key := cval_ex (T := T) (f := 222) (c := regex_reader_pattern) fn_222 (args := [.ptr 0 0]) (S := ⟨[rc ⟨w, de, mo, false⟩], tips⟩) rfl
    (R := fun r S2 => ∃ r' t, S2 = ⟨[rc r'], tips ++ t⟩ ∧ Out (patW w) de mo r r') ?_
  · obtain ⟨r, S2, h1, r', t, rfl, h2⟩ := key
    exact ⟨r, r', t, h1, h2⟩
  have main : ∀ Q : Fr → St → Prop, (∀ (v : PV) (r' : Rd) (t : List (Nat × Nat)) (fr' : Fr), fr' 2 = v → Out (patW w) de mo v r' → Q fr' ⟨[rc r'], tips ++ t⟩) →
      Ok (gval T [.code regex_reader_pattern.body] (argsFr [.ptr 0 0]) ⟨[rc ⟨w, de, mo, false⟩], tips⟩) Q := by
    intro Q ends
    obtain ⟨v, r1, t, e1, o1⟩ := hrow w (Nat.le_refl _) de mo tips hde hmo hw
    obtain ⟨f1, ⟨tt, u, rfl⟩, o1⟩ := o1
    have hP := patW_alt w
    have hacc : AccT tips ((tips ++ t) ++ [(1, 1)]) (.sl (some ((tips ++ t).length, 1)) [.iface tt u] []) [.iface tt u] := accT_new (T0 := tips) (tips := tips ++ t) [.iface tt u] ⟨t, rfl⟩
    rw [List.append_assoc, List.length_append] at hacc
    simp -implicitDefEqProofs [regex_reader_pattern, pstep, elems, setParts, e1]
    have fin_bad : ∀ (es'' : List PV) (r' : Rd) (fr' : Fr) (tips' : List (Nat × Nat)), patW w = none → r'.bad = true → AccT tips tips' (fr' 3) es'' → PV.freeL es'' = true → fr' 3 ≠ .nils → fr' 0 = .ptr 0 0 → Ok (gval T [.code (.seq (.clr [(23, 25)] (.region regex_reader_pattern_r5)) .ret)] fr' ⟨[rc r'], tips'⟩) Q := by
      intro es'' r' fr' tips' g1 g2 g3 g4 g5 g6
      obtain ⟨tip, hv⟩ := g3.sl g5
      obtain ⟨t, rfl⟩ := g3.tips
      simp -implicitDefEqProofs [hv]
      refine ends (.iface 5 (.sl tip es'' [])) _ t _ (by simp) ⟨?_, ⟨_, _, rfl⟩, ?_⟩
      · simpa [PV.free, PV.freeL] using g4
      · rw [g1]
        exact g2
    cases er : rowW w with
    | none =>
      rw [er] at o1 hP
      refine pat_bad o1 (by simp) (fun fr2 c0 c3 => ?_)
      exact fin_bad [.iface tt u] r1 fr2 _ hP o1 (by rw [c3]; simpa using hacc) (by simpa [PV.freeL, PV.free] using f1) (by rw [c3]; simp) (by rw [c0]; simp)
    | some q =>
      obtain ⟨x, d, w1⟩ := q
      rw [er] at o1 hP
      obtain ⟨o1, o2⟩ := o1
      rw [o1]
      simp only at hP
      have hl1 := rowW_len er
      refine pat_loop (T0 := tips) hde w1.length w1 rfl (fun w' q => hrow w' (by omega)) [.iface tt u] _ _ _ (by simpa using hacc) (by simpa [PV.freeL, PV.free] using f1) (by simp) (by simp) (by simp only [List.length_cons, List.length_nil]; omega) (by omega) (by omega)
        (fun x2 d2 rr es' fr' tips' g1 g2 g3 g4 g5 g6 => ?_) (fun g1 es'' r' fr' tips' g2 g3 g4 g5 g6 => ?_)
      · rw [g1] at hP
        simp only at hP
        obtain ⟨tip, hv⟩ := g3.sl g5
        obtain ⟨t, rfl⟩ := g3.tips
        simp -implicitDefEqProofs [hv]
        refine ends (.iface 5 (.sl tip ([.iface tt u] ++ es') [])) _ t _ (by simp) ⟨?_, ⟨_, _, rfl⟩, ?_⟩
        · simpa [PV.free, PV.freeL] using g4
        · rw [hP]
          refine ⟨?_, .pat (.cons o2 g2)⟩
          congr 1
          omega
      · rw [g1] at hP
        exact fin_bad es'' r' fr' tips' hP g2 g3 g4 g5 g6
  refine main _ (fun v r' t fr' h ho => ⟨[fr' 2], rfl, ?_⟩)
  obtain ⟨v', t', q1, q2⟩ := fin_out (r0 := ⟨w, de, mo, false⟩) (ex := []) (tips := tips) (t := t) (sol_of_free ho.free) ho
  show ∃ r' t, (finish false _ _ (fr' 2)).2 = _ ∧ Out _ _ _ (finish false _ _ (fr' 2)).1 _
  rw [h, q1]
  exact ⟨r', t', rfl, q2⟩

theorem all_read : ∀ k : Nat, (∀ w, w.length ≤ k → w ≠ [] → AtomOk w) ∧ (∀ w, w.length ≤ k → RowOk w) ∧ (∀ w, w.length ≤ k → PatOk w) := by
  intro k
  induction k using Nat.strongRecOn with
  | _ k ih =>
    have hA : ∀ w, w.length ≤ k → w ≠ [] → AtomOk w := by
      intro w hw hne
      cases w with
      | nil => exact absurd rfl hne
      | cons c w0 =>
        simp only [List.length_cons] at hw
        exact atom_val c w0 (fun w' q => (ih (k - 1) (by omega)).2.2 w' (by simp only [List.length_cons] at q; omega))
    have hR : ∀ w, w.length ≤ k → RowOk w := fun w hw => row_val w (fun w' q1 q2 => hA w' (by omega) q2)
    exact ⟨hA, hR, fun w hw => pat_val w (fun w' q => hR w' (by omega))⟩
theorem patOk (w : List UInt8) : PatOk w := (all_read w.length).2.2 w (Nat.le_refl _)
end Ps
