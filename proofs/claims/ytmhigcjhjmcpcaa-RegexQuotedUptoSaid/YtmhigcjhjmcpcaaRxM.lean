/- Rows, alternatives, repetition: where they may end. -/
import Derived.Test.YtmhigcjhjmcpcaaRxL
namespace Ps
set_option linter.unusedSimpArgs false
set_option linter.unusedVariables false
open Go

inductive RowE : Nd → List PV → Prop where
  | nil : RowE .rnil []
  | cons {p l : Nd} {v : PV} {es : List PV} (h : EndsOk p v) (t : RowE l es) : RowE (.rcons p l) (v :: es)
inductive PatE : Nd → List PV → Prop where
  | nil : PatE .enil []
  | cons {p l : Nd} {v : PV} {es : List PV} (h : EndsOk p v) (t : PatE l es) : PatE (.econs p l) (v :: es)

theorem rowE_free {x : Nd} {es : List PV} (h : RowE x es) : PV.freeL es = true ∧ PV.frzL es = es ∧ ∀ e ∈ es, e.cells.length = 1 := by
  induction h with
  | nil => exact ⟨rfl, rfl, fun _ h => by cases h⟩
  | cons h _ ih =>
    obtain ⟨h1, h2, tt, u, f, rfl, _⟩ := h
    exact ⟨by simp only [PV.freeL, h1, ih.1, Bool.and_self], by simp only [PV.frzL, h2, ih.2.1], fun e he => by
      rcases List.mem_cons.1 he with rfl | he
      · rfl
      · exact ih.2.2 e he⟩
theorem patE_free {x : Nd} {es : List PV} (h : PatE x es) : PV.freeL es = true ∧ PV.frzL es = es ∧ ∀ e ∈ es, e.cells.length = 1 := by
  induction h with
  | nil => exact ⟨rfl, rfl, fun _ h => by cases h⟩
  | cons h _ ih =>
    obtain ⟨h1, h2, tt, u, f, rfl, _⟩ := h
    exact ⟨by simp only [PV.freeL, h1, ih.1, Bool.and_self], by simp only [PV.frzL, h2, ih.2.1], fun e he => by
      rcases List.mem_cons.1 he with rfl | he
      · rfl
      · exact ih.2.2 e he⟩

theorem row_eloop {o : List (List PV)} {tips : List (Nat × Nat)} {z : List PV} {s : List UInt8} (hs : s.length ≤ 64) {vl : PV} {all : List PV} (hv : Reads1 1 vl all) (hal : all.length ≤ 100000) {K : List Kt} {Q : Fr → St → Prop} {x : Nd} {es : List PV} (h : RowE x es) :
    ∀ (pre : List PV) (a : Nat → Bool) (fr : Fr), all = pre ++ es → Supp s a → fr 1 = .str s → fr 5 = .ptr o.length 0 → fr 6 = .ptr (o.length + 1) 0 → fr 9 = vl → fr 10 = .int .i64 all.length → fr 11 = .int .i64 pre.length →
    (∀ fr', fr' 5 = fr 5 → fr' 6 = fr 6 → Ok (gval T K fr' ⟨o ++ [plc (En x s a), z], tips⟩) Q) →
    Ok (gval T (.lp regex_row_ends_l0 :: .blk 0 :: K) fr ⟨o ++ [plc a, z], tips⟩) Q := by
  induction h with
  | nil =>
    intro pre a fr e hsu h1 h5 h6 h9 h10 h11 kk
    have hE : a = En .rnil s a := en_ext (fun j => by rw [rch_rnil]; exact ⟨fun h => ⟨h, hsu j h⟩, fun h => h.1⟩)
    rw [← hE] at kk
    rw [List.append_nil] at e
    subst e
    rw [gval_lp]
    simp -implicitDefEqProofs [h10, h11]
    exact kk _ (by simp) (by simp)
  | @cons p l v es h t ih =>
    intro pre a fr e hsu h1 h5 h6 h9 h10 h11 kk
    obtain ⟨f1, f2, tt, u, f, rfl, hm, hc⟩ := h
    have hlt : (pre.length : Int) < all.length := by rw [e]; simp; omega
    have hlt' : pre.length < all.length := by rw [e]; simp
    have hget := hv.get pre.length hlt' .i64
    have hel : all[pre.length] = .iface tt u := by simp [e]
    rw [hel] at hget
    have hw2 := wrap_len (a := pre.length) (by omega)
    have hcall := hc s a ⟨o ++ [plc a, z], tips⟩ hs hsu
    have hE : En (.rcons p l) s a = En l s (En p s a) := by
      symm
      exact en_ext (fun j => by
        rw [en_iff, rch_rcons]
        exact ⟨fun h => rch_mono h (fun i => en_iff.1), fun h => rch_mono h (fun i => en_iff.2)⟩)
    rw [hE] at kk
    have hp1 : partOf false 1 [PV.iface tt u] = some (.iface tt u) := rfl
    rw [gval_lp]
    simp -implicitDefEqProofs [-List.all_eq_true, hp1, invP, h1, h5, h6, h9, h10, h11, hlt, hget, partOf_all, pstep, hm, hcall, all_plc, plc_len, put_all, get_at0, set_at0, hw2]
    exact ih (pre ++ [.iface tt u]) _ _ (by rw [e]; simp) en_supp (by simp [h1]) (by simp [h5]) (by simp [h6]) (by simp [h9]) (by simp [h10]) (by simp [hw2]) (fun fr' q1 q2 => kk fr' (by rw [q1]; simp) (by rw [q2]; simp))

theorem row_ends {x : Nd} {es : List PV} (h : RowE x es) (hl : es.length ≤ 100000) : EndsOk x (.iface 10 (.sl none es [])) := by
  obtain ⟨hf, hz, hcl⟩ := rowE_free h
  refine ⟨by simp [PV.free, PV.freeL, hf], by simp [PV.frz, PV.frzL, hz], 10, .sl none es [], 452, rfl, rfl, ?_⟩
  intro s a S hs hsu
  obtain ⟨o, tips⟩ := S
  have hv : Reads1 1 (.sl none es []) es := reads_sl hcl
  refine cval_ok' fn_452 rfl ?_
  have main : ∀ Q : Fr → St → Prop, (∀ fr, fr 6 = .ptr (o.length + 1) 0 → Q fr ⟨o ++ [plc (En x s a), plc (En x s a)], tips⟩) → Ok (gval T [.code regex_row_ends.body] (argsFr [.sl none es [], .str s, .agg (plc a)]) ⟨o, tips⟩) Q := by
    intro Q ends
    simp -implicitDefEqProofs [-List.all_eq_true, regex_row_ends, peval, pstep, all_plc, plc_zero]
    refine row_eloop hs hv hl h [] a _ rfl hsu (by simp) (by simp) (by simp) (by simp) (by simp) (by simp) (fun fr' q1 q2 => ?_)
    have q1' : fr' 5 = .ptr o.length 0 := by rw [q1]; simp
    have q2' : fr' 6 = .ptr (o.length + 1) 0 := by rw [q2]; simp
    simp -implicitDefEqProofs [-List.all_eq_true, q1', q2', pstep, partOf_all, all_plc, put_all, plc_len, get_at1, set_at1]
    exact ends _ (by simp [q2'])
  refine main _ (fun fr h => ?_)
  refine ⟨[.agg (plc (En x s a))], ?_, ?_⟩
  · show resAll fr _ [.cell 6 true 65] = _
    simp only [resAll, resOf, h, get_at1, List.drop_zero, partOf_all]
  · refine (fin_free (S := ⟨o, tips⟩) (S1 := ⟨o ++ [plc (En x s a), plc (En x s a)], tips⟩) ⟨[plc (En x s a), plc (En x s a)], [], by simp⟩ (by simp [PV.free, freeL_plc])).trans ?_
    simp [PV.frz, frzL_plc]

theorem either_eloop {o : List (List PV)} {tips : List (Nat × Nat)} {z : List PV} {s : List UInt8} (hs : s.length ≤ 64) {a : Nat → Bool} (hsu : Supp s a) {vl : PV} {all : List PV} (hv : Reads1 1 vl all) (hal : all.length ≤ 100000) {K : List Kt} {Q : Fr → St → Prop} {x : Nd} {es : List PV} (h : PatE x es) :
    ∀ (pre : List PV) (b : Nat → Bool) (fr : Fr), all = pre ++ es → fr 1 = .str s → fr 5 = .ref (plc a) → fr 6 = .ptr o.length 0 → fr 7 = .ptr (o.length + 1) 0 → fr 10 = vl → fr 11 = .int .i64 all.length → fr 12 = .int .i64 pre.length →
    (∀ fr', fr' 6 = fr 6 → fr' 7 = fr 7 → Ok (gval T K fr' ⟨o ++ [z, plc (fun i => b i || En x s a i)], tips⟩) Q) →
    Ok (gval T (.lp regex_either_ends_l0 :: .blk 0 :: K) fr ⟨o ++ [z, plc b], tips⟩) Q := by
  induction h with
  | nil =>
    intro pre b fr e h1 h5 h6 h7 h10 h11 h12 kk
    have hE : ∀ i, En .enil s a i = false := fun i => by
      cases q : En .enil s a i with
      | false => rfl
      | true => exact absurd (en_iff.1 q) rch_enil
    have e0 : plc (fun i => b i || En .enil s a i) = plc b := plc_ext (fun i _ => by rw [hE]; simp)
    rw [e0] at kk
    rw [List.append_nil] at e
    subst e
    rw [gval_lp]
    simp -implicitDefEqProofs [h11, h12]
    exact kk _ (by simp) (by simp)
  | @cons p l v es h t ih =>
    intro pre b fr e h1 h5 h6 h7 h10 h11 h12 kk
    obtain ⟨f1, f2, tt, u, f, rfl, hm, hc⟩ := h
    have hlt : (pre.length : Int) < all.length := by rw [e]; simp; omega
    have hlt' : pre.length < all.length := by rw [e]; simp
    have hget := hv.get pre.length hlt' .i64
    have hel : all[pre.length] = .iface tt u := by simp [e]
    rw [hel] at hget
    have hw2 := wrap_len (a := pre.length) (by omega)
    have hcall := hc s a ⟨o ++ [z, plc b], tips⟩ hs hsu
    have hj := join_val b (En p s a) ⟨o ++ [z, plc b], tips⟩
    have hE : plc (fun i => (b i || En p s a i) || En l s a i) = plc (fun i => b i || En (.econs p l) s a i) := plc_ext (fun i _ => by
      have : En (.econs p l) s a i = (En p s a i || En l s a i) := by
        rw [Bool.eq_iff_iff, en_iff, rch_econs, Bool.or_eq_true, en_iff, en_iff]
      rw [this, Bool.or_assoc])
    rw [← hE] at kk
    have hk : keepIf true ⟨o ++ [z, plc b], tips⟩ (some (.agg (plc (En p s a)), ⟨o ++ [z, plc b], tips⟩)) = some (.agg (plc (En p s a)), ⟨o ++ [z, plc b], tips⟩) := by
      simp only [keepIf, if_true, List.take_length, beqLL_rfl']
    have hp1 : partOf false 1 [PV.iface tt u] = some (.iface tt u) := rfl
    rw [gval_lp]
    simp -implicitDefEqProofs [-List.all_eq_true, hp1, invP, h1, h5, h6, h7, h10, h11, h12, hlt, hget, partOf_all, pstep, hm, aCall, hcall, hk, hj, all_plc, plc_len, put_all, get_at1, set_at1, hw2]
    exact ih (pre ++ [.iface tt u]) _ _ (by rw [e]; simp) (by simp [h1]) (by simp [h5]) (by simp [h6]) (by simp [h7]) (by simp [h10]) (by simp [h11]) (by simp [hw2]) (fun fr' q1 q2 => kk fr' (by rw [q1]; simp) (by rw [q2]; simp))

theorem either_ends {x : Nd} {es : List PV} (h : PatE x es) (hl : es.length ≤ 100000) : EndsOk x (.iface 5 (.sl none es [])) := by
  obtain ⟨hf, hz, hcl⟩ := patE_free h
  refine ⟨by simp [PV.free, PV.freeL, hf], by simp [PV.frz, PV.frzL, hz], 5, .sl none es [], 439, rfl, rfl, ?_⟩
  intro s a S hs hsu
  obtain ⟨o, tips⟩ := S
  have hv : Reads1 1 (.sl none es []) es := reads_sl hcl
  refine cval_ok' fn_439 rfl ?_
  have main : ∀ Q : Fr → St → Prop, (∀ fr, fr 6 = .ptr o.length 0 → Q fr ⟨o ++ [plc (En x s a), plc (En x s a)], tips⟩) → Ok (gval T [.code regex_either_ends.body] (argsFr [.sl none es [], .str s, .agg (plc a)]) ⟨o, tips⟩) Q := by
    intro Q ends
    simp -implicitDefEqProofs [-List.all_eq_true, regex_either_ends, peval, pstep, all_plc, plc_zero]
    refine either_eloop hs hsu hv hl h [] (fun _ => false) _ rfl (by simp) (by simp) (by simp) (by simp) (by simp) (by simp) (by simp) (fun fr' q1 q2 => ?_)
    have q1' : fr' 6 = .ptr o.length 0 := by rw [q1]; simp
    have q2' : fr' 7 = .ptr (o.length + 1) 0 := by rw [q2]; simp
    simp -implicitDefEqProofs [-List.all_eq_true, q1', q2', pstep, partOf_all, all_plc, put_all, plc_len, get_at0, set_at0]
    exact ends _ (by simp [q1'])
  refine main _ (fun fr h => ?_)
  refine ⟨[.agg (plc (En x s a))], ?_, ?_⟩
  · show resAll fr _ [.cell 6 true 65] = _
    simp only [resAll, resOf, h, get_at0, List.drop_zero, partOf_all]
  · refine (fin_free (S := ⟨o, tips⟩) (S1 := ⟨o ++ [plc (En x s a), plc (En x s a)], tips⟩) ⟨[plc (En x s a), plc (En x s a)], [], by simp⟩ (by simp [PV.free, freeL_plc])).trans ?_
    simp [PV.frz, frzL_plc]
end Ps
