/- A function that defers a call: how it is walked. -/
import Derived.Test.YtndfknoclbkkhaaOk
namespace Ps
open Go

def PreTo (T : Tbl) : List PCode → Fr → St → Fr → St → Prop
  | [], fr, S, fr1, S1 => fr1 = fr ∧ S1 = S
  | p :: ps, fr, S, fr1, S1 => ∃ fr2 S2, (∀ K, gval T (.code p :: K) fr S = gval T K fr2 S2) ∧ PreTo T ps fr2 S2 fr1 S1

theorem norm_of {T : Tbl} {p : PCode} {fr fr1 : Fr} {S S1 : St} (h : ∀ K, gval T (.code p :: K) fr S = gval T K fr1 S1) : ∃ j, pcode T (pcall T j) j p fr S = some (.norm, fr1, S1) := by
  have dec : ∀ (K : List Kt) (r : Fr × St), gval T K fr1 S1 = some r → ∃ j e fr3 S3, pcode T (pcall T j) j p fr S = some (e, fr3, S3) ∧ After T j K r e fr3 S3 := by
    intro K r hr
    obtain ⟨j, hj⟩ := gval_some.1 ((h K).trans hr)
    obtain ⟨e, fr3, S3, h4, h5⟩ := kmach_code T j p K fr S r hj
    exact ⟨j, e, fr3, S3, h4, h5⟩
  obtain ⟨j, e, fr3, S3, h2, h3⟩ := dec [] (fr1, S1) gval_nil
  refine ⟨j, ?_⟩
  cases e with
  | norm =>
    obtain ⟨i, hi, h4⟩ := h3
    cases i with
    | zero => simp [kmach] at h4
    | succ i =>
      simp only [kmach, Option.some.injEq, Prod.mk.injEq] at h4
      obtain ⟨rfl, rfl⟩ := h4
      exact h2
  | exit m => obtain ⟨K', i, q1, _⟩ := h3; simp [exitKt] at q1
  | ret =>
    exfalso
    have e1 : (fr1, S1) = (fr3, S3) := h3
    obtain ⟨u, hu⟩ := PV_ne (fr1 0)
    have hk : gval T [.ops [⟨some 0, .mov (.cst u), none⟩]] fr1 S1 = some (upd fr1 0 u, S1) := by
      rw [gval_op]
      simp only [stepV, pstep, peval, ev, withSt, Option.bind_some, updO]
      rw [gval_ops_nil, gval_nil]
    obtain ⟨j', e', fr3', S3', k2, k3⟩ := dec _ _ hk
    have b1 := pcode_le (pcall_le T (Nat.le_max_left j j')) (Nat.le_max_left j j') h2
    have b2 := pcode_le (pcall_le T (Nat.le_max_right j j')) (Nat.le_max_right j j') k2
    rw [b1] at b2; cases b2
    have e2 : (upd fr1 0 u, S1) = (fr3, S3) := k3
    rw [← e1] at e2
    have e3 := congrFun (congrArg Prod.fst e2) 0
    simp [upd] at e3
    exact hu e3

theorem pseq_of {T : Tbl} : ∀ {l : List PCode} {fr fr1 : Fr} {S S1 : St}, PreTo T l fr S fr1 S1 → ∃ j, pseq T (pcall T j) j l fr S = some (fr1, S1)
  | [], fr, fr1, S, S1, h => by obtain ⟨rfl, rfl⟩ := h; exact ⟨0, rfl⟩
  | p :: l, fr, fr1, S, S1, h => by
    obtain ⟨fr2, S2, h1, h2⟩ := h
    obtain ⟨i, hi⟩ := norm_of h1
    obtain ⟨j, hj⟩ := pseq_of h2
    refine ⟨max i j, ?_⟩
    simp only [pseq]
    rw [pcode_le (pcall_le T (Nat.le_max_left i j)) (Nat.le_max_left i j) hi]
    exact pseq_le (pcall_le T (Nat.le_max_right i j)) (Nat.le_max_right i j) hj

theorem cval_def {T : Tbl} {f : Nat} {c : PDef} (hf : T.fn f = some (.codeD c)) {args : List PV} {S S1 S2 SF : St} {r : PV} {fr1 fr2 : Fr} {cf : Nat} {caps : List PV} (ha : args.length = c.params)
    (hpre : PreTo T c.pre (argsFr args) S fr1 S1) (hclo : gval T [.ops [c.clo]] fr1 S1 = some (fr2, S2)) (ht : fr2 c.t = .fn cf caps) (hcf : isCodeF (T.fn cf) = true)
    (h : Ok (gval T [.code c.rest] fr2 S2) (fun fr3 S3 => ∃ r4 S4, cval T cf caps S3 = some (r4, S4) ∧ Ends c.results c.raw S r SF fr3 S4)) : cval T f args S = some (r, SF) := by
  obtain ⟨⟨fr3, S3⟩, hg, r4, S4, hc, vs, hv, hfin⟩ := h
  obtain ⟨j1, h1⟩ := pseq_of hpre
  obtain ⟨j, hj⟩ := gval_some.1 hclo
  obtain ⟨fr5, S5, i, q1, q2, q3⟩ := kmach_ops T [c.clo] j [] fr1 S1 _ hj
  have e5 : (fr5, S5) = (fr2, S2) := by
    cases i with
    | zero => simp [kmach] at q3
    | succ i => simpa [kmach] using q3
  cases e5
  obtain ⟨j3, h3⟩ := gval_some.1 hg
  obtain ⟨e, fr6, S6, h4, h5⟩ := kmach_code T j3 c.rest [] fr2 S2 _ h3
  obtain ⟨j4, h6⟩ := cval_some.1 hc
  have hnr : (e = .norm ∨ e = .ret) ∧ fr6 = fr3 ∧ S6 = S3 := by
    cases e with
    | norm =>
      obtain ⟨i, hi, h7⟩ := h5
      cases i with
      | zero => simp [kmach] at h7
      | succ i =>
        simp only [kmach, Option.some.injEq, Prod.mk.injEq] at h7
        exact ⟨.inl rfl, h7.1, h7.2⟩
    | exit m => obtain ⟨K', i, q1, _⟩ := h5; simp [exitKt] at q1
    | ret =>
      have : (fr3, S3) = (fr6, S6) := h5
      cases this
      exact ⟨.inr rfl, rfl, rfl⟩
  obtain ⟨he, rfl, rfl⟩ := hnr
  obtain ⟨k, k1, k2, k3, k4⟩ : ∃ k, j1 ≤ k ∧ j ≤ k ∧ j3 ≤ k ∧ j4 ≤ k := ⟨max (max j1 j) (max j3 j4), by omega, by omega, by omega, by omega⟩
  refine cval_of (k + 1) ?_
  have a1 := pseq_le (pcall_le T k1) k1 h1
  have a2 := pops_le (pcall_le T k2) q1
  have a3 := pcode_le (pcall_le T k3) k3 h4
  have a4 := pcall_le T k4 _ _ _ _ h6
  have hd : pdef T (pcall T k) k c (argsFr args) S = some (fr6, S4) := by
    unfold pdef
    rw [a1]
    simp only
    rw [a2]
    simp only [ht, hcf, if_true]
    rw [a3]
    rcases he with rfl | rfl <;> simp only [plast, a4]
  simp only [pcall, hf, ha, if_true, hd, hv, hfin]

end Ps
