/- Which set is ahead. -/
import Derived.Test.YtfimbhaiegkkeaaLC
namespace Ps
set_option linter.unusedSimpArgs false
open Go

theorem fn_28 : T.fn 28 = some (.code label_Compare) := rfl
theorem fn_103 : T.fn 103 = some (.code slices_CompareFunc_Label) := rfl
theorem fn_104 : T.fn 104 = some (.code label_Compare_1) := rfl
theorem fn_105 : T.fn 105 = some (.code cmp_Or_int) := rfl
theorem fn_106 : T.fn 106 = some (.code cmp_Compare_string) := rfl
theorem fn_217 : T.fn 217 = some (.code cmp_isNaN_string) := rfl
theorem fn_102 : T.fn 102 = some (.code ref06_Compare) := rfl
theorem fn_216 : T.fn 216 = some (.code ref06_text) := rfl
theorem fn_26 : T.fn 26 = some (.code ref06_Same) := rfl

def cmpT (a b : List UInt8) : Int := if Op.bytesLess a b then -1 else if (Op.bytesLess a b || a == b) then 0 else 1
def cmpLab (x y : Lab) : Int := if cmpT x.1 y.1 = 0 then cmpT x.2.1 y.2.1 else cmpT x.1 y.1
def loopR : List Lab → List Lab → Option Int
  | [], _ => none
  | _ :: _, [] => some 1
  | x :: a, y :: b => if cmpLab x y = 0 then loopR a b else some (cmpLab x y)
def cmpL (a b : List Lab) : Int := match loopR a b with | some c => c | none => if a.length < b.length then -1 else 0

theorem nan_pval (s : List UInt8) : pval T 217 [.str s] = some (.bool false) := by
  refine pval_st ?_ rfl rfl
  refine cval_ok' fn_217 rfl ?_
  simp -implicitDefEqProofs [cmp_isNaN_string]

theorem cmps_pval (a b : List UInt8) : pval T 106 [.str a, .str b] = some (.int .i64 (cmpT a b)) := by
  refine pval_st ?_ rfl rfl
  refine cval_ok' fn_106 rfl ?_
  simp -implicitDefEqProofs [cmp_Compare_string, nan_pval]
  refine ok_br (fun h => ?_) (fun h => ok_br (fun h2 => ?_) (fun h2 => ?_))
  · simp [cmpT, h]
  · simp [cmpT, h] at h2 ⊢; simp [h2]
  · simp [cmpT, h] at h2 ⊢; simp [h2]

theorem text_pval (a b : List UInt8) : pval T 216 [.str a, .str b] = some (.int .i64 (cmpT a b)) := by
  refine pval_st ?_ rfl rfl
  refine cval_ok' fn_216 rfl ?_
  simp -implicitDefEqProofs [ref06_text]
  refine ok_br (fun h => ?_) (fun h => ok_br (fun h2 => ?_) (fun h2 => ?_))
  · simp [cmpT, h]
  · simp [cmpT, h] at h2 ⊢; simp [h2]
  · simp [cmpT, h] at h2 ⊢; simp [h2]

theorem or_val (a b : Int) (tip : Option (Nat × Nat)) (S : St) : cval T 105 [.sl tip [.int .i64 a, .int .i64 b] []] S = some (.int .i64 (if a = 0 then b else a), S) := by
  refine cval_ok' fn_105 rfl ?_
  have w1 : IntKind.i64.wrap 1 = 1 := by decide
  have w2 : IntKind.i64.wrap 2 = 2 := by decide
  have hp1 : ∀ {a : PV} {m : List PV}, partOf false 1 (a :: m) = some a := fun {a m} => by simp [partOf]
  simp -implicitDefEqProofs [cmp_Or_int]
  rw [gval_lp]
  simp -implicitDefEqProofs [hp1, w1]
  refine ok_br (fun h => ?_) (fun h => ?_)
  · simp at h; simp [h]
  · simp at h
    rw [gval_lp]
    simp -implicitDefEqProofs [hp1, w1, w2]
    refine ok_br (fun h2 => ?_) (fun h2 => ?_)
    · simp at h2; simp [h]
    · simp at h2
      rw [gval_lp]
      simp -implicitDefEqProofs [h, h2]

theorem cmp1_val (x y : Lab) (S : St) : cval T 104 [labV x, labV y] S = some (.int .i64 (cmpLab x y), S) := by
  refine cval_ok' fn_104 rfl ?_
  have hp1 : ∀ {a : PV} {m : List PV}, partOf false 1 (a :: m) = some a := fun {a m} => by simp [partOf]
  simp -implicitDefEqProofs [label_Compare_1, pstep, labV, hp1, cmps_pval, elems, setParts, or_val]
  rw [fin_gi ((Grows.refl S).arr _)]
  simp [cmpLab]

theorem sl_get {l p r : List Lab} {x : Lab} {v : PV} (hv : Reads1 2 v (l.map labV)) (hl : l = p ++ x :: r) : iaddrP 2 v (.int .i64 (p.length : Int)) = some (.ref [.str x.1, .str x.2.1]) := by
  have h : p.length < (l.map labV).length := by rw [hl]; simp
  have := hv.get p.length h .i64
  have e : (l.map labV)[p.length] = labV x := by simp [hl]
  rw [e, labV_cells] at this
  exact this

theorem cmpf_loop {l1 l2 : List Lab} {v1 v2 : PV} (hv1 : Reads1 2 v1 (l1.map labV)) (hv2 : Reads1 2 v2 (l2.map labV)) (hl1 : l1.length ≤ maxLen) {K : List Kt} {Q : Fr → St → Prop} {S0 : St} : ∀ (r1 p1 r2 p2 : List Lab), l1 = p1 ++ r1 → l2 = p2 ++ r2 → p2.length = p1.length → ∀ (fr : Fr) (S : St),
    fr 0 = v1 → fr 1 = v2 → fr 2 = .fn 104 [] → fr 11 = v1 → fr 12 = .int .i64 l1.length → fr 13 = .int .i64 p1.length → Grows S0 S →
    (loopR r1 r2 = none → ∀ fr' S', fr' 0 = v1 → fr' 1 = v2 → Grows S0 S' → Ok (gval T K fr' S') Q) → (∀ c, loopR r1 r2 = some c → ∀ fr' S', fr' 6 = .int .i64 c → Grows S0 S' → Q fr' S') →
    Ok (gval T (.lp slices_CompareFunc_Label_l0 :: .blk 0 :: K) fr S) Q := by
  intro r1
  induction r1 with
  | nil =>
    intro p1 r2 p2 e1 e2 ep fr S h0 h1 h2 h11 h12 h13 hg k1 k2
    rw [List.append_nil] at e1; subst e1
    rw [gval_lp]
    simp -implicitDefEqProofs [h0, h1, h11, h12, h13]
    exact k1 rfl _ _ (by simp [h0]) (by simp [h1]) hg
  | cons x r1 ih =>
    intro p1 r2 p2 e1 e2 ep fr S h0 h1 h2 h11 h12 h13 hg k1 k2
    have hlt : p1.length < l1.length := by rw [e1]; simp
    have g1 := sl_get hv1 e1
    unfold maxLen at hl1
    have hw := wrap_len (a := p1.length) (by omega)
    have hpo : ∀ {a b : PV}, partOf true 2 [a, b] = some (.agg [a, b]) := fun {a b} => rfl
    have hl2 := hv2.len
    rw [List.length_map] at hl2
    cases r2 with
    | nil =>
      have e2' : l2.length = p1.length := by rw [e2]; simp [ep]
      rw [gval_lp]
      simp -implicitDefEqProofs [h0, h1, h11, h12, h13, hlt, g1, hpo, pstep, putCells, hl2, e2']
      exact k2 1 rfl _ _ (by simp) (hg.obj _)
    | cons y r2 =>
      have hlt2 : p1.length < l2.length := by rw [e2]; simp [ep]
      have g2 := sl_get hv2 e2
      rw [ep] at g2
      have hc := fun S => cmp1_val x y S
      simp only [labV] at hc
      rw [gval_lp]
      simp -implicitDefEqProofs [h0, h1, h2, h11, h12, h13, hlt, g1, hpo, pstep, putCells, hl2, hlt2, g2, hc]
      refine ok_br (fun a => absurd a (by simp; omega)) (fun _ => ok_br (fun a => ?_) (fun a => ?_))
      · have a' : cmpLab x y ≠ 0 := by simpa using a
        exact ok_ret (k2 (cmpLab x y) (by simp [loopR, a']) _ _ (by simp) (hg.objs _))
      · have a' : cmpLab x y = 0 := by simpa using a
        refine ih (p1 ++ [x]) r2 (p2 ++ [y]) (by simp [e1]) (by simp [e2]) (by simp [ep]) _ _ (by simp [h0]) (by simp [h1]) (by simp [h2]) (by simp [h11]) (by simp [h12]) (by simp [hw]) (hg.objs _) (fun hz => k1 ?_) (fun c hz => k2 c ?_)
        · simpa [loopR, a'] using hz
        · simpa [loopR, a'] using hz

theorem cmpf_val {l1 l2 : List Lab} {v1 v2 : PV} (hv1 : Reads1 2 v1 (l1.map labV)) (hv2 : Reads1 2 v2 (l2.map labV)) (hl1 : l1.length ≤ maxLen) (S : St) : cval T 103 [v1, v2, .fn 104 []] S = some (.int .i64 (cmpL l1 l2), S) := by
  refine cval_ok' fn_103 rfl ?_
  simp -implicitDefEqProofs [slices_CompareFunc_Label, hv1.len]
  refine cmpf_loop hv1 hv2 hl1 l1 [] l2 [] rfl rfl rfl _ S (by simp) (by simp) (by simp) (by simp) (by simp) (by simp) (Grows.refl S) (fun hz fr' S' g0 g1 gg => ?_) (fun c hz fr' S' g6 gg => ?_)
  · simp -implicitDefEqProofs [g0, g1, hv1.len, hv2.len]
    refine ok_br (fun a => ?_) (fun a => ?_)
    · have : cmpL l1 l2 = -1 := by simp [cmpL, hz]; simp at a; omega
      simp [gg, this]
    · have : cmpL l1 l2 = 0 := by simp [cmpL, hz]; simp at a; omega
      simp [gg, this]
  · simp [g6, gg, cmpL, hz]

theorem cmp_val {l1 l2 : List Lab} {v1 v2 : PV} (hv1 : Reads1 2 v1 (l1.map labV)) (hv2 : Reads1 2 v2 (l2.map labV)) (hl1 : l1.length ≤ maxLen) (S : St) : cval T 28 [v1, v2] S = some (.int .i64 (cmpL l1 l2), S) := by
  refine cval_ok' fn_28 rfl ?_
  simp -implicitDefEqProofs [label_Compare, cmpf_val hv1 hv2 hl1]
end Ps
