/- Posting lists, samples, rows: whether they may be, both. -/
import Derived.Test.YtndfknoclbkkhaaLB
namespace Ps
set_option linter.unusedSimpArgs false
set_option linter.unusedVariables false
open Go

theorem fn_318 : T.fn 318 = some (.code posting_Check) := rfl
theorem fn_282 : T.fn 282 = some (.code ref09_Check) := rfl
theorem fn_260 : T.fn 260 = some (.code chunk_may) := rfl
theorem fn_329 : T.fn 329 = some (.code ref05_May) := rfl
theorem fn_154 : T.fn 154 = some (.code chunk_Check) := rfl
theorem fn_275 : T.fn 275 = some (.code wal_checkRows) := rfl
theorem fn_281 : T.fn 281 = some (.code ref11_rows) := rfl

def nV (l : List Int) : List PV := l.map fun (n : Int) => PV.int .i64 n
theorem nV_len (l : List Int) : (nV l).length = l.length := by simp [nV]
theorem nV_free (l : List Int) : PV.freeL (nV l) = true := freeL_map _ (fun _ => rfl) l
theorem nV_frz (l : List Int) : PV.frzL (nV l) = nV l := frzL_map' _ (fun _ => rfl) l
theorem nV_cells (l : List Int) : ∀ e ∈ nV l, e.cells.length = 1 := by
  intro e he
  obtain ⟨x, _, rfl⟩ := List.mem_map.1 he
  rfl
theorem nV_app (a b : List Int) : nV (a ++ b) = nV a ++ nV b := by simp [nV]
theorem nV_get {l p r : List Int} {n : Int} {v : PV} (hv : Reads1 1 v (nV l)) (hl : l = p ++ n :: r) {k : IntKind} : iaddrP 1 v (.int k (p.length : Int)) = some (.ref [.int .i64 n]) := by
  have hlt : p.length < (nV l).length := by rw [nV_len, hl]; simp
  have := hv.get p.length hlt k
  have e : (nV l)[p.length] = .int .i64 n := by simp [nV, hl]
  rw [e] at this
  exact this

def postR (prev : Option Int) : List Int → Nat
  | [] => 0
  | n :: l => if n < 0 ∨ 1099511627776 < n then 2 else if (match prev with | some q => decide (n ≤ q) | none => false) then 13 else postR (some n) l
theorem postR_cons (prev : Option Int) (n : Int) (l : List Int) : postR prev (n :: l) = if n < 0 ∨ 1099511627776 < n then 2 else if (match prev with | some q => decide (n ≤ q) | none => false) then 13 else postR (some n) l := rfl
def postN (l : List Int) : Nat := if 1024 < l.length then 3 else postR none l

theorem pchk_loop {l : List Int} (hl : l.length ≤ 1024) {v : PV} (hv : Reads1 1 v (nV l)) {K : List Kt} {Q : Fr → St → Prop} {S : St} : ∀ (r p : List Int) (fr : Fr), l = p ++ r →
    fr 0 = v → fr 8 = v → fr 9 = .int .i64 l.length → fr 10 = .int .i64 p.length →
    (∀ fr', fr' 2 = .int .i64 (postR p.getLast? r) → Q fr' S) → (postR p.getLast? r = 0 → ∀ fr', Ok (gval T K fr' S) Q) →
    Ok (gval T (.lp posting_Check_l0 :: .blk 0 :: K) fr S) Q := by
  intro r
  induction r with
  | nil =>
    intro p fr hp h0 h8 h9 h10 k1 k2
    rw [List.append_nil] at hp
    subst hp
    rw [gval_lp]
    simp -implicitDefEqProofs [h9, h10]
    exact k2 rfl _
  | cons n r ih =>
    intro p fr hp h0 h8 h9 h10 k1 k2
    have hplt : p.length < l.length := by rw [hp]; simp
    have hlt : (p.length : Int) < (l.length : Int) := by omega
    have hg := nV_get hv hp (k := .i64)
    have hp1 : partOf false 1 [PV.int .i64 n] = some (.int .i64 n) := rfl
    have hw := wrap_len (a := p.length) (by omega)
    have hlast : (p ++ [n]).getLast? = some n := by simp
    have hnext : postR p.getLast? (n :: r) = postR (some n) r → ∀ fr' : Fr, fr' 0 = v → fr' 8 = v → fr' 9 = .int .i64 l.length → fr' 10 = .int .i64 ((p ++ [n]).length : Nat) → Ok (gval T (.lp posting_Check_l0 :: .blk 0 :: K) fr' S) Q := by
      intro e fr' c0 c8 c9 c10
      refine ih (p ++ [n]) fr' (by simp [hp]) c0 c8 c9 c10 (fun fr2 h2 => k1 fr2 (by rw [e]; rw [hlast] at h2; exact h2)) (fun h2 fr2 => k2 (by rw [e]; rw [hlast] at h2; exact h2) fr2)
    rw [gval_lp]
    by_cases hb : n < 0 ∨ 1099511627776 < n
    · have hr : postR p.getLast? (n :: r) = 2 := by rw [postR_cons, if_pos hb]
      have hb' : (decide (n < 0) || decide (1099511627776 < n)) = true := by simpa using hb
      simp -implicitDefEqProofs [h0, h8, h9, h10, hlt, hg, hp1]
      refine ok_br (fun _ => ok_ret (k1 _ (by rw [hr]; simp))) (fun q => ?_)
      rw [hb'] at q; cases q
    · have hb' : (decide (n < 0) || decide (1099511627776 < n)) = false := by
        rw [Bool.or_eq_false_iff]; simp only [decide_eq_false_iff_not]; omega
      rcases List.eq_nil_or_concat p with hnil | ⟨p0, z, hz⟩
      · have hr : postR p.getLast? (n :: r) = postR (some n) r := by rw [postR_cons, if_neg hb, hnil]; rfl
        have hd0 : ¬ 0 < p.length := by rw [hnil]; simp
        simp -implicitDefEqProofs [h0, h8, h9, h10, hlt, hg, hp1]
        refine ok_br (fun q => ?_) (fun _ => ?_)
        · rw [hb'] at q; cases q
        · simp -implicitDefEqProofs [h0, h8, h9, h10, hd0, hw]
          exact hnext hr _ (by simp [h0]) (by simp [h8]) (by simp [h9]) (by simp [hw])
      · have hz' : p = p0 ++ [z] := by simpa using hz
        have hlz : p.getLast? = some z := by rw [hz']; simp
        have hd0 : 0 < p.length := by rw [hz']; simp
        have hwp : IntKind.i64.wrap ((p.length : Int) - 1) = (p0.length : Int) := by
          rw [hz', List.length_append]
          simp only [List.length_cons, List.length_nil]
          rw [hz'] at hplt
          simp only [List.length_append, List.length_cons, List.length_nil] at hplt
          rw [wrap_i64 (by omega) (by omega)]; omega
        have hg0 := nV_get hv (show l = p0 ++ z :: (n :: r) by rw [hp, hz']; simp) (k := .i64)
        have hp2 : partOf false 1 [PV.int .i64 z] = some (.int .i64 z) := rfl
        simp -implicitDefEqProofs [h0, h8, h9, h10, hlt, hg, hp1]
        refine ok_br (fun q => ?_) (fun _ => ?_)
        · rw [hb'] at q; cases q
        · simp -implicitDefEqProofs [h0, h8, h9, h10, hd0, hw, hwp, hg0, hp2]
          refine ok_br (fun q => ok_ret ?_) (fun q => ?_)
          · have hq : n ≤ z := by simpa using q
            have hr : postR p.getLast? (n :: r) = 13 := by rw [postR_cons, if_neg hb, hlz]; simp [hq]
            exact k1 _ (by rw [hr]; simp)
          · have hq : ¬ n ≤ z := by simpa using q
            have hr : postR p.getLast? (n :: r) = postR (some n) r := by rw [postR_cons, if_neg hb, hlz]; simp [hq]
            exact hnext hr _ (by simp [h0]) (by simp [h8]) (by simp [h9]) (by simp [hw])
theorem pcheck_val {l : List Int} {v : PV} (hv : Reads1 1 v (nV l)) (S : St) : cval T 318 [v] S = some (.int .i64 (postN l), S) := by
  have hlen := hv.len
  rw [nV_len] at hlen
  refine cval_ok' fn_318 rfl ?_
  by_cases hl : 1024 < l.length
  · have hl' : (1024 : Int) < (l.length : Int) := by omega
    have hr : postN l = 3 := by unfold postN; rw [if_pos hl]
    rw [hr]
    simp -implicitDefEqProofs [posting_Check, hlen, hl']
  · have hl' : ¬ (1024 : Int) < (l.length : Int) := by omega
    have hr : postN l = postR none l := by unfold postN; rw [if_neg hl]
    rw [hr]
    simp -implicitDefEqProofs [posting_Check, hlen, hl']
    refine pchk_loop (by omega) hv l [] _ rfl (by simp) (by simp) (by simp) (by simp) (fun fr' h2 => ?_) (fun h2 fr' => ?_)
    · rw [ends1, h2]; exact fin_gi (Grows.refl S)
    · have h2' : postR none l = 0 := h2
      rw [h2']
      simp

theorem rpchk_loop {l : List Int} (hl : l.length ≤ 1024) {v : PV} (hv : Reads1 1 v (nV l)) {K : List Kt} {Q : Fr → St → Prop} {S : St} : ∀ (r p : List Int) (fr : Fr), l = p ++ r →
    fr 0 = v → fr 3 = .int .i64 p.length →
    (∀ fr', fr' 2 = .int .i64 (postR p.getLast? r) → Q fr' S) → (postR p.getLast? r = 0 → ∀ fr', Ok (gval T K fr' S) Q) →
    Ok (gval T (.lp ref09_Check_l0 :: .blk 0 :: K) fr S) Q := by
  have hlen := hv.len
  rw [nV_len] at hlen
  intro r
  induction r with
  | nil =>
    intro p fr hp h0 h3 k1 k2
    rw [List.append_nil] at hp
    subst hp
    rw [gval_lp]
    simp -implicitDefEqProofs [h0, h3, hlen]
    exact k2 rfl _
  | cons n r ih =>
    intro p fr hp h0 h3 k1 k2
    have hplt : p.length < l.length := by rw [hp]; simp
    have hlt : (p.length : Int) < (l.length : Int) := by omega
    have hg := nV_get hv hp (k := .i64)
    have hp1 : partOf false 1 [PV.int .i64 n] = some (.int .i64 n) := rfl
    have hw := wrap_len (a := p.length) (by omega)
    have hlast : (p ++ [n]).getLast? = some n := by simp
    have hnext : postR p.getLast? (n :: r) = postR (some n) r → ∀ fr' : Fr, fr' 0 = v → fr' 3 = .int .i64 ((p ++ [n]).length : Nat) → Ok (gval T (.lp ref09_Check_l0 :: .blk 0 :: K) fr' S) Q := by
      intro e fr' c0 c3
      refine ih (p ++ [n]) fr' (by simp [hp]) c0 c3 (fun fr2 h2 => k1 fr2 (by rw [e]; rw [hlast] at h2; exact h2)) (fun h2 fr2 => k2 (by rw [e]; rw [hlast] at h2; exact h2) fr2)
    rw [gval_lp]
    by_cases hb : n < 0 ∨ 1099511627776 < n
    · have hr : postR p.getLast? (n :: r) = 2 := by rw [postR_cons, if_pos hb]
      by_cases hn : n < 0
      · simp -implicitDefEqProofs [h0, h3, hlen, hlt, hg, hp1, hn]
        exact k1 _ (by rw [hr]; simp)
      · have hn2 : 1099511627776 < n := by omega
        simp -implicitDefEqProofs [h0, h3, hlen, hlt, hg, hp1, hn, hn2]
        exact k1 _ (by rw [hr]; simp)
    · have hn : ¬ n < 0 := fun q => hb (.inl q)
      have hn2 : ¬ 1099511627776 < n := fun q => hb (.inr q)
      rcases List.eq_nil_or_concat p with hnil | ⟨p0, z, hz⟩
      · have hr : postR p.getLast? (n :: r) = postR (some n) r := by rw [postR_cons, if_neg hb, hnil]; rfl
        have hd0 : ¬ 0 < p.length := by rw [hnil]; simp
        simp -implicitDefEqProofs [h0, h3, hlen, hlt, hg, hp1, hn, hn2, hd0, hw]
        exact hnext hr _ (by simp [h0]) (by simp [hw])
      · have hz' : p = p0 ++ [z] := by simpa using hz
        have hlz : p.getLast? = some z := by rw [hz']; simp
        have hd0 : 0 < p.length := by rw [hz']; simp
        have hwp : IntKind.i64.wrap ((p.length : Int) - 1) = (p0.length : Int) := by
          rw [hz', List.length_append]
          simp only [List.length_cons, List.length_nil]
          rw [hz'] at hplt
          simp only [List.length_append, List.length_cons, List.length_nil] at hplt
          rw [wrap_i64 (by omega) (by omega)]; omega
        have hg0 := nV_get hv (show l = p0 ++ z :: (n :: r) by rw [hp, hz']; simp) (k := .i64)
        have hp2 : partOf false 1 [PV.int .i64 z] = some (.int .i64 z) := rfl
        by_cases hq : n ≤ z
        · have hr : postR p.getLast? (n :: r) = 13 := by rw [postR_cons, if_neg hb, hlz]; simp [hq]
          simp -implicitDefEqProofs [h0, h3, hlen, hlt, hg, hp1, hn, hn2, hd0, hw, hwp, hg0, hp2, hq]
          exact k1 _ (by rw [hr]; simp)
        · have hr : postR p.getLast? (n :: r) = postR (some n) r := by rw [postR_cons, if_neg hb, hlz]; simp [hq]
          simp -implicitDefEqProofs [h0, h3, hlen, hlt, hg, hp1, hn, hn2, hd0, hw, hwp, hg0, hp2, hq]
          exact hnext hr _ (by simp [h0]) (by simp [hw])
theorem rpcheck_val {l : List Int} {v : PV} (hv : Reads1 1 v (nV l)) (S : St) : cval T 282 [v] S = some (.int .i64 (postN l), S) := by
  have hlen := hv.len
  rw [nV_len] at hlen
  refine cval_ok' fn_282 rfl ?_
  by_cases hl : 1024 < l.length
  · have hl' : (1024 : Int) < (l.length : Int) := by omega
    have hr : postN l = 3 := by unfold postN; rw [if_pos hl]
    rw [hr]
    simp -implicitDefEqProofs [ref09_Check, hlen, hl']
  · have hl' : ¬ (1024 : Int) < (l.length : Int) := by omega
    have hr : postN l = postR none l := by unfold postN; rw [if_neg hl]
    rw [hr]
    simp -implicitDefEqProofs [ref09_Check, hlen, hl']
    refine rpchk_loop (by omega) hv l [] _ rfl (by simp) (by simp) (fun fr' h2 => ?_) (fun h2 fr' => ?_)
    · rw [ends1, h2]; exact fin_gi (Grows.refl S)
    · have h2' : postR none l = 0 := h2
      rw [h2']
      simp

def mayB (t v : Int) : Bool := decide (0 ≤ t) && decide (t ≤ 1099511627776) && decide (-1152921504606846976 ≤ v) && decide (v ≤ 1152921504606846976)
def smpV (t v : Int) : PV := .agg [.int .i64 t, .int .i64 v]
theorem may_val (t v : Int) (S : St) : cval T 260 [smpV t v] S = some (.bool (mayB t v), S) := by
  refine cval_ok' fn_260 rfl ?_
  have hp1 : ∀ (a : PV) (m : List PV), partOf false 1 (a :: m) = some a := fun a m => by simp [partOf]
  simp -implicitDefEqProofs [chunk_may, smpV, pstep, hp1, mayB]
theorem rmay_val (t v : Int) (S : St) : cval T 329 [smpV t v] S = some (.bool (mayB t v), S) := by
  refine cval_ok' fn_329 rfl ?_
  have hp1 : ∀ (a : PV) (m : List PV), partOf false 1 (a :: m) = some a := fun a m => by simp [partOf]
  simp -implicitDefEqProofs [ref05_May, smpV, pstep, hp1, mayB]
end Ps
