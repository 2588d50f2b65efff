/- The reader's small functions, walked. -/
import Derived.Test.YtmhigcjhjmcpcaaTie
import Derived.Test.YtmhigcjhjmcpcaaOk
import Derived.Test.YtmhigcjhjmcpcaaRxD
namespace Ps
set_option linter.unusedSimpArgs false
set_option linter.unusedVariables false
open Go

theorem fn_351 : T.fn 351 = some .indexByte := rfl
theorem fn_299 : T.fn 299 = some (.code stringslite_IndexByte) := rfl
theorem fn_211 : T.fn 211 = some (.code strings_IndexByte) := rfl
theorem fn_390 : T.fn 390 = some (.code regex_plain) := rfl
theorem fn_303 : T.fn 303 = some (.code regex_reader_next) := rfl
theorem fn_304 : T.fn 304 = some (.code regex_reader_take) := rfl
theorem fn_410 : T.fn 410 = some (.code regex_reader_item) := rfl
theorem fn_391 : T.fn 391 = some (.code regex_just) := rfl

/-- Where a byte stands first; -1: nowhere. -/
def ixB (s : List UInt8) (c : UInt8) : Int := match (List.range s.length).find? (fun i => s.getD i 0 == c) with | some i => (i : Int) | none => -1
theorem ixB_nonneg (s : List UInt8) (c : UInt8) : decide (0 ≤ ixB s c) = s.contains c := by
  unfold ixB
  cases h : (List.range s.length).find? (fun i => s.getD i 0 == c) with
  | none =>
    rw [List.find?_eq_none] at h
    have : s.contains c = false := by
      rw [Bool.eq_false_iff]
      intro hc
      have hc := List.contains_iff_mem.1 hc
      obtain ⟨i, hi⟩ := List.getElem?_of_mem hc
      have hlt := (List.getElem?_eq_some_iff.1 hi).1
      exact h i (List.mem_range.2 hlt) (by simp [List.getD_eq_getElem?_getD, hi])
    rw [this]; rfl
  | some i =>
    have h1 := List.find?_some h
    have hm := List.mem_of_find?_eq_some h
    have hlt := List.mem_range.1 hm
    have : s.contains c = true := by
      rw [List.contains_iff_mem]
      simp [List.getD_eq_getElem?_getD, List.getElem?_eq_getElem hlt] at h1
      rw [← h1]; simp
    rw [this]
    simp
theorem ib_351 (s : List UInt8) (c : UInt8) (S : St) : cval T 351 [.str s, .int .u8 c.toNat] S = some (.int .i64 (ixB s c), S) := by
  refine cval_of 1 ?_
  simp only [pcall, fn_351, indexByteP]
  simp [ixB]
  rfl
theorem ib_pval (s : List UInt8) (c : UInt8) : pval T 351 [.str s, .int .u8 c.toNat] = some (.int .i64 (ixB s c)) := pval_st (ib_351 s c St0) rfl rfl
theorem ib_299 (s : List UInt8) (c : UInt8) (S : St) : cval T 299 [.str s, .int .u8 c.toNat] S = some (.int .i64 (ixB s c), S) := by
  refine cval_ok' fn_299 rfl ?_
  simp -implicitDefEqProofs [stringslite_IndexByte, ib_pval]
theorem ib299_pval (s : List UInt8) (c : UInt8) : pval T 299 [.str s, .int .u8 c.toNat] = some (.int .i64 (ixB s c)) := pval_st (ib_299 s c St0) rfl rfl
theorem ib_211 (s : List UInt8) (c : UInt8) (S : St) : cval T 211 [.str s, .int .u8 c.toNat] S = some (.int .i64 (ixB s c), S) := by
  refine cval_ok' fn_211 rfl ?_
  simp -implicitDefEqProofs [strings_IndexByte, ib299_pval]
theorem ib211_pval (s : List UInt8) (c : UInt8) : pval T 211 [.str s, .int .u8 c.toNat] = some (.int .i64 (ixB s c)) := pval_st (ib_211 s c St0) rfl rfl
theorem ixB_neg (s : List UInt8) (c : UInt8) : decide (ixB s c < 0) = !s.contains c := by
  rw [← ixB_nonneg, ← decide_not]; simp
theorem plain_val (c : UInt8) (S : St) : cval T 390 [.int .u8 c.toNat] S = some (.bool (plainB c), S) := by
  have h := ixB_neg [92, 40, 41, 91, 93, 124, 42, 43, 63, 46] c
  have h2 : plainB c = decide (ixB [92, 40, 41, 91, 93, 124, 42, 43, 63, 46] c < 0) := h.symm
  refine cval_ok' fn_390 rfl ?_
  simp -implicitDefEqProofs [regex_plain, ib211_pval, h2]
theorem plain_pval (c : UInt8) : pval T 390 [.int .u8 c.toNat] = some (.bool (plainB c)) := pval_st (plain_val c St0) rfl rfl

/-- The reader. -/
structure Rd where
  p : List UInt8
  deep : Int
  most : Int
  bad : Bool
def rc (r : Rd) : List PV := [.str r.p, .int .i64 r.deep, .int .i64 r.most, .bool r.bad]

/-- Does the pattern go on with one of some bytes? -/
def nextB (p : List UInt8) (of : List UInt8) : Bool := match p with | [] => false | c :: _ => of.contains c

theorem next_val (r : Rd) (of : List UInt8) (os : List (List PV)) (tips : List (Nat × Nat)) : cval T 303 [.ptr 0 0, .str of] ⟨rc r :: os, tips⟩ = some (.bool (nextB r.p of), ⟨rc r :: os, tips⟩) := by
  refine cval_ok' fn_303 rfl ?_
  obtain ⟨p, deep, most, bad⟩ := r
  cases p with
  | nil =>
    simp -implicitDefEqProofs [regex_reader_next, peval, loadP, rc, partOf, nextB]
  | cons c p =>
    have h := ixB_nonneg of c
    simp -implicitDefEqProofs [regex_reader_next, peval, loadP, rc, partOf, nextB, purV, ib211_pval, h]

/-- It takes a byte. -/
def takeR (r : Rd) : UInt8 × Rd := match r.p with | [] => (0, { r with bad := true }) | c :: p => (c, { r with p := p })

theorem fin_same {S S1 : St} {r : PV} {b : Bool} (h1 : S1.objs.length = S.objs.length) (h2 : S1.tips = S.tips) (hf : r.free = true) (hz : r.frz = r) : finish b S S1 r = (r, S1) := finish_noalloc h1 h2 hf hz (fun _ _ h => beqLL_eq h)

theorem take_val (r : Rd) (os : List (List PV)) (tips : List (Nat × Nat)) : cval T 304 [.ptr 0 0] ⟨rc r :: os, tips⟩ = some (.int .u8 (takeR r).1.toNat, ⟨rc (takeR r).2 :: os, tips⟩) := by
  refine cval_ok' fn_304 rfl ?_
  obtain ⟨p, deep, most, bad⟩ := r
  cases p with
  | nil =>
    simp -implicitDefEqProofs [regex_reader_take, peval, loadP, rc, partOf, takeR, pstep, putCells]
    exact fin_same (by simp) rfl rfl rfl
  | cons c p =>
    have h1 : bounds (p.length + 1) (p.length + 1) (some (.int .i64 1)) none = some (1, p.length + 1) := bounds_lo (lo := 1) (by omega)
    simp -implicitDefEqProofs [regex_reader_take, peval, loadP, rc, partOf, takeR, pstep, putCells, h1]
    exact fin_same (by simp) rfl rfl rfl

def itemR (r : Rd) : UInt8 × Rd := if nextB r.p [92, 91, 93, 94, 45] then takeR { r with bad := true } else takeR r

theorem item_val (r : Rd) (os : List (List PV)) (tips : List (Nat × Nat)) : cval T 410 [.ptr 0 0] ⟨rc r :: os, tips⟩ = some (.int .u8 (itemR r).1.toNat, ⟨rc (itemR r).2 :: os, tips⟩) := by
  refine cval_ok' fn_410 rfl ?_
  have h1 := next_val r [92, 91, 93, 94, 45] os tips
  have h2 := take_val r os tips
  have h3 := take_val { r with bad := true } os tips
  have h4 : putCells (rc r) 3 [.bool true] = rc { r with bad := true } := rfl
  have h5 : (rc r).length = 4 := rfl
  simp -implicitDefEqProofs [regex_reader_item, h1]
  refine ok_br (fun h => ?_) (fun h => ?_)
  · simp -implicitDefEqProofs [peval, pstep, h4, h5, h3, itemR, h]
    exact fin_same (by simp) rfl rfl rfl
  · simp -implicitDefEqProofs [h2, itemR, h]
    exact fin_same (by simp) rfl rfl rfl

/-! Sets of bytes. -/
def bc (f : Nat → Bool) : List PV := (List.range 256).map fun i => .bool (f i)
theorem bc_len (f : Nat → Bool) : (bc f).length = 256 := by simp [bc]
theorem bc_get (f : Nat → Bool) {i : Nat} (h : i < 256) : (bc f)[i]? = some (.bool (f i)) := by simp [bc, h]
theorem frzL_bc (f : Nat → Bool) : PV.frzL (bc f) = bc f := frzL_map' (fun i => .bool (f i)) (fun _ => rfl) _
theorem freeL_bc (f : Nat → Bool) : PV.freeL (bc f) = true := freeL_map (fun i => .bool (f i)) (fun _ => rfl) _
theorem bc_put (f : Nat → Bool) (b : Bool) {i : Nat} (h : i < 256) : putCells (bc f) i [.bool b] = bc (fun j => if j = i then b else f j) := by
  apply List.ext_getElem?
  intro j
  simp only [putCells]
  rcases Nat.lt_trichotomy j i with hj | hj | hj
  · rw [List.append_assoc, List.getElem?_append_left (by simp [bc_len]; omega), List.getElem?_take_of_lt hj, bc_get _ (by omega), bc_get _ (by omega)]
    simp [Nat.ne_of_lt hj]
  · subst hj
    rw [List.append_assoc, List.getElem?_append_right (by simp [bc_len]; omega)]
    simp [bc_len, Nat.min_eq_left (Nat.le_of_lt h), bc_get _ h]
  · rw [List.getElem?_append_right (by simp [bc_len]; omega)]
    simp only [List.length_append, List.length_take, bc_len, List.length_singleton, List.getElem?_drop]
    have e : i + 1 + (j - (min i 256 + 1)) = j := by omega
    rw [e]
    by_cases hj2 : j < 256
    · rw [bc_get _ hj2, bc_get _ hj2]; simp [Nat.ne_of_gt hj]
    · rw [List.getElem?_eq_none (by rw [bc_len]; omega), List.getElem?_eq_none (by rw [bc_len]; omega)]
theorem bc_zero : List.replicate 256 (PV.bool false) = bc (fun _ => false) := by
  apply List.ext_getElem?
  intro j
  by_cases hj : j < 256
  · rw [bc_get _ hj, List.getElem?_replicate, if_pos hj]
  · rw [List.getElem?_eq_none (by rw [List.length_replicate]; omega), List.getElem?_eq_none (by rw [bc_len]; omega)]
theorem all_bc (f : Nat → Bool) : (bc f).all PV.one = true := by
  rw [List.all_eq_true]
  intro v hv
  obtain ⟨i, _, rfl⟩ := List.mem_map.1 hv
  rfl
theorem bc_ext {f g : Nat → Bool} (h : ∀ i, i < 256 → f i = g i) : bc f = bc g := by
  unfold bc
  apply List.map_congr_left
  intro i hi
  rw [h i (List.mem_range.1 hi)]

theorem mapO_free_id {objs : List (List PV)} {n0 k : Nat} : ∀ {l : List PV}, PV.freeL l = true → mapO (sol objs n0 (k + 1)) l = some l
  | [], _ => rfl
  | a :: l, h => by
    simp only [PV.freeL, Bool.and_eq_true] at h
    simp only [mapO, sol_id h.1, mapO_free_id h.2]
theorem sol_one {objs : List (List PV)} {n0 id : Nat} {f : Nat → Bool} (hn : n0 ≤ id) (ho : objs[id]? = some (bc f)) : sol objs n0 solFuel (.iface 12 (.ptr id 0)) = some (.iface 12 (.ref (bc f))) := by
  unfold solFuel
  rw [sol]
  simp only [PV.free, Bool.false_eq_true, if_false]
  rw [sol]
  simp only [PV.free, Bool.false_eq_true, if_false]
  rw [if_pos hn, ho]
  simp only [Nat.zero_le, if_true, List.drop_zero]
  rw [mapO_free_id (freeL_bc f)]
theorem partOf_bc {f : Nat → Bool} {i : Nat} (h : i < 256) : partOf false 1 ((bc f).drop i) = some (.bool (f i)) := by
  have hd : (bc f).drop i = (.bool (f i)) :: (bc f).drop (i + 1) := by
    rw [List.drop_eq_getElem_cons (by rw [bc_len]; exact h)]
    have := bc_get f h
    rw [List.getElem?_eq_getElem (by rw [bc_len]; exact h)] at this
    cases this' : (bc f)[i]'(by rw [bc_len]; exact h) <;> simp_all
  rw [hd]
  simp [partOf]

theorem just_val (c : UInt8) (S : St) : cval T 391 [.int .u8 c.toNat] S = some (.iface 12 (.ref (bc (fun i => i == c.toNat))), S) := by
  refine cval_ok' fn_391 rfl ?_
  have hc : c.toNat < 256 := c.toNat_lt
  have hc1 : (c.toNat : Int) < 256 := by omega
  have hc2 : c.toNat + 1 ≤ 256 := by omega
  have h2 := bc_put (fun _ => false) true hc
  simp -implicitDefEqProofs [-List.all_eq_true, regex_just, peval, fillParts, bc_zero, pstep, all_bc, bc_len, hc, hc1, hc2, h2]
  have e : bc (fun j => if j = c.toNat then true else false) = bc (fun i => i == c.toNat) := bc_ext (fun i _ => by by_cases h : i = c.toNat <;> simp [h])
  have hs : sol (S.objs ++ [bc (fun j => if j = c.toNat then true else false)]) S.objs.length solFuel (.iface 12 (.ptr S.objs.length 0)) = some (.iface 12 (.ref (bc (fun i => i == c.toNat)))) := by
    rw [← e]; exact sol_one (Nat.le_refl _) (by simp)
  have := fin_grows (S := S) (S1 := ⟨S.objs ++ [bc (fun j => if j = c.toNat then true else false)], S.tips⟩) ((Grows.refl S).obj _) hs
  simpa [PV.frz, frzL_bc] using this
theorem just_pval (c : UInt8) : pval T 391 [.int .u8 c.toNat] = some (.iface 12 (.ref (bc (fun i => i == c.toNat)))) := pval_st (just_val c St0) (by simp [PV.free, freeL_bc]) (by simp [PV.frz, frzL_bc])
end Ps
