/- The document's Of. -/
import Derived.Test.YtooppbhipihjaaaWK
namespace Ps
set_option linter.unusedSimpArgs false
set_option linter.unusedVariables false
open Go

mutual
theorem frz_frz : ∀ v : PV, v.frz.frz = v.frz
  | .und | .int _ _ | .bool _ | .str _ | .nilp | .nils | .nili | .nilf | .ptr _ _ | .osl _ _ _ => rfl
  | .ref cs => by simp only [PV.frz, frzL_frzL cs]
  | .sl _ es sp => by simp only [PV.frz, frzL_frzL es, frzL_frzL sp]
  | .iface _ v => by simp only [PV.frz, frz_frz v]
  | .agg cs => by simp only [PV.frz, frzL_frzL cs]
  | .tup cs => by simp only [PV.frz, frzL_frzL cs]
  | .fn _ cs => by simp only [PV.frz, frzL_frzL cs]
theorem frzL_frzL : ∀ l : List PV, PV.frzL (PV.frzL l) = PV.frzL l
  | [] => rfl
  | v :: l => by simp only [PV.frzL, frz_frz v, frzL_frzL l]
end
mutual
theorem free_frz : ∀ v : PV, v.free = true → v.frz.free = true
  | .und, h | .ptr _ _, h | .osl _ _ _, h => by cases h
  | .int _ _, _ | .bool _, _ | .str _, _ | .nilp, _ | .nils, _ | .nili, _ | .nilf, _ => rfl
  | .ref cs, h => by simp only [PV.frz, PV.free] at h ⊢; exact freeL_frz cs h
  | .sl _ es sp, h => by
    simp only [PV.frz, PV.free, Bool.and_eq_true] at h ⊢
    exact ⟨freeL_frz es h.1, freeL_frz sp h.2⟩
  | .iface _ v, h => by simp only [PV.frz, PV.free] at h ⊢; exact free_frz v h
  | .agg cs, h => by simp only [PV.frz, PV.free] at h ⊢; exact freeL_frz cs h
  | .tup cs, h => by simp only [PV.frz, PV.free] at h ⊢; exact freeL_frz cs h
  | .fn _ cs, h => by simp only [PV.frz, PV.free] at h ⊢; exact freeL_frz cs h
theorem freeL_frz : ∀ l : List PV, PV.freeL l = true → PV.freeL (PV.frzL l) = true
  | [], _ => rfl
  | v :: l, h => by
    simp only [PV.frzL, PV.freeL, Bool.and_eq_true] at h ⊢
    exact ⟨free_frz v h.1, freeL_frz l h.2⟩
end
theorem all_frz : ∀ {l : List PV}, l.all PV.one = true → (PV.frzL l).all PV.one = true
  | [], _ => rfl
  | v :: l, h => by
    simp only [List.all_cons, Bool.and_eq_true] at h
    simp only [PV.frzL, List.all_cons, Bool.and_eq_true]
    exact ⟨by rw [one_frz]; exact h.1, all_frz h.2⟩
theorem len_frz : ∀ (l : List PV), (PV.frzL l).length = l.length
  | [] => rfl
  | v :: l => by simp [PV.frzL, len_frz l]

def rparP (s : List UInt8) : RecM × Bool := if (getU s 0).2.2 ≠ 0 then (rec0, false) else rparK s (getU s 0).1 (getU s 0).2.1
def RdTo (s : List UInt8) (x : PV) : Prop := ∃ cs ok, x = .tup [.agg cs, .bool ok] ∧ ok = (rparP s).2 ∧ cs.length = 6 ∧ cs.all PV.one = true ∧ PV.freeL cs = true ∧ PV.frzL cs = cs ∧ ((rparP s).2 = true → RecC (rparP s).1 cs)

theorem rread_rec {s : List UInt8} {v : PV} (hv : IsSl 1 v (ofBytes s)) (hs : s.length ≤ 67108864) (S : St) : ∃ x, cval T 374 [v] S = some (x, S) ∧ RdTo s x := by
  have key := cval_ex (T := T) (f := 374) (c := ref11_read) fn_374 (args := [v]) (S := S) rfl (R := fun r S2 => S2 = S ∧ RdTo s r) ?_
  · obtain ⟨r, S2, h1, rfl, h2⟩ := key
    exact ⟨r, h1, h2⟩
  rw [ref11_read_eq]
  obtain ⟨S1, hS1⟩ : ∃ S1 : St, S1 = ⟨S.objs ++ [emptyC], S.tips⟩ := ⟨_, rfl⟩
  have hlen1 : S1.objs.length = S.objs.length + 1 := by rw [hS1]; simp
  have oa1 : S1.objs[S.objs.length]? = some [.int .i64 0, .nils, .nils, .nils, .int .i64 0, .int .i64 0] := by rw [hS1]; simp [emptyC]
  have hg1 : Grows S S1 := by rw [hS1]; exact (Grows.refl S).obj _
  have hS1' : St.mk (S.objs ++ [[.int .i64 0, .nils, .nils, .nils, .int .i64 0, .int .i64 0]]) S.tips = S1 := by rw [hS1]; simp [emptyC]
  obtain ⟨y, s1, s2⟩ := num_val hv hs (N := 1) (by omega) 0 S1
  have s1' : cval T 399 [v, .int .i64 0, .int .i64 1] S1 = some (y, S1) := s1
  have hpt : partOf true 6 emptyC = some (.agg emptyC) := rfl
  unfold numR at s2
  have hok := getU_ok (s := s) (i := ((0 : Nat) : Int))
  have hrp : rparP s = if (getU s ((0 : Nat) : Int)).2.2 ≠ 0 then (rec0, false) else rparK s (getU s ((0 : Nat) : Int)).1 (getU s ((0 : Nat) : Int)).2.1 := rfl
  obtain ⟨⟨n, nx, e⟩, hN⟩ : ∃ q, getU s ((0 : Nat) : Int) = q := ⟨_, rfl⟩
  rw [hN] at s2 hok hrp
  simp only at s2 hok hrp
  by_cases he : e = 0
  · subst he
    rw [if_neg (by decide)] at s2 hrp
    simp only [numR, List.nil_append] at s2
    obtain ⟨v', rfl, s3⟩ := s2
    have hg0 := int_get0 s3
    obtain ⟨o1, o2⟩ := hok rfl
    simp -implicitDefEqProofs [hS1', s1', hg0, pt1, pstep, peval, fillParts, putCells]
    refine rkind_ok hv hs (a := S.objs.length) (j := S1.objs.length) (k := n) (p := nx) o2 (by omega) (S0 := S) (by simp) (by simp) (by simp) (by simp) (by simp only; rw [List.getElem?_append_left (by omega)]; exact oa1) (by simp) (hg1.obj _) (Nat.le_refl _) (by omega)
      (fun fr' S' cs ok g2 g3 hok' go gg h6 hal hfl hr => ?_)
    have hp : partOf true 6 cs = some (.agg cs) := pt_all h6
    have hf : finish false S S' (.tup [.agg cs, .bool ok]) = (.tup [.agg (PV.frzL cs), .bool ok], S) := by
      rw [fin_free gg (by simp [PV.free, PV.freeL, hfl])]
      simp [PV.frz, PV.frzL]
    simp [g2, g3, go, hp, hf]
    exact ⟨PV.frzL cs, ok, rfl, by rw [hok', hrp], by rw [len_frz, h6], all_frz hal, freeL_frz _ hfl, frzL_frzL _, fun z => by rw [hrp] at z ⊢; exact hr z⟩
  · rw [if_pos he] at s2 hrp
    simp only [NumTo] at s2
    subst s2
    have hlt : S.objs.length < S1.objs.length := by omega
    simp -implicitDefEqProofs [hS1', s1', pstep, peval, fillParts, putCells, oa1]
    have hp : partOf true 6 [.int .i64 0, .nils, .nils, .nils, .int .i64 0, .int .i64 0] = some (.agg emptyC) := rfl
    have hf : finish false S ⟨S1.objs.set S.objs.length [.int .i64 0, .nils, .nils, .nils, .int .i64 0, .int .i64 0], S1.tips⟩ (.tup [.agg emptyC, .bool false]) = (.tup [.agg emptyC, .bool false], S) := by
      rw [fin_free (hg1.set (Nat.le_refl _)) rfl]; rfl
    simp [hlt, hp, hf]
    exact ⟨emptyC, false, rfl, by rw [hrp], rfl, rfl, rfl, rfl, fun z => by rw [hrp] at z; cases z⟩

/-! Read back. -/
theorem numR_put {w : List UInt8} : ∀ (l : List Nat) (p : List UInt8) (l0 : List Int), (∀ x ∈ l, x < 9223372036854775808) → numR (p ++ (l.flatMap uintB ++ w)) l.length p.length l0 = some (l0 ++ l.map Int.ofNat, (p ++ l.flatMap uintB).length)
  | [], p, l0, _ => by simp [numR]
  | n :: l, p, l0, h => by
    have a := getU_put (p := p) (w := l.flatMap uintB ++ w) (n := n) (h n (by simp))
    have ih := numR_put (w := w) l (p ++ uintB n) (l0 ++ [(n : Int)]) (fun y hy => h y (by simp [hy]))
    have e : p ++ ((n :: l).flatMap uintB ++ w) = p ++ (uintB n ++ (l.flatMap uintB ++ w)) := by simp
    have e2 : p ++ (uintB n ++ (l.flatMap uintB ++ w)) = (p ++ uintB n) ++ (l.flatMap uintB ++ w) := by simp
    rw [← e2] at ih
    rw [e, List.length_cons, numR, a]
    simp only
    rw [if_neg (by decide), show p.length + (uintB n).length = (p ++ uintB n).length by simp, ih]
    simp
def rowL (x : RowM) : List Nat := [x.1.toNat, x.2.1.toNat, zigN x.2.2]
theorem rowL_flat : ∀ l : List RowM, (l.flatMap rowL).flatMap uintB = l.flatMap rowB
  | [] => rfl
  | x :: l => by simp [rowL, rowB, rowL_flat l]
theorem rowL_trip : ∀ l : List RowM, (∀ x ∈ l, rowOk x) → trip ((l.flatMap rowL).map Int.ofNat) = l
  | [], _ => rfl
  | (a, b, c) :: l, h => by
    obtain ⟨x1, x2, x3⟩ := h (a, b, c) (by simp)
    obtain ⟨m1, m2, m3, m4⟩ := may_bounds x3
    have n1 : ((a.toNat : Nat) : Int) = a := by simp only at x1; omega
    have n2 : ((b.toNat : Nat) : Int) = b := by simp only at m1; omega
    have ih := rowL_trip l (fun y hy => h y (by simp [hy]))
    simp [rowL, trip, zag_zig]
    exact ⟨⟨by omega, by omega⟩, by simpa using ih⟩
theorem rowL_len : ∀ l : List RowM, (l.flatMap rowL).length = 3 * l.length
  | [] => rfl
  | x :: l => by
    simp only [List.flatMap_cons, List.length_append, rowL_len l, rowL, List.length_cons, List.length_nil]; omega

theorem rparP_put {r : RecM} (h : recN r = 0) : rparP (recB r) = (r, true) := by
  rcases recN_full h with ⟨l, rfl, z⟩ | ⟨l, rfl, z⟩ | ⟨l, x, y, rfl, z, z1, z2, z3⟩
  · have he : recB ⟨1, l, [], [], 0, 0⟩ = uintB 1 ++ labsB l := by simp [recB]
    have a := getU_put (p := []) (w := labsB l) (n := 1) (by omega)
    have b := readN_put (p := uintB 1) (w := []) z
    simp only [List.append_nil] at b
    have a' : getU (uintB 1 ++ labsB l) 0 = (1, (uintB 1).length, 0) := by simpa using a
    rw [he]
    unfold rparP
    rw [a']
    simp only
    rw [if_neg (by decide)]
    unfold rparK
    rw [if_pos rfl, b]
    simp
  · obtain ⟨y1, y2, y3⟩ := rowsN_ok z
    have he : recB ⟨2, [], l, [], 0, 0⟩ = uintB 2 ++ (uintB l.length ++ ((l.flatMap rowL).flatMap uintB ++ [])) := by simp [recB, rowL_flat]
    have a := getU_put (p := []) (w := uintB l.length ++ ((l.flatMap rowL).flatMap uintB ++ [])) (n := 2) (by omega)
    have b := getU_put (p := uintB 2) (w := (l.flatMap rowL).flatMap uintB ++ []) (n := l.length) (by omega)
    have c := numR_put (w := []) (l.flatMap rowL) (uintB 2 ++ uintB l.length) [] (fun q hq => by
      obtain ⟨x, hx, hqx⟩ := List.mem_flatMap.1 hq
      obtain ⟨x1, x2, x3⟩ := y3 x hx
      obtain ⟨m1, m2, m3, m4⟩ := may_bounds x3
      have := zigN_lt m3 m4
      simp only [rowL, List.mem_cons, List.not_mem_nil, or_false] at hqx
      omega)
    have e2 : uintB 2 ++ (uintB l.length ++ ((l.flatMap rowL).flatMap uintB ++ [])) = (uintB 2 ++ uintB l.length) ++ ((l.flatMap rowL).flatMap uintB ++ []) := by simp
    rw [← e2] at c
    have a' : getU (uintB 2 ++ (uintB l.length ++ ((l.flatMap rowL).flatMap uintB ++ []))) 0 = (2, (uintB 2).length, 0) := by simpa using a
    rw [he]
    unfold rparP
    rw [a']
    simp only
    rw [if_neg (by decide)]
    unfold rparK
    rw [if_neg (by decide), if_pos rfl, b]
    simp only
    rw [if_neg (by omega), ← rowL_len, show (uintB 2).length + (uintB l.length).length = (uintB 2 ++ uintB l.length).length by simp, c]
    simp only [List.nil_append]
    rw [rowL_trip l y3]
  · have n1 : ((x.toNat : Nat) : Int) = x := by omega
    have n2 : ((y.toNat : Nat) : Int) = y := by omega
    have he : recB ⟨3, [], [], l, x, y⟩ = uintB 3 ++ (postB l ++ (uintB x.toNat ++ (uintB y.toNat ++ []))) := by simp [recB]
    have a := getU_put (p := []) (w := postB l ++ (uintB x.toNat ++ (uintB y.toNat ++ []))) (n := 3) (by omega)
    have b := postRd_put (p := uintB 3) (w := uintB x.toNat ++ (uintB y.toNat ++ [])) z
    have c := getU_put (p := uintB 3 ++ postB l) (w := uintB y.toNat ++ []) (n := x.toNat) (by omega)
    have d := getU_put (p := uintB 3 ++ postB l ++ uintB x.toNat) (w := []) (n := y.toNat) (by omega)
    have e2 : uintB 3 ++ (postB l ++ (uintB x.toNat ++ (uintB y.toNat ++ []))) = (uintB 3 ++ postB l) ++ (uintB x.toNat ++ (uintB y.toNat ++ [])) := by simp
    have e3 : uintB 3 ++ (postB l ++ (uintB x.toNat ++ (uintB y.toNat ++ []))) = (uintB 3 ++ postB l ++ uintB x.toNat) ++ (uintB y.toNat ++ []) := by simp
    rw [← e2] at c
    rw [← e3] at d
    have a' : getU (uintB 3 ++ (postB l ++ (uintB x.toNat ++ (uintB y.toNat ++ [])))) 0 = (3, (uintB 3).length, 0) := by simpa using a
    rw [he]
    unfold rparP
    rw [a']
    simp only
    rw [if_neg (by decide)]
    unfold rparK
    rw [if_neg (by decide), if_neg (by decide), if_pos rfl, b]
    simp only
    rw [c]
    simp only
    rw [show (uintB 3 ++ postB l).length + (uintB x.toNat).length = (uintB 3 ++ postB l ++ uintB x.toNat).length by simp; omega, d]
    simp [n1, n2]

theorem rof_val {s : List UInt8} {v : PV} (hv : IsSl 1 v (ofBytes s)) (hs : s.length ≤ 67108864) (S : St) : ∃ x, cval T 325 [v] S = some (x, S) ∧ OfIs s x := by
  have key := cval_ex (T := T) (f := 325) (c := ref11_Of) fn_325 (args := [v]) (S := S) rfl (R := fun r S2 => S2 = S ∧ OfIs s r) ?_
  · obtain ⟨r, S2, h1, rfl, h2⟩ := key
    exact ⟨r, h1, h2⟩
  obtain ⟨S1, hS1⟩ : ∃ S1 : St, S1 = ⟨S.objs ++ [emptyC], S.tips⟩ := ⟨_, rfl⟩
  have hlen1 : S1.objs.length = S.objs.length + 1 := by rw [hS1]; simp
  have oa1 : S1.objs[S.objs.length]? = some [.int .i64 0, .nils, .nils, .nils, .int .i64 0, .int .i64 0] := by rw [hS1]; simp [emptyC]
  have hg1 : Grows S S1 := by rw [hS1]; exact (Grows.refl S).obj _
  have hS1' : St.mk (S.objs ++ [[.int .i64 0, .nils, .nils, .nils, .int .i64 0, .int .i64 0]]) S.tips = S1 := by rw [hS1]; simp [emptyC]
  obtain ⟨y, s1, cs, ok, rfl, hok, h6, hal, hfl, hfz, hr⟩ := rread_rec hv hs S1
  have hp6 : partOf true 6 cs = some (.agg cs) := pt_all h6
  have hpe : partOf true 6 [.int .i64 0, .nils, .nils, .nils, .int .i64 0, .int .i64 0] = some (.agg emptyC) := rfl
  have hput : putCells [.int .i64 0, .nils, .nils, .nils, .int .i64 0, .int .i64 0] 0 cs = cs := put_all (by rw [h6]; rfl)
  have hlt : S.objs.length < (S1.objs ++ [cs]).length := by simp; omega
  have oa2 : (S1.objs ++ [cs])[S.objs.length]? = some [.int .i64 0, .nils, .nils, .nils, .int .i64 0, .int .i64 0] := by rw [List.getElem?_append_left (by omega)]; exact oa1
  have hg2 : Grows S ⟨S1.objs ++ [cs], S1.tips⟩ := hg1.obj _
  have hputE : putCells [.int .i64 0, .nils, .nils, .nils, .int .i64 0, .int .i64 0] 0 [.int .i64 0, .nils, .nils, .nils, .int .i64 0, .int .i64 0] = [.int .i64 0, .nils, .nils, .nils, .int .i64 0, .int .i64 0] := rfl
  have hfE : finish false S ⟨(S1.objs ++ [cs]).set S.objs.length [.int .i64 0, .nils, .nils, .nils, .int .i64 0, .int .i64 0], S1.tips⟩ (.tup [.agg emptyC, .int .i64 5]) = (.tup [.agg emptyC, .int .i64 5], S) := by
    rw [fin_free (hg2.set (Nat.le_refl _)) rfl]; rfl
  have og : ∀ X : List PV, ((S1.objs ++ [cs]).set S.objs.length X)[S.objs.length]? = some X := fun X => List.getElem?_set_self hlt
  have hno : (∀ r, recN r = 0 → recB r ≠ s) → S = S ∧ OfIs s (.tup [.agg emptyC, .int .i64 5]) := fun h => ⟨rfl, .inr ⟨h, rfl⟩⟩
  cases hokb : ok with
  | false =>
    rw [hokb] at s1
    have hnr : ∀ r, recN r = 0 → recB r ≠ s := fun r hr e => by
      have := rparP_put hr
      rw [e] at this
      rw [this, hokb] at hok; cases hok
    simp -implicitDefEqProofs [-List.all_eq_true, ref11_Of, hS1', s1, pstep, peval, fillParts, hal, h6, hput, oa2, hputE]
    simp -implicitDefEqProofs [og, hpe, hfE]
    exact .inr ⟨hnr, rfl⟩
  | true =>
    rw [hokb] at s1 hok
    have hR := hr hok.symm
    by_cases hN : recN (rparP s).1 = 0
    · obtain ⟨w, b1, b2⟩ := rrecB_ok hR hN ⟨S1.objs ++ [cs], S1.tips⟩
      have t1 := toStr_of b2.isl
      have t2 := toStr_of hv
      by_cases hB : recB (rparP s).1 = s
      · have hbb : (recB (rparP s).1 == s) = true := by simpa using hB
        have hf : finish false S ⟨(S1.objs ++ [cs]).set S.objs.length cs, S1.tips⟩ (.tup [.agg cs, .int .i64 0]) = (.tup [.agg cs, .int .i64 0], S) := by
          rw [fin_free (hg2.set (Nat.le_refl _)) (by simp [PV.free, PV.freeL, hfl])]
          simp [PV.frz, PV.frzL, hfz]
        simp -implicitDefEqProofs [-List.all_eq_true, ref11_Of, hS1', s1, pstep, peval, fillParts, hal, h6, hput, oa2, hp6, b1, t1, t2, hbb]
        simp -implicitDefEqProofs [og, hp6, hf]
        exact .inl ⟨_, cs, hN, hB, hR, rfl⟩
      · have hbb : (recB (rparP s).1 == s) = false := by simpa using hB
        have hnr : ∀ r, recN r = 0 → recB r ≠ s := fun r hr e => by
          have := rparP_put hr
          rw [e] at this
          rw [this] at hB; exact hB e
        simp -implicitDefEqProofs [-List.all_eq_true, ref11_Of, hS1', s1, pstep, peval, fillParts, hal, h6, hput, oa2, hp6, b1, t1, t2, hbb, hputE]
        simp -implicitDefEqProofs [og, hpe, hfE]
        exact .inr ⟨hnr, rfl⟩
    · have b1 := rrecB_no hR hN ⟨S1.objs ++ [cs], S1.tips⟩
      have hn1 : ((recN (rparP s).1 : Int) != 0) = true := by simpa using hN
      have hnr : ∀ r, recN r = 0 → recB r ≠ s := fun r hr e => by
        have := rparP_put hr
        rw [e] at this
        rw [this] at hN; exact hN hr
      simp -implicitDefEqProofs [-List.all_eq_true, ref11_Of, hS1', s1, pstep, peval, fillParts, hal, h6, hput, oa2, hp6, b1, hn1, hputE]
      simp -implicitDefEqProofs [og, hpe, hfE]
      exact .inr ⟨hnr, rfl⟩
end Ps
