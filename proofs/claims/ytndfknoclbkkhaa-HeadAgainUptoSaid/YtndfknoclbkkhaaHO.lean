/- The head: rows that were done are undone. -/
import Derived.Test.YtndfknoclbkkhaaHN
namespace Ps
set_option linter.unusedSimpArgs false
set_option linter.unusedVariables false
open Go
theorem fin_raw {S S1 : St} {r : PV} : finish true S S1 r = (r, S1) := rfl
theorem undo_round {S : St} {o : Nat} {H : Hd} (hH : HOk S o H) {vr : PV} {rows : List RowM} (hv : Reads1 3 vr (rows.map rowV)) (hrl : rows.length ≤ 64) {j : Nat} (hj : j < rows.length)
    (hx0 : 0 ≤ rows[j].1) {B : Ab} (hB : rows[j].1 < (B.length : Int)) {e : Int} (he0 : e ≠ 0) {S1 : St} {H' : Hd} (h1 : RInv S o H vr S1 H' e ((j : Int) + 1)) (habs : abs H'.ser = pushA rows[j] B)
    {K : List Kt} {Q : Fr → St → Prop} {fr : Fr} (f0 : fr 0 = .ptr (S.objs.length + 2) 0) (f1 : fr 1 = .ptr (S.objs.length + 3) 0) (f2 : fr 2 = .ptr S.objs.length 0) (f3 : fr 3 = .ptr (S.objs.length + 1) 0)
    (kN : ∀ fr' S2 H2, RInv S o H vr S2 H2 e (j : Int) → abs H2.ser = B →
      fr' 0 = .ptr (S.objs.length + 2) 0 → fr' 1 = .ptr (S.objs.length + 3) 0 → fr' 2 = .ptr S.objs.length 0 → fr' 3 = .ptr (S.objs.length + 1) 0 →
      Ok (gval T (.lp head_Head_rows_1_l0 :: .blk 0 :: K) fr' S2) Q) :
    Ok (gval T (.lp head_Head_rows_1_l0 :: .blk 0 :: K) fr S1) Q := by
  have hg := rowG hv hj (k := .i64)
  obtain ⟨x, hx⟩ : ∃ x, x = rows[j] := ⟨_, rfl⟩
  rw [← hx] at hg hx0 hB habs
  obtain ⟨q, hq⟩ : ∃ q : Nat, x.1 = (q : Int) := ⟨x.1.toNat, by omega⟩
  have hxq : x.1.toNat = q := by omega
  have hob := h1.ok.obj
  have hlv := hv_len h1.ok
  have hle := h1.ok.szs
  have hcn := h1.ok.cnt
  have htot := h1.ok.tot
  have hA := abs_len H'.ser
  have hAB : (abs H'.ser).length = B.length := by rw [habs]; simp [pushA]
  have hql : q < H'.ser.length := by omega
  have hqB : q < B.length := by omega
  obtain ⟨si, hhv, hsi, hs⟩ := hv_cases h1.ok hql
  have hsplit : H'.ser = H'.ser.take q ++ H'.ser[q] :: H'.ser.drop (q + 1) := by
    rw [← List.drop_eq_getElem_cons hql, List.take_append_drop]
  have hta : (H'.ser.take q).length = q := by rw [List.length_take]; omega
  obtain ⟨a, ha⟩ : ∃ a, a = H'.ser.take q := ⟨_, rfl⟩
  obtain ⟨b, hb⟩ : ∃ b, b = H'.ser.drop (q + 1) := ⟨_, rfl⟩
  obtain ⟨r, hr⟩ : ∃ r, r = H'.ser[q] := ⟨_, rfl⟩
  rw [← ha, ← hb, ← hr] at hsplit
  rw [← ha] at hta
  have hBs : B = B.take q ++ B[q] :: B.drop (q + 1) := by
    rw [← List.drop_eq_getElem_cons hqB, List.take_append_drop]
  have hBt : (B.take q).length = q := by rw [List.length_take]; omega
  obtain ⟨Ba, hBa⟩ : ∃ a, a = B.take q := ⟨_, rfl⟩
  obtain ⟨Bb, hBb⟩ : ∃ b, b = B.drop (q + 1) := ⟨_, rfl⟩
  obtain ⟨p, hp⟩ : ∃ p, p = B[q] := ⟨_, rfl⟩
  rw [← hBa, ← hBb, ← hp] at hBs
  rw [← hBa] at hBt
  have hpush : pushA x B = Ba ++ (p.1, p.2 ++ [(x.2.1, x.2.2)]) :: Bb := by
    rw [pushA, hxq, hBs, ← hBt, modify_mid]
  rw [hpush, hsplit, abs_app, abs_cons] at habs
  have hla : (abs a).length = Ba.length := by rw [abs_len, hta, hBt]
  obtain ⟨e1, e2⟩ := List.append_inj habs hla
  simp only [List.cons.injEq, Prod.mk.injEq] at e2
  obtain ⟨⟨e3, e4⟩, e5⟩ := e2
  have hr0 := h1.ok.all r (by rw [hsplit]; simp)
  obtain ⟨id, t0, hsv, hso⟩ : ∃ id t, r.sv = .osl id 0 r.sm.length 2 ∧ S1.objs[id]? = some (smC r.sm ++ t) := by
    rcases hr0.at_ with ⟨_, w⟩ | w
    · rw [w] at e4; simp at e4
    · exact w
  have hsml : r.sm.length ≤ 65536 := by
    have := h1.ok.tot
    rw [hsplit, total_app, total_cons] at this; omega
  have hn : r.sm.length = p.2.length + 1 := by rw [e4]; simp
  rw [hn] at hsv
  obtain ⟨d1, d2, d3⟩ := dis_at h1.ok hsplit hsi
  have hid : gidV r.sv = some id := by rw [hsv]; rfl
  have hls : loadP S1 false 1 (.ptr si (q * 2 + 1)) = some (.osl id 0 (p.2.length + 1) 2) := by rw [loadP_ptr hs, hsplit, ← hta, serC_dropB, hsv]; exact part1
  have l0 : loadP S1 false 1 (.ptr S.objs.length 0) = some (.ptr o 0) := by rw [loadP_ptr h1.b0]; exact part1
  have l1 : loadP S1 false 1 (.ptr (S.objs.length + 1) 0) = some vr := by rw [loadP_ptr h1.b1]; exact part1
  have l2 : loadP S1 false 1 (.ptr (S.objs.length + 2) 0) = some (.int .i64 e) := by rw [loadP_ptr h1.b2]; exact part1
  have l3 : loadP S1 false 1 (.ptr (S.objs.length + 3) 0) = some (.int .i64 ((j : Int) + 1)) := by rw [loadP_ptr h1.b3]; exact part1
  have lo0 : loadP S1 false 1 (.ptr o 0) = some (.osl si 0 H'.ser.length 2) := by rw [loadP_ptr hob, hhv]; exact part1
  have hqi : (q : Int) < (H'.ser.length : Int) := by omega
  have hwj : IntKind.i64.wrap (j : Int) = (j : Int) := wrap_i64 (by omega) (by omega)
  have hwp : IntKind.i64.wrap (p.2.length : Int) = (p.2.length : Int) := wrap_i64 (by omega) (by omega)
  have hcge : (1 : Int) ≤ H'.count := by
    rw [hcn, hsplit, total_app, total_cons]; omega
  have hwc : IntKind.i64.wrap (H'.count - 1) = H'.count - 1 := wrap_i64 (by omega) (by omega)
  have hbd : bounds (p.2.length + 1) (p.2.length + 1) none (some (.int .i64 (p.2.length : Int))) = some (0, p.2.length) := bounds_hi (by omega)
  -- the stores
  obtain ⟨S2, hS2⟩ : ∃ S2 : St, S2 = ⟨S1.objs.set si (serC (a ++ ⟨r.lv, .osl id 0 p.2.length 2, p.2, r.lb⟩ :: b)), S1.tips⟩ := ⟨_, rfl⟩
  have hs1 : S1.objs[si]? = some (serC (a ++ r :: b)) := by rw [← hsplit]; exact hs
  have ho2 : S2.objs[o]? = some [H'.hv, .map H'.mi, .int .i64 H'.count] := by rw [hS2]; simp only; rw [List.getElem?_set_ne (Ne.symm d1)]; exact hob
  have hs2 : S2.objs[si]? = some (serC (a ++ ⟨r.lv, .osl id 0 p.2.length 2, p.2, r.lb⟩ :: b)) := by rw [hS2]; exact get_set hs1
  obtain ⟨S3, hS3⟩ : ∃ S3 : St, S3 = ⟨S2.objs.set o [H'.hv, .map H'.mi, .int .i64 (H'.count - 1)], S2.tips⟩ := ⟨_, rfl⟩
  have hot : ∀ i, i ≠ o → i ≠ si → S3.objs[i]? = S1.objs[i]? := fun i q1 q2 => by
    rw [hS3, hS2]; simp only
    rw [List.getElem?_set_ne (Ne.symm q1), List.getElem?_set_ne (Ne.symm q2)]
  have hido : id ≠ o := fun w => d2 (by rw [hid, w])
  have hidsi : id ≠ si := fun w => d3 (by rw [hid, w])
  have hso3 : S3.objs[id]? = some (smC p.2 ++ (.int .i64 x.2.1 :: .int .i64 x.2.2 :: t0)) := by
    rw [hot id hido hidsi, hso, e4, smC_app]; simp [smC]
  have hu := h1.ok.upd (S' := S3) hsplit hsi (sv := .osl id 0 p.2.length 2) (sm := p.2) (c := H'.count - 1) (by rw [hS3]; exact get_set ho2)
    (by rw [hS3]; simp only; rw [List.getElem?_set_ne d1]; exact hs2)
    (fun i y q1 q2 q3 hy => by rw [hot i q1 q2]; exact hy) (by rw [hS3, hS2]; simp) (.inr ⟨id, _, rfl, hso3⟩) (fun i hi => by
      cases hi
      exact ⟨_, hso3, by simp⟩)
    (fun i hi => by cases hi; exact .inl hid) (by
      have w := hr0.rise
      rw [e4] at w
      exact ⟨(List.pairwise_append.1 w.1).1, fun y hy => w.2 y (List.mem_append_left _ hy)⟩) (by
      rw [hcn, hsplit, total_app, total_cons, total_app, total_cons, hn]; simp; omega) (by
      rw [hsplit, total_app, total_cons, hn] at htot
      rw [total_app, total_cons]; simp; omega)
  have h3 := h1.step hH hu.1 hu.2
  obtain ⟨S4, hS4⟩ : ∃ S4 : St, S4 = ⟨S3.objs.set (S.objs.length + 3) [.int .i64 (j : Int)], S3.tips⟩ := ⟨_, rfl⟩
  have h4 : RInv S o H vr S4 ⟨H'.hv, H'.mi, a ++ ⟨r.lv, .osl id 0 p.2.length 2, p.2, r.lb⟩ :: b, H'.ids, H'.count - 1⟩ e (j : Int) := by
    refine h3.box hH e (j : Int) ?_
    rw [hS4]; simp only
    congr 1
    obtain ⟨hl, he⟩ := List.getElem?_eq_some_iff.1 h3.b2
    rw [← he, List.set_getElem_self]
  have habs4 : abs (a ++ ⟨r.lv, .osl id 0 p.2.length 2, p.2, r.lb⟩ :: b) = B := by
    rw [abs_app, abs_cons, e1, e5, hBs]
    simp only [e3]
  have hput := serC_put a r b (.osl id 0 p.2.length 2) p.2
  rw [hta] at hput
  have hle1 : q * 2 + 1 + 1 ≤ (serC (a ++ r :: b)).length := by rw [serC_len, ← hsplit]; omega
  have h0own : S.objs.length ∉ ownH o H' := h1.out hH (by omega) (by omega)
  have hsiown : si ∈ ownH o H' := by
    simp only [ownH, List.mem_cons, List.mem_append]
    exact .inr (.inr (.inl (mem_gl.2 hsi)))
  have b02 : S2.objs[S.objs.length]? = some [.ptr o 0] := by
    rw [hS2]; simp only; rw [List.getElem?_set_ne (fun w => h0own (by rw [← w]; exact hsiown))]; exact h1.b0
  have l02 : loadP S2 false 1 (.ptr S.objs.length 0) = some (.ptr o 0) := by rw [loadP_ptr b02]; exact part1
  have lo22 : loadP S2 false 1 (.ptr o 2) = some (.int .i64 H'.count) := by rw [loadP_ptr ho2]; exact part1
  have l33 : loadP S3 false 1 (.ptr (S.objs.length + 3) 0) = some (.int .i64 ((j : Int) + 1)) := by rw [loadP_ptr h3.b3]; exact part1
  have b33 := h3.b3
  have hen : (e != 0) = true := by rw [bne_iff_ne]; exact he0
  have hj1 : (0 : Int) < (j : Int) + 1 := by omega
  rw [gval_lp]
  simp -implicitDefEqProofs [-head_Head_rows_1_r3_go, f0, f1, f2, f3, l0, l1, l2, l3, lo0, hen, he0, hj1, hwj, hg, p1, hq, hqi, hql, pstep]
  simp -implicitDefEqProofs [-head_Head_rows_1_r4_go, f0, f1, f2, f3, hls, hwp, hbd, pstep, hs1, hle1]
  rw [hput, ← hS2]
  simp -implicitDefEqProofs [-head_Head_rows_1_r1_go, f0, f1, f2, f3, l02, lo22, hwc, pstep, ho2, putCells]
  rw [← hS3]
  simp -implicitDefEqProofs [f0, f1, f2, f3, l33, hwj, pstep, b33, putCells]
  rw [← hS4]
  exact kN _ S4 _ h4 habs4 (by simp [f0]) (by simp [f1]) (by simp [f2]) (by simp [f3])

def asR (rows : List RowM) (A : Ab) (i : Nat) : Ab := (rows.take i).foldl (fun A x => pushA x A) A
theorem asR_succ {rows : List RowM} {A : Ab} {i : Nat} (h : i < rows.length) : asR rows A (i + 1) = pushA rows[i] (asR rows A i) := by
  unfold asR
  rw [List.take_add_one, List.getElem?_eq_getElem h, Option.toList_some, List.foldl_append]
  rfl
theorem asR_len {rows : List RowM} {A : Ab} : ∀ i, (asR rows A i).length = A.length := by
  unfold asR
  intro i
  generalize rows.take i = l
  induction l generalizing A with
  | nil => rfl
  | cons x l ih => simp only [List.foldl_cons]; rw [ih]; simp [pushA]

theorem undo_val {S : St} {o : Nat} {H : Hd} (hH : HOk S o H) {vr : PV} {rows : List RowM} (hv : Reads1 3 vr (rows.map rowV)) (hrl : rows.length ≤ 64) {n : Nat} (hn : n ≤ rows.length) {A : Ab}
    (hr : ∀ i (h : i < rows.length), i < n → 0 ≤ rows[i].1 ∧ rows[i].1 < (A.length : Int)) {e : Int} {S1 : St} {H1 : Hd} (h1 : RInv S o H vr S1 H1 e (n : Int)) (habs : abs H1.ser = asR rows A n) :
    ∃ S2 H2, cval T 277 [.ptr (S.objs.length + 2) 0, .ptr (S.objs.length + 3) 0, .ptr S.objs.length 0, .ptr (S.objs.length + 1) 0] S1 = some (.tup [], S2) ∧
      (if e = 0 then S2 = S1 ∧ H2 = H1 else RInv S o H vr S2 H2 e 0 ∧ abs H2.ser = A) := by
  by_cases he : e = 0
  · subst he
    have l2 : loadP S1 false 1 (.ptr (S.objs.length + 2) 0) = some (.int .i64 0) := by rw [loadP_ptr h1.b2]; exact part1
    refine ⟨S1, H1, cval_ok' fn_277 rfl ?_, by simp⟩
    simp -implicitDefEqProofs [head_Head_rows_1]
    rw [gval_lp]
    simp -implicitDefEqProofs [l2, ends_nil]
    rfl
  · simp only [if_neg he]
    have hen : (e != 0) = true := by rw [bne_iff_ne]; exact he
    obtain ⟨v, S2, hc, h2⟩ := cval_ex (T := T) fn_277 (args := [.ptr (S.objs.length + 2) 0, .ptr (S.objs.length + 3) 0, .ptr S.objs.length 0, .ptr (S.objs.length + 1) 0]) (S := S1) rfl
      (R := fun v S2 => v = .tup [] ∧ ∃ H2, RInv S o H vr S2 H2 e 0 ∧ abs H2.ser = A) (by
      simp -implicitDefEqProofs [head_Head_rows_1]
      refine lp_up n (fun j fr S' => fr 0 = .ptr (S.objs.length + 2) 0 ∧ fr 1 = .ptr (S.objs.length + 3) 0 ∧ fr 2 = .ptr S.objs.length 0 ∧ fr 3 = .ptr (S.objs.length + 1) 0 ∧
        ∃ H', RInv S o H vr S' H' e ((n - j : Nat) : Int) ∧ abs H'.ser = asR rows A (n - j)) ?_ ?_ 0 (Nat.zero_le _) _ _ ⟨by simp, by simp, by simp, by simp, H1, by simpa using h1, by simpa using habs⟩
      · rintro j fr S' hj ⟨f0, f1, f2, f3, H', x1, x2⟩ k
        obtain ⟨m, hm⟩ : ∃ m, n - j = m + 1 := ⟨n - j - 1, by omega⟩
        have hml : m < rows.length := by omega
        have hm2 : n - (j + 1) = m := by omega
        rw [hm] at x1 x2
        rw [asR_succ hml] at x2
        obtain ⟨w1, w2⟩ := hr m hml (by omega)
        refine undo_round hH hv hrl hml w1 (by rw [asR_len]; exact w2) he (by simpa using x1) x2 f0 f1 f2 f3 (fun fr' S3 H3 y1 y2 g0 g1 g2 g3 => ?_)
        exact k fr' S3 ⟨g0, g1, g2, g3, H3, by rw [hm2]; exact y1, by rw [hm2]; exact y2⟩
      · rintro fr S' ⟨f0, f1, f2, f3, H', x1, x2⟩
        rw [Nat.sub_self] at x1 x2
        have l2 : loadP S' false 1 (.ptr (S.objs.length + 2) 0) = some (.int .i64 e) := by rw [loadP_ptr x1.b2]; exact part1
        have l3 : loadP S' false 1 (.ptr (S.objs.length + 3) 0) = some (.int .i64 0) := by rw [loadP_ptr x1.b3]; exact part1
        rw [gval_lp]
        simp -implicitDefEqProofs [f0, f1, f2, f3, l2, l3, he, hen, resAll]
        rw [fin_raw]
        exact ⟨rfl, H', by simpa using x1, by simpa [asR] using x2⟩)
    obtain ⟨rfl, H2, y1, y2⟩ := h2
    exact ⟨S2, H2, hc, y1, y2⟩
end Ps
