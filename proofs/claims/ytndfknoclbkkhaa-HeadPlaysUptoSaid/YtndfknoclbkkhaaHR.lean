/- The head: records as they come in; the law HeadGone. -/
import Derived.Test.YtndfknoclbkkhaaHN
import Derived.Test.YtndfknoclbkkhaaTie
namespace Ps
set_option linter.unusedSimpArgs false
set_option linter.unusedVariables false
open Go
theorem fin_raw {S S1 : St} {r : PV} : finish true S S1 r = (r, S1) := rfl
theorem undo_round {S : St} {o : Nat} {H : Hd} (hH : HOk S o H) {vr : PV} {rows : List RowM} (hv : RwAt S o H vr rows) (hrl : rows.length ≤ 64) {j : Nat} (hj : j < rows.length)
  (hx0 : 0 ≤ rows[j].1) {B : Ab} (hB : rows[j].1 < (B.length : Int)) {e : Int} (he0 : e ≠ 0) {S1 : St} {H' : Hd} (h1 : RInv S o H vr S1 H' e ((j : Int) + 1)) (habs : abs H'.ser = pushA rows[j] B)
  {K : List Kt} {Q : Fr → St → Prop} {fr : Fr} (f0 : fr 0 = .ptr (S.objs.length + 2) 0) (f1 : fr 1 = .ptr (S.objs.length + 3) 0) (f2 : fr 2 = .ptr S.objs.length 0) (f3 : fr 3 = .ptr (S.objs.length + 1) 0)
  (kN : ∀ fr' S2 H2, RInv S o H vr S2 H2 e (j : Int) → abs H2.ser = B →
   fr' 0 = .ptr (S.objs.length + 2) 0 → fr' 1 = .ptr (S.objs.length + 3) 0 → fr' 2 = .ptr S.objs.length 0 → fr' 3 = .ptr (S.objs.length + 1) 0 →
   Ok (gval T (.lp z34_l0 :: .blk 0 :: K) fr' S2) Q) :
  Ok (gval T (.lp z34_l0 :: .blk 0 :: K) fr S1) Q := by
 obtain ⟨p, p0, hp, hp0, hp2⟩ := hv j hj
 have hg := hp .i64
 have hl0 := (hp2 S1 h1.keep).2
 obtain ⟨x, hx⟩ : ∃ x, x = rows[j] := ⟨_, rfl⟩
 rw [← hx] at hl0 hx0 hB habs
 obtain ⟨q, hq⟩ : ∃ q : Nat, x.1 = (q : Int) := ⟨x.1.toNat, by omega⟩
 have hxq : x.1.toNat = q := by omega
 have hob := h1.ok.obj
 have hlv := hv_len h1.ok
 have hle := h1.ok.szs
 have hcn := h1.ok.cnt
 have htot := h1.ok.tot
 have hA := abs_len H'.ser
 have hAB : (abs H'.ser).length = B.length := by rw [habs]; simp [pushA]
 have hql : q < H'.ser.length := by omega
 have hqB : q < B.length := by omega
 obtain ⟨si, hhv, hsi, hs⟩ := hv_cases h1.ok hql
 have hsplit : H'.ser = H'.ser.take q ++ H'.ser[q] :: H'.ser.drop (q + 1) := by
  rw [← List.drop_eq_getElem_cons hql, List.take_append_drop]
 have hta : (H'.ser.take q).length = q := by rw [List.length_take]; omega
 obtain ⟨a, ha⟩ : ∃ a, a = H'.ser.take q := ⟨_, rfl⟩
 obtain ⟨b, hb⟩ : ∃ b, b = H'.ser.drop (q + 1) := ⟨_, rfl⟩
 obtain ⟨r, hr⟩ : ∃ r, r = H'.ser[q] := ⟨_, rfl⟩
 rw [← ha, ← hb, ← hr] at hsplit
 rw [← ha] at hta
 have hBs : B = B.take q ++ B[q] :: B.drop (q + 1) := by
  rw [← List.drop_eq_getElem_cons hqB, List.take_append_drop]
 have hBt : (B.take q).length = q := by rw [List.length_take]; omega
 obtain ⟨Ba, hBa⟩ : ∃ a, a = B.take q := ⟨_, rfl⟩
 obtain ⟨Bb, hBb⟩ : ∃ b, b = B.drop (q + 1) := ⟨_, rfl⟩
 obtain ⟨p, hp⟩ : ∃ p, p = B[q] := ⟨_, rfl⟩
 rw [← hBa, ← hBb, ← hp] at hBs
 rw [← hBa] at hBt
 have hpush : pushA x B = Ba ++ (p.1, p.2 ++ [(x.2.1, x.2.2)]) :: Bb := by
  rw [pushA, hxq, hBs, ← hBt, modify_mid]
 rw [hpush, hsplit, abs_app, abs_cons] at habs
 have hla : (abs a).length = Ba.length := by rw [abs_len, hta, hBt]
 obtain ⟨e1, e2⟩ := List.append_inj habs hla
 simp only [List.cons.injEq, Prod.mk.injEq] at e2
 obtain ⟨⟨e3, e4⟩, e5⟩ := e2
 have hr0 := h1.ok.all r (by rw [hsplit]; simp)
 obtain ⟨id, t0, hsv, hso⟩ : ∃ id t, r.sv = .osl id 0 r.sm.length 2 ∧ S1.objs[id]? = some (smC r.sm ++ t) := by
  rcases hr0.at_ with ⟨_, w⟩ | w
  ·rw [w] at e4; simp at e4
  ·exact w
 have hsml : r.sm.length ≤ 65536 := by
  have := h1.ok.tot
  rw [hsplit, total_app, total_cons] at this; omega
 have hn : r.sm.length = p.2.length + 1 := by rw [e4]; simp
 rw [hn] at hsv
 obtain ⟨d1, d2, d3⟩ := dis_at h1.ok hsplit hsi
 have hid : gidV r.sv = some id := by rw [hsv]; rfl
 have hls : loadP S1 false 1 (.ptr si (q * 2 + 1)) = some (.osl id 0 (p.2.length + 1) 2) := by rw [loadP_ptr hs, hsplit, ← hta, serC_dropB, hsv]; exact part1
 have l0 : loadP S1 false 1 (.ptr S.objs.length 0) = some (.ptr o 0) := by rw [loadP_ptr h1.b0]; exact part1
 have l1 : loadP S1 false 1 (.ptr (S.objs.length + 1) 0) = some vr := by rw [loadP_ptr h1.b1]; exact part1
 have l2 : loadP S1 false 1 (.ptr (S.objs.length + 2) 0) = some (.int .i64 e) := by rw [loadP_ptr h1.b2]; exact part1
 have l3 : loadP S1 false 1 (.ptr (S.objs.length + 3) 0) = some (.int .i64 ((j : Int) + 1)) := by rw [loadP_ptr h1.b3]; exact part1
 have lo0 : loadP S1 false 1 (.ptr o 0) = some (.osl si 0 H'.ser.length 2) := by rw [loadP_ptr hob, hhv]; exact part1
 have hqi : (q : Int) < (H'.ser.length : Int) := by omega
 have hwj : IntKind.i64.wrap (j : Int) = (j : Int) := wrap_i64 (by omega) (by omega)
 have hwp : IntKind.i64.wrap (p.2.length : Int) = (p.2.length : Int) := wrap_i64 (by omega) (by omega)
 have hcge : (1 : Int) ≤ H'.count := by
  rw [hcn, hsplit, total_app, total_cons]; omega
 have hwc : IntKind.i64.wrap (H'.count - 1) = H'.count - 1 := wrap_i64 (by omega) (by omega)
 have hbd : bounds (p.2.length + 1) (p.2.length + 1) none (some (.int .i64 (p.2.length : Int))) = some (0, p.2.length) := bounds_hi (by omega)
 -- the stores
 obtain ⟨S2, hS2⟩ : ∃ S2 : St, S2 = ⟨S1.objs.set si (serC (a ++ ⟨r.lv, .osl id 0 p.2.length 2, p.2, r.lb⟩ :: b)), S1.tips⟩ := ⟨_, rfl⟩
 have hs1 : S1.objs[si]? = some (serC (a ++ r :: b)) := by rw [← hsplit]; exact hs
 have ho2 : S2.objs[o]? = some [H'.hv, .map H'.mi, .int .i64 H'.count] := by rw [hS2]; simp only; rw [List.getElem?_set_ne (Ne.symm d1)]; exact hob
 have hs2 : S2.objs[si]? = some (serC (a ++ ⟨r.lv, .osl id 0 p.2.length 2, p.2, r.lb⟩ :: b)) := by rw [hS2]; exact get_set hs1
 obtain ⟨S3, hS3⟩ : ∃ S3 : St, S3 = ⟨S2.objs.set o [H'.hv, .map H'.mi, .int .i64 (H'.count - 1)], S2.tips⟩ := ⟨_, rfl⟩
 have hot : ∀ i, i ≠ o → i ≠ si → S3.objs[i]? = S1.objs[i]? := fun i q1 q2 => by
  rw [hS3, hS2]; simp only
  rw [List.getElem?_set_ne (Ne.symm q1), List.getElem?_set_ne (Ne.symm q2)]
 have hido : id ≠ o := fun w => d2 (by rw [hid, w])
 have hidsi : id ≠ si := fun w => d3 (by rw [hid, w])
 have hso3 : S3.objs[id]? = some (smC p.2 ++ (.int .i64 x.2.1 :: .int .i64 x.2.2 :: t0)) := by
  rw [hot id hido hidsi, hso, e4, smC_app]; simp [smC]
 have hu := h1.ok.upd (S' := S3) hsplit hsi (sv := .osl id 0 p.2.length 2) (sm := p.2) (c := H'.count - 1) (by rw [hS3]; exact get_set ho2)
  (by rw [hS3]; simp only; rw [List.getElem?_set_ne d1]; exact hs2)
  (fun i y q1 q2 q3 hy => by rw [hot i q1 q2]; exact hy) (by rw [hS3, hS2]; simp) (.inr ⟨id, _, rfl, hso3⟩) (fun i hi => by
   cases hi
   exact ⟨_, hso3, by simp⟩)
  (fun i hi => by cases hi; exact .inl hid) (by
   have w := hr0.rise
   rw [e4] at w
   exact ⟨(List.pairwise_append.1 w.1).1, fun y hy => w.2 y (List.mem_append_left _ hy)⟩) (by
   rw [hcn, hsplit, total_app, total_cons, total_app, total_cons, hn]; simp; omega) (by
   rw [hsplit, total_app, total_cons, hn] at htot
   rw [total_app, total_cons]; simp; omega)
 have h3 := h1.step hH hu.1 hu.2
 obtain ⟨S4, hS4⟩ : ∃ S4 : St, S4 = ⟨S3.objs.set (S.objs.length + 3) [.int .i64 (j : Int)], S3.tips⟩ := ⟨_, rfl⟩
 have h4 : RInv S o H vr S4 ⟨H'.hv, H'.mi, a ++ ⟨r.lv, .osl id 0 p.2.length 2, p.2, r.lb⟩ :: b, H'.ids, H'.count - 1⟩ e (j : Int) := by
  refine h3.box hH e (j : Int) ?_
  rw [hS4]; simp only
  congr 1
  obtain ⟨hl, he⟩ := List.getElem?_eq_some_iff.1 h3.b2
  rw [← he, List.set_getElem_self]
 have habs4 : abs (a ++ ⟨r.lv, .osl id 0 p.2.length 2, p.2, r.lb⟩ :: b) = B := by
  rw [abs_app, abs_cons, e1, e5, hBs]
  simp only [e3]
 have hput := serC_put a r b (.osl id 0 p.2.length 2) p.2
 rw [hta] at hput
 have hle1 : q * 2 + 1 + 1 ≤ (serC (a ++ r :: b)).length := by rw [serC_len, ← hsplit]; omega
 have h0own : S.objs.length ∉ ownH o H' := h1.out hH (by omega) (by omega)
 have hsiown : si ∈ ownH o H' := by
  simp only [ownH, List.mem_cons, List.mem_append]
  exact .inr (.inr (.inl (mem_gl.2 hsi)))
 have b02 : S2.objs[S.objs.length]? = some [.ptr o 0] := by
  rw [hS2]; simp only; rw [List.getElem?_set_ne (fun w => h0own (by rw [← w]; exact hsiown))]; exact h1.b0
 have l02 : loadP S2 false 1 (.ptr S.objs.length 0) = some (.ptr o 0) := by rw [loadP_ptr b02]; exact part1
 have lo22 : loadP S2 false 1 (.ptr o 2) = some (.int .i64 H'.count) := by rw [loadP_ptr ho2]; exact part1
 have l33 : loadP S3 false 1 (.ptr (S.objs.length + 3) 0) = some (.int .i64 ((j : Int) + 1)) := by rw [loadP_ptr h3.b3]; exact part1
 have b33 := h3.b3
 have hen : (e != 0) = true := by rw [bne_iff_ne]; exact he0
 have hj1 : (0 : Int) < (j : Int) + 1 := by omega
 rw [gval_lp]
 simp -implicitDefEqProofs [-z34_r3_go, f0, f1, f2, f3, l0, l1, l2, l3, lo0, hen, he0, hj1, hwj, hg, hp0, hl0, p1, hq, hqi, hql, pstep]
 simp -implicitDefEqProofs [-z34_r4_go, f0, f1, f2, f3, hls, hwp, hbd, pstep, hs1, hle1]
 rw [hput, ← hS2]
 simp -implicitDefEqProofs [-z34_r1_go, f0, f1, f2, f3, l02, lo22, hwc, pstep, ho2, putCells]
 rw [← hS3]
 simp -implicitDefEqProofs [f0, f1, f2, f3, l33, hwj, pstep, b33, putCells]
 rw [← hS4]
 exact kN _ S4 _ h4 habs4 (by simp [f0]) (by simp [f1]) (by simp [f2]) (by simp [f3])

def asR (rows : List RowM) (A : Ab) (i : Nat) : Ab := (rows.take i).foldl (fun A x => pushA x A) A
theorem asR_succ {rows : List RowM} {A : Ab} {i : Nat} (h : i < rows.length) : asR rows A (i + 1) = pushA rows[i] (asR rows A i) := by
 unfold asR
 rw [List.take_add_one, List.getElem?_eq_getElem h, Option.toList_some, List.foldl_append]
 rfl
theorem asR_len {rows : List RowM} {A : Ab} : ∀ i, (asR rows A i).length = A.length := by
 unfold asR
 intro i
 generalize rows.take i = l
 induction l generalizing A with
 | nil => rfl
 | cons x l ih => simp only [List.foldl_cons]; rw [ih]; simp [pushA]

theorem undo_val {S : St} {o : Nat} {H : Hd} (hH : HOk S o H) {vr : PV} {rows : List RowM} (hv : RwAt S o H vr rows) (hrl : rows.length ≤ 64) {n : Nat} (hn : n ≤ rows.length) {A : Ab}
  (hr : ∀ i (h : i < rows.length), i < n → 0 ≤ rows[i].1 ∧ rows[i].1 < (A.length : Int)) {e : Int} {S1 : St} {H1 : Hd} (h1 : RInv S o H vr S1 H1 e (n : Int)) (habs : abs H1.ser = asR rows A n) :
  ∃ S2 H2, cval T 277 [.ptr (S.objs.length + 2) 0, .ptr (S.objs.length + 3) 0, .ptr S.objs.length 0, .ptr (S.objs.length + 1) 0] S1 = some (.tup [], S2) ∧
   (if e = 0 then S2 = S1 ∧ H2 = H1 else RInv S o H vr S2 H2 e 0 ∧ abs H2.ser = A) := by
 by_cases he : e = 0
 ·subst he
  have l2 : loadP S1 false 1 (.ptr (S.objs.length + 2) 0) = some (.int .i64 0) := by rw [loadP_ptr h1.b2]; exact part1
  refine ⟨S1, H1, cval_ok' fn_277 rfl ?_, by simp⟩
  simp -implicitDefEqProofs [z34]
  rw [gval_lp]
  simp -implicitDefEqProofs [l2, ends_nil]
  rfl
 ·simp only [if_neg he]
  have hen : (e != 0) = true := by rw [bne_iff_ne]; exact he
  obtain ⟨v, S2, hc, h2⟩ := cval_ex (T := T) fn_277 (args := [.ptr (S.objs.length + 2) 0, .ptr (S.objs.length + 3) 0, .ptr S.objs.length 0, .ptr (S.objs.length + 1) 0]) (S := S1) rfl
   (R := fun v S2 => v = .tup [] ∧ ∃ H2, RInv S o H vr S2 H2 e 0 ∧ abs H2.ser = A) (by
   simp -implicitDefEqProofs [z34]
   refine lp_up n (fun j fr S' => fr 0 = .ptr (S.objs.length + 2) 0 ∧ fr 1 = .ptr (S.objs.length + 3) 0 ∧ fr 2 = .ptr S.objs.length 0 ∧ fr 3 = .ptr (S.objs.length + 1) 0 ∧
    ∃ H', RInv S o H vr S' H' e ((n - j : Nat) : Int) ∧ abs H'.ser = asR rows A (n - j)) ?_ ?_ 0 (Nat.zero_le _) _ _ ⟨by simp, by simp, by simp, by simp, H1, by simpa using h1, by simpa using habs⟩
   ·rintro j fr S' hj ⟨f0, f1, f2, f3, H', x1, x2⟩ k
    obtain ⟨m, hm⟩ : ∃ m, n - j = m + 1 := ⟨n - j - 1, by omega⟩
    have hml : m < rows.length := by omega
    have hm2 : n - (j + 1) = m := by omega
    rw [hm] at x1 x2
    rw [asR_succ hml] at x2
    obtain ⟨w1, w2⟩ := hr m hml (by omega)
    refine undo_round hH hv hrl hml w1 (by rw [asR_len]; exact w2) he (by simpa using x1) x2 f0 f1 f2 f3 (fun fr' S3 H3 y1 y2 g0 g1 g2 g3 => ?_)
    exact k fr' S3 ⟨g0, g1, g2, g3, H3, by rw [hm2]; exact y1, by rw [hm2]; exact y2⟩
   ·rintro fr S' ⟨f0, f1, f2, f3, H', x1, x2⟩
    rw [Nat.sub_self] at x1 x2
    have l2 : loadP S' false 1 (.ptr (S.objs.length + 2) 0) = some (.int .i64 e) := by rw [loadP_ptr x1.b2]; exact part1
    have l3 : loadP S' false 1 (.ptr (S.objs.length + 3) 0) = some (.int .i64 0) := by rw [loadP_ptr x1.b3]; exact part1
    rw [gval_lp]
    simp -implicitDefEqProofs [f0, f1, f2, f3, l2, l3, he, hen, resAll]
    rw [fin_raw]
    exact ⟨rfl, H', by simpa using x1, by simpa [asR] using x2⟩)
  obtain ⟨rfl, H2, y1, y2⟩ := h2
  exact ⟨S2, H2, hc, y1, y2⟩
end Ps
namespace Ps
set_option linter.unusedSimpArgs false
set_option linter.unusedVariables false
open Go
theorem fn_70 : T.fn 70 = some (.code z57) := rfl

theorem cval_defx {T : Tbl} {f : Nat} {c : PDef} (hf : T.fn f = some (.codeD c)) {args : List PV} {S S1 S2 : St} {fr1 fr2 : Fr} {cf : Nat} {caps : List PV} {R : PV → St → Prop} (ha : args.length = c.params)
  (hpre : PreTo T c.pre (argsFr args) S fr1 S1) (hclo : gval T [.ops [c.clo]] fr1 S1 = some (fr2, S2)) (ht : fr2 c.t = .fn cf caps) (hcf : isCodeF (T.fn cf) = true)
  (h : Ok (gval T [.code c.rest] fr2 S2) (fun fr3 S3 => ∃ r SF, R r SF ∧ ∃ r4 S4, cval T cf caps S3 = some (r4, S4) ∧ Ends c.results c.raw S r SF fr3 S4)) : ∃ r SF, cval T f args S = some (r, SF) ∧ R r SF := by
 obtain ⟨x, hx, r, SF, hR, rest⟩ := h
 exact ⟨r, SF, cval_def hf ha hpre hclo ht hcf ⟨x, hx, rest⟩, hR⟩

theorem rowsR_facts : ∀ {l : List RowM}, rowsR l = 0 → ∀ x ∈ l, (0 ≤ x.1 ∧ x.1 ≤ 1099511627776) ∧ mayB x.2.1 x.2.2 = true
 | [], _ => by simp
 | y :: l, h => by
  rw [rowsR_cons] at h
  split at h
  ·omega
  ·split at h
   ·omega
   ·rename_i h1 h2
    intro x hx
    rcases List.mem_cons.1 hx with rfl | hx
    ·exact ⟨by omega, by simpa using h2⟩
    ·exact rowsR_facts h x hx
theorem rowsN_facts {l : List RowM} (h : rowsN l = 0) : 0 < l.length ∧ l.length ≤ 64 ∧ ∀ x ∈ l, (0 ≤ x.1 ∧ x.1 ≤ 1099511627776) ∧ (0 ≤ x.2.1 ∧ x.2.1 ≤ 1099511627776) := by
 unfold rowsN at h
 split at h
 ·omega
 ·refine ⟨by omega, by omega, fun x hx => ?_⟩
  obtain ⟨a, b⟩ := rowsR_facts h x hx
  simp [mayB] at b
  exact ⟨a, by omega⟩

def rowsGo : List RowM → Ab → Ab × Nat
 | [], A => (A, 0)
 | x :: l, A => match rowStep x A with | some e => (A, e) | none => rowsGo l (pushA x A)
def doRows (l : List RowM) (A : Ab) : Ab × Nat := if (rowsGo l A).2 = 0 then rowsGo l A else (A, (rowsGo l A).2)
theorem rowStep_ne {x : RowM} {A : Ab} {e : Nat} (h : rowStep x A = some e) : e ≠ 0 := by
 unfold rowStep at h
 split at h
 ·cases h; decide
 ·split at h
  ·cases h; decide
  ·split at h
   ·cases h; decide
   ·cases h

theorem rows_pre {S : St} {o : Nat} {vr : PV} (hvr : vr.one = true) :
  PreTo T head_Head_rows.pre (argsFr [.ptr o 0, vr]) S
   (upd (upd (upd (upd (argsFr [.ptr o 0, vr]) 2 (.ptr S.objs.length 0)) 3 (.ptr (S.objs.length + 1) 0)) 4 (.ptr (S.objs.length + 2) 0)) 5 (.ptr (S.objs.length + 3) 0))
   ⟨S.objs ++ [[.ptr o 0], [vr], [.int .i64 0], [.int .i64 0]], S.tips⟩ := by
 have hc : vr.cells = [vr] := by cases vr <;> first | rfl | (simp [PV.one] at hvr)
 refine ⟨upd (upd (upd (argsFr [.ptr o 0, vr]) 2 (.ptr S.objs.length 0)) 3 (.ptr (S.objs.length + 1) 0)) 4 (.ptr (S.objs.length + 2) 0), ⟨S.objs ++ [[.ptr o 0], [vr], [.int .i64 0]], S.tips⟩, fun K => ?_,
  upd (upd (upd (upd (argsFr [.ptr o 0, vr]) 2 (.ptr S.objs.length 0)) 3 (.ptr (S.objs.length + 1) 0)) 4 (.ptr (S.objs.length + 2) 0)) 5 (.ptr (S.objs.length + 3) 0), ⟨S.objs ++ [[.ptr o 0], [vr], [.int .i64 0], [.int .i64 0]], S.tips⟩, fun K => ?_, rfl, rfl⟩
 ·simp -implicitDefEqProofs [pstep, hc, hvr, newObj]
 ·simp -implicitDefEqProofs [pstep, putCells, newObj]

theorem rows_val13 {S : St} {o : Nat} {H : Hd} (h : HOk S o H) {rows : List RowM} {vr : PV} (hone : vr.one = true) (hlen : lenP false vr = some (.int .i64 rows.length)) (hvr : RwAt S o H vr rows) (hr : rowsN rows = 0) :
  ∃ S' H', cval T 181 [.ptr o 0, vr] S = some (.int .i64 ((doRows rows (abs H.ser)).2 : Nat), S') ∧ HOk S' o H' ∧ Stp o S H S' H' ∧ abs H'.ser = (doRows rows (abs H.ser)).1 := by
 obtain ⟨hr0, hrl, hrf⟩ := rowsN_facts hr
 obtain ⟨S1, hS1⟩ : ∃ S1 : St, S1 = ⟨S.objs ++ [[.ptr o 0], [vr], [.int .i64 0], [.int .i64 0]], S.tips⟩ := ⟨_, rfl⟩
 have hi1 : RInv S o H vr S1 H 0 ((0 : Nat) : Int) := by
  have hk : ∀ (i : Nat) (c : List PV), S.objs[i]? = some c → S1.objs[i]? = some c := fun i c hc => by
   rw [hS1]; simp only; rw [List.getElem?_append_left (List.getElem?_eq_some_iff.1 hc).1]; exact hc
  refine ⟨h.grow hk, fun i x _ hx => hk i x hx, fun i hi => .inl hi, by rw [hS1]; simp, ?_, ?_, ?_, ?_⟩ <;> rw [hS1] <;> simp
 have hpre := rows_pre (S := S) (o := o) hone
 rw [← hS1] at hpre
 obtain ⟨fr2, hfr2⟩ : ∃ fr2, fr2 = upd (upd (upd (upd (upd (argsFr [.ptr o 0, vr]) 2 (.ptr S.objs.length 0)) 3 (.ptr (S.objs.length + 1) 0)) 4 (.ptr (S.objs.length + 2) 0)) 5 (.ptr (S.objs.length + 3) 0)) 9 (.fn 277 [.ptr (S.objs.length + 2) 0, .ptr (S.objs.length + 3) 0, .ptr S.objs.length 0, .ptr (S.objs.length + 1) 0]) := ⟨_, rfl⟩
 obtain ⟨r, SF, hc, hR1, H', hR⟩ := cval_defx (T := T) fn_181 (args := [.ptr o 0, vr]) (S := S) (S1 := S1) (S2 := S1) (fr2 := fr2) (cf := 277) (caps := [.ptr (S.objs.length + 2) 0, .ptr (S.objs.length + 3) 0, .ptr S.objs.length 0, .ptr (S.objs.length + 1) 0])
  (R := fun r SF => r = .int .i64 ((doRows rows (abs H.ser)).2 : Nat) ∧ ∃ H', HOk SF o H' ∧ Stp o S H SF H' ∧ abs H'.ser = (doRows rows (abs H.ser)).1) rfl hpre
  (by rw [hfr2]; simp -implicitDefEqProofs [head_Head_rows]) (by rw [hfr2]; simp [head_Head_rows]) rfl (by
   have fin : ∀ (e : Nat) (n : Nat) (fr' : Fr) (S2 : St) (H2 : Hd), n ≤ rows.length → (∀ i (hi : i < rows.length), i < n → rowStep rows[i] (asR rows (abs H.ser) i) = none) →
     RInv S o H vr S2 H2 (e : Int) (n : Int) → abs H2.ser = asR rows (abs H.ser) n → (e = 0 → n = rows.length) → (e ≠ 0 → ∃ h : n < rows.length, rowStep rows[n] (asR rows (abs H.ser) n) = some e) → fr' 4 = .ptr (S.objs.length + 2) 0 →
     ∃ r SF, (r = .int .i64 ((doRows rows (abs H.ser)).2 : Nat) ∧ ∃ H', HOk SF o H' ∧ Stp o S H SF H' ∧ abs H'.ser = (doRows rows (abs H.ser)).1) ∧
      ∃ r4 S4, cval T 277 [.ptr (S.objs.length + 2) 0, .ptr (S.objs.length + 3) 0, .ptr S.objs.length 0, .ptr (S.objs.length + 1) 0] S2 = some (r4, S4) ∧ Ends [PRes.cell 4 false 1] true S r SF fr' S4 := by
    intro e n fr' S2 H2 hn hok hi ha he0 he1 f4
    have hgo : ∀ k, k ≤ n → rowsGo rows (abs H.ser) = rowsGo (rows.drop k) (asR rows (abs H.ser) k) := by
     intro k
     induction k with
     | zero => intro _; simp [asR]
     | succ k ih =>
      intro hk
      have hkl : k < rows.length := by omega
      rw [ih (by omega), List.drop_eq_getElem_cons hkl, rowsGo, hok k hkl (by omega), asR_succ hkl]
    obtain ⟨S4, H4, hc, hu⟩ := undo_val h hvr hrl hn (A := abs H.ser) (fun i hi2 hin => by
     have w := hok i hi2 hin
     refine ⟨(hrf _ (List.getElem_mem hi2)).1.1, ?_⟩
     unfold rowStep at w
     rw [asR_len] at w
     split at w
     ·cases w
     ·omega) hi ha
    by_cases he : e = 0
    ·have hnn := he0 he
     subst he
     simp only [Int.natCast_zero, if_true] at hu
     obtain ⟨rfl, rfl⟩ := hu
     have hg := hgo n (Nat.le_refl _)
     rw [hnn, List.drop_length] at hg
     simp only [rowsGo] at hg
     have hdo : doRows rows (abs H.ser) = (asR rows (abs H.ser) rows.length, 0) := by simp [doRows, hg]
     refine ⟨_, S4, ⟨rfl, H4, hi.ok, ⟨hi.keep, fun i hi' => ?_, ?_⟩, by rw [hdo, ha, hnn]⟩, _, _, hc, ?_⟩
     ·rcases hi.own i hi' with q | q
      ·exact .inl q
      ·exact .inr (by omega)
     ·have := hi.len; omega
     ·rw [hdo]
      exact ends_c (v := .int .i64 ((0 : Nat) : Int)) (by rw [f4, loadP_ptr hi.b2]; exact part1) rfl
    ·have hez : ¬ ((e : Int) = 0) := by omega
     obtain ⟨hnl, hst⟩ := he1 he
     rw [if_neg hez] at hu
     obtain ⟨u1, u2⟩ := hu
     have hg := hgo n (Nat.le_refl _)
     rw [List.drop_eq_getElem_cons hnl, rowsGo, hst] at hg
     have hdo : doRows rows (abs H.ser) = (abs H.ser, e) := by simp [doRows, hg, he]
     refine ⟨_, S4, ⟨rfl, H4, u1.ok, ⟨u1.keep, fun i hi' => ?_, ?_⟩, by rw [hdo, u2]⟩, _, _, hc, ?_⟩
     ·rcases u1.own i hi' with q | q
      ·exact .inl q
      ·exact .inr (by omega)
     ·have := u1.len; omega
     ·rw [hdo]
      exact ends_c (v := .int .i64 (e : Int)) (by rw [f4, loadP_ptr u1.b2]; exact part1) rfl
   have l13 : loadP S1 false 1 (.ptr (S.objs.length + 1) 0) = some vr := by rw [loadP_ptr hi1.b1]; exact part1
   rw [hfr2]
   simp -implicitDefEqProofs [head_Head_rows, l13, hlen]
   refine lp_up rows.length (fun j fr S' => fr 2 = .ptr S.objs.length 0 ∧ fr 3 = .ptr (S.objs.length + 1) 0 ∧ fr 4 = .ptr (S.objs.length + 2) 0 ∧ fr 5 = .ptr (S.objs.length + 3) 0 ∧
    fr 10 = vr ∧ fr 11 = .int .i64 rows.length ∧ fr 12 = .int .i64 (j : Int) ∧
    (∀ i (hi : i < rows.length), i < j → rowStep rows[i] (asR rows (abs H.ser) i) = none) ∧ ∃ H', RInv S o H vr S' H' 0 (j : Int) ∧ abs H'.ser = asR rows (abs H.ser) j) ?_ ?_ 0 (Nat.zero_le _) _ _
    ⟨by simp, by simp, by simp, by simp, by simp, by simp, by simp, fun i _ hi => absurd hi (by omega), H, hi1, rfl⟩
   ·rintro j fr S' hj ⟨f2, f3, f4, f5, f10, f11, f12, hok, H', x1, x2⟩ k
    obtain ⟨r1, r2⟩ := hrf _ (List.getElem_mem hj)
    refine row_round h hvr hrl hj r1 r2 x1 f2 f3 f4 f5 f10 f11 f12 (fun e fr' S2 hst y1 g4 => ?_) (fun fr' S2 H2 hst y1 y2 g2 g3 g4 g5 g10 g11 g12 => ?_)
    ·exact fin e j fr' S2 H' (by omega) hok y1 x2 (fun w => absurd w (rowStep_ne hst)) (fun _ => ⟨hj, by rw [← x2]; exact hst⟩) g4
    ·refine k fr' S2 ⟨g2, g3, g4, g5, g10, g11, by simpa using g12, fun i hi hij => ?_, H2, by simpa using y1, by rw [y2, x2, asR_succ hj]⟩
     by_cases hij' : i < j
     ·exact hok i hi hij'
     ·have : i = j := by omega
      subst this
      rw [← x2]; exact hst
   ·rintro fr S' ⟨f2, f3, f4, f5, f10, f11, f12, hok, H', x1, x2⟩
    have b2 := x1.b2
    have hb := x1.box h 0 (rows.length : Int) (S2 := ⟨S'.objs.set (S.objs.length + 2) [.int .i64 0], S'.tips⟩) (by
     simp only
     have : (S'.objs.set (S.objs.length + 2) [PV.int .i64 0])[S.objs.length + 3]? = some [.int .i64 (rows.length : Int)] := by rw [List.getElem?_set_ne (by omega)]; exact x1.b3
     obtain ⟨hl, he⟩ := List.getElem?_eq_some_iff.1 this
     rw [← he, List.set_getElem_self])
    have fin' := fun fr' => fin 0 rows.length fr' _ H' (Nat.le_refl _) hok hb x2 (fun _ => rfl) (fun w => absurd rfl w)
    clear fin
    rw [gval_lp]
    simp -implicitDefEqProofs [f4, f11, f12, pstep, b2, putCells]
    exact fin' _ (by simp [f4]))
 subst hR1
 obtain ⟨x1, x2, x3⟩ := hR
 exact ⟨SF, H', hc, x1, x2, x3⟩
end Ps
namespace Ps
set_option linter.unusedSimpArgs false
set_option linter.unusedVariables false
open Go
theorem fn_177 : T.fn 177 = some (.code z80) := rfl
theorem recC_all {r : RecM} {cs : List PV} (h : RecC r cs) : cs.length = 6 ∧ cs.all PV.one = true := by
 obtain ⟨⟨vl, vr, vi, rfl, h1, h2, h3⟩, _⟩ := h
 exact ⟨rfl, cells_one h1 h2 h3⟩
theorem pt_all {cs : List PV} (h : cs.length = 6) : partOf true 6 cs = some (.agg cs) := by
 simp only [partOf, h, Nat.le_refl, if_true]
 rw [← h, List.take_length]

def doA (r : RecM) (A : Ab) : Ab × Nat :=
 if recN r ≠ 0 then (A, recN r) else if r.kind = 1 then doAdd r.labs A else if r.kind = 2 then doRows r.rows A else doRem r A

theorem recN_kinds {r : RecM} (h : recN r = 0) : (r.kind = 1 ∧ Right r.labs) ∨ (r.kind = 2 ∧ rowsN r.rows = 0) ∨ (r.kind = 3 ∧ delN r = 0) := by
 unfold recN at h
 split at h
 ·rename_i c; exact .inl ⟨c.1, checkN_zero.1 h⟩
 ·split at h
  ·rename_i c; exact .inr (.inl ⟨c.1, h⟩)
  ·split at h
   ·rename_i c; exact .inr (.inr ⟨c.1, h⟩)
   ·omega

structure RecO (S : St) (o : Nat) (H : Hd) (r : RecM) (vl vr vi : PV) : Prop where
 o1 : vl.one = true
 o2 : vr.one = true
 i3 : IsSl 1 vi (nV r.ids)
 rl : lenP false vr = some (.int .i64 r.rows.length)
 ra : RwAt S o H vr r.rows
 pr : Right r.labs → aCall (cval T) .snap 24 [vl] S = some (.str (printT r.labs), S)
 cl : Right r.labs → ∀ S' : St, (∀ (i : Nat) (x : List PV), i ∉ ownH o H → S.objs[i]? = some x → S'.objs[i]? = some x) → ∃ v', cval T 130 [vl] S' = some (v', S') ∧ SlL v' r.labs
 ck : aCall (cval T) .snap 179 [.agg [.int .i64 r.kind, vl, vr, vi, .int .i64 r.low, .int .i64 r.high]] S = some (.int .i64 (recN r), S)

theorem do_val {S : St} {o : Nat} {H : Hd} (h : HOk S o H) {r : RecM} {vl vr vi : PV} (hc : RecO S o H r vl vr vi) :
  ∃ S' H', cval T 70 [.ptr o 0, .agg [.int .i64 r.kind, vl, vr, vi, .int .i64 r.low, .int .i64 r.high]] S = some (.int .i64 ((doA r (abs H.ser)).2 : Nat), S') ∧ HOk S' o H' ∧ Stp o S H S' H' ∧ abs H'.ser = (doA r (abs H.ser)).1 := by
 have hck := hc.ck
 have i1 := hc.o1
 have i2 := hc.o2
 have i3 := isl_one hc.i3
 have hpt := pt_all (cs := [.int .i64 r.kind, vl, vr, vi, .int .i64 r.low, .int .i64 r.high]) rfl
 by_cases hz : recN r = 0
 ·rcases recN_kinds hz with ⟨hk, hr⟩ | ⟨hk, hr⟩ | ⟨hk, hr⟩
  ·have e1 : doA r (abs H.ser) = doAdd r.labs (abs H.ser) := by simp [doA, hz, hk]
   obtain ⟨S', H', a1, a2, a3, a4⟩ := add_val h (hc.pr hr) (hc.cl hr) hr
   rw [e1]
   refine ⟨S', H', cval_ok' fn_70 rfl ?_, a2, a3, a4⟩
   rw [hz, hk] at hck
   rw [hk] at hpt
   simp -implicitDefEqProofs [z57, pstep, i1, i2, i3, hpt, hck, part1, hk, a1]
   rfl
  ·have e1 : doA r (abs H.ser) = doRows r.rows (abs H.ser) := by simp [doA, hz, hk]
   obtain ⟨S', H', a1, a2, a3, a4⟩ := rows_val13 h hc.o2 hc.rl hc.ra hr
   rw [e1]
   refine ⟨S', H', cval_ok' fn_70 rfl ?_, a2, a3, a4⟩
   rw [hz, hk] at hck
   rw [hk] at hpt
   simp -implicitDefEqProofs [z57, pstep, i1, i2, i3, hpt, hck, part1, hk, a1]
   rfl
  ·have e1 : doA r (abs H.ser) = doRem r (abs H.ser) := by simp [doA, hz, hk]
   obtain ⟨S', H', a1, a2, a3, a4⟩ := remove_val h i1 i2 hc.i3 hr
   rw [e1]
   refine ⟨S', H', cval_ok' fn_70 rfl ?_, a2, a3, a4⟩
   rw [hk] at a1
   rw [hz, hk] at hck
   rw [hk] at hpt
   simp -implicitDefEqProofs [z57, pstep, i1, i2, i3, hpt, hck, part1, hk, a1]
   rfl
 ·have e1 : doA r (abs H.ser) = (abs H.ser, recN r) := by simp [doA, hz]
  rw [e1]
  refine ⟨S, H, cval_ok' fn_70 rfl ?_, h, Stp.refl, rfl⟩
  have hz' : ((recN r : Int) != 0) = true := by rw [bne_iff_ne]; omega
  simp -implicitDefEqProofs [z57, pstep, i1, i2, i3, hpt, hck, hz', hz]
  rfl

theorem smE_get {l : List (Int × Int)} {v : PV} (hv : Reads1 2 v (l.map smE)) {i : Nat} (hi : i < l.length) {k : IntKind} : iaddrP 2 v (.int k (i : Int)) = some (.ref [.int .i64 l[i].1, .int .i64 l[i].2]) := by
 have := hv.get i (by simpa using hi) k
 rw [this]; simp [smE, PV.cells]

theorem csame_val {l : List (Int × Int)} {v1 v2 : PV} (h1 : Reads1 2 v1 (l.map smE)) (h2 : Reads1 2 v2 (l.map smE)) (hl : l.length ≤ 1048576) (S : St) : cval T 177 [v1, v2] S = some (.bool true, S) := by
 have hl1 := h1.len
 have hl2 := h2.len
 rw [List.length_map] at hl1 hl2
 refine cval_ok' fn_177 rfl ?_
 simp -implicitDefEqProofs [z80, hl1, hl2]
 refine lp_up l.length (fun j fr S' => fr 0 = v1 ∧ fr 1 = v2 ∧ fr 5 = .int .i64 (j : Int) ∧ S' = S) ?_ ?_ 0 (Nat.zero_le _) _ _ ⟨by simp, by simp, by simp, rfl⟩
 ·rintro j fr S' hj ⟨f0, f1, f5, rfl⟩ k
  have hw := wrap_up hj (by unfold maxLen; omega : l.length ≤ maxLen)
  have hlt : (j : Int) < (l.length : Int) := by omega
  have g1 := smE_get h1 hj (k := .i64)
  have g2 := smE_get h2 hj (k := .i64)
  have hL := fun fr' => k fr' S'
  clear k
  rw [gval_lp]
  simp -implicitDefEqProofs [f0, f1, f5, hl1, hlt, hj, g1, g2, part2, eqCells]
  exact hL _ ⟨by simp [f0], by simp [f1], by simp [hw], rfl⟩
 ·rintro fr S' ⟨f0, f1, f5, rfl⟩
  rw [gval_lp]
  simp -implicitDefEqProofs [f0, f1, f5, hl1]

theorem new_val' (S : St) : cval T 68 [] S = some (.ptr (S.objs.length + 1) 0, ⟨S.objs ++ [[], [.nils, .map S.objs.length, .int .i64 0]], S.tips⟩) := by
 have hf : finish false S ⟨S.objs ++ [[], [.nils, .map S.objs.length, .int .i64 0]], S.tips⟩ (.ptr (S.objs.length + 1) 0) = (.ptr (S.objs.length + 1) 0, ⟨S.objs ++ [[], [.nils, .map S.objs.length, .int .i64 0]], S.tips⟩) := by
  have hs : sol (S.objs ++ [[], [.nils, .map S.objs.length, .int .i64 0]]) S.objs.length solFuel (.ptr (S.objs.length + 1) 0) = none := by
   have h1 : (S.objs ++ [[], [PV.nils, .map S.objs.length, .int .i64 0]])[S.objs.length + 1]? = some [PV.nils, .map S.objs.length, .int .i64 0] := by simp
   have hm : sol (S.objs ++ [[], [PV.nils, .map S.objs.length, .int .i64 0]]) S.objs.length 39 (.map S.objs.length) = none := by
    show sol _ _ (38 + 1) _ = none
    rw [sol]
    ·rfl
    all_goals simp
   have hn : sol (S.objs ++ [[], [PV.nils, .map S.objs.length, .int .i64 0]]) S.objs.length 39 .nils = some .nils := sol_id rfl
   show sol _ _ (39 + 1) _ = none
   rw [sol]
   simp only [PV.free, Bool.false_eq_true, if_false, h1, List.drop_zero, mapO, hn, hm]
   simp
  unfold finish
  simp only [Bool.false_eq_true, if_false]
  rw [hs]
 refine cval_ok' fn_68 rfl ?_
 simp -implicitDefEqProofs [z89, pstep, peval, fillParts, putCells, newObj]
 exact hf
theorem new_hok (S : St) : HOk ⟨S.objs ++ [[], [.nils, .map S.objs.length, .int .i64 0]], S.tips⟩ (S.objs.length + 1) ⟨.nils, S.objs.length, [], [], 0⟩ where
 obj := by simp
 ids := by simp [idsL]
 ser := .inl ⟨rfl, rfl⟩
 all := fun r hr => by cases hr
 dis := by simp [ownH, gl, gidV, gls]
 idk := rfl
 cnt := rfl
 szs := by simp
 tot := by simp [total]
end Ps
namespace Ps
set_option linter.unusedSimpArgs false
open Go
theorem lives_run : pcall T 3000 76 [] St0 = some (.bool true, St0) := by kernel_rfl
end Ps
namespace Ps
set_option linter.unusedSimpArgs false
set_option linter.unusedVariables false
open Go
theorem maxLen_ge {n : Nat} (h : n ≤ 1048576) : n ≤ maxLen := by unfold maxLen; omega
abbrev tyRow : Ty := .st (.pair (.int .i64) (.pair (.st (.pair (.int .i64) (.pair (.int .i64) .unit))) .unit))
abbrev tyRec : Ty := .st (.pair (.int .i64) (.pair (.sl tyLab) (.pair (.sl tyRow) (.pair (.sl (.int .i64)) (.pair (.int .i64) (.pair (.int .i64) .unit))))))

def inS {e : Ty} (x : (Ty.sl e).den) : List e.den := match x with | none => [] | some q => q.1
theorem inS_isl {e : Ty} (he : e.isTy = true) (x : (Ty.sl e).den) : IsSl e.n ((Ty.sl e).pv x) ((inS x).map e.pv) := by
 cases x with
 | none => exact .inl ⟨rfl, rfl⟩
 | some q =>
  obtain ⟨es, sp⟩ := q
  refine .inr ⟨none, sp.map e.pv, rfl, fun v hv => ?_⟩
  rcases List.mem_append.1 hv with hv | hv
  ·obtain ⟨y, _, rfl⟩ := List.mem_map.1 hv
   rw [pv_cells he, emb_len]
  ·obtain ⟨y, _, rfl⟩ := List.mem_map.1 hv
   rw [pv_cells he, emb_len]
theorem inS_len {e : Ty} (h : ∀ x : e.den, 1 ≤ e.bulk x) (x : (Ty.sl e).den) : (inS x).length ≤ (Ty.sl e).bulk x := by
 cases x with
 | none => exact Nat.zero_le _
 | some q =>
  obtain ⟨es, sp⟩ := q
  have := len_le_bulk e h es
  show es.length ≤ (es.map e.bulk).sum + (sp.map e.bulk).sum + 1
  omega
def inRow (x : tyRow.den) : RowM := (x.1, x.2.1.1, x.2.1.2.1)
def inR (x : tyRec.den) : RecM := ⟨x.1, inLW x.2.1, (inS x.2.2.1).map inRow, inS x.2.2.2.1, x.2.2.2.2.1, x.2.2.2.2.2.1⟩
theorem inR_rec {x : tyRec.den} (h : tyRec.wf x) (hb : tyRec.bulk x ≤ 1048576) : (∃ cs, tyRec.pv x = .agg cs ∧ RecC (inR x) cs) ∧ (inR x).labs.length ≤ 1048576 ∧ (inR x).rows.length ≤ 1048576 ∧ (inR x).ids.length ≤ 1048576 := by
 obtain ⟨k, l, rows, ids, lo, hi, u⟩ := x
 obtain ⟨_, wl, _⟩ := h
 have hb' : 1 + ((Ty.sl tyLab).bulk l + ((Ty.sl tyRow).bulk rows + ((Ty.sl (.int .i64)).bulk ids + (1 + (1 + 0))))) + 1 ≤ 1048576 := hb
 have b1 := inL_len l
 have b2 := inS_len (e := tyRow) (fun _ => Nat.succ_le_succ (Nat.zero_le _)) rows
 have b3 := inS_len (e := .int .i64) (fun _ => Nat.le_refl _) ids
 obtain ⟨_, wn⟩ := inL_wf wl
 have e1 : (inR (k, l, rows, ids, lo, hi, u)).labs.length = (inLW l).length := rfl
 have e2 : (inR (k, l, rows, ids, lo, hi, u)).rows.length = (inS rows).length := List.length_map ..
 have e3 : (inR (k, l, rows, ids, lo, hi, u)).ids.length = (inS ids).length := rfl
 refine ⟨⟨_, rfl, ⟨(Ty.sl tyLab).pv l, (Ty.sl tyRow).pv rows, (Ty.sl (.int .i64)).pv ids, ?_, ?_, ?_, ?_⟩, ?_⟩, by omega, by omega, by omega⟩
 ·have q : ∀ (e : Ty) (y : (Ty.sl e).den), (Ty.sl e).emb y = [(Ty.sl e).pv y] := fun e y => by cases y <;> rfl
  show [PV.int .i64 k] ++ ((Ty.sl tyLab).emb l ++ ((Ty.sl tyRow).emb rows ++ ((Ty.sl (.int .i64)).emb ids ++ ([PV.int .i64 lo] ++ ([PV.int .i64 hi] ++ []))))) = _
  rw [q, q, q]; rfl
 ·have := inS_isl (e := tyLab) rfl l
  have e : (inS l).map tyLab.pv = (inLW l).map labV := by cases l <;> rfl
  rw [e] at this; exact this
 ·have := inS_isl (e := tyRow) rfl rows
  have e : (inS rows).map tyRow.pv = ((inS rows).map inRow).map rowV := by
   rw [List.map_map]
   apply List.map_congr_left
   intro y _
   rfl
  rw [e] at this; exact this
 ·exact inS_isl (e := .int .i64) rfl ids
 ·refine ⟨maxLen_ge (by omega), maxLen_ge (by omega), maxLen_ge (by omega), fun y hy => (wn y hy).1⟩

theorem lives_pval : pval T 76 [] = some (.bool true) := pval_st (cval_of 3000 lives_run) rfl rfl
theorem sm_le_total {r : Sr} : ∀ {l : List Sr}, r ∈ l → r.sm.length ≤ total l
 | x :: l, h => by
  rw [total_cons]
  rcases List.mem_cons.1 h with rfl | h
  ·omega
  ·have := sm_le_total h; omega
end Ps
