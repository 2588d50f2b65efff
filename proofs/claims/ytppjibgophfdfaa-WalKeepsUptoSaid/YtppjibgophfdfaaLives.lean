/- The document's examples: run by the kernel. -/
import Derived.Test.YtppjibgophfdfaaFD
import Derived.Test.YtppjibgophfdfaaTie
namespace Ps
set_option linter.unusedSimpArgs false
open Go
theorem fn_144 : T.fn 144 = some (.code z67) := rfl
structure Lg (S : St) (lo o : Nat) (D : Dk) (n size : Nat) : Prop where
  obj : S.objs[lo]? = some [.ptr o 0, .str nLog, .int .i64 (n : Int), .int .i64 (size : Int)]
  ne : lo ≠ o
  own : ¬ OwnsO D lo
theorem Lg.fra {S S' : St} {lo o : Nat} {D D' : Dk} {n size : Nat} (h : Lg S lo o D n size) (f : Fra o S S' D D') : Lg S' lo o D' n size :=
  ⟨f.o.obj _ _ h.obj h.ne h.own, h.ne, f.o.own _ (List.getElem?_eq_some_iff.1 h.obj).1 h.ne h.own⟩
theorem wholeS_le {s : List UInt8} : ∀ (k i : Nat), i ≤ s.length → (wholeS s k i).2 ≤ s.length
  | 0, i, h => h
  | k + 1, i, h => by
    simp only [wholeS]
    split
    · exact h
    · rename_i x n hg
      split
      · exact h
      · exact wholeS_le k n (getF_lt hg).2.1
theorem open_new {S : St} {o K : Nat} {D : Dk} (h : At S o K D) (hK : K ≤ 900) (hf : Free D) (hl : D.live = []) :
    ∃ S' D' F lo v, cval T 144 [.ptr o 0, .str nLog] S = some (.tup [.ptr lo 0, v, .int .i64 0], S') ∧ At S' o (K + 5) D' ∧ Fra o S S' D D' ∧ Free D' ∧ D'.live = [(nLog, F)] ∧ D'.base = [(nLog, F)] ∧ D'.wait = [] ∧ D'.fb F = [] ∧ D'.fs F = 0 ∧ D'.room = D.room ∧ Lg S' lo o D' 0 0 ∧ S.objs.length ≤ lo := by
  obtain ⟨S1, hS1⟩ : ∃ S1 : St, S1 = ⟨S.objs ++ [[.ptr o 0], [.str nLog]], S.tips⟩ := ⟨_, rfl⟩
  obtain ⟨S2, hS2⟩ : ∃ S2 : St, S2 = ⟨S1.objs, S1.tips ++ [(2, 1)]⟩ := ⟨_, rfl⟩
  have hA1 : At S1 o K D := by have := h.grown [[.ptr o 0], [.str nLog]] []; rw [List.append_nil] at this; rw [hS1]; exact this
  have hA2 : At S2 o K D := by rw [hS2]; exact hA1.more _
  have hF2 : Fra o S S2 D D := by rw [hS2, hS1]; exact Fra.grow _ _
  have x0 : S2.objs[S.objs.length]? = some [.ptr o 0] := by rw [hS2, hS1]; simp
  have x1 : S2.objs[S.objs.length + 1]? = some [.str nLog] := by rw [hS2, hS1]; simp
  have hlt := h.lt
  have hno : ∀ j, j < 3 → S.objs.length + j ≠ o ∧ ¬ OwnsO D (S.objs.length + j) := by
    intro j hj
    refine ⟨by omega, ?_⟩
    rintro (q | q | q)
    · omega
    · omega
    · have := hlt.2.2.2 _ q; omega
  have hrd := dread_val hA1 (n := nLog) (by decide)
  have hre : readE D nLog = 9 := by
    have hlk : lk nLog D.live = none := by rw [hl]; rfl
    simp [readE, findE, named_log, hlk]
  have hrv : readV D nLog = .nils := by simp [readV, hre]
  rw [hre, hrv] at hrd
  obtain ⟨F, S3, D3, c3, a3, r3, f3, d3, nF, l3, b3, w3, e3, e3', o3, m3, mF⟩ := sum_create hA2 (by omega) hf named_log (by rw [hl]; rfl) (by rw [hl]; simp)
  have l3 : D3.live = [(nLog, F)] := by rw [l3, hl]; rfl
  obtain ⟨S4, D4, c4, a4, r4, f4, d4, l4, b4, w4, e4, e4', m4⟩ := sum_syncdir a3 (by omega) f3
  have r24 := r3.trans r4
  have dn : D4.done = D.done + 2 := by omega
  have hdd : dcells D ≠ dcells D4 := by
    intro e
    simp only [dcells, List.cons.injEq, PV.int.injEq, true_and] at e
    omega
  have fin2 : finish false S2 S4 (.int .i64 0) = (.int .i64 0, S4) := fin_diff hA2.obj a4.obj hdd (i := o) a4.obj hA2.lt.1 (dcells_free _)
  have run : EachRun [.fn 248 [.ptr S.objs.length 0, .ptr (S.objs.length + 1) 0], .bfn 79 [.ptr o 0]] S2 S4 := by
    refine .cons _ _ _ S3 _ (clo_open x0 x1 c3 (fin_done hA2 a3 d3)) (.cons _ _ _ S4 _ ?_ (.nil _))
    simp only [callvP_bfn, aCall_std]
    exact c4
  obtain ⟨fv, hfv⟩ : ∃ fv : PV, fv = .sl (some (S.tips.length, 2)) [.fn 248 [.ptr S.objs.length 0, .ptr (S.objs.length + 1) 0], .bfn 79 [.ptr o 0]] [] := ⟨_, rfl⟩
  have heach := each_val (v := fv) (by rw [hfv]; exact reads_sl (fun e he => by simp at he; rcases he with rfl | rfl <;> rfl)) (fun e he => by simp at he; rcases he with rfl | rfl <;> rfl) (by simp) run fin2
  have y0 : S4.objs[S.objs.length]? = some [.ptr o 0] := r24.o.obj _ _ x0 (hno 0 (by omega)).1 (hno 0 (by omega)).2
  have y1 : S4.objs[S.objs.length + 1]? = some [.str nLog] := r24.o.obj _ _ x1 (hno 1 (by omega)).1 (hno 1 (by omega)).2
  obtain ⟨v, es, S4', g1, g2, g3⟩ := whole_val (s := []) (bv := .nils) (.inl ⟨rfl, rfl⟩) (by simp) S4
  have g1 : cval T 249 [.nils] S4 = some (.tup [v, .int .i64 0], S4') := g1
  have g3 : RecsF es [] := g3
  have hes : es = [] := by cases es with | nil => rfl | cons a l => cases g3
  have hvl := g2.len
  rw [hes] at hvl
  have a4' := a4.grows g2.grows
  have hF4' : Fra o S4 S4' D4 D4 := Fra.grows g2.grows
  have hvl : lenP false v = some (.int .i64 0) := hvl
  obtain ⟨S5, hS5⟩ : ∃ S5 : St, S5 = ⟨S4'.objs ++ [[.ptr o 0, .str nLog, .int .i64 0, .int .i64 0]], S4'.tips⟩ := ⟨_, rfl⟩
  have hA5 : At S5 o (K + 3) D4 := by have := a4'.grown [[.ptr o 0, .str nLog, .int .i64 0, .int .i64 0]] []; rw [List.append_nil] at this; rw [hS5]; exact this.mono (by omega)
  have hF5 : Fra o S4' S5 D4 D4 := by have := Fra.grow (o := o) (S := S4') (D := D4) [[.ptr o 0, .str nLog, .int .i64 0, .int .i64 0]] []; rw [List.append_nil] at this; rw [hS5]; exact this
  have hlo : S5.objs[S4'.objs.length]? = some [.ptr o 0, .str nLog, .int .i64 0, .int .i64 0] := by rw [hS5]; simp
  have y0' := (hF4'.o.obj _ _ y0 (hno 0 (by omega)).1 (r24.o.own _ (List.getElem?_eq_some_iff.1 x0).1 (hno 0 (by omega)).1 (hno 0 (by omega)).2))
  have y1' := (hF4'.o.obj _ _ y1 (hno 1 (by omega)).1 (r24.o.own _ (List.getElem?_eq_some_iff.1 x1).1 (hno 1 (by omega)).1 (hno 1 (by omega)).2))
  have hle : S.objs.length ≤ S4'.objs.length := by have := (List.getElem?_eq_some_iff.1 y0').1; omega
  have fin5 : finish true S S5 (.tup [.ptr S4'.objs.length 0, v, .int .i64 0]) = (.tup [.ptr S4'.objs.length 0, v, .int .i64 0], S5) := rfl
  refine ⟨S5, D4, F, S4'.objs.length, v, cval_ok' fn_144 rfl ?_, hA5.mono (by omega), ((hF2.trans r24).trans hF4').trans hF5, f4, by rw [l4, l3], by rw [b4, l3], w4, by rw [e4, e3], by rw [e4', e3'], by rw [m4, m3], ⟨hlo, by have := a4'.lt.1; omega, ?_⟩, hle⟩
  · have hb0 : S1.objs[S.objs.length]? = some [.ptr o 0] := by rw [hS1]; simp
    have hb1 : S1.objs[S.objs.length + 1]? = some [.str nLog] := by rw [hS1]; simp
    have hS1' : St.mk (S.objs ++ [[.ptr o 0], [.str nLog]]) S.tips = S1 := hS1.symm
    have hS2' : St.mk S1.objs (S.tips ++ [(2, 1)]) = S2 := by rw [hS2, hS1]
    have hlen1 : S1.tips = S.tips := by rw [hS1]
    have hcmp : (nLog == [116, 109, 112]) = false := by decide
    have hn0 : lenP false .nils = some (.int .i64 0) := rfl
    simp -implicitDefEqProofs [z67, peval, pstep, newObj, hS1', loadP_ptr hb0, loadP_ptr hb1, q1, hcmp, hrd, elems, setParts, newArr, hlen1, ← hfv, hS2', heach, g1]
    simp -implicitDefEqProofs [z67, peval, fillParts, putCells, pstep, newObj, loadP_ptr y0', loadP_ptr y1', q1, hvl, hn0, ← hS5, fin5]
  · rintro (q | q | q)
    · have := a4'.lt.2.1; omega
    · have := a4'.lt.2.2.1; omega
    · have := a4'.lt.2.2.2 _ q; omega
end Ps
namespace Ps
set_option linter.unusedSimpArgs false
open Go
abbrev whL (s : List UInt8) : List RecM × Nat := wholeS s (s.length + 1) 0
theorem open_old {S : St} {o K : Nat} {D : Dk} (h : At S o K D) (hK : K ≤ 900) (hf : Free D) {f : Nat} (hl : D.live = [(nLog, f)]) (hbs : D.base = [(nLog, f)]) (hwt : D.wait = []) (hs : (D.fb f).length ≤ 900000) (hroom : 2 * ((D.fb f).length : Int) ≤ D.room) :
    ∃ S' D' F lo v es, cval T 144 [.ptr o 0, .str nLog] S = some (.tup [.ptr lo 0, v, .int .i64 0], S') ∧ AccZ 6 S' D' v es ∧ RecsF es (whL (D.fb f)).1 ∧ v.cells = [v] ∧ v.one = true ∧ At S' o (K + 15) D' ∧ Fra o S S' D D' ∧ Free D' ∧ D'.live = [(nLog, F)] ∧ D'.base = [(nLog, F)] ∧ D'.wait = [] ∧
      D'.fb F = (D.fb f).take (whL (D.fb f)).2 ∧ (D'.fs F = (whL (D.fb f)).2 ∨ ((whL (D.fb f)).2 = (D.fb f).length ∧ D'.fs F = D.fs f)) ∧ D'.room = D.room ∧ Lg S' lo o D' (whL (D.fb f)).1.length (whL (D.fb f)).2 ∧ S.objs.length ≤ lo := by
  obtain ⟨S1, hS1⟩ : ∃ S1 : St, S1 = ⟨S.objs ++ [[.ptr o 0], [.str nLog]], S.tips⟩ := ⟨_, rfl⟩
  have hA1 : At S1 o K D := by have := h.grown [[.ptr o 0], [.str nLog]] []; rw [List.append_nil] at this; rw [hS1]; exact this
  have hF1 : Fra o S S1 D D := by have := Fra.grow (o := o) (S := S) (D := D) [[.ptr o 0], [.str nLog]] []; rw [List.append_nil] at this; rw [hS1]; exact this
  have hlt := h.lt
  have hno : ∀ j, j < 3 → S.objs.length + j ≠ o ∧ ¬ OwnsO D (S.objs.length + j) := by
    intro j hj
    refine ⟨by omega, ?_⟩
    rintro (q | q | q)
    · omega
    · omega
    · have := hlt.2.2.2 _ q; omega
  have hb0 : S1.objs[S.objs.length]? = some [.ptr o 0] := by rw [hS1]; simp
  have hb1 : S1.objs[S.objs.length + 1]? = some [.str nLog] := by rw [hS1]; simp
  have hS1' : St.mk (S.objs ++ [[.ptr o 0], [.str nLog]]) S.tips = S1 := hS1.symm
  have hcmp : (nLog == [116, 109, 112]) = false := by decide
  have hrd := dread_val hA1 (n := nLog) (by decide)
  obtain ⟨r1, r2, r3⟩ := read_at hA1 named_log (f := f) (by rw [hl]; rfl) hf.2
  rw [r1] at hrd
  obtain ⟨rv, hrv⟩ : ∃ rv, rv = readV D nLog := ⟨_, rfl⟩
  rw [← hrv] at hrd r3
  obtain ⟨s, hsd⟩ : ∃ s, s = D.fb f := ⟨_, rfl⟩
  rw [← hsd] at r3 hs hroom ⊢
  obtain ⟨v, es, Sw, g1, g2, g3⟩ := whole_val r3 hs S1
  have hAw := hA1.grows g2.grows
  have hFw : Fra o S1 Sw D D := Fra.grows g2.grows
  have z0 := hFw.o.obj _ _ hb0 (hno 0 (by omega)).1 (hno 0 (by omega)).2
  have z1 := hFw.o.obj _ _ hb1 (hno 1 (by omega)).1 (hno 1 (by omega)).2
  have hac := AccZ.of hA1 g2 g3.cells
  obtain ⟨W, hW⟩ : ∃ W, W = whL s := ⟨_, rfl⟩
  have hWe : wholeS s (s.length + 1) 0 = W := hW.symm
  rw [hWe] at g1 g3
  rw [show whL s = W from hWe]
  have hWle : W.2 ≤ s.length := by rw [hW]; exact wholeS_le _ _ (Nat.zero_le _)
  have hvl := g2.len
  rw [g3.len] at hvl
  have hrl := r3.len
  rw [ofBytes_len] at hrl
  have hv1 : v.cells = [v] ∧ v.one = true := by
    rcases hac.acc with ⟨rfl, _⟩ | ⟨_, rfl, _⟩ <;> exact ⟨rfl, rfl⟩
  have log : ∀ (S2 : St) (D2 : Dk) (F : Nat), At S2 o (K + 10) D2 → Fra o Sw S2 D D2 → Lg ⟨S2.objs ++ [[.ptr o 0, .str nLog, .int .i64 (W.1.length : Int), .int .i64 (W.2 : Int)]], S2.tips⟩ S2.objs.length o D2 W.1.length W.2 ∧ S.objs.length ≤ S2.objs.length := by
    intro S2 D2 F a2 r
    have y0 := r.o.obj _ _ z0 (hno 0 (by omega)).1 (hno 0 (by omega)).2
    refine ⟨⟨by simp, by have := a2.lt.1; omega, ?_⟩, by have := (List.getElem?_eq_some_iff.1 y0).1; omega⟩
    rintro (q | q | q)
    · have := a2.lt.2.1; omega
    · have := a2.lt.2.2.1; omega
    · have := a2.lt.2.2.2 _ q; omega
  have grown : ∀ (S2 : St) (D2 : Dk) (x : List PV), At S2 o (K + 10) D2 → At ⟨S2.objs ++ [x], S2.tips⟩ o (K + 15) D2 ∧ Fra o S2 ⟨S2.objs ++ [x], S2.tips⟩ D2 D2 := by
    intro S2 D2 x a2
    have q1 := a2.grown [x] []
    have q2 := Fra.grow (o := o) (S := S2) (D := D2) [x] []
    rw [List.append_nil] at q1 q2
    exact ⟨q1.mono (by omega), q2⟩
  by_cases hlt2 : W.2 < s.length
  · -- anew
    have hlt2' : (W.2 : Int) < (s.length : Int) := by omega
    obtain ⟨bv, e1, e2⟩ := r3.hi (hi := W.2) (j := .i64) (by rw [ofBytes_len]; exact hWle)
    rw [ofBytes_take] at e2
    have hbv : bv.cells = [bv] ∧ bv.one = true := by
      rcases e2 with ⟨rfl, _⟩ | ⟨_, _, rfl, _⟩ <;> exact ⟨rfl, rfl⟩
    obtain ⟨S2, D2, F, c2, a2, q2, f2, l2, b2, w2, x2, y2, m2, d2⟩ := anew_val hAw (by omega) hf hl e2 hbv.1 hbv.2 (by rw [← hsd, List.length_take]; omega)
    obtain ⟨lg, hle⟩ := log S2 D2 F a2 q2
    obtain ⟨a3, q3⟩ := grown S2 D2 [.ptr o 0, .str nLog, .int .i64 (W.1.length : Int), .int .i64 (W.2 : Int)] a2
    obtain ⟨S3, hS3⟩ : ∃ S3 : St, S3 = ⟨S2.objs ++ [[.ptr o 0, .str nLog, .int .i64 (W.1.length : Int), .int .i64 (W.2 : Int)]], S2.tips⟩ := ⟨_, rfl⟩
    rw [← hS3] at a3 q3 lg
    have y0 := q2.o.obj _ _ z0 (hno 0 (by omega)).1 (hno 0 (by omega)).2
    have y1 := q2.o.obj _ _ z1 (hno 1 (by omega)).1 (hno 1 (by omega)).2
    have fin3 : finish true S S3 (.tup [.ptr S2.objs.length 0, v, .int .i64 0]) = (.tup [.ptr S2.objs.length 0, v, .int .i64 0], S3) := rfl
    refine ⟨S3, D2, F, S2.objs.length, v, es, cval_ok' fn_144 rfl ?_, (hac.fra q2.t).fra q3.t, g3, hv1.1, hv1.2, a3, ((hF1.trans hFw).trans q2).trans q3, f2, l2, b2, w2, x2, .inl ?_, m2, lg, hle⟩
    · simp -implicitDefEqProofs [z67, peval, pstep, newObj, hS1', loadP_ptr hb0, loadP_ptr hb1, q1, hcmp, hrd, g1, hrl, hlt2', hlt2, e1, loadP_ptr z0, loadP_ptr z1, c2]
      simp -implicitDefEqProofs [z67, peval, fillParts, putCells, pstep, newObj, loadP_ptr y0, loadP_ptr y1, q1, hvl, ← hS3, fin3]
    · rw [y2, List.length_take]; omega
  · have hlt2' : ¬ (W.2 : Int) < (s.length : Int) := by omega
    obtain ⟨lg, hle⟩ := log Sw D f (hAw.mono (by omega)) (Fra.refl o Sw D)
    obtain ⟨a3, q3⟩ := grown Sw D [.ptr o 0, .str nLog, .int .i64 (W.1.length : Int), .int .i64 (W.2 : Int)] (hAw.mono (by omega))
    obtain ⟨S3, hS3⟩ : ∃ S3 : St, S3 = ⟨Sw.objs ++ [[.ptr o 0, .str nLog, .int .i64 (W.1.length : Int), .int .i64 (W.2 : Int)]], Sw.tips⟩ := ⟨_, rfl⟩
    rw [← hS3] at a3 q3 lg
    have fin3 : finish true S S3 (.tup [.ptr Sw.objs.length 0, v, .int .i64 0]) = (.tup [.ptr Sw.objs.length 0, v, .int .i64 0], S3) := rfl
    refine ⟨S3, D, f, Sw.objs.length, v, es, cval_ok' fn_144 rfl ?_, hac.fra q3.t, g3, hv1.1, hv1.2, a3, (hF1.trans hFw).trans q3, hf, hl, hbs, hwt, ?_, .inr ⟨by omega, rfl⟩, rfl, lg, hle⟩
    · simp -implicitDefEqProofs [z67, peval, pstep, newObj, hS1', loadP_ptr hb0, loadP_ptr hb1, q1, hcmp, hrd, g1, hrl, hlt2', hlt2]
      simp -implicitDefEqProofs [z67, peval, fillParts, putCells, pstep, newObj, loadP_ptr z0, loadP_ptr z1, q1, hvl, ← hS3, fin3]
    · rw [← hsd, List.take_of_length_le (by omega)]
end Ps
namespace Ps
set_option linter.unusedSimpArgs false
open Go
theorem lives_run : pcall T 3000 57 [] St0 = some (.bool true, St0) := by kernel_rfl
end Ps
