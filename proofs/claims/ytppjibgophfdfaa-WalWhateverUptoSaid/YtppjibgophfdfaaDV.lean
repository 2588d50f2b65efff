/- The disk, for other seats: what is used of it besides. -/
import Derived.Test.YtppjibgophfdfaaDH
namespace Ps
set_option linter.unusedSimpArgs false
set_option linter.unusedVariables false
open Go
theorem fin_nil1 {S : St} : finish false S S (.tup [.nilp, .int .i64 1]) = (.tup [.nilp, .int .i64 1], S) := by rw [fin_same]; rfl
theorem find_nil {S : St} {n : Nm} : cval T 194 [.nilp, .str n] S = some (.tup [.nilp, .int .i64 1], S) := by
  refine cval_ok' fn_194 rfl ?_
  simp -implicitDefEqProofs [disk_Disk_find, fin_nil1]
theorem append_nil {S : St} {n : Nm} {bv : PV} : cval T 78 [.nilp, .str n, bv] S = some (.int .i64 1, S) := by
  refine cval_ok' fn_78 rfl ?_
  simp -implicitDefEqProofs [disk_Disk_Append, find_nil, fin_int]
theorem fn_16 : T.fn 16 = some (.code disk_New) := rfl
def newD (r : Int) (L : Nat) : Dk := ⟨r, -1, 0, false, L, L + 1, [], [], [], .nils, [], fun _ => [], fun _ => 0, fun _ => .nils⟩

theorem new_at {S : St} {r : Int} (h1 : 1 ≤ r) (h2 : r ≤ 4194304) :
    At ⟨S.objs ++ [[], [], dcells (newD r S.objs.length)], S.tips⟩ (S.objs.length + 2) 0 (newD r S.objs.length) where
  obj := by simp [List.getElem?_append]
  base := by simp [List.getElem?_append, newD, mcells]
  live := by simp [List.getElem?_append, newD, mcells]
  wv := .inl ⟨rfl, rfl⟩
  file := fun f hf => by cases hf
  inb := fun p hp => by cases hp
  inw := fun p hp => by cases hp
  nd := ⟨by simp only [newD]; omega, by simp only [newD]; omega, by simp only [newD]; omega, fun f hf => by cases hf⟩
  tw := fun f hf => by cases hf
  tf := fun f hf => by cases hf
  hist := .nil _
  nb := fun p hp => by cases hp
  nw := fun p hp => by cases hp
  rm := ⟨h1, h2⟩
  cnt := by simp [newD]
  dn := ⟨Int.le_refl _, Int.le_refl _⟩
  lf := ⟨by simp [newD], by simp [newD]⟩

theorem new_ok {S : St} {r : Int} (h1 : 1 ≤ r) (h2 : r ≤ 4194304) : cval T 16 [.int .i64 r] S = some (.tup [.ptr (S.objs.length + 2) 0, .int .i64 0], ⟨S.objs ++ [[], [], dcells (newD r S.objs.length)], S.tips⟩) := by
  refine cval_ok' fn_16 rfl ?_
  have a1 : ¬ r < 1 := by omega
  have a2 : ¬ 4194304 < r := by omega
  simp -implicitDefEqProofs [disk_New, a1, a2, pstep, peval, fillParts, putCells, newObj]
  obtain ⟨S1, hS1⟩ : ∃ S1 : St, S1 = ⟨S.objs ++ [[], [], dcells (newD r S.objs.length)], S.tips⟩ := ⟨_, rfl⟩
  have ho : S1.objs[S.objs.length + 2]? = some (dcells (newD r S.objs.length)) := by rw [hS1]; simp [List.getElem?_append]
  have hs : sol S1.objs S.objs.length solFuel (.tup [.ptr (S.objs.length + 2) 0, .int .i64 0]) = none := by
    have b1 : sol S1.objs S.objs.length 38 (.map S.objs.length) = none := rfl
    have b0 : sol S1.objs S.objs.length 38 (.int .i64 r) = some (.int .i64 r) := rfl
    have b2 : sol S1.objs S.objs.length 39 (.ptr (S.objs.length + 2) 0) = none := by
      rw [sol]
      have hle : S.objs.length ≤ S.objs.length + 2 := by omega
      simp only [PV.free, Bool.false_eq_true, if_false, hle, if_true, ho]
      simp [dcells, newD, mapO, b0, b1]
    show sol S1.objs S.objs.length (39 + 1) (.tup [.ptr (S.objs.length + 2) 0, .int .i64 0]) = none
    rw [sol]
    simp only [PV.free, PV.freeL, Bool.false_and, Bool.false_eq_true, if_false]
    simp only [mapO, b2]
  have hf : finish false S S1 (.tup [.ptr (S.objs.length + 2) 0, .int .i64 0]) = (.tup [.ptr (S.objs.length + 2) 0, .int .i64 0], S1) := by
    unfold finish
    simp only [Bool.false_eq_true, if_false, hs]
  rw [hS1] at hf
  exact hf
end Ps
namespace Ps
set_option linter.unusedSimpArgs false
set_option linter.unusedVariables false
open Go
structure Fl (S : St) (D : Dk) : Prop where
  file : ∀ f ∈ D.fl, S.objs[f]? = some [D.fv f, .int .i64 (D.fs f)] ∧ SlT S 1 (D.fv f) (ofBytes (D.fb f)) ∧ D.fs f ≤ (D.fb f).length ∧ ((D.fb f).length : Int) ≤ D.room
  tf : ∀ f ∈ D.fl, ∀ g ∈ D.fl, f ≠ g → ∀ k, tid (D.fv f) = some k → tid (D.fv g) ≠ some k

theorem slc3_nils {S : St} {sz : Nat} : slc3P S sz none (.int .i64 (0 : Nat)) (.int .i64 (0 : Nat)) .nils = some (.nils, S) := rfl
theorem slc3_sl {S : St} {sz : Nat} {tip : Nat × Nat} {es : List PV} {k : Nat} (hz : szOk sz es = true) (hs : 0 < sz) (hk : k ≤ es.length) :
    slc3P S sz none (.int .i64 (k : Int)) (.int .i64 (k : Int)) (.sl (some tip) es []) = some (.sl (some (S.tips.length, k)) (es.take k) [], ⟨S.objs, S.tips ++ [(k, sz)]⟩) := by
  have h1 : (0 : Int) ≤ k ∧ (k : Int) ≤ ((es.length : Nat) : Int) := by omega
  simp [slc3P, hz, hs, bound, loOf, hk]

theorem Fl.cut {S : St} {D : Dk} (h : Fl S D) {f : Nat} (hf : f ∈ D.fl) {k : Nat} (hk : k ≤ (D.fb f).length) :
    ∃ v' tips', slc3P S 1 none (.int .i64 (k : Int)) (.int .i64 (k : Int)) (D.fv f) = some (v', ⟨S.objs, tips'⟩) ∧ v'.cells = [v'] ∧ v'.one = true ∧ Fl ⟨S.objs.set f [v', .int .i64 (k : Int)], tips'⟩ (setF D f v' ((D.fb f).take k) k) ∧
      S.tips.length ≤ tips'.length ∧ (∀ i, i < S.tips.length → tips'[i]? = S.tips[i]?) ∧ (∀ j, tid v' = some j → S.tips.length ≤ j) := by
  obtain ⟨ho, hsl, hs, hr⟩ := h.file f hf
  have key : ∀ (v' : PV) (tips' : List (Nat × Nat)), SlT ⟨[], tips'⟩ 1 v' (ofBytes ((D.fb f).take k)) → (∀ i, i < S.tips.length → tips'[i]? = S.tips[i]?) → (∀ j, tid v' = some j → S.tips.length ≤ j) → Fl ⟨S.objs.set f [v', .int .i64 (k : Int)], tips'⟩ (setF D f v' ((D.fb f).take k) k) := by
    intro v' tips' hw ht hj
    refine ⟨fun g hg => ?_, fun g hg i hi hgi j hgj => ?_⟩
    · by_cases e : g = f
      · subst e
        simp only [setF, if_true]
        refine ⟨get_set ho, hw.of (fun _ _ => rfl), by rw [List.length_take]; omega, ?_⟩
        rw [List.length_take]; omega
      · simp only [setF, if_neg e]
        obtain ⟨g1, g2, g3⟩ := h.file g hg
        exact ⟨by rw [List.getElem?_set_ne (Ne.symm e)]; exact g1, g2.of (fun j hj' => ht j (g2.tip hj')), g3⟩
    · by_cases e : g = f
      · subst e
        simp only [setF, if_true] at hgj
        simp only [setF, if_neg (Ne.symm hgi)]
        intro hq
        have := (h.file i hi).2.1.tip hq
        have := hj j hgj
        omega
      · simp only [setF, if_neg e] at hgj
        by_cases e2 : i = f
        · subst e2
          simp only [setF, if_true]
          intro hq
          have := (h.file g hg).2.1.tip hgj
          have := hj j hq
          omega
        · simp only [setF, if_neg e2]; exact h.tf g hg i hi hgi j hgj
  rcases hsl with ⟨hv, hn⟩ | ⟨i, e, hv, ht⟩
  · have hb : D.fb f = [] := by simpa [ofBytes] using hn
    have hk0 : k = 0 := by rw [hb] at hk; simpa using hk
    subst hk0
    refine ⟨.nils, S.tips, by rw [hv]; exact slc3_nils, rfl, rfl, key _ _ (.inl ⟨rfl, by simp [ofBytes]⟩) (fun _ _ => rfl) (fun j hj => by simp [tid] at hj), Nat.le_refl _, fun _ _ => rfl, fun j hj => by simp [tid] at hj⟩
  · have hl : (ofBytes (D.fb f)).length = (D.fb f).length := by simp [ofBytes]
    have h1 : ∀ i, i < S.tips.length → (S.tips ++ [(k, 1)])[i]? = S.tips[i]? := fun i hi => List.getElem?_append_left hi
    have h2 : ∀ j, tid (.sl (some (S.tips.length, k)) ((ofBytes (D.fb f)).take k) []) = some j → S.tips.length ≤ j := fun j hj => by simp only [tid, Option.some.injEq] at hj; omega
    refine ⟨_, _, by rw [hv]; exact slc3_sl (oB_cells _) (by omega) (by omega), rfl, rfl, key _ _ (.inr ⟨S.tips.length, k, by simp [ofBytes, List.map_take], by simp⟩) h1 h2, by simp, h1, h2⟩
end Ps
namespace Ps
set_option linter.unusedSimpArgs false
set_option linter.unusedVariables false
open Go

end Ps
namespace Ps
set_option linter.unusedSimpArgs false
set_option linter.unusedVariables false
open Go
theorem lt_nf {S : St} {o K : Nat} {D : Dk} (h : At S o K D) : S.objs.length ∉ D.fl := fun hf => by have := h.lt.2.2.2 _ hf; omega
theorem IsSl.hi {sz : Nat} {v : PV} {es : List PV} (h : IsSl sz v es) {hi : Nat} {j : IntKind} (hh : hi ≤ es.length) : ∃ v', slcP sz none (some (.int j (hi : Int))) v = some v' ∧ IsSl sz v' (es.take hi) := by
  rcases h with ⟨rfl, rfl⟩ | ⟨tip, sp, rfl, h⟩
  · refine ⟨.nils, ?_, .inl ⟨rfl, by simp⟩⟩
    have : hi = 0 := by simpa using hh
    subst this
    rw [slcP_nils, bounds_hi (by omega)]
  · refine ⟨.sl (if hi = es.length then tip else none) (((es ++ sp).take hi).drop 0) ((es ++ sp).drop hi), ?_, .inr ⟨if hi = es.length then tip else none, (es ++ sp).drop hi, ?_, ?_⟩⟩
    · rw [slcP_sl, szOk_of h, bounds_hi (by omega)]; rfl
    · rw [List.take_append_of_le_length hh, List.drop_zero]
    · intro e he
      refine h e ?_
      rcases List.mem_append.1 he with he | he
      · exact List.mem_append_left _ (List.mem_of_mem_take he)
      · exact List.mem_of_mem_drop he
theorem ofBytes_one : ∀ {s : List UInt8} {e : PV}, e ∈ ofBytes s → e.cells.length = 1 := by
  intro s e he
  simp only [ofBytes, List.mem_map] at he
  obtain ⟨_, _, rfl⟩ := he; rfl
theorem cloneV_isl {S : St} {v : PV} {b : List UInt8} (h : SlT S 1 v (ofBytes b)) : IsSl 1 (cloneV v b) (ofBytes b) := by
  rcases h with ⟨rfl, hn⟩ | ⟨k, e, rfl, _⟩
  · exact .inl ⟨rfl, hn⟩
  · exact .inr ⟨none, [], rfl, fun e he => ofBytes_one (s := b) (by simpa using he)⟩
theorem At.owns {S : St} {o K : Nat} {D : Dk} (h : At S o K D) {k : Nat} (hk : Owns D k) : k < S.tips.length := by
  rcases hk with hk | ⟨f, hf, hk⟩
  · exact h.wv.tip hk
  · exact (h.file f hf).2.1.tip hk
theorem At.tips {S : St} {o K : Nat} {D : Dk} (h : At S o K D) {tips' : List (Nat × Nat)} (ht : ∀ k, Owns D k → tips'[k]? = S.tips[k]?) : At ⟨S.objs, tips'⟩ o K D where
  obj := h.obj
  base := h.base
  live := h.live
  wv := h.wv.of fun k hk => ht k (.inl hk)
  file := fun f hf => by
    obtain ⟨h1, h2, h3⟩ := h.file f hf
    exact ⟨h1, h2.of (fun k hk => ht k (.inr ⟨f, hf, hk⟩)), h3⟩
  inb := h.inb
  inw := h.inw
  nd := h.nd
  tw := h.tw
  tf := h.tf
  hist := h.hist
  nb := h.nb
  nw := h.nw
  rm := h.rm
  cnt := h.cnt
  dn := h.dn
  lf := h.lf
theorem At.more {S : St} {o K : Nat} {D : Dk} (h : At S o K D) (x : List (Nat × Nat)) : At ⟨S.objs, S.tips ++ x⟩ o K D := h.tips fun k hk => List.getElem?_append_left (h.owns hk)
theorem sol_at {S : St} {o K n : Nat} {D : Dk} (h : At S o K D) (hn : n ≤ o) (k : Nat) : sol S.objs n (k + 2) (.ptr o 0) = none := by
  have ho := h.obj
  rw [sol]
  simp only [PV.free, Bool.false_eq_true, if_false, hn, if_true, ho]
  have b1 : sol S.objs n (k + 1) (.map D.bi) = none := rfl
  have b0 : sol S.objs n (k + 1) (.int .i64 D.room) = some (.int .i64 D.room) := rfl
  simp [dcells, mapO, b0, b1]
def Free (D : Dk) : Prop := D.left = -1 ∧ D.dark = false
theorem Free.step {D : Dk} (h : Free D) : stepR D = 0 ∧ Free (stepD D) := by
  obtain ⟨h1, h2⟩ := h
  have hs : stepR D = 0 := by simp [stepR, h1, h2]
  refine ⟨hs, ?_⟩
  rw [stepD_ok hs]
  exact ⟨by simp [h1], h2⟩
theorem read_at {S : St} {o K : Nat} {D : Dk} (h : At S o K D) {n : Nm} (hn : namedB n = true) {f : Nat} (hf : lk n D.live = some f) (hd : D.dark = false) : readE D n = 0 ∧ readV D n = cloneV (D.fv f) (D.fb f) ∧ IsSl 1 (readV D n) (ofBytes (D.fb f)) := by
  have h0 : findE D n = 0 := by simp [findE, hn, hf]
  have h1 : readE D n = 0 := by simp [readE, h0, hd]
  have h2 : readV D n = cloneV (D.fv f) (D.fb f) := by simp [readV, h1, hf]
  exact ⟨h1, h2, by rw [h2]; exact cloneV_isl (h.file f (h.inl _ (lk_mem hf))).2.1⟩
theorem sum_create {S : St} {o K : Nat} {D : Dk} (h : At S o K D) (hK : K ≤ 1000) (hf : Free D) {n : Nm} (hn : namedB n = true) (hl : lk n D.live = none) (h64 : D.live.length < 64) :
    ∃ F S' D', cval T 77 [.ptr o 0, .str n] S = some (.int .i64 0, S') ∧ At S' o (K + 2) D' ∧ Fra o S S' D D' ∧ Free D' ∧ D'.done = D.done + 1 ∧ F ∉ D.fl ∧ D'.live = put n F D.live ∧ D'.base = D.base ∧ D'.wait = D.wait ++ [([], n, some F)] ∧ D'.fb F = [] ∧ D'.fs F = 0 ∧
      (∀ g, g ≠ F → D'.fb g = D.fb g ∧ D'.fs g = D.fs g) ∧ D'.room = D.room ∧ F ∈ D'.fl := by
  have he : createE D n = 0 := by
    have : findE D n = 9 := by simp [findE, hn, hl]
    simp [createE, this]; omega
  obtain ⟨wv', S', hc, hA, hR⟩ := create_ok h (Nat.le_trans (named_len hn) (by decide)) (by omega) he hf.step.1
  obtain ⟨s1, s2, s3, s4, s5, s6, s7, s8, s9, s10, s11⟩ := stepD_fields (addF D S.objs.length)
  refine ⟨S.objs.length, S', _, hc, hA, hR, (Free.step (D := addF D S.objs.length) hf).2, by simp only; rw [stepD_ok (Free.step (D := addF D S.objs.length) hf).1]; rfl, lt_nf h, rfl, s3, rfl, ?_, ?_, fun g hg => ⟨?_, ?_⟩, s11, ?_⟩
  · show (stepD (addF D S.objs.length)).fb S.objs.length = []
    rw [s8]; simp [addF]
  · show (stepD (addF D S.objs.length)).fs S.objs.length = 0
    rw [s9]; simp [addF]
  · show (stepD (addF D S.objs.length)).fb g = _
    rw [s8]; simp [addF, hg]
  · show (stepD (addF D S.objs.length)).fs g = _
    rw [s9]; simp [addF, hg]
  · show _ ∈ (stepD (addF D S.objs.length)).fl
    rw [s7]; simp [addF]
theorem sum_append {S : St} {o K : Nat} {D : Dk} (h : At S o K D) (hK : K ≤ 1000) (hf : Free D) {n : Nm} (hn : namedB n = true) {f : Nat} (hl : lk n D.live = some f) {bv : PV} {b : List UInt8} (hb : IsSl 1 bv (ofBytes b)) (hr : (b.length : Int) ≤ D.room - sumB D D.live) :
    ∃ S' D', cval T 78 [.ptr o 0, .str n, bv] S = some (.int .i64 0, S') ∧ At S' o (K + 1) D' ∧ Fra o S S' D D' ∧ Free D' ∧ D'.done = D.done + 1 ∧ D'.live = D.live ∧ D'.base = D.base ∧ D'.wait = D.wait ∧ D'.fb f = D.fb f ++ b ∧ D'.fs f = D.fs f ∧
      (∀ g, g ≠ f → D'.fb g = D.fb g ∧ D'.fs g = D.fs g) ∧ D'.room = D.room := by
  have he : appendE D n b = 0 := by
    have : findE D n = 0 := by simp [findE, hn, hl]
    simp [appendE, this]; omega
  have hlen := hb.len
  rw [oB_len] at hlen
  obtain ⟨v', S', hc, hA, hR⟩ := append_ok h (by omega) (Nat.le_trans (named_len hn) (by decide)) hlen hb.appd he hf.step.1 hl
  obtain ⟨s1, s2, s3, s4, s5, s6, s7, s8, s9, s10, s11⟩ := stepD_fields D
  refine ⟨S', _, hc, hA, hR, hf.step.2, by first | (simp only [setF]; rw [stepD_ok hf.step.1]) | (simp only; rw [stepD_ok hf.step.1]), s4, s3, s5, by simp [setF], by simp [setF], fun g hg => ⟨?_, ?_⟩, s11⟩
  · simp [setF, hg, s8]
  · simp [setF, hg, s9]
theorem sum_sync {S : St} {o K : Nat} {D : Dk} (h : At S o K D) (hK : K ≤ 1000) (hf : Free D) {n : Nm} (hn : namedB n = true) {f : Nat} (hl : lk n D.live = some f) :
    ∃ S' D', cval T 84 [.ptr o 0, .str n] S = some (.int .i64 0, S') ∧ At S' o (K + 1) D' ∧ Fra o S S' D D' ∧ Free D' ∧ D'.done = D.done + 1 ∧ D'.live = D.live ∧ D'.base = D.base ∧ D'.wait = D.wait ∧ (∀ g, D'.fb g = D.fb g) ∧ D'.fs f = (D.fb f).length ∧
      (∀ g, g ≠ f → D'.fs g = D.fs g) ∧ D'.room = D.room := by
  have he : findE D n = 0 := by simp [findE, hn, hl]
  obtain ⟨S', hc, hA, hR⟩ := sync_ok h (Nat.le_trans (named_len hn) (by decide)) (by omega) he hf.step.1 hl
  obtain ⟨s1, s2, s3, s4, s5, s6, s7, s8, s9, s10, s11⟩ := stepD_fields D
  refine ⟨S', _, hc, hA, hR, hf.step.2, by first | (simp only [setF]; rw [stepD_ok hf.step.1]) | (simp only; rw [stepD_ok hf.step.1]), s4, s3, s5, fun g => ?_, by simp [setF], fun g hg => ?_, s11⟩
  · simp only [setF, s8]; split
    · rename_i e; rw [e]
    · rfl
  · simp [setF, hg, s9]
theorem sum_syncdir {S : St} {o K : Nat} {D : Dk} (h : At S o K D) (hK : K ≤ 1000) (hf : Free D) :
    ∃ S' D', cval T 79 [.ptr o 0] S = some (.int .i64 0, S') ∧ At S' o (K + 1) D' ∧ Fra o S S' D D' ∧ Free D' ∧ D'.done = D.done + 1 ∧ D'.live = D.live ∧ D'.base = D.live ∧ D'.wait = [] ∧ D'.fb = D.fb ∧ D'.fs = D.fs ∧ D'.room = D.room := by
  obtain ⟨S', hc, hA, hR⟩ := syncdir_ok h (by omega) hf.step.1
  obtain ⟨s1, s2, s3, s4, s5, s6, s7, s8, s9, s10, s11⟩ := stepD_fields D
  exact ⟨S', _, hc, hA, hR, hf.step.2, by first | (simp only [setF]; rw [stepD_ok hf.step.1]) | (simp only; rw [stepD_ok hf.step.1]), s4, rfl, rfl, s8, s9, s11⟩
theorem sum_rename {S : St} {o K : Nat} {D : Dk} (h : At S o K D) (hK : K ≤ 1000) (hf : Free D) {a b : Nm} (ha : namedB a = true) (hb : namedB b = true) {f : Nat} (hl : lk a D.live = some f) :
    ∃ S' D', cval T 82 [.ptr o 0, .str a, .str b] S = some (.int .i64 0, S') ∧ At S' o (K + 2) D' ∧ Fra o S S' D D' ∧ Free D' ∧ D'.done = D.done + 1 ∧ D'.live = doE (a, b, none) D.live ∧ D'.base = D.base ∧ D'.wait = D.wait ++ [(a, b, none)] ∧ D'.fb = D.fb ∧ D'.fs = D.fs ∧ D'.room = D.room := by
  have he : renameE D a b = 0 := by
    have : findE D a = 0 := by simp [findE, ha, hl]
    simp [renameE, this, hb]
  obtain ⟨wv', S', hc, hA, hR⟩ := rename_ok h (Nat.le_trans (named_len ha) (by decide)) (Nat.le_trans (named_len hb) (by decide)) (by omega) he hf.step.1
  obtain ⟨s1, s2, s3, s4, s5, s6, s7, s8, s9, s10, s11⟩ := stepD_fields D
  exact ⟨S', _, hc, hA, hR, hf.step.2, by first | (simp only [setF]; rw [stepD_ok hf.step.1]) | (simp only; rw [stepD_ok hf.step.1]), rfl, s3, rfl, s8, s9, s11⟩
end Ps
