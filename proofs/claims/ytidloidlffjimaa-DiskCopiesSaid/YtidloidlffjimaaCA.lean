/- Copy, in plain words: the files that were copied. -/
import Derived.Test.YtidloidlffjimaaPQ
import Derived.Test.YtidloidlffjimaaCodeW
namespace Ps
set_option linter.unusedSimpArgs false
set_option linter.unusedVariables false
open Go
theorem copies_l0 {al : List ActD} {v mv : PV} (hv : Reads1 6 v (al.map actV)) (hl : al.length ≤ maxLen) (hw : ∀ a ∈ al, a.Wf) (hb : ∀ a ∈ al, a.b.length ≤ maxLen) {KK : List Kt} {Q : Fr → St → Prop}
  (hK : ∀ fr S D R, fr 2 = mv → fr 7 = .ptr 2 0 → fr 9 = .ptr 3 0 → At S 2 60 D → S.objs[3]? = some R.c → ¬ OwnsO D 3 → RelD D R → R.Wf 60 → Ok (gval T KK fr S) Q)
  (fr0 : Fr) (S0 : St) (D0 : Dk) (R0 : RD) (g1 : fr0 1 = v) (g2 : fr0 2 = mv) (g7 : fr0 7 = .ptr 2 0) (g9 : fr0 9 = .ptr 3 0) (g11 : fr0 11 = .int .i64 0) (hA0 : At S0 2 0 D0) (h30 : S0.objs[3]? = some R0.c) (hn0 : ¬ OwnsO D0 3) (hr0 : RelD D0 R0) (hw0 : R0.Wf 0) :
  Ok (gval T (.lp law04_DiskCopies_l0 :: .blk 0 :: KK) fr0 S0) Q := by
 have hlen := hv.len
 rw [List.length_map] at hlen
 refine lp_up (min al.length 30) (fun i fr S => fr 1 = v ∧ fr 2 = mv ∧ fr 7 = .ptr 2 0 ∧ fr 9 = .ptr 3 0 ∧ fr 11 = .int .i64 (i : Int) ∧ ∃ D R, At S 2 (2 * i) D ∧ S.objs[3]? = some R.c ∧ ¬ OwnsO D 3 ∧ RelD D R ∧ R.Wf (2 * i)) ?_ ?_ 0 (Nat.zero_le _) _ _ ⟨g1, g2, g7, g9, by simpa using g11, D0, R0, hA0, h30, hn0, hr0, hw0⟩
 ·rintro i fr S hi ⟨f1, f2, f7, f9, f11, D, R, hA, h3, hn, hr, hR⟩ k
  have hi1 : i < al.length := by omega
  have hi2 : (i : Int) < 30 := by omega
  have hwr := wrap_up hi1 hl
  have hg := hv.get i (by simpa using hi1) .i64
  have hgx : (al.map actV)[i]'(by simpa using hi1) = actV al[i] := by simp
  rw [hgx] at hg
  have haw := hw _ (List.getElem_mem hi1)
  have hab := hb _ (List.getElem_mem hi1)
  obtain ⟨a, ha0⟩ : ∃ a, a = al[i] := ⟨_, rfl⟩
  rw [← ha0] at hg haw hab
  obtain ⟨r, bv, b, D', S1, hc, hA1, hF, hdo, hO⟩ := act_val hA (by omega) haw
  obtain ⟨lv, bw, hcd, hsl, hwf⟩ := rdone_val hR (by omega) haw hab (rel_bd hA hr) (rel_bdk hA hr) (S := S1)
  obtain ⟨e1, e2, hr'⟩ := rel_done hA hr hdo lv
  have h31 := hF.o.obj 3 R.c h3 (by decide) hn
  have hlt3 := (List.getElem?_eq_some_iff.1 h3).1
  have hn' := hF.o.own 3 hlt3 (by decide) hn
  generalize doneR R a lv = R' at hcd hr' hwf
  have o1 := hwf.fs.one.1
  have o2 := hwf.bs.one.1
  have o3 := hwf.ws.one.1
  have hld : loadP S1 true 7 (.ptr 3 0) = some R.v := by rw [loadP_ptr h31]; rfl
  have hA2 : At ⟨S1.objs.set 3 R'.c, S1.tips⟩ 2 (2 * i + 2) D' := hA1.other (id := some 3) (by simp) (fun j e => by cases e; exact hn') (fun j c hj hc => by
   simp only
   rw [List.getElem?_set_ne (fun e => hj (by rw [e]))]; exact hc) rfl
  have hL : ∀ (fr' : Fr) (S4 : St), fr' 1 = v → fr' 2 = mv → fr' 7 = .ptr 2 0 → fr' 9 = .ptr 3 0 → fr' 11 = .int .i64 ((i : Int) + 1) → S4 = ⟨S1.objs.set 3 R'.c, S1.tips⟩ → Ok (gval T (.lp law04_DiskCopies_l0 :: .blk 0 :: KK) fr' S4) Q := by
   intro fr' S4 z1 z2 z7 z9 z11 z
   subst z
   refine k fr' _ ⟨z1, z2, z7, z9, by simpa using z11, D', R', by rw [show 2 * (i + 1) = 2 * i + 2 by omega]; exact hA2, get_set h31, hn', hr', by rw [show 2 * (i + 1) = 2 * i + 2 by omega]; exact hwf⟩
  clear k hK
  simp only [RD.v, RD.c] at hld hcd hL h31
  rw [gval_lp]
  simp -implicitDefEqProofs [f1, f2, f7, f9, f11, hlen, hi1, hi2, hg, part6, hc, hld, hcd, pstep, putCells, part7, h31, o1, o2, o3]
  exact hL _ _ (by simp [f1]) (by simp [f2]) (by simp [f7]) (by simp [f9]) (by simp [f11, hwr]) (by first | rfl | simp)
 ·rintro fr S ⟨f1, f2, f7, f9, f11, D, R, hA, h3, hn, hr, hR⟩
  have hL : ∀ fr' : Fr, fr' 2 = mv → fr' 7 = .ptr 2 0 → fr' 9 = .ptr 3 0 → Ok (gval T KK fr' S) Q := fun fr' z2 z7 z9 => hK fr' S D R z2 z7 z9 (hA.mono (by omega)) h3 hn hr (hR.mono (by omega))
  clear hK
  rw [gval_lp]
  by_cases h30 : al.length ≤ 30
  ·have e : min al.length 30 = al.length := by omega
   rw [e] at f11
   simp -implicitDefEqProofs [f1, f2, f7, f9, f11, hlen]
   exact hL _ (by simp [f2]) (by simp [f7]) (by simp [f9])
  ·have e : min al.length 30 = 30 := by omega
   rw [e] at f11
   have h30' : 30 < al.length := by omega
   have h30i : (30 : Int) < (al.length : Int) := by omega
   simp -implicitDefEqProofs [f1, f2, f7, f9, f11, hlen, h30', h30i]
   exact hL _ (by simp [f2]) (by simp [f7]) (by simp [f9])

theorem copies_l1 {al : List ActD} {v : PV} (hv : Reads1 6 v (al.map actV)) (hl : al.length ≤ maxLen) (hw : ∀ a ∈ al, a.Wf) (hb : ∀ a ∈ al, a.b.length ≤ maxLen) {c so : Nat} {D : Dk} {R : RD} (hc2 : c ≠ 2 ∧ c ≠ 3 ∧ ¬ OwnsO D c) (hso : so ≠ 2 ∧ so ≠ 3 ∧ so ≠ c ∧ ¬ OwnsO D so) {KK : List Kt} {Q : Fr → St → Prop}
  (hK : ∀ fr S D' R', fr 7 = .ptr 2 0 → fr 9 = .ptr 3 0 → fr 12 = .ptr c 0 → fr 13 = .ptr so 0 → At S 2 60 D → S.objs[3]? = some R.c → At S c 120 D' → S.objs[so]? = some R'.c → RelD D' R' → R'.Wf 120 → Ok (gval T KK fr S) Q)
  (fr0 : Fr) (S0 : St) (D0 : Dk) (R0 : RD) (g2 : fr0 2 = v) (g7 : fr0 7 = .ptr 2 0) (g9 : fr0 9 = .ptr 3 0) (g12 : fr0 12 = .ptr c 0) (g13 : fr0 13 = .ptr so 0) (g14 : fr0 14 = .int .i64 0) (hA : At S0 2 60 D) (h3 : S0.objs[3]? = some R.c) (hA0 : At S0 c 60 D0) (hs0 : S0.objs[so]? = some R0.c) (hr0 : RelD D0 R0) (hw0 : R0.Wf 60)
  (hn : ¬ OwnsO D0 2 ∧ ¬ OwnsO D0 3 ∧ ¬ OwnsO D0 so ∧ (∀ i, OwnsO D i → ¬ OwnsO D0 i) ∧ ∀ k, Owns D k → ¬ Owns D0 k) :
  Ok (gval T (.lp law04_DiskCopies_l1 :: .blk 2 :: KK) fr0 S0) Q := by
 have hlen := hv.len
 rw [List.length_map] at hlen
 refine lp_up (min al.length 15) (fun i fr S => fr 2 = v ∧ fr 7 = .ptr 2 0 ∧ fr 9 = .ptr 3 0 ∧ fr 12 = .ptr c 0 ∧ fr 13 = .ptr so 0 ∧ fr 14 = .int .i64 (i : Int) ∧ ∃ D' R', At S 2 60 D ∧ S.objs[3]? = some R.c ∧ At S c (60 + 2 * i) D' ∧ S.objs[so]? = some R'.c ∧ RelD D' R' ∧ R'.Wf (60 + 2 * i) ∧ (¬ OwnsO D' 2 ∧ ¬ OwnsO D' 3 ∧ ¬ OwnsO D' so ∧ (∀ i, OwnsO D i → ¬ OwnsO D' i) ∧ ∀ k, Owns D k → ¬ Owns D' k)) ?_ ?_ 0 (Nat.zero_le _) _ _ ⟨g2, g7, g9, g12, g13, by simpa using g14, D0, R0, hA, h3, hA0, hs0, hr0, hw0, hn⟩
 ·rintro i fr S hi ⟨f2, f7, f9, f12, f13, f14, D1, R1, hA, h3, hA1, hs1, hr1, hw1, hn1, hn2, hn3, hn4, hn5⟩ k
  have hi1 : i < al.length := by omega
  have hi2 : (i : Int) < 15 := by omega
  have hwr := wrap_up hi1 hl
  have hg := hv.get i (by simpa using hi1) .i64
  have hgx : (al.map actV)[i]'(by simpa using hi1) = actV al[i] := by simp
  rw [hgx] at hg
  have haw := hw _ (List.getElem_mem hi1)
  have hab := hb _ (List.getElem_mem hi1)
  obtain ⟨a, ha0⟩ : ∃ a, a = al[i] := ⟨_, rfl⟩
  rw [← ha0] at hg haw hab
  obtain ⟨r, bv, b, D', S1, hc, hA1', hF, hdo, hO⟩ := act_val hA1 (by omega) haw
  obtain ⟨lv, bw, hcd, hsl, hwf⟩ := rdone_val hw1 (by omega) haw hab (rel_bd hA1 hr1) (rel_bdk hA1 hr1) (S := S1)
  obtain ⟨e1, e2, hr'⟩ := rel_done hA1 hr1 hdo lv
  have h31 := hF.o.obj 3 R.c h3 (Ne.symm hc2.2.1) hn2
  have hs1' := hF.o.obj so R1.c hs1 hso.2.2.1 hn3
  have hlt3 := (List.getElem?_eq_some_iff.1 h3).1
  have hlts := (List.getElem?_eq_some_iff.1 hs1).1
  have hlt2 := (List.getElem?_eq_some_iff.1 hA.obj).1
  have m1 := hF.o.own 2 hlt2 (Ne.symm hc2.1) hn1
  have m2 := hF.o.own 3 hlt3 (Ne.symm hc2.2.1) hn2
  have m3 := hF.o.own so hlts hso.2.2.1 hn3
  have hlo : ∀ i, OwnsO D i → i < S.objs.length := fun i hi => by
   rcases hi with rfl | rfl | hi
   ·exact (List.getElem?_eq_some_iff.1 hA.base).1
   ·exact (List.getElem?_eq_some_iff.1 hA.live).1
   ·exact (List.getElem?_eq_some_iff.1 (hA.file i hi).1).1
  have hlt : ∀ k, Owns D k → k < S.tips.length := fun k hk => by
   rcases hk with hk | ⟨f, hf, hk⟩
   ·exact hA.wv.tip hk
   ·exact (hA.file f hf).2.1.tip hk
  have m4 : ∀ i, OwnsO D i → ¬ OwnsO D' i := fun i hi => hF.o.own i (hlo i hi) (fun e => hc2.2.2 (by rw [← e]; exact hi)) (hn4 i hi)
  have m5 : ∀ k, Owns D k → ¬ Owns D' k := fun k hk => (hF.keep k (hlt k hk) (hn5 k hk)).1
  -- the first disk stays
  have hkeepO : ∀ (i : Nat) (x : List PV), (i = 2 ∨ OwnsO D i) → S.objs[i]? = some x → S1.objs[i]? = some x := fun i x hi hx => by
   rcases hi with rfl | hi
   ·exact hF.o.obj 2 x hx (Ne.symm hc2.1) hn1
   ·exact hF.o.obj i x hx (fun e => hc2.2.2 (by rw [← e]; exact hi)) (hn4 i hi)
  have hkeepT : ∀ k, Owns D k → S1.tips[k]? = S.tips[k]? := fun k hk => (hF.keep k (hlt k hk) (hn5 k hk)).2
  have hA2 : At S1 2 60 D := hA.stays hkeepO hkeepT
  generalize doneR R1 a lv = R' at hcd hr' hwf
  have o1 := hwf.fs.one.1
  have o2 := hwf.bs.one.1
  have o3 := hwf.ws.one.1
  have hld : loadP S1 true 7 (.ptr so 0) = some R1.v := by rw [loadP_ptr hs1']; rfl
  have hset : ∀ (j : Nat) (x : List PV), some so ≠ some j → S1.objs[j]? = some x → (⟨S1.objs.set so R'.c, S1.tips⟩ : St).objs[j]? = some x := fun j x hj hx => by
   simp only
   rw [List.getElem?_set_ne (fun e => hj (by rw [e]))]; exact hx
  have hA3 : At ⟨S1.objs.set so R'.c, S1.tips⟩ 2 60 D := hA2.other (id := some so) (by simpa using hso.1) (fun j e => by cases e; exact hso.2.2.2) hset rfl
  have hA4 : At ⟨S1.objs.set so R'.c, S1.tips⟩ c (60 + 2 * i + 2) D' := hA1'.other (id := some so) (by simpa using hso.2.2.1) (fun j e => by cases e; exact m3) hset rfl
  have hL : ∀ (fr' : Fr) (S4 : St), fr' 2 = v → fr' 7 = .ptr 2 0 → fr' 9 = .ptr 3 0 → fr' 12 = .ptr c 0 → fr' 13 = .ptr so 0 → fr' 14 = .int .i64 ((i : Int) + 1) → S4 = ⟨S1.objs.set so R'.c, S1.tips⟩ → Ok (gval T (.lp law04_DiskCopies_l1 :: .blk 2 :: KK) fr' S4) Q := by
   intro fr' S4 z2 z7 z9 z12 z13 z14 z
   subst z
   refine k fr' _ ⟨z2, z7, z9, z12, z13, by simpa using z14, D', R', hA3, hset 3 _ (by simpa using hso.2.1) h31, by rw [show 60 + 2 * (i + 1) = 60 + 2 * i + 2 by omega]; exact hA4, get_set hs1', hr', by rw [show 60 + 2 * (i + 1) = 60 + 2 * i + 2 by omega]; exact hwf, m1, m2, m3, m4, m5⟩
  clear k hK
  simp only [RD.v, RD.c] at hld hcd hL hs1'
  rw [gval_lp]
  simp -implicitDefEqProofs [f2, f7, f9, f12, f13, f14, hlen, hi1, hi2, hg, part6, hc, hld, hcd, pstep, putCells, part7, hs1', o1, o2, o3]
  exact hL _ _ (by simp [f2]) (by simp [f7]) (by simp [f9]) (by simp [f12]) (by simp [f13]) (by simp [f14, hwr]) (by first | rfl | simp)
 ·rintro fr S ⟨f2, f7, f9, f12, f13, f14, D1, R1, hA, h3, hA1, hs1, hr1, hw1, _⟩
  have hL : ∀ fr' : Fr, fr' 7 = .ptr 2 0 → fr' 9 = .ptr 3 0 → fr' 12 = .ptr c 0 → fr' 13 = .ptr so 0 → Ok (gval T KK fr' S) Q := fun fr' z7 z9 z12 z13 => hK fr' S D1 R1 z7 z9 z12 z13 hA h3 (hA1.mono (by omega)) hs1 hr1 (hw1.mono (by omega))
  clear hK
  rw [gval_lp]
  by_cases h15 : al.length ≤ 15
  ·have e : min al.length 15 = al.length := by omega
   rw [e] at f14
   simp -implicitDefEqProofs [f2, f7, f9, f12, f13, f14, hlen]
   exact hL _ (by simp [f7]) (by simp [f9]) (by simp [f12]) (by simp [f13])
  ·have e : min al.length 15 = 15 := by omega
   rw [e] at f14
   have h15' : 15 < al.length := by omega
   have h15i : (15 : Int) < (al.length : Int) := by omega
   simp -implicitDefEqProofs [f2, f7, f9, f12, f13, f14, hlen, h15', h15i]
   exact hL _ (by simp [f7]) (by simp [f9]) (by simp [f12]) (by simp [f13])
end Ps
namespace Ps
set_option linter.unusedSimpArgs false
set_option linter.unusedVariables false
open Go
def pc : List (Nat × Nat) → List PV
 | [] => []
 | q :: l => .ptr q.1 0 :: .ptr q.2 0 :: pc l
def lkM (f : Nat) : List (Nat × Nat) → Option Nat
 | [] => none
 | q :: l => if q.1 = f then some q.2 else lkM f l

theorem pc_even : ∀ M : List (Nat × Nat), (pc M).length % 2 = 0
 | [] => rfl
 | q :: l => by have := pc_even l; simp only [pc, List.length_cons]; omega
theorem pfind_pc (f : Nat) : ∀ M : List (Nat × Nat), pfind (.ptr f 0) (pc M) = (lkM f M).map fun g => .ptr g 0
 | [] => rfl
 | q :: l => by
  simp only [pc, pfind, lkM, PV.beq, beq_self_eq_true, Bool.and_true, beq_iff_eq]
  split
  ·rfl
  ·exact pfind_pc f l
theorem pput_pc (f : Nat) (g : Nat) : ∀ M : List (Nat × Nat), lkM f M = none → pput (.ptr f 0) (.ptr g 0) (pc M) = pc (M ++ [(f, g)])
 | [], _ => rfl
 | q :: l, h => by
  simp only [lkM] at h
  split at h
  ·cases h
  ·rename_i e
   simp only [pc, pput, PV.beq, beq_self_eq_true, Bool.and_true, beq_iff_eq, if_neg e, List.cons_append, pput_pc f g l h]
theorem lkM_mem {f g : Nat} : ∀ {M : List (Nat × Nat)}, lkM f M = some g → (f, g) ∈ M
 | [], h => by simp [lkM] at h
 | q :: l, h => by
  simp only [lkM] at h
  split at h
  ·rename_i e; cases h; subst e; simp
  ·simp [lkM_mem h]
theorem lkM_none {f : Nat} : ∀ {M : List (Nat × Nat)}, lkM f M = none → ∀ q ∈ M, q.1 ≠ f
 | [], _, q, hq => by cases hq
 | r :: l, h, q, hq => by
  simp only [lkM] at h
  split at h
  ·cases h
  ·rename_i e
   rcases List.mem_cons.1 hq with rfl | hq
   ·exact e
   ·exact lkM_none h q hq
theorem keysLive_pc {S : St} : ∀ {M : List (Nat × Nat)}, (∀ q ∈ M, liveP S (.ptr q.1 0) = true) → keysLive S (pc M) = true
 | [], _ => rfl
 | q :: l, h => by
  simp only [pc, keysLive, Bool.and_eq_true]
  exact ⟨h q (by simp), keysLive_pc fun r hr => h r (by simp [hr])⟩
theorem live_of {S : St} {f : Nat} {c : PV} {cs : List PV} (h : S.objs[f]? = some (c :: cs)) : liveP S (.ptr f 0) = true := by
 simp only [liveP, h]

structure Fs (b tb : Nat) (D : Dk) (M : List (Nat × Nat)) (gv : Nat → PV) (S : St) : Prop where
 nd : (M.map (·.1)).Nodup
 ng : (M.map (·.2)).Nodup
 src : ∀ q ∈ M, q.1 ∈ D.fl
 file : ∀ q ∈ M, b < q.2 ∧ S.objs[q.2]? = some [gv q.2, .int .i64 (D.fs q.1)] ∧ SlT S 1 (gv q.2) (ofBytes (D.fb q.1)) ∧ ∀ k, tid (gv q.2) = some k → tb ≤ k
 dis : ∀ q ∈ M, ∀ r ∈ M, q.2 ≠ r.2 → ∀ k, tid (gv q.2) = some k → tid (gv r.2) ≠ some k

theorem Fs.more {b tb : Nat} {D : Dk} {M : List (Nat × Nat)} {gv : Nat → PV} {S S' : St} (h : Fs b tb D M gv S) (ho : ∀ (i : Nat) (c : List PV), i ∈ M.map (·.2) → S.objs[i]? = some c → S'.objs[i]? = some c) (ht : ∀ (k : Nat) (c : Nat × Nat), S.tips[k]? = some c → S'.tips[k]? = some c) : Fs b tb D M gv S' where
 nd := h.nd
 ng := h.ng
 src := h.src
 file := fun q hq => by
  obtain ⟨f1, f2, f3, f4⟩ := h.file q hq
  refine ⟨f1, ho _ _ (List.mem_map.2 ⟨q, hq, rfl⟩) f2, ?_, f4⟩
  rcases f3 with w | ⟨k, e, w1, w2⟩
  ·exact .inl w
  ·exact .inr ⟨k, e, w1, ht _ _ w2⟩
 dis := h.dis

theorem Fs.add {b tb : Nat} {D : Dk} {M : List (Nat × Nat)} {gv : Nat → PV} {S S' : St} (h : Fs b tb D M gv S) (ho : ∀ (i : Nat) (c : List PV), i ∈ M.map (·.2) → S.objs[i]? = some c → S'.objs[i]? = some c) (ht : ∀ (k : Nat) (c : Nat × Nat), S.tips[k]? = some c → S'.tips[k]? = some c)
  {f n : Nat} {v : PV} (hf : f ∈ D.fl) (hl : lkM f M = none) (hn : S.objs.length ≤ n) (hb : b < n) (hv : S'.objs[n]? = some [v, .int .i64 (D.fs f)]) (hs : SlT S' 1 v (ofBytes (D.fb f))) (hk : ∀ k, tid v = some k → S.tips.length ≤ k) (htb : tb ≤ S.tips.length) :
  Fs b tb D (M ++ [(f, n)]) (fun g => if g = n then v else gv g) S' := by
 have h' := h.more ho ht
 have hne : ∀ q ∈ M, q.2 ≠ n := fun q hq e => by
  have := (List.getElem?_eq_some_iff.1 (h.file q hq).2.1).1
  omega
 have htl : ∀ q ∈ M, ∀ k, tid (gv q.2) = some k → k < S.tips.length := fun q hq k e => (h.file q hq).2.2.1.tip e
 refine ⟨?_, ?_, fun q hq => ?_, fun q hq => ?_, fun q hq r hr hqr k e => ?_⟩
 ·rw [List.map_append, List.nodup_append]
  refine ⟨h.nd, by simp, fun x hx y hy e => ?_⟩
  obtain ⟨q, hq, rfl⟩ := List.mem_map.1 hx
  simp at hy
  exact lkM_none hl q hq (by rw [e, hy])
 ·rw [List.map_append, List.nodup_append]
  refine ⟨h.ng, by simp, fun x hx y hy e => ?_⟩
  obtain ⟨q, hq, rfl⟩ := List.mem_map.1 hx
  simp at hy
  exact hne q hq (by rw [e, hy])
 ·rcases List.mem_append.1 hq with hq | hq
  ·exact h.src q hq
  ·simp at hq; subst hq; exact hf
 ·rcases List.mem_append.1 hq with hq | hq
  ·simp only [if_neg (hne q hq)]; exact h'.file q hq
  ·simp at hq; subst hq
   simp only [if_true]
   exact ⟨hb, hv, hs, fun k e => Nat.le_trans htb (hk k e)⟩
 ·rcases List.mem_append.1 hq with hq | hq <;> rcases List.mem_append.1 hr with hr | hr
  ·simp only [if_neg (hne q hq), if_neg (hne r hr)] at e ⊢
   exact h.dis q hq r hr hqr k e
  ·simp at hr; subst hr
   simp only [if_neg (hne q hq), if_true] at e ⊢
   intro e2
   have := htl q hq k e
   have := hk k e2
   omega
  ·simp at hq; subst hq
   simp only [if_neg (hne r hr), if_true] at e ⊢
   intro e2
   have := htl r hr k e2
   have := hk k e
   omega
  ·simp at hq hr; subst hq; subst hr
   exact absurd rfl hqr

structure Cp (S0 : St) (ex : Option Nat) (D : Dk) (M : List (Nat × Nat)) (gv : Nat → PV) (S : St) : Prop where
 old : ∀ (i : Nat) (c : List PV), ex ≠ some i → S0.objs[i]? = some c → S.objs[i]? = some c
 told : ∀ (k : Nat) (c : Nat × Nat), S0.tips[k]? = some c → S.tips[k]? = some c
 made : S.objs[S0.objs.length]? = some (pc M)
 bm : S.objs[S0.objs.length + 1]? = some [.map S0.objs.length]
 bo : S.objs[S0.objs.length + 2]? = some [.fn 463 [.ptr (S0.objs.length + 1) 0]]
 fs : Fs (S0.objs.length + 2) S0.tips.length D M gv S

theorem Cp.tlen {S0 : St} {ex : Option Nat} {D : Dk} {M : List (Nat × Nat)} {gv : Nat → PV} {S : St} (h : Cp S0 ex D M gv S) : S0.tips.length ≤ S.tips.length := by
 rcases Nat.lt_or_ge S.tips.length S0.tips.length with hlt | hge
 ·have := (List.getElem?_eq_some_iff.1 (h.told (S0.tips.length - 1) _ (List.getElem?_eq_getElem (by omega)))).1
  omega
 ·exact hge

structure CpLe (S0 : St) (ex : Option Nat) (M : List (Nat × Nat)) (gv : Nat → PV) (S : St) (M' : List (Nat × Nat)) (gv' : Nat → PV) (S' : St) : Prop where
 pre : ∃ L, M' = M ++ L
 gv : ∀ q ∈ M, gv' q.2 = gv q.2
 obj : ∀ (i : Nat) (c : List PV), i ≠ S0.objs.length → ex ≠ some i → S.objs[i]? = some c → S'.objs[i]? = some c
 tip : ∀ (k : Nat) (c : Nat × Nat), S.tips[k]? = some c → S'.tips[k]? = some c
 new : ∀ q ∈ M', q ∉ M → S.objs.length ≤ q.2 ∧ ∀ k, tid (gv' q.2) = some k → S.tips.length ≤ k
 ol : S.objs.length ≤ S'.objs.length
 tl : S.tips.length ≤ S'.tips.length

theorem CpLe.refl {S0 : St} {ex : Option Nat} {M : List (Nat × Nat)} {gv : Nat → PV} {S : St} : CpLe S0 ex M gv S M gv S := ⟨⟨[], by simp⟩, fun _ _ => rfl, fun _ _ _ _ h => h, fun _ _ h => h, fun q h1 h2 => absurd h1 h2, Nat.le_refl _, Nat.le_refl _⟩
theorem CpLe.trans {S0 : St} {ex : Option Nat} {M M1 M2 : List (Nat × Nat)} {gv gv1 gv2 : Nat → PV} {S S1 S2 : St} (h : CpLe S0 ex M gv S M1 gv1 S1) (k : CpLe S0 ex M1 gv1 S1 M2 gv2 S2) : CpLe S0 ex M gv S M2 gv2 S2 where
 pre := by
  obtain ⟨L, rfl⟩ := h.pre
  obtain ⟨L2, rfl⟩ := k.pre
  exact ⟨L ++ L2, by simp⟩
 gv := fun q hq => by
  obtain ⟨L, e⟩ := h.pre
  rw [k.gv q (by rw [e]; simp [hq]), h.gv q hq]
 obj := fun i c hi hx hc => k.obj i c hi hx (h.obj i c hi hx hc)
 tip := fun i c hc => k.tip i c (h.tip i c hc)
 new := fun q hq hn => by
  have l1 := h.ol
  have l2 := h.tl
  by_cases hq1 : q ∈ M1
  ·obtain ⟨n1, n2⟩ := h.new q hq1 hn
   exact ⟨n1, fun j hj => n2 j (by rw [← k.gv q hq1]; exact hj)⟩
  ·obtain ⟨n1, n2⟩ := k.new q hq hq1
   exact ⟨by omega, fun j hj => by have := n2 j hj; omega⟩
 ol := Nat.le_trans h.ol k.ol
 tl := Nat.le_trans h.tl k.tl
theorem CpLe.ex {S0 : St} {ex : Option Nat} {M M' : List (Nat × Nat)} {gv gv' : Nat → PV} {S S' : St} (h : CpLe S0 none M gv S M' gv' S') : CpLe S0 ex M gv S M' gv' S' :=
 { h with obj := fun i c hi _ hc => h.obj i c hi (by simp) hc }
theorem CpLe.set {S0 : St} {ex : Option Nat} {M M' : List (Nat × Nat)} {gv gv' : Nat → PV} {S S' : St} (h : CpLe S0 ex M gv S M' gv' S') {t : Nat} (ht : S.objs.length ≤ t) {c : List PV} : CpLe S0 ex M gv S M' gv' ⟨S'.objs.set t c, S'.tips⟩ :=
 { h with
  obj := fun i x hi hx hc => by
   have := (List.getElem?_eq_some_iff.1 hc).1
   simp only
   rw [List.getElem?_set_ne (by omega)]; exact h.obj i x hi hx hc
  ol := by simpa using h.ol }

theorem Cp.more {S0 : St} {ex : Option Nat} {D : Dk} {M : List (Nat × Nat)} {gv : Nat → PV} {S S' : St} (h : Cp S0 ex D M gv S) (ho : ∀ (i : Nat) (c : List PV), ex ≠ some i → S.objs[i]? = some c → i ≤ S0.objs.length + 2 ∨ i ∈ M.map (·.2) → S'.objs[i]? = some c) (ht : ∀ (k : Nat) (c : Nat × Nat), S.tips[k]? = some c → S'.tips[k]? = some c) (hx : ∀ i, ex = some i → i < S0.objs.length) : Cp S0 ex D M gv S' where
 old := fun i c hi hc => ho i c hi (h.old i c hi hc) (.inl (by have := (List.getElem?_eq_some_iff.1 hc).1; omega))
 told := fun k c hc => ht k c (h.told k c hc)
 made := ho _ _ (fun e => by have := hx _ e; omega) h.made (.inl (by omega))
 bm := ho _ _ (fun e => by have := hx _ e; omega) h.bm (.inl (by omega))
 bo := ho _ _ (fun e => by have := hx _ e; omega) h.bo (.inl (by omega))
 fs := h.fs.more (fun i c hi hc => by
  obtain ⟨q, hq, rfl⟩ := List.mem_map.1 hi
  exact ho _ _ (fun e => by have := hx _ e; have := (h.fs.file q hq).1; omega) hc (.inr hi)) ht
end Ps
