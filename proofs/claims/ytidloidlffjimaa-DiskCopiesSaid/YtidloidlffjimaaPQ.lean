/- The calls that come in; lives. -/
import Derived.Test.YtidloidlffjimaaPN
import Derived.Test.YtidloidlffjimaaGJ
namespace Ps
set_option linter.unusedSimpArgs false
set_option linter.unusedVariables false
open Go
theorem fn_20 : T.fn 20 = some (.code law04_done) := rfl

theorem len_at {R : RD} {K : Nat} (hR : R.Wf K) {name : Nm} : ∀ l : List RE, 0 ≤ atR name l → lenAt R.files (atR name l) ≤ lensR R.files l := by
 intro l
 induction l with
 | nil => intro h; simp [atR] at h
 | cons x l ih =>
  obtain ⟨q, g⟩ := x
  intro h
  have hbd := lensR_bd hR l
  have hbd2 := lenAt_bd hR g
  simp only [atR, lensR] at h ⊢
  by_cases hq : (q == name) = true
  ·simp only [hq, if_true]; omega
  ·simp only [hq, if_false, Bool.false_eq_true] at h ⊢
   have := ih h; omega

theorem change_wf {R : RD} {K : Nat} (hR : R.Wf K) {kind : Int} {name to : Nm} {b : List UInt8} {lv : PV} (hl : Sl0 2 lv ((liveR R).map entR)) (he : chE R kind name to b = 0) : (chD (stepRD R) kind name to b (atR name (liveR R)).toNat lv).Wf (K + 2) := by
 refine chD_wf (stepRD_wf hR) (by rw [liveR_step]; exact hl) fun hk f hf => ?_
 subst hk
 rw [stepRD_files] at hf
 have hn : 0 ≤ atR name (liveR R) := by
  by_cases h : 0 ≤ atR name (liveR R)
  ·exact h
  ·exfalso
   have h' : atR name (liveR R) < 0 := by omega
   unfold chE at he
   by_cases hnm : namedB name = false
   ·simp [hnm] at he
   ·have : namedB name = true := by simpa using hnm
    simp [this, h'] at he
 have h8 : ¬ (b.length : Int) > R.room - lensR R.files (liveR R) := by
  intro hc
  have h' : ¬ atR name (liveR R) < 0 := by omega
  unfold chE at he
  by_cases hnm : namedB name = false
  ·simp [hnm] at he
  ·have : namedB name = true := by simpa using hnm
   have hc' : R.room - lensR R.files (liveR R) < (b.length : Int) := hc
   simp [this, h', hc'] at he
 have h9 := len_at hR (liveR R) hn
 have : lenAt R.files (atR name (liveR R)) = f.b.length := by simp only [lenAt, hf]
 have := hR.rm
 omega

def doneE (R : RD) (a : ActD) : Int := if 1 ≤ a.kind ∧ a.kind ≤ 6 then (if chE R a.kind a.name a.to a.b ≠ 0 then chE R a.kind a.name a.to a.b else stepE R) else if a.kind = 7 then readRE R a.name else 0
def doneB (R : RD) (a : ActD) : List UInt8 := if a.kind = 7 then readRB R a.name else []
def doneR (R : RD) (a : ActD) (lv : PV) : RD :=
 if 1 ≤ a.kind ∧ a.kind ≤ 6 then (if chE R a.kind a.name a.to a.b ≠ 0 then R else if stepE R = 6 then stepRD R else chD (stepRD R) a.kind a.name a.to a.b (atR a.name (liveR R)).toNat lv)
 else if a.kind = 8 then fuseR R a.n else if a.kind = 9 then crashR R a.n a.kept lv else R

theorem fin_rd3 {R : RD} {K : Nat} (h : R.Wf K) {S S' : St} (hg : Grows S S') (e : Int) {bv : PV} {es : List PV} (hb : Sl0 1 bv es) : finish false S S' (.tup [R.v, .int .i64 e, bv]) = (.tup [R.v, .int .i64 e, bv], S) := by
 rw [fin_free hg (by simp [PV.free, PV.freeL, h.free, hb.free])]
 simp [PV.frz, PV.frzL, h.frz, hb.frz]

theorem RD.Wf.mono {R : RD} {K K' : Nat} (h : R.Wf K) (hk : K ≤ K') : R.Wf K' :=
 { h with fl := Nat.le_trans h.fl hk, bl := Nat.le_trans h.bl hk, ct := ⟨h.ct.1, by have := h.ct.2; omega⟩ }
theorem stepE_or (R : RD) : stepE R = 0 ∨ stepE R = 6 := by unfold stepE; split <;> simp

set_option maxHeartbeats 2000000 in
theorem rdone_val {R : RD} {K : Nat} (hR : R.Wf K) (hK : K ≤ 1048560) {a : ActD} (ha : a.Wf) (hbm : a.b.length ≤ maxLen) (hlv : ∀ e ∈ liveR R, 0 ≤ e.2 ∧ e.2 < R.files.length) (hlc : ∀ k, ∀ e ∈ dirL R.base (R.wait.take k), 0 ≤ e.2 ∧ e.2 < R.files.length) {S : St} :
  ∃ lv bv, cval T 20 [R.v, actV a] S = some (.tup [(doneR R a lv).v, .int .i64 (doneE R a), bv], S) ∧ Sl0 1 bv (ofBytes (doneB R a)) ∧ (doneR R a lv).Wf (K + 2) := by
 have o1 := hR.fs.one.1
 have o2 := hR.bs.one.1
 have o3 := hR.ws.one.1
 have b1 := ha.bone
 have b2 := ha.kone
 have b3 := ha.bcells
 have b4 := ha.kcells
 have z : Sl0 1 .nils (ofBytes []) := sl0_nils 1
 by_cases hk : 1 ≤ a.kind ∧ a.kind ≤ 6
 ·obtain ⟨lv, l2, hc⟩ := change_val hR hK hk ha.name ha.to (fun S => appdS ha.app) ha.len hbm hlv (S := ⟨S.objs ++ [[.int .i64 0, .nils, .nils, .nils, .int .i64 0, .bool false, .int .i64 0]], S.tips⟩)
  have hB : doneB R a = [] := by simp only [doneB]; rw [if_neg (by omega)]
  have k1 : ¬ a.kind < 1 := by omega
  have hE : doneE R a = if chE R a.kind a.name a.to a.b ≠ 0 then chE R a.kind a.name a.to a.b else stepE R := by simp only [doneE, hk, and_self, if_true]
  have hD : doneR R a lv = if chE R a.kind a.name a.to a.b ≠ 0 then R else if stepE R = 6 then stepRD R else chD (stepRD R) a.kind a.name a.to a.b (atR a.name (liveR R)).toNat lv := by simp only [doneR, hk, and_self, if_true]
  have hW : (doneR R a lv).Wf (K + 2) := by
   rw [hD]
   split
   ·exact hR.mono (by omega)
   ·rename_i h0
    split
    ·exact (stepRD_wf hR).mono (by omega)
    ·exact change_wf hR l2 (by simpa using h0)
  have hc' : cval T 86 [R.v, .int .i64 a.kind, .str a.name, .str a.to, a.bv] ⟨S.objs ++ [[.int .i64 0, .nils, .nils, .nils, .int .i64 0, .bool false, .int .i64 0]], S.tips⟩ = some (.tup [(doneR R a lv).v, .int .i64 (doneE R a)], ⟨S.objs ++ [[.int .i64 0, .nils, .nils, .nils, .int .i64 0, .bool false, .int .i64 0]], S.tips⟩) := by
   rw [hc, hD, hE]
   congr 2
   split
   ·rfl
   ·split
    ·rename_i h6; rw [h6]
    ·rename_i h6
     rcases stepE_or R with h | h
     ·rw [h]
     ·exact absurd h h6
  refine ⟨lv, .nils, ?_, by rw [hB]; exact z, hW⟩
  obtain ⟨R', hR'⟩ : ∃ R', R' = doneR R a lv := ⟨_, rfl⟩
  obtain ⟨e, he⟩ : ∃ e, e = doneE R a := ⟨_, rfl⟩
  rw [← hR', ← he] at hc' ⊢
  rw [← hR'] at hW
  have p1 := hW.fs.one.1
  have p2 := hW.bs.one.1
  have p3 := hW.ws.one.1
  have hfin : finish false S ⟨S.objs ++ [R'.c, R'.c], S.tips⟩ (.tup [R'.v, .int .i64 e, .nils]) = (.tup [R'.v, .int .i64 e, .nils], S) := fin_rd3 hW ((Grows.refl S).objs _) e z
  simp only [RD.v, RD.c] at hc' hfin ⊢
  refine cval_ok' fn_20 rfl ?_
  simp -implicitDefEqProofs [law04_done, actV, pstep, o1, o2, o3, p1, p2, p3, b1, b2, b3, b4, hk.1, hk.2, putCells, part7, part1, hc']
  exact ends_ctt (by simp [part7] <;> rfl) (by simp <;> rfl) (by simp <;> rfl) hfin
 ·have hB : a.kind ≠ 7 → doneB R a = [] := fun h => by simp [doneB, h]
  have hE : a.kind ≠ 7 → doneE R a = 0 := fun h => by simp only [doneE, hk, h, if_false]
  by_cases h7 : a.kind = 7
  ·have hc := rread_val hR (by omega) ha.name (fun e he => (hlv e he).2) (S := ⟨S.objs ++ [[.int .i64 0, .nils, .nils, .nils, .int .i64 0, .bool false, .int .i64 0]], S.tips⟩)
   have hsl := readR_sl hR a.name
   have hE7 : doneE R a = readRE R a.name := by simp only [doneE]; rw [if_neg hk, if_pos h7]
   have hB7 : doneB R a = readRB R a.name := by simp only [doneB, h7, if_true]
   have hD7 : doneR R a .nils = R := by simp only [doneR]; rw [if_neg hk, if_neg (by omega), if_neg (by omega)]
   refine ⟨.nils, readRV R a.name, ?_, by rw [hB7]; exact hsl, by rw [hD7]; exact hR.mono (by omega)⟩
   rw [hE7, hD7]
   have hfin : finish false S ⟨S.objs ++ [R.c], S.tips⟩ (.tup [R.v, .int .i64 (readRE R a.name), readRV R a.name]) = (.tup [R.v, .int .i64 (readRE R a.name), readRV R a.name], S) := fin_rd3 hR ((Grows.refl S).objs _) _ hsl
   generalize readRV R a.name = rv at hc hfin ⊢
   generalize readRE R a.name = re at hc hfin ⊢
   simp only [RD.v, RD.c] at hc hfin ⊢
   refine cval_ok' fn_20 rfl ?_
   simp -implicitDefEqProofs [law04_done, actV, pstep, o1, o2, o3, b1, b2, b3, b4, h7, putCells, part7, part1, hc]
   refine ends_ctt (v := _) (w := _) (x := _) ?_ ?_ ?_ hfin <;> first | rfl | (simp [part7] <;> done) | (simp [part7] <;> rfl)
  by_cases h8 : a.kind = 8
  ·have hc := rfuse_val hR ha.n (S := ⟨S.objs ++ [[.int .i64 0, .nils, .nils, .nils, .int .i64 0, .bool false, .int .i64 0]], S.tips⟩)
   have hw := fuseR_wf hR ha.n
   have hD8 : doneR R a .nils = fuseR R a.n := by simp only [doneR]; rw [if_neg hk, if_pos h8]
   refine ⟨.nils, .nils, ?_, by rw [hB h7]; exact z, by rw [hD8]; exact hw.mono (by omega)⟩
   rw [hE h7, hD8]
   have p1 := hw.fs.one.1
   have p2 := hw.bs.one.1
   have p3 := hw.ws.one.1
   have hfin : finish false S ⟨S.objs ++ [(fuseR R a.n).c], S.tips⟩ (.tup [(fuseR R a.n).v, .int .i64 0, .nils]) = (.tup [(fuseR R a.n).v, .int .i64 0, .nils], S) := fin_rd3 hw ((Grows.refl S).objs _) _ z
   generalize fuseR R a.n = R' at hc hfin p1 p2 p3 ⊢
   simp only [RD.v, RD.c] at hc hfin ⊢
   refine cval_ok' fn_20 rfl ?_
   simp -implicitDefEqProofs [law04_done, actV, pstep, o1, o2, o3, p1, p2, p3, b1, b2, b3, b4, h8, putCells, part7, part1, hc]
   refine ends_ctt (v := _) (w := _) (x := _) ?_ ?_ ?_ hfin <;> first | rfl | (simp [part7] <;> done) | (simp [part7] <;> rfl)
  by_cases h9 : a.kind = 9
  ·obtain ⟨lv, l1, hc⟩ := rcrash_val hR hK ha.kept (hlc (crashRK R a.n)) (dirs := a.n) (S := ⟨S.objs ++ [[.int .i64 0, .nils, .nils, .nils, .int .i64 0, .bool false, .int .i64 0]], S.tips⟩)
   have hw := crashR_wf hR a.n a.kept l1
   have hD9 : doneR R a lv = crashR R a.n a.kept lv := by simp only [doneR]; rw [if_neg hk, if_neg h8, if_pos h9]
   refine ⟨lv, .nils, ?_, by rw [hB h7]; exact z, by rw [hD9]; exact hw.mono (by omega)⟩
   rw [hE h7, hD9]
   have p1 := hw.fs.one.1
   have p2 := hw.bs.one.1
   have p3 := hw.ws.one.1
   have hfin : finish false S ⟨S.objs ++ [(crashR R a.n a.kept lv).c], S.tips⟩ (.tup [(crashR R a.n a.kept lv).v, .int .i64 0, .nils]) = (.tup [(crashR R a.n a.kept lv).v, .int .i64 0, .nils], S) := fin_rd3 hw ((Grows.refl S).objs _) _ z
   generalize crashR R a.n a.kept lv = R' at hc hfin p1 p2 p3 ⊢
   simp only [RD.v, RD.c] at hc hfin ⊢
   refine cval_ok' fn_20 rfl ?_
   simp -implicitDefEqProofs [law04_done, actV, pstep, o1, o2, o3, p1, p2, p3, b1, b2, b3, b4, h9, putCells, part7, part1, hc]
   refine ends_ctt (v := _) (w := _) (x := _) ?_ ?_ ?_ hfin <;> first | rfl | (simp [part7] <;> done) | (simp [part7] <;> rfl)
  ·have hD0 : doneR R a .nils = R := by simp only [doneR]; rw [if_neg hk, if_neg h8, if_neg h9]
   refine ⟨.nils, .nils, ?_, by rw [hB h7]; exact z, by rw [hD0]; exact hR.mono (by omega)⟩
   rw [hE h7, hD0]
   have hfin : finish false S ⟨S.objs ++ [R.c], S.tips⟩ (.tup [R.v, .int .i64 0, .nils]) = (.tup [R.v, .int .i64 0, .nils], S) := fin_rd3 hR ((Grows.refl S).objs _) _ z
   have e7 : (a.kind == 7) = false := by rw [beq_eq_false_iff_ne]; omega
   have e8 : (a.kind == 8) = false := by rw [beq_eq_false_iff_ne]; omega
   have e9 : (a.kind == 9) = false := by rw [beq_eq_false_iff_ne]; omega
   simp only [RD.v, RD.c] at hfin ⊢
   refine cval_ok' fn_20 rfl ?_
   by_cases k1 : 1 ≤ a.kind
   ·have k6 : ¬ a.kind ≤ 6 := fun h => hk ⟨k1, h⟩
    simp -implicitDefEqProofs [law04_done, actV, pstep, o1, o2, o3, b1, b2, b3, b4, e7, e8, e9, k1, k6, putCells, part7, part1]
    refine ends_ctt (v := _) (w := _) (x := _) ?_ ?_ ?_ hfin <;> first | rfl | (simp [part7] <;> done) | (simp [part7] <;> rfl)
   ·simp -implicitDefEqProofs [law04_done, actV, pstep, o1, o2, o3, b1, b2, b3, b4, e7, e8, e9, k1, putCells, part7, part1]
    refine ends_ctt (v := _) (w := _) (x := _) ?_ ?_ ?_ hfin <;> first | rfl | (simp [part7] <;> done) | (simp [part7] <;> rfl)

theorem rel_done {S : St} {o K : Nat} {D D' : Dk} {R : RD} (h : At S o K D) (hr : RelD D R) {a : ActD} {r : Int} {b : List UInt8} (hd : DoesD D a r b D') (lv : PV) : doneE R a = r ∧ doneB R a = b ∧ RelD D' (doneR R a lv) := by
 obtain ⟨c1, c2, c3, c4, c5, c6⟩ := rel_chE h hr a.name a.to a.b
 obtain ⟨hs, hS⟩ := rel_step hr
 have hB : a.kind ≠ 7 → doneB R a = [] := fun h => by simp [doneB, h]
 have hch : 1 ≤ a.kind ∧ a.kind ≤ 6 → chE R a.kind a.name a.to a.b = refE D a := by
  intro hk
  have : a.kind = 1 ∨ a.kind = 2 ∨ a.kind = 3 ∨ a.kind = 4 ∨ a.kind = 5 ∨ a.kind = 6 := by omega
  rcases this with e | e | e | e | e | e <;> simp [refE, e, c1, c2, c3, c4, c5, c6]
 have hE : 1 ≤ a.kind ∧ a.kind ≤ 6 → doneE R a = if refE D a ≠ 0 then refE D a else stepR D := fun hk => by simp only [doneE, hk, and_self, if_true, hch hk, hs]
 have hR : 1 ≤ a.kind ∧ a.kind ≤ 6 → doneR R a lv = if refE D a ≠ 0 then R else if stepR D = 6 then stepRD R else chD (stepRD R) a.kind a.name a.to a.b (atR a.name (liveR R)).toNat lv := fun hk => by simp only [doneR, hk, and_self, if_true, hch hk, hs]
 have go : ∀ {k : Int}, a.kind = k → 1 ≤ k ∧ k ≤ 6 → refE D a = 0 → stepR D = 0 → doneE R a = 0 ∧ doneB R a = [] ∧ doneR R a lv = chD (stepRD R) k a.name a.to a.b (atR a.name (liveR R)).toNat lv := by
  intro k hk h16 h0 h1
  rw [← hk] at h16
  rw [hE h16, hB (by omega), hR h16, h0, h1, hk]
  simp
 cases hd with
 | refuse hk he => rw [hE hk, hB (by omega), hR hk, if_pos he, if_pos he]; exact ⟨rfl, rfl, hr⟩
 | dark hk he hs6 =>
  rw [hE hk, hB (by omega), hR hk, he, hs6]
  exact ⟨by simp, rfl, by simpa using hS⟩
 | create hk he hs0 F wv' hF =>
  obtain ⟨g1, g2, g3⟩ := go hk (by omega) (by simp [refE, hk, he]) hs0
  rw [g1, g2, g3]
  refine ⟨rfl, rfl, rel_create h hr ?_ hF hs0⟩
  cases hn : namedB a.name with
  | true => rfl
  | false => have := (find_at h hr a.name).2.2.1.2 hn; simp [createE, this] at he
 | append hk he hs0 f v' hf =>
  obtain ⟨g1, g2, g3⟩ := go hk (by omega) (by simp [refE, hk, he]) hs0
  rw [g1, g2, g3]
  exact ⟨rfl, rfl, (rel_setF h hr hf).1⟩
 | rename hk he hs0 wv' =>
  obtain ⟨g1, g2, g3⟩ := go hk (by omega) (by simp [refE, hk, he]) hs0
  rw [g1, g2, g3]
  refine ⟨rfl, rfl, (rel_wait h hr).1 ?_⟩
  cases hn : namedB a.to with
  | true => rfl
  | false => unfold renameE at he; split at he <;> simp [hn] at he
 | remove hk he hs0 wv' =>
  obtain ⟨g1, g2, g3⟩ := go hk (by omega) (by simp [refE, hk, he]) hs0
  rw [g1, g2, g3]
  exact ⟨rfl, rfl, (rel_wait h hr).2.1⟩
 | sync hk he hs0 f hf =>
  obtain ⟨g1, g2, g3⟩ := go hk (by omega) (by simp [refE, hk, he]) hs0
  rw [g1, g2, g3]
  exact ⟨rfl, rfl, (rel_setF h hr hf).2⟩
 | syncdir hk hs0 B =>
  obtain ⟨g1, g2, g3⟩ := go hk (by omega) (by simp [refE, hk]) hs0
  rw [g1, g2, g3]
  exact ⟨rfl, rfl, (rel_wait h hr (wv' := .nils)).2.2 B⟩
 | read hk =>
  obtain ⟨q1, q2⟩ := rel_read h hr a.name
  have hn : ¬ (1 ≤ a.kind ∧ a.kind ≤ 6) := by omega
  have hr1 : readRE R a.name = readE D a.name := q1
  refine ⟨?_, ?_, ?_⟩
  ·simp only [doneE]; rw [if_neg hn, if_pos hk]; exact hr1
  ·simp only [doneB, hk, if_true]; rw [q2, hr1]; rfl
  ·simp only [doneR]; rw [if_neg hn, if_neg (by omega), if_neg (by omega)]; exact hr
 | fuse hk =>
  have hn : ¬ (1 ≤ a.kind ∧ a.kind ≤ 6) := by omega
  refine ⟨?_, hB (by omega), ?_⟩
  ·simp only [doneE]; rw [if_neg hn, if_neg (by omega)]
  ·simp only [doneR]; rw [if_neg hn, if_pos hk]; exact rel_fuse hr _
 | crash hk li' fv' =>
  have hn : ¬ (1 ≤ a.kind ∧ a.kind ≤ 6) := by omega
  refine ⟨?_, hB (by omega), ?_⟩
  ·simp only [doneE]; rw [if_neg hn, if_neg (by omega)]
  ·simp only [doneR]; rw [if_neg hn, if_neg (by omega), if_pos hk]; exact rel_crash h hr _ _
 | none hk =>
  have hn : ¬ (1 ≤ a.kind ∧ a.kind ≤ 6) := by omega
  refine ⟨?_, hB (by omega), ?_⟩
  ·simp only [doneE]; rw [if_neg hn, if_neg (by omega)]
  ·simp only [doneR]; rw [if_neg hn, if_neg (by omega), if_neg (by omega)]; exact hr
end Ps
namespace Ps
set_option linter.unusedSimpArgs false
set_option linter.unusedVariables false
open Go
theorem fn_21 : T.fn 21 = some (.code law04_whole) := rfl
theorem fn_93 : T.fn 93 = some (.code disk_Disk_Done) := rfl
theorem fn_91 : T.fn 91 = some (.code law04_same) := rfl

theorem same_loop {A B : List Nm} {av bv : PV} (ha : Reads1 1 av (A.map .str)) (hb : Reads1 1 bv (B.map .str)) (hA : A.length ≤ maxLen) {K : List Kt} {Q : Fr → St → Prop} {S : St} :
  ∀ (ra rb pa pb : List Nm), A = pa ++ ra → B = pb ++ rb → pa.length = pb.length → ra.length = rb.length → ∀ (fr : Fr), fr 0 = av → fr 1 = bv → fr 5 = .int .i64 pa.length →
  (ra = rb → ∀ fr', Ok (gval T K fr' S) Q) → (ra ≠ rb → ∀ fr', fr' 4 = .bool false → Q fr' S) →
  Ok (gval T (.lp law04_same_l0 :: .blk 0 :: K) fr S) Q := by
 intro ra
 induction ra with
 | nil =>
  intro rb pa pb hp1 hp2 hl hr fr h0 h1 h5 k1 k2
  have hrb : rb = [] := by simpa using hr.symm
  subst hrb
  rw [List.append_nil] at hp1 hp2; subst hp1; subst hp2
  have hlen := ha.len
  rw [List.length_map] at hlen
  rw [gval_lp]
  simp -implicitDefEqProofs [h0, h1, h5, hlen]
  exact k1 rfl _
 | cons x ra ih =>
  intro rb pa pb hp1 hp2 hl hr fr h0 h1 h5 k1 k2
  cases rb with
  | nil => simp at hr
  | cons y rb =>
   have hi : pa.length < A.length := by rw [hp1]; simp
   have hi2 : pa.length < B.length := by rw [hp2, hl]; simp
   have hlen := ha.len
   rw [List.length_map] at hlen
   have hga := ha.get pa.length (by simpa using hi) .i64
   have hgb := hb.get pa.length (by simpa using hi2) .i64
   have hgx : (A.map PV.str)[pa.length]'(by simpa using hi) = .str x := by simp [hp1]
   have hgy : (B.map PV.str)[pa.length]'(by simpa using hi2) = .str y := by simp [hp2, hl]
   rw [hgx, cells_str] at hga
   rw [hgy, cells_str] at hgb
   unfold maxLen at hA
   have hw := wrap_len (a := pa.length) (by omega)
   have hL : ∀ fr', fr' 0 = av → fr' 1 = bv → fr' 5 = .int .i64 ((pa.length + 1 : Nat) : Int) → x = y → Ok (gval T (.lp law04_same_l0 :: .blk 0 :: K) fr' S) Q := by
    intro fr' g0 g1 g5 e
    subst e
    refine ih rb (pa ++ [x]) (pb ++ [x]) (by simp [hp1]) (by simp [hp2]) (by simp [hl]) (by simpa using hr) fr' g0 g1 (by simpa using g5) (fun e => k1 (by rw [e])) (fun e => k2 (fun e' => e (by simpa using e')))
   have hR : ∀ fr', fr' 4 = .bool false → x ≠ y → Q fr' S := fun fr' g4 e => k2 (fun e' => e (by simp at e'; exact e'.1)) fr' g4
   clear k1 k2 ih
   by_cases e : x = y
   ·rw [gval_lp]
    simp -implicitDefEqProofs [h0, h1, h5, hlen, hi, hga, hgb, part1, e]
    exact hL _ (by simp [h0]) (by simp [h1]) (by simp [hw]) e
   ·have e' : (x == y) = false := by simpa using e
    rw [gval_lp]
    simp -implicitDefEqProofs [h0, h1, h5, hlen, hi, hga, hgb, part1, e']
    exact hR _ (by simp) e

theorem same_val {A B : List Nm} {av bv : PV} (ha : Reads1 1 av (A.map .str)) (hb : Reads1 1 bv (B.map .str)) (hA : A.length ≤ maxLen) {S : St} :
  cval T 91 [av, bv] S = some (.bool (decide (A = B)), S) := by
 have hlen := ha.len
 have hlen2 := hb.len
 rw [List.length_map] at hlen hlen2
 have fb : ∀ b, finish false S S (.bool b) = (.bool b, S) := fun b => fin_gb (Grows.refl S)
 refine cval_ok' fn_91 rfl ?_
 by_cases hl : A.length = B.length
 ·have hl' : ((A.length : Int) != B.length) = false := by simp; omega
  simp -implicitDefEqProofs [law04_same, hlen, hlen2, hl']
  refine same_loop ha hb hA A B [] [] rfl rfl rfl hl _ (by simp) (by simp) (by simp) (fun e fr' => ?_) (fun e fr' h4 => ?_)
  ·simp [e, fb]
  ·simp [h4, e, fb]
 ·have hl' : ((A.length : Int) != B.length) = true := by simp; omega
  have hne : A ≠ B := fun e => hl (by rw [e])
  simp -implicitDefEqProofs [law04_same, hlen, hlen2, hl', hne, fb]


theorem At.grows {S S' : St} {o K : Nat} {D : Dk} (h : At S o K D) (hg : Grows S S') : At S' o K D := by
 obtain ⟨x, t, rfl⟩ := hg
 exact h.grow (fun i c hc => by rw [List.getElem?_append_left (List.getElem?_eq_some_iff.1 hc).1]; exact hc) (fun i c hc => by rw [List.getElem?_append_left (List.getElem?_eq_some_iff.1 hc).1]; exact hc)
theorem str_sl0 {v : PV} {b : List UInt8} (h : Sl0 1 v (ofBytes b)) : toStrP v = some (.str b) := by
 rcases h.val with ⟨rfl, hn⟩ | ⟨sp, rfl, _⟩
 ·have : b = [] := by simpa [ofBytes] using hn
  subst this; rfl
 ·simp only [toStrP, bytesOf_oB]

theorem done_val {S : St} {o K : Nat} {D : Dk} (h : At S o K D) : cval T 93 [.ptr o 0] S = some (.int .i64 D.done, S) := by
 have hob := h.obj
 simp only [dcells] at hob
 refine cval_ok' fn_93 rfl ?_
 simp -implicitDefEqProofs [disk_Disk_Done, loadP_ptr hob, pstep, part1]

theorem whole_val {S : St} {o K : Nat} {D : Dk} {R : RD} (h : At S o K D) (hK : K ≤ 1048570) (hr : RelD D R) {K2 : Nat} (hR : R.Wf K2) (hK2 : K2 ≤ 1048570) : cval T 21 [.ptr o 0, R.v] S = some (.bool true, S) := by
 have o1 := hR.fs.one.1
 have o2 := hR.bs.one.1
 have o3 := hR.ws.one.1
 have hl := list_val h hK
 obtain ⟨v, w1, w2⟩ := rlist_val hR hK2 (S := S)
 have hrd := listV_reads D
 have hnm : namesR R = namesL D := rel_names h hr
 rw [hnm] at w2
 have hnl := h.namesLen
 have hmax : (namesL D).length ≤ maxLen := by unfold maxLen; omega
 have hs := same_val hrd w2.reads hmax (S := S)
 simp only [decide_true] at hs
 have hd := done_val h
 have hct := hr.count
 have hlen := hrd.len
 rw [List.length_map] at hlen
 simp only [RD.v, RD.c] at w1 ⊢
 rw [hct] at w1 ⊢
 refine cval_ok' fn_21 rfl ?_
 simp -implicitDefEqProofs [law04_whole, pstep, o1, o2, o3, part7, part1, hl, w1, hs, hd]
 refine lp_up (namesL D).length (fun i fr S' => fr 0 = .ptr o 0 ∧ fr 3 = .ref [.int .i64 R.room, R.fv, R.bv, R.wv, .int .i64 R.left, .bool R.dark, .int .i64 D.done] ∧ fr 5 = listV D ∧ fr 6 = .int .i64 (i : Int) ∧ Grows S S') ?_ ?_ 0 (Nat.zero_le _) _ _ ⟨by simp, by simp, by simp, by simp, Grows.refl S⟩
 ·rintro i fr S' hi ⟨f0, f3, f5, f6, hg⟩ k
  have hw := wrap_up hi hmax
  have hx := hrd.get i (by simpa using hi) .i64
  have hgx : ((namesL D).map PV.str)[i]'(by simpa using hi) = .str (namesL D)[i] := by simp
  rw [hgx, cells_str] at hx
  have hn := h.namesMax _ (List.getElem_mem hi)
  obtain ⟨n, hn0⟩ : ∃ n, n = (namesL D)[i] := ⟨_, rfl⟩
  rw [← hn0] at hx hn
  have hA := h.grows hg
  have r1 := dread_val hA hn
  have r2 := rread_val hR hK2 hn (fun e he => (rel_bd h hr e he).2) (S := S')
  obtain ⟨q1, q2⟩ := rel_read h hr n
  have e1 : readRE R n = readE D n := q1
  have e2 : readRB R n = readB D n := by rw [q2, e1]; rfl
  have s1 := readV_str hA n
  have s2 := str_sl0 (readR_sl hR n)
  rw [e2] at s2
  rw [e1] at r2
  have hg2 := hg
  have hL : ∀ (fr' : Fr), fr' 0 = .ptr o 0 → fr' 3 = .ref [.int .i64 R.room, R.fv, R.bv, R.wv, .int .i64 R.left, .bool R.dark, .int .i64 D.done] → fr' 5 = listV D → fr' 6 = .int .i64 ((i : Int) + 1) → Ok (gval T (.lp law04_whole_l0 :: .blk 0 :: [.code (.seq (.region law04_whole_r11) .ret)]) fr' S') _ := fun fr' g0 g3 g5 g6 =>
   k fr' _ ⟨g0, g3, g5, by simpa using g6, hg2⟩
  clear k
  simp only [RD.v, RD.c] at r2
  rw [hct] at r2
  generalize readRV R n = rv at r2 s2
  generalize readV D n = rw' at r1 s1
  generalize readB D n = bb at s1 s2
  rw [gval_lp]
  simp -implicitDefEqProofs [f0, f3, f5, f6, hlen, hi, hx, part1, part7, r1, r2, s1, s2]
  exact hL _ (by simp [f0]) (by simp [f3]) (by simp [f5]) (by simp [hw])
 ·rintro fr S' ⟨f0, f3, f5, f6, hg⟩
  rw [gval_lp]
  simp -implicitDefEqProofs [f0, f3, f5, f6, hlen]
  exact fin_gb hg
end Ps
namespace Ps
set_option linter.unusedSimpArgs false
set_option linter.unusedVariables false
open Go
theorem lives_run : pcall T 3000 18 [] St0 = some (.bool true, St0) := by kernel_rfl

theorem lives_pval : pval T 18 [] = some (.bool true) := pval_st (cval_of 3000 lives_run) rfl rfl

abbrev tyAct : Ty := .st (.pair (.int .i64) (.pair .str (.pair .str (.pair (.sl (.int .u8)) (.pair (.int .i64) (.pair (.sl (.int .i64)) .unit))))))
def inB (x : (Ty.sl (.int .u8)).den) : List UInt8 := match x with | none => [] | some q => q.1.map fun n => UInt8.ofNat (Int.toNat n)
def inK (x : (Ty.sl (.int .i64)).den) : List Int := match x with | none => [] | some q => q.1
def actOf (x : tyAct.den) : ActD := ⟨x.1, x.2.1, x.2.2.1, inB x.2.2.2.1, (Ty.sl (.int .u8)).pv x.2.2.2.1, x.2.2.2.2.1, inK x.2.2.2.2.2.1, (Ty.sl (.int .i64)).pv x.2.2.2.2.2.1⟩
def inA (x : (Ty.sl tyAct).den) : List ActD := match x with | none => [] | some q => q.1.map actOf

theorem sl_one {e : Ty} (x : (Ty.sl e).den) : ((Ty.sl e).pv x).one = true ∧ ((Ty.sl e).pv x).cells = [(Ty.sl e).pv x] := by
 cases x with
 | none => exact ⟨rfl, rfl⟩
 | some q => exact ⟨rfl, rfl⟩
theorem inB_isl {x : (Ty.sl (.int .u8)).den} (h : (Ty.sl (.int .u8)).wf x) : IsSl 1 ((Ty.sl (.int .u8)).pv x) (ofBytes (inB x)) := by
 cases x with
 | none => exact .inl ⟨rfl, rfl⟩
 | some q =>
  obtain ⟨es, sp⟩ := q
  have key : ∀ l : List Int, (∀ n ∈ l, (Lit.int .u8 n).wf = true) → ofBytes (l.map fun n => UInt8.ofNat n.toNat) = l.map fun n => PV.int .u8 n := by
   intro l hl
   induction l with
   | nil => rfl
   | cons n l ih =>
    have hn := hl n (by simp)
    simp only [Lit.wf, Bool.and_eq_true, decide_eq_true_eq] at hn
    have h1 : 0 ≤ n ∧ n ≤ 255 := by simpa [IntKind.min, IntKind.max, IntKind.signed, IntKind.bits] using hn
    have h2 : ((UInt8.ofNat n.toNat).toNat : Int) = n := by
     have : n.toNat < 256 := by omega
     simp [Nat.mod_eq_of_lt this]; omega
    simp only [ofBytes, List.map_cons, h2] at ih ⊢
    rw [ih (fun m hm => hl m (by simp [hm]))]
  refine .inr ⟨none, sp.map fun n => PV.int .u8 n, ?_, ?_⟩
  ·show PV.sl none (es.map fun n => PV.int .u8 n) (sp.map fun n => PV.int .u8 n) = _
   rw [← key es h.2.1]; rfl
  ·intro e he
   rcases List.mem_append.1 he with he | he
   ·simp only [ofBytes, List.mem_map] at he
    obtain ⟨_, _, rfl⟩ := he; rfl
   ·obtain ⟨n, _, rfl⟩ := List.mem_map.1 he; rfl
theorem inK_reads (x : (Ty.sl (.int .i64)).den) : Reads1 1 ((Ty.sl (.int .i64)).pv x) ((inK x).map (.int .i64)) := by
 cases x with
 | none => exact reads_nils 1
 | some q =>
  obtain ⟨es, sp⟩ := q
  exact reads_sl (es := es.map (.int .i64)) (fun e he => by obtain ⟨_, _, rfl⟩ := List.mem_map.1 he; rfl)

theorem actOf_wf {x : tyAct.den} (h : tyAct.wf x) : (actOf x).Wf := by
 obtain ⟨k, n, t, b, i, kp, u⟩ := x
 obtain ⟨h1, h2, h3, h4, h5, h6, _⟩ := h
 have hb := inB_isl h4
 have hi : (Lit.int .i64 i).wf = true := h5
 simp only [Lit.wf, Bool.and_eq_true, decide_eq_true_eq] at hi
 have hi2 := hi.2
 simp [IntKind.max, IntKind.signed, IntKind.bits] at hi2
 exact {
  name := h2
  to := h3
  len := by have := hb.len; rw [show (ofBytes (inB b)).length = (inB b).length by simp [ofBytes]] at this; exact this
  app := hb.appd
  kept := inK_reads kp
  n := hi2
  bone := (sl_one b).1
  kone := (sl_one kp).1
  bcells := (sl_one b).2
  kcells := (sl_one kp).2 }

theorem actV_of (x : tyAct.den) : tyAct.pv x = actV (actOf x) := by
 obtain ⟨k, n, t, b, i, kp, u⟩ := x
 cases b <;> cases kp <;> rfl

theorem inA_reads {x : (Ty.sl tyAct).den} : Reads1 6 ((Ty.sl tyAct).pv x) ((inA x).map actV) := by
 cases x with
 | none => exact reads_nils 6
 | some q =>
  obtain ⟨es, sp⟩ := q
  have he : (Ty.sl tyAct).pv (some (es, sp)) = .sl none ((es.map actOf).map actV) (sp.map fun x => tyAct.pv x) := by
   show PV.sl none (es.map fun x => tyAct.pv x) (sp.map fun x => tyAct.pv x) = _
   rw [List.map_map]
   congr 1
   exact List.map_congr_left (fun x _ => actV_of x)
  rw [he]
  refine reads_sl (fun e he => ?_)
  obtain ⟨x, _, rfl⟩ := List.mem_map.1 he
  rfl
theorem inA_wf {x : (Ty.sl tyAct).den} (h : (Ty.sl tyAct).wf x) : (inA x).length ≤ maxLen ∧ ∀ a ∈ inA x, a.Wf := by
 cases x with
 | none => exact ⟨Nat.zero_le _, fun y hy => by simp [inA] at hy⟩
 | some q =>
  obtain ⟨es, sp⟩ := q
  refine ⟨by simp only [inA, List.length_map]; exact Nat.le_trans (Nat.le_add_right _ _) h.1, fun y hy => ?_⟩
  obtain ⟨x, hx, rfl⟩ := List.mem_map.1 hy
  exact actOf_wf (h.2.1 x hx)

theorem part6 {a : ActD} : partOf true 6 (actV a).cells = some (actV a) := rfl


theorem inA_b {x : (Ty.sl tyAct).den} (h : (Ty.sl tyAct).wf x) : ∀ a ∈ inA x, a.b.length ≤ maxLen := by
 cases x with
 | none => exact fun y hy => by simp [inA] at hy
 | some q =>
  obtain ⟨es, sp⟩ := q
  intro y hy
  obtain ⟨x, hx, rfl⟩ := List.mem_map.1 hy
  have h2 := h.2.1 x hx
  obtain ⟨k, n, t, b, i, kp, u⟩ := x
  obtain ⟨_, _, _, h4, _⟩ := h2
  cases b with
  | none => exact Nat.zero_le _
  | some q =>
   obtain ⟨bs, sp⟩ := q
   have h5 := h4.1
   refine Nat.le_trans (Nat.le_of_eq (List.length_map (fun n : (Ty.int .u8).den => UInt8.ofNat (Int.toNat n)))) (Nat.le_trans (Nat.le_add_right _ _) h5)
theorem At.other {S S3 : St} {o K : Nat} {D : Dk} (h : At S o K D) {id : Option Nat} (h1 : id ≠ some o) (h2 : ∀ i, id = some i → ¬ OwnsO D i) (ho : ∀ (i : Nat) (c : List PV), id ≠ some i → S.objs[i]? = some c → S3.objs[i]? = some c) (ht : S3.tips = S.tips) : At S3 o K D where
 obj := ho _ _ h1 h.obj
 base := ho _ _ (fun e => h2 _ e (.inl rfl)) h.base
 live := ho _ _ (fun e => h2 _ e (.inr (.inl rfl))) h.live
 wv := by rw [show S3 = ⟨S3.objs, S.tips⟩ by rw [← ht]]; exact h.wv
 file := fun f hf => by
  obtain ⟨q1, q2, q3⟩ := h.file f hf
  refine ⟨ho _ _ (fun e => h2 _ e (.inr (.inr hf))) q1, ?_, q3⟩
  rw [show S3 = ⟨S3.objs, S.tips⟩ by rw [← ht]]; exact q2
 inb := h.inb
 inw := h.inw
 nd := h.nd
 tw := h.tw
 tf := h.tf
 hist := h.hist
 nb := h.nb
 nw := h.nw
 rm := h.rm
 cnt := h.cnt
 dn := h.dn
 lf := h.lf

theorem At.stays {S S1 : St} {o K : Nat} {D : Dk} (h : At S o K D) (ho : ∀ (i : Nat) (x : List PV), (i = o ∨ OwnsO D i) → S.objs[i]? = some x → S1.objs[i]? = some x) (ht : ∀ k, Owns D k → S1.tips[k]? = S.tips[k]?) : At S1 o K D where
 obj := ho _ _ (.inl rfl) h.obj
 base := ho _ _ (.inr (.inl rfl)) h.base
 live := ho _ _ (.inr (.inr (.inl rfl))) h.live
 wv := h.wv.of fun k hk => ht k (.inl hk)
 file := fun f hf => by
  obtain ⟨q1, q2, q3⟩ := h.file f hf
  exact ⟨ho _ _ (.inr (.inr (.inr hf))) q1, q2.of fun k hk => ht k (.inr ⟨f, hf, hk⟩), q3⟩
 inb := h.inb
 inw := h.inw
 nd := h.nd
 tw := h.tw
 tf := h.tf
 hist := h.hist
 nb := h.nb
 nw := h.nw
 rm := h.rm
 cnt := h.cnt
 dn := h.dn
 lf := h.lf
end Ps
