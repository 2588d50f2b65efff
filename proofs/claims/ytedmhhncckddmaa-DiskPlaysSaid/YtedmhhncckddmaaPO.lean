/- The document's answer to a call, and that the two stay alike. -/
import Derived.Test.YtedmhhncckddmaaPN
import Derived.Test.YtedmhhncckddmaaGJ
namespace Ps
set_option linter.unusedSimpArgs false
set_option linter.unusedVariables false
open Go

theorem fn_20 : T.fn 20 = some (.code law04_done) := rfl

theorem len_at {R : RD} {K : Nat} (hR : R.Wf K) {name : Nm} : ∀ l : List RE, 0 ≤ atR name l → lenAt R.files (atR name l) ≤ lensR R.files l := by
  intro l
  induction l with
  | nil => intro h; simp [atR] at h
  | cons x l ih =>
    obtain ⟨q, g⟩ := x
    intro h
    have hbd := lensR_bd hR l
    have hbd2 := lenAt_bd hR g
    simp only [atR, lensR] at h ⊢
    by_cases hq : (q == name) = true
    · simp only [hq, if_true]; omega
    · simp only [hq, if_false, Bool.false_eq_true] at h ⊢
      have := ih h; omega

theorem change_wf {R : RD} {K : Nat} (hR : R.Wf K) {kind : Int} {name to : Nm} {b : List UInt8} {lv : PV} (hl : Sl0 2 lv ((liveR R).map entR)) (he : chE R kind name to b = 0) : (chD (stepRD R) kind name to b (atR name (liveR R)).toNat lv).Wf (K + 2) := by
  refine chD_wf (stepRD_wf hR) (by rw [liveR_step]; exact hl) fun hk f hf => ?_
  subst hk
  rw [stepRD_files] at hf
  have hn : 0 ≤ atR name (liveR R) := by
    by_cases h : 0 ≤ atR name (liveR R)
    · exact h
    · exfalso
      have h' : atR name (liveR R) < 0 := by omega
      unfold chE at he
      by_cases hnm : namedB name = false
      · simp [hnm] at he
      · have : namedB name = true := by simpa using hnm
        simp [this, h'] at he
  have h8 : ¬ (b.length : Int) > R.room - lensR R.files (liveR R) := by
    intro hc
    have h' : ¬ atR name (liveR R) < 0 := by omega
    unfold chE at he
    by_cases hnm : namedB name = false
    · simp [hnm] at he
    · have : namedB name = true := by simpa using hnm
      have hc' : R.room - lensR R.files (liveR R) < (b.length : Int) := hc
      simp [this, h', hc'] at he
  have h9 := len_at hR (liveR R) hn
  have : lenAt R.files (atR name (liveR R)) = f.b.length := by simp only [lenAt, hf]
  have := hR.rm
  omega

def doneE (R : RD) (a : ActD) : Int := if 1 ≤ a.kind ∧ a.kind ≤ 6 then (if chE R a.kind a.name a.to a.b ≠ 0 then chE R a.kind a.name a.to a.b else stepE R) else if a.kind = 7 then readRE R a.name else 0
def doneB (R : RD) (a : ActD) : List UInt8 := if a.kind = 7 then readRB R a.name else []
def doneR (R : RD) (a : ActD) (lv : PV) : RD :=
  if 1 ≤ a.kind ∧ a.kind ≤ 6 then (if chE R a.kind a.name a.to a.b ≠ 0 then R else if stepE R = 6 then stepRD R else chD (stepRD R) a.kind a.name a.to a.b (atR a.name (liveR R)).toNat lv)
  else if a.kind = 8 then fuseR R a.n else if a.kind = 9 then crashR R a.n a.kept lv else R

theorem fin_rd3 {R : RD} {K : Nat} (h : R.Wf K) {S S' : St} (hg : Grows S S') (e : Int) {bv : PV} {es : List PV} (hb : Sl0 1 bv es) : finish false S S' (.tup [R.v, .int .i64 e, bv]) = (.tup [R.v, .int .i64 e, bv], S) := by
  rw [fin_free hg (by simp [PV.free, PV.freeL, h.free, hb.free])]
  simp [PV.frz, PV.frzL, h.frz, hb.frz]

theorem RD.Wf.mono {R : RD} {K K' : Nat} (h : R.Wf K) (hk : K ≤ K') : R.Wf K' :=
  { h with fl := Nat.le_trans h.fl hk, bl := Nat.le_trans h.bl hk, ct := ⟨h.ct.1, by have := h.ct.2; omega⟩ }
theorem stepE_or (R : RD) : stepE R = 0 ∨ stepE R = 6 := by unfold stepE; split <;> simp

set_option maxHeartbeats 2000000 in
theorem rdone_val {R : RD} {K : Nat} (hR : R.Wf K) (hK : K ≤ 1048560) {a : ActD} (ha : a.Wf) (hbm : a.b.length ≤ maxLen) (hlv : ∀ e ∈ liveR R, 0 ≤ e.2 ∧ e.2 < R.files.length) (hlc : ∀ k, ∀ e ∈ dirL R.base (R.wait.take k), 0 ≤ e.2 ∧ e.2 < R.files.length) {S : St} :
    ∃ lv bv, cval T 20 [R.v, actV a] S = some (.tup [(doneR R a lv).v, .int .i64 (doneE R a), bv], S) ∧ Sl0 1 bv (ofBytes (doneB R a)) ∧ (doneR R a lv).Wf (K + 2) := by
  have o1 := hR.fs.one.1
  have o2 := hR.bs.one.1
  have o3 := hR.ws.one.1
  have b1 := ha.bone
  have b2 := ha.kone
  have b3 := ha.bcells
  have b4 := ha.kcells
  have z : Sl0 1 .nils (ofBytes []) := sl0_nils 1
  by_cases hk : 1 ≤ a.kind ∧ a.kind ≤ 6
  · obtain ⟨lv, l2, hc⟩ := change_val hR hK hk ha.name ha.to (fun S => appdS ha.app) ha.len hbm hlv (S := ⟨S.objs ++ [[.int .i64 0, .nils, .nils, .nils, .int .i64 0, .bool false, .int .i64 0]], S.tips⟩)
    have hB : doneB R a = [] := by simp only [doneB]; rw [if_neg (by omega)]
    have k1 : ¬ a.kind < 1 := by omega
    have hE : doneE R a = if chE R a.kind a.name a.to a.b ≠ 0 then chE R a.kind a.name a.to a.b else stepE R := by simp only [doneE, hk, and_self, if_true]
    have hD : doneR R a lv = if chE R a.kind a.name a.to a.b ≠ 0 then R else if stepE R = 6 then stepRD R else chD (stepRD R) a.kind a.name a.to a.b (atR a.name (liveR R)).toNat lv := by simp only [doneR, hk, and_self, if_true]
    have hW : (doneR R a lv).Wf (K + 2) := by
      rw [hD]
      split
      · exact hR.mono (by omega)
      · rename_i h0
        split
        · exact (stepRD_wf hR).mono (by omega)
        · exact change_wf hR l2 (by simpa using h0)
    have hc' : cval T 86 [R.v, .int .i64 a.kind, .str a.name, .str a.to, a.bv] ⟨S.objs ++ [[.int .i64 0, .nils, .nils, .nils, .int .i64 0, .bool false, .int .i64 0]], S.tips⟩ = some (.tup [(doneR R a lv).v, .int .i64 (doneE R a)], ⟨S.objs ++ [[.int .i64 0, .nils, .nils, .nils, .int .i64 0, .bool false, .int .i64 0]], S.tips⟩) := by
      rw [hc, hD, hE]
      congr 2
      split
      · rfl
      · split
        · rename_i h6; rw [h6]
        · rename_i h6
          rcases stepE_or R with h | h
          · rw [h]
          · exact absurd h h6
    refine ⟨lv, .nils, ?_, by rw [hB]; exact z, hW⟩
    obtain ⟨R', hR'⟩ : ∃ R', R' = doneR R a lv := ⟨_, rfl⟩
    obtain ⟨e, he⟩ : ∃ e, e = doneE R a := ⟨_, rfl⟩
    rw [← hR', ← he] at hc' ⊢
    rw [← hR'] at hW
    have p1 := hW.fs.one.1
    have p2 := hW.bs.one.1
    have p3 := hW.ws.one.1
    have hfin : finish false S ⟨S.objs ++ [R'.c, R'.c], S.tips⟩ (.tup [R'.v, .int .i64 e, .nils]) = (.tup [R'.v, .int .i64 e, .nils], S) := fin_rd3 hW ((Grows.refl S).objs _) e z
    simp only [RD.v, RD.c] at hc' hfin ⊢
    refine cval_ok' fn_20 rfl ?_
    simp -implicitDefEqProofs [law04_done, actV, pstep, o1, o2, o3, p1, p2, p3, b1, b2, b3, b4, hk.1, hk.2, putCells, part7, part1, hc']
    exact ends_ctt (by simp [part7] <;> rfl) (by simp <;> rfl) (by simp <;> rfl) hfin
  · have hB : a.kind ≠ 7 → doneB R a = [] := fun h => by simp [doneB, h]
    have hE : a.kind ≠ 7 → doneE R a = 0 := fun h => by simp only [doneE, hk, h, if_false]
    by_cases h7 : a.kind = 7
    · have hc := rread_val hR (by omega) ha.name (fun e he => (hlv e he).2) (S := ⟨S.objs ++ [[.int .i64 0, .nils, .nils, .nils, .int .i64 0, .bool false, .int .i64 0]], S.tips⟩)
      have hsl := readR_sl hR a.name
      have hE7 : doneE R a = readRE R a.name := by simp only [doneE]; rw [if_neg hk, if_pos h7]
      have hB7 : doneB R a = readRB R a.name := by simp only [doneB, h7, if_true]
      have hD7 : doneR R a .nils = R := by simp only [doneR]; rw [if_neg hk, if_neg (by omega), if_neg (by omega)]
      refine ⟨.nils, readRV R a.name, ?_, by rw [hB7]; exact hsl, by rw [hD7]; exact hR.mono (by omega)⟩
      rw [hE7, hD7]
      have hfin : finish false S ⟨S.objs ++ [R.c], S.tips⟩ (.tup [R.v, .int .i64 (readRE R a.name), readRV R a.name]) = (.tup [R.v, .int .i64 (readRE R a.name), readRV R a.name], S) := fin_rd3 hR ((Grows.refl S).objs _) _ hsl
      generalize readRV R a.name = rv at hc hfin ⊢
      generalize readRE R a.name = re at hc hfin ⊢
      simp only [RD.v, RD.c] at hc hfin ⊢
      refine cval_ok' fn_20 rfl ?_
      simp -implicitDefEqProofs [law04_done, actV, pstep, o1, o2, o3, b1, b2, b3, b4, h7, putCells, part7, part1, hc]
      refine ends_ctt (v := _) (w := _) (x := _) ?_ ?_ ?_ hfin <;> first | rfl | (simp [part7] <;> done) | (simp [part7] <;> rfl)
    by_cases h8 : a.kind = 8
    · have hc := rfuse_val hR ha.n (S := ⟨S.objs ++ [[.int .i64 0, .nils, .nils, .nils, .int .i64 0, .bool false, .int .i64 0]], S.tips⟩)
      have hw := fuseR_wf hR ha.n
      have hD8 : doneR R a .nils = fuseR R a.n := by simp only [doneR]; rw [if_neg hk, if_pos h8]
      refine ⟨.nils, .nils, ?_, by rw [hB h7]; exact z, by rw [hD8]; exact hw.mono (by omega)⟩
      rw [hE h7, hD8]
      have p1 := hw.fs.one.1
      have p2 := hw.bs.one.1
      have p3 := hw.ws.one.1
      have hfin : finish false S ⟨S.objs ++ [(fuseR R a.n).c], S.tips⟩ (.tup [(fuseR R a.n).v, .int .i64 0, .nils]) = (.tup [(fuseR R a.n).v, .int .i64 0, .nils], S) := fin_rd3 hw ((Grows.refl S).objs _) _ z
      generalize fuseR R a.n = R' at hc hfin p1 p2 p3 ⊢
      simp only [RD.v, RD.c] at hc hfin ⊢
      refine cval_ok' fn_20 rfl ?_
      simp -implicitDefEqProofs [law04_done, actV, pstep, o1, o2, o3, p1, p2, p3, b1, b2, b3, b4, h8, putCells, part7, part1, hc]
      refine ends_ctt (v := _) (w := _) (x := _) ?_ ?_ ?_ hfin <;> first | rfl | (simp [part7] <;> done) | (simp [part7] <;> rfl)
    by_cases h9 : a.kind = 9
    · obtain ⟨lv, l1, hc⟩ := rcrash_val hR hK ha.kept (hlc (crashRK R a.n)) (dirs := a.n) (S := ⟨S.objs ++ [[.int .i64 0, .nils, .nils, .nils, .int .i64 0, .bool false, .int .i64 0]], S.tips⟩)
      have hw := crashR_wf hR a.n a.kept l1
      have hD9 : doneR R a lv = crashR R a.n a.kept lv := by simp only [doneR]; rw [if_neg hk, if_neg h8, if_pos h9]
      refine ⟨lv, .nils, ?_, by rw [hB h7]; exact z, by rw [hD9]; exact hw.mono (by omega)⟩
      rw [hE h7, hD9]
      have p1 := hw.fs.one.1
      have p2 := hw.bs.one.1
      have p3 := hw.ws.one.1
      have hfin : finish false S ⟨S.objs ++ [(crashR R a.n a.kept lv).c], S.tips⟩ (.tup [(crashR R a.n a.kept lv).v, .int .i64 0, .nils]) = (.tup [(crashR R a.n a.kept lv).v, .int .i64 0, .nils], S) := fin_rd3 hw ((Grows.refl S).objs _) _ z
      generalize crashR R a.n a.kept lv = R' at hc hfin p1 p2 p3 ⊢
      simp only [RD.v, RD.c] at hc hfin ⊢
      refine cval_ok' fn_20 rfl ?_
      simp -implicitDefEqProofs [law04_done, actV, pstep, o1, o2, o3, p1, p2, p3, b1, b2, b3, b4, h9, putCells, part7, part1, hc]
      refine ends_ctt (v := _) (w := _) (x := _) ?_ ?_ ?_ hfin <;> first | rfl | (simp [part7] <;> done) | (simp [part7] <;> rfl)
    · have hD0 : doneR R a .nils = R := by simp only [doneR]; rw [if_neg hk, if_neg h8, if_neg h9]
      refine ⟨.nils, .nils, ?_, by rw [hB h7]; exact z, by rw [hD0]; exact hR.mono (by omega)⟩
      rw [hE h7, hD0]
      have hfin : finish false S ⟨S.objs ++ [R.c], S.tips⟩ (.tup [R.v, .int .i64 0, .nils]) = (.tup [R.v, .int .i64 0, .nils], S) := fin_rd3 hR ((Grows.refl S).objs _) _ z
      have e7 : (a.kind == 7) = false := by rw [beq_eq_false_iff_ne]; omega
      have e8 : (a.kind == 8) = false := by rw [beq_eq_false_iff_ne]; omega
      have e9 : (a.kind == 9) = false := by rw [beq_eq_false_iff_ne]; omega
      simp only [RD.v, RD.c] at hfin ⊢
      refine cval_ok' fn_20 rfl ?_
      by_cases k1 : 1 ≤ a.kind
      · have k6 : ¬ a.kind ≤ 6 := fun h => hk ⟨k1, h⟩
        simp -implicitDefEqProofs [law04_done, actV, pstep, o1, o2, o3, b1, b2, b3, b4, e7, e8, e9, k1, k6, putCells, part7, part1]
        refine ends_ctt (v := _) (w := _) (x := _) ?_ ?_ ?_ hfin <;> first | rfl | (simp [part7] <;> done) | (simp [part7] <;> rfl)
      · simp -implicitDefEqProofs [law04_done, actV, pstep, o1, o2, o3, b1, b2, b3, b4, e7, e8, e9, k1, putCells, part7, part1]
        refine ends_ctt (v := _) (w := _) (x := _) ?_ ?_ ?_ hfin <;> first | rfl | (simp [part7] <;> done) | (simp [part7] <;> rfl)

theorem rel_done {S : St} {o K : Nat} {D D' : Dk} {R : RD} (h : At S o K D) (hr : RelD D R) {a : ActD} {r : Int} {b : List UInt8} (hd : DoesD D a r b D') (lv : PV) : doneE R a = r ∧ doneB R a = b ∧ RelD D' (doneR R a lv) := by
  obtain ⟨c1, c2, c3, c4, c5, c6⟩ := rel_chE h hr a.name a.to a.b
  obtain ⟨hs, hS⟩ := rel_step hr
  have hB : a.kind ≠ 7 → doneB R a = [] := fun h => by simp [doneB, h]
  have hch : 1 ≤ a.kind ∧ a.kind ≤ 6 → chE R a.kind a.name a.to a.b = refE D a := by
    intro hk
    have : a.kind = 1 ∨ a.kind = 2 ∨ a.kind = 3 ∨ a.kind = 4 ∨ a.kind = 5 ∨ a.kind = 6 := by omega
    rcases this with e | e | e | e | e | e <;> simp [refE, e, c1, c2, c3, c4, c5, c6]
  have hE : 1 ≤ a.kind ∧ a.kind ≤ 6 → doneE R a = if refE D a ≠ 0 then refE D a else stepR D := fun hk => by simp only [doneE, hk, and_self, if_true, hch hk, hs]
  have hR : 1 ≤ a.kind ∧ a.kind ≤ 6 → doneR R a lv = if refE D a ≠ 0 then R else if stepR D = 6 then stepRD R else chD (stepRD R) a.kind a.name a.to a.b (atR a.name (liveR R)).toNat lv := fun hk => by simp only [doneR, hk, and_self, if_true, hch hk, hs]
  have go : ∀ {k : Int}, a.kind = k → 1 ≤ k ∧ k ≤ 6 → refE D a = 0 → stepR D = 0 → doneE R a = 0 ∧ doneB R a = [] ∧ doneR R a lv = chD (stepRD R) k a.name a.to a.b (atR a.name (liveR R)).toNat lv := by
    intro k hk h16 h0 h1
    rw [← hk] at h16
    rw [hE h16, hB (by omega), hR h16, h0, h1, hk]
    simp
  cases hd with
  | refuse hk he => rw [hE hk, hB (by omega), hR hk, if_pos he, if_pos he]; exact ⟨rfl, rfl, hr⟩
  | dark hk he hs6 =>
    rw [hE hk, hB (by omega), hR hk, he, hs6]
    exact ⟨by simp, rfl, by simpa using hS⟩
  | create hk he hs0 F wv' hF =>
    obtain ⟨g1, g2, g3⟩ := go hk (by omega) (by simp [refE, hk, he]) hs0
    rw [g1, g2, g3]
    refine ⟨rfl, rfl, rel_create h hr ?_ hF hs0⟩
    cases hn : namedB a.name with
    | true => rfl
    | false => have := (find_at h hr a.name).2.2.1.2 hn; simp [createE, this] at he
  | append hk he hs0 f v' hf =>
    obtain ⟨g1, g2, g3⟩ := go hk (by omega) (by simp [refE, hk, he]) hs0
    rw [g1, g2, g3]
    exact ⟨rfl, rfl, (rel_setF h hr hf).1⟩
  | rename hk he hs0 wv' =>
    obtain ⟨g1, g2, g3⟩ := go hk (by omega) (by simp [refE, hk, he]) hs0
    rw [g1, g2, g3]
    refine ⟨rfl, rfl, (rel_wait h hr).1 ?_⟩
    cases hn : namedB a.to with
    | true => rfl
    | false => unfold renameE at he; split at he <;> simp [hn] at he
  | remove hk he hs0 wv' =>
    obtain ⟨g1, g2, g3⟩ := go hk (by omega) (by simp [refE, hk, he]) hs0
    rw [g1, g2, g3]
    exact ⟨rfl, rfl, (rel_wait h hr).2.1⟩
  | sync hk he hs0 f hf =>
    obtain ⟨g1, g2, g3⟩ := go hk (by omega) (by simp [refE, hk, he]) hs0
    rw [g1, g2, g3]
    exact ⟨rfl, rfl, (rel_setF h hr hf).2⟩
  | syncdir hk hs0 B =>
    obtain ⟨g1, g2, g3⟩ := go hk (by omega) (by simp [refE, hk]) hs0
    rw [g1, g2, g3]
    exact ⟨rfl, rfl, (rel_wait h hr (wv' := .nils)).2.2 B⟩
  | read hk =>
    obtain ⟨q1, q2⟩ := rel_read h hr a.name
    have hn : ¬ (1 ≤ a.kind ∧ a.kind ≤ 6) := by omega
    have hr1 : readRE R a.name = readE D a.name := q1
    refine ⟨?_, ?_, ?_⟩
    · simp only [doneE]; rw [if_neg hn, if_pos hk]; exact hr1
    · simp only [doneB, hk, if_true]; rw [q2, hr1]; rfl
    · simp only [doneR]; rw [if_neg hn, if_neg (by omega), if_neg (by omega)]; exact hr
  | fuse hk =>
    have hn : ¬ (1 ≤ a.kind ∧ a.kind ≤ 6) := by omega
    refine ⟨?_, hB (by omega), ?_⟩
    · simp only [doneE]; rw [if_neg hn, if_neg (by omega)]
    · simp only [doneR]; rw [if_neg hn, if_pos hk]; exact rel_fuse hr _
  | crash hk li' fv' =>
    have hn : ¬ (1 ≤ a.kind ∧ a.kind ≤ 6) := by omega
    refine ⟨?_, hB (by omega), ?_⟩
    · simp only [doneE]; rw [if_neg hn, if_neg (by omega)]
    · simp only [doneR]; rw [if_neg hn, if_neg (by omega), if_pos hk]; exact rel_crash h hr _ _
  | none hk =>
    have hn : ¬ (1 ≤ a.kind ∧ a.kind ≤ 6) := by omega
    refine ⟨?_, hB (by omega), ?_⟩
    · simp only [doneE]; rw [if_neg hn, if_neg (by omega)]
    · simp only [doneR]; rw [if_neg hn, if_neg (by omega), if_neg (by omega)]; exact hr

end Ps
