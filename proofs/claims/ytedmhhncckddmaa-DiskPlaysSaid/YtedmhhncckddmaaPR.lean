/- The law DiskPlays. -/
import Derived.Test.YtedmhhncckddmaaPQ
namespace Ps
set_option linter.unusedSimpArgs false
set_option linter.unusedVariables false
open Go

theorem fn_3 : T.fn 3 = some (.code law04_DiskPlays) := rfl

theorem rnew_bad2 {room : Int} (h : room < 1 ∨ 4194304 < room) : pval T 17 [.int .i64 room] = some (.tup [.agg [.int .i64 0, .nils, .nils, .nils, .int .i64 0, .bool false, .int .i64 0], .int .i64 2]) := by
  refine pval_st ?_ rfl rfl
  have hf : finish false St0 ⟨St0.objs ++ [[.int .i64 0, .nils, .nils, .nils, .int .i64 0, .bool false, .int .i64 0]], St0.tips⟩ (.tup [.agg [.int .i64 0, .nils, .nils, .nils, .int .i64 0, .bool false, .int .i64 0], .int .i64 2]) = (.tup [.agg [.int .i64 0, .nils, .nils, .nils, .int .i64 0, .bool false, .int .i64 0], .int .i64 2], St0) :=
    fin_free ((Grows.refl St0).objs [_]) rfl
  refine cval_ok' fn_17 rfl ?_
  by_cases h1 : room < 1
  · simp -implicitDefEqProofs [ref04_New, pstep, putCells, peval, fillParts, part7, h1]
    exact ends_ct (by simp [part7] <;> rfl) (by simp <;> rfl) hf
  · have h2 : 4194304 < room := by omega
    simp -implicitDefEqProofs [ref04_New, pstep, putCells, peval, fillParts, part7, h1, h2]
    exact ends_ct (by simp [part7] <;> rfl) (by simp <;> rfl) hf

theorem doneB_len {R : RD} {K : Nat} (h : R.Wf K) (a : ActD) : (doneB R a).length ≤ maxLen := by
  unfold doneB readRB
  split
  · split
    · split
      · rename_i f hf
        have := (h.ff f (List.mem_of_getElem? hf)).2.2.2
        unfold maxLen; omega
      · exact Nat.zero_le _
    · exact Nat.zero_le _
  · exact Nat.zero_le _

theorem own_grow {o : Nat} {S S1 : St} {D : Dk} {bv : PV} {b : List UInt8} (h : OwnB o S S1 D bv b) (x : List (List PV)) : OwnB o S ⟨S1.objs ++ x, S1.tips⟩ D bv b := by
  rcases h with h | ⟨id, h1, h2, h3, h4⟩
  · exact .inl h
  · refine .inr ⟨id, h1, h2, ?_, h4⟩
    simp only
    rw [List.getElem?_append_left (List.getElem?_eq_some_iff.1 h3).1]; exact h3

theorem plays_loop {al : List ActD} {v : PV} (hv : Reads1 6 v (al.map actV)) (hl : al.length ≤ maxLen) (hw : ∀ a ∈ al, a.Wf) (hb : ∀ a ∈ al, a.b.length ≤ maxLen) (hz : ∀ a ∈ al, (actV a).free = true ∧ (actV a).frz = actV a) {KK : List Kt} {Q : Fr → St → Prop}
    (hK : ∀ fr S D R, fr 5 = .ptr 2 0 → fr 7 = .ptr 3 0 → At S 2 120 D → S.objs[3]? = some R.c → RelD D R → R.Wf 120 → Ok (gval T KK fr S) Q)
    (hQ : ∀ fr S, fr 4 = .bool true → Q fr S)
    (fr0 : Fr) (S0 : St) (D0 : Dk) (R0 : RD) (g1 : fr0 1 = v) (g5 : fr0 5 = .ptr 2 0) (g7 : fr0 7 = .ptr 3 0) (g9 : fr0 9 = .int .i64 0) (hA0 : At S0 2 0 D0) (h30 : S0.objs[3]? = some R0.c) (hn0 : ¬ OwnsO D0 3) (hr0 : RelD D0 R0) (hw0 : R0.Wf 0) :
    Ok (gval T (.lp law04_DiskPlays_l0 :: .blk 0 :: KK) fr0 S0) Q := by
  have hlen := hv.len
  rw [List.length_map] at hlen
  refine lp_up (min al.length 60) (fun i fr S => fr 1 = v ∧ fr 5 = .ptr 2 0 ∧ fr 7 = .ptr 3 0 ∧ fr 9 = .int .i64 (i : Int) ∧ ∃ D R, At S 2 (2 * i) D ∧ S.objs[3]? = some R.c ∧ ¬ OwnsO D 3 ∧ RelD D R ∧ R.Wf (2 * i)) ?_ ?_ 0 (Nat.zero_le _) _ _ ⟨g1, g5, g7, by simpa using g9, D0, R0, hA0, h30, hn0, hr0, hw0⟩
  · rintro i fr S hi ⟨f1, f5, f7, f9, D, R, hA, h3, hn, hr, hR⟩ k
    have hi1 : i < al.length := by omega
    have hi2 : (i : Int) < 60 := by omega
    have hwr := wrap_up hi1 hl
    have hg := hv.get i (by simpa using hi1) .i64
    have hgx : (al.map actV)[i]'(by simpa using hi1) = actV al[i] := by simp
    rw [hgx] at hg
    have haw := hw _ (List.getElem_mem hi1)
    have hab := hb _ (List.getElem_mem hi1)
    obtain ⟨hz1, hz2⟩ := hz _ (List.getElem_mem hi1)
    obtain ⟨a, ha0⟩ : ∃ a, a = al[i] := ⟨_, rfl⟩
    rw [← ha0] at hg haw hab hz1 hz2
    obtain ⟨r, bv, b, D', S1, hc, hA1, hF, hdo, hO⟩ := act_val hA (by omega) haw
    obtain ⟨lv, bw, hcd, hsl, hwf⟩ := rdone_val hR (by omega) haw hab (rel_bd hA hr) (rel_bdk hA hr) (S := St0)
    obtain ⟨e1, e2, hr'⟩ := rel_done hA hr hdo lv
    have hbl := doneB_len hR a
    rw [e2] at hbl hsl
    rw [e1] at hcd
    have hp : pval T 20 [R.v, actV a] = some (.tup [(doneR R a lv).v, .int .i64 r, bw]) := pval_st hcd (by simp [PV.free, PV.freeL, hwf.free, hsl.free]) (by simp [PV.frz, PV.frzL, hwf.frz, hsl.frz])
    have h31 := hF.o.obj 3 R.c h3 (by decide) hn
    have hlt3 := (List.getElem?_eq_some_iff.1 h3).1
    have hn' := hF.o.own 3 hlt3 (by decide) hn
    generalize doneR R a lv = R' at hp hr' hwf
    obtain ⟨S2, hS2⟩ : ∃ S2 : St, S2 = ⟨S1.objs ++ [R'.c], S1.tips⟩ := ⟨_, rfl⟩
    have hA2 : At S2 2 (2 * i + 2) D' := by rw [hS2]; exact hA1.grows ((Grows.refl S1).objs _)
    have hO2 : OwnB 2 S S2 D' bv b := by rw [hS2]; exact own_grow hO _
    have hwh := whole_val hA2 (by omega) hr' hwf (by omega)
    have s1 := strO_own hO2
    have s2 := strO_sl0 (S' := S2) hsl
    have h32 : S2.objs[3]? = some R.c := by
      rw [hS2]; simp only
      rw [List.getElem?_append_left (List.getElem?_eq_some_iff.1 h31).1]; exact h31
    have hy2 : S2.objs[S1.objs.length]? = some R'.c := by rw [hS2]; simp
    have o1 := hwf.fs.one.1
    have o2 := hwf.bs.one.1
    have o3 := hwf.ws.one.1
    have w1 := hR.fs.free
    have w2 := hR.bs.free
    have w3 := hR.ws.free
    have w4 := hR.fs.frz
    have w5 := hR.bs.frz
    have w6 := hR.ws.frz
    have hld : loadP S1 true 7 (.ptr 3 0) = some R.v := by rw [loadP_ptr h31]; rfl
    have hld2 : loadP S2 true 7 (.ptr S1.objs.length 0) = some R'.v := by rw [loadP_ptr hy2]; rfl
    -- the tail of a round
    have tail : ∀ (fr2 : Fr), fr2 1 = v → fr2 5 = .ptr 2 0 → fr2 7 = .ptr 3 0 → fr2 9 = .int .i64 (i : Int) → fr2 11 = bv → fr2 12 = .ptr S1.objs.length 0 → fr2 15 = .int .i64 0 →
        Ok (gval T (.lp law04_DiskPlays_l1 :: .blk 2 :: .code (.clr [(102, 103)] (.region law04_DiskPlays_r16)) :: .blk 1 :: .code (.clr [(51, 53)] (.region law04_DiskPlays_r7)) :: .lp law04_DiskPlays_l0 :: .blk 0 :: KK) fr2 S2) Q := by
      intro fr2 q1 q5 q7 q9 q11 q12 q15
      refine turn_loop hO2 hbl q11 q15 ?_
      intro fr3 S3 p1 p5 p7 p9 p12 ht hk
      rw [q1] at p1; rw [q5] at p5; rw [q7] at p7; rw [q9] at p9; rw [q12] at p12
      have hid : ∀ j, gidV bv = some j → S.objs.length ≤ j ∧ j < S1.objs.length ∧ j ≠ 2 ∧ ¬ OwnsO D' j := by
        intro j hj
        rcases hO with ⟨e | e, _⟩ | ⟨id, e, z1, z2, _, z4, z5⟩
        · rw [e] at hj; cases hj
        · rw [e] at hj; cases hj
        · rw [e] at hj; cases hj
          exact ⟨z1, (List.getElem?_eq_some_iff.1 z2).1, z4, z5⟩
      have n3 : gidV bv ≠ some 3 := fun e => by have := hid _ e; omega
      have ny : gidV bv ≠ some S1.objs.length := fun e => by have := hid _ e; omega
      have k3 := hk _ _ n3 h32
      have ky := hk _ _ ny hy2
      have hA3 : At S3 2 (2 * i + 2) D' := hA2.other (id := gidV bv) (fun e => (hid _ e).2.2.1 rfl) (fun j e => (hid _ e).2.2.2) hk ht
      have hA4 : At ⟨S3.objs.set 3 R'.c, S3.tips⟩ 2 (2 * i + 2) D' := hA3.other (id := some 3) (by simp) (fun j e => by cases e; exact hn') (fun j c hj hc => by
        simp only
        rw [List.getElem?_set_ne (fun e => hj (by rw [e]))]; exact hc) rfl
      have hL : ∀ (fr' : Fr) (S4 : St), fr' 1 = v → fr' 5 = .ptr 2 0 → fr' 7 = .ptr 3 0 → fr' 9 = .int .i64 ((i : Int) + 1) → S4 = ⟨S3.objs.set 3 R'.c, S3.tips⟩ → Ok (gval T (.lp law04_DiskPlays_l0 :: .blk 0 :: KK) fr' S4) Q := by
        intro fr' S4 z1 z5 z7 z9 z
        subst z
        refine k fr' _ ⟨z1, z5, z7, by simpa using z9, D', R', by rw [show 2 * (i + 1) = 2 * i + 2 by omega]; exact hA4, get_set k3, hn', hr', by rw [show 2 * (i + 1) = 2 * i + 2 by omega]; exact hwf⟩
      clear k
      have hld3 : loadP S3 true 7 (.ptr S1.objs.length 0) = some R'.v := by rw [loadP_ptr ky]; rfl
      simp only [RD.v, RD.c] at hld3 hL k3
      simp -implicitDefEqProofs [p1, p5, p7, p9, p12, hld3, pstep, putCells, part7, k3, o1, o2, o3]
      exact hL _ _ (by simp [p1]) (by simp [p5]) (by simp [p7]) (by simp [p9, hwr]) (by first | rfl | simp)
    clear k
    obtain ⟨KT, hKT⟩ : ∃ KT, KT = (.lp law04_DiskPlays_l1 :: .blk 2 :: .code (.clr [(102, 103)] (.region law04_DiskPlays_r16)) :: .blk 1 :: .code (.clr [(51, 53)] (.region law04_DiskPlays_r7)) :: .lp law04_DiskPlays_l0 :: .blk 0 :: KK : List Kt) := ⟨_, rfl⟩
    simp only [RD.v, RD.c] at hld hp hwh hld2
    have hS2' : S2 = ⟨S1.objs ++ [[.int .i64 R'.room, R'.fv, R'.bv, R'.wv, .int .i64 R'.left, .bool R'.dark, .int .i64 R'.count]], S1.tips⟩ := hS2
    rw [gval_lp]
    simp -implicitDefEqProofs [-law04_DiskPlays_r10_go, f1, f5, f7, f9, hlen, hi1, hi2, hg, part6, hc, hld, hz1, hz2, w1, w2, w3, w4, w5, w6, hp, pstep, putCells, peval, fillParts, part7, o1, o2, o3]
    rw [← hS2']
    simp -implicitDefEqProofs [ps_toStrO, s1, s2, hld2, hwh, f5]
    exact tail _ (by simp [f1]) (by simp [f5]) (by simp [f7]) (by simp [f9]) (by simp) (by simp) (by simp)
  · rintro fr S ⟨f1, f5, f7, f9, D, R, hA, h3, hn, hr, hR⟩
    have hL : ∀ fr' : Fr, fr' 5 = .ptr 2 0 → fr' 7 = .ptr 3 0 → Ok (gval T KK fr' S) Q := fun fr' z5 z7 => hK fr' S D R z5 z7 (hA.mono (by omega)) h3 hr (hR.mono (by omega))
    clear hK
    rw [gval_lp]
    by_cases h60 : al.length ≤ 60
    · have e : min al.length 60 = al.length := by omega
      rw [e] at f9
      simp -implicitDefEqProofs [f1, f5, f7, f9, hlen]
      exact hL _ (by simp [f5]) (by simp [f7])
    · have e : min al.length 60 = 60 := by omega
      rw [e] at f9
      have h60' : 60 < al.length := by omega
      have h60i : (60 : Int) < (al.length : Int) := by omega
      simp -implicitDefEqProofs [f1, f5, f7, f9, hlen, h60', h60i]
      exact hL _ (by simp [f5]) (by simp [f7])

theorem sl_fz {k : IntKind} (x : (Ty.sl (.int k)).den) : ((Ty.sl (.int k)).pv x).free = true ∧ ((Ty.sl (.int k)).pv x).frz = (Ty.sl (.int k)).pv x := by
  cases x with
  | none => exact ⟨rfl, rfl⟩
  | some q =>
    obtain ⟨es, sp⟩ := q
    have h1 : ∀ l : List Int, PV.freeL (l.map fun n => PV.int k n) = true := freeL_map _ (fun _ => rfl)
    have h2 : ∀ l : List Int, PV.frzL (l.map fun n => PV.int k n) = l.map fun n => PV.int k n := frzL_map' _ (fun _ => rfl)
    refine ⟨?_, ?_⟩
    · show (PV.sl none (es.map fun n => PV.int k n) (sp.map fun n => PV.int k n)).free = true
      simp only [PV.free, Bool.and_eq_true]
      exact ⟨h1 es, h1 sp⟩
    · show (PV.sl none (es.map fun n => PV.int k n) (sp.map fun n => PV.int k n)).frz = PV.sl none (es.map fun n => PV.int k n) (sp.map fun n => PV.int k n)
      simp only [PV.frz, h2 es, h2 sp]
theorem inA_fz {x : (Ty.sl tyAct).den} : ∀ a ∈ inA x, (actV a).free = true ∧ (actV a).frz = actV a := by
  intro a ha
  cases x with
  | none => cases ha
  | some q =>
    obtain ⟨es, sp⟩ := q
    obtain ⟨y, _, rfl⟩ := List.mem_map.1 ha
    obtain ⟨k, n, t, b, i, kp, u⟩ := y
    have h1 := sl_fz b
    have h2 := sl_fz kp
    refine ⟨?_, ?_⟩
    · simp only [actV, actOf, PV.free, PV.freeL, h1.1, h2.1, Bool.and_self]
    · simp only [actV, actOf, PV.frz, PV.frzL, h1.2, h2.2]

theorem plays_law (room : Int) {al : List ActD} {lv : PV} (hl : Reads1 6 lv (al.map actV)) (l1 : al.length ≤ maxLen) (l2 : ∀ a ∈ al, a.Wf) (l3 : ∀ a ∈ al, a.b.length ≤ maxLen) (l4 : ∀ a ∈ al, (actV a).free = true ∧ (actV a).frz = actV a) : cval T 3 [.int .i64 room, lv] St0 = some (.bool true, St0) := by
  refine cval_ok' fn_3 rfl ?_
  have hz : purV T 18 [] = some (.bool true) := (purV_free rfl).trans lives_pval
  by_cases hr : room < 1 ∨ 4194304 < room
  · have hn := new_bad (S := St0) hr
    have hn2 := rnew_bad2 hr
    simp -implicitDefEqProofs [law04_DiskPlays, hn, hn2, pstep, putCells, peval, fillParts, hz, lives_pval]
    all_goals first | exact finish_pur_free rfl | skip
  · have hr1 : 1 ≤ room := by omega
    have hr2 : room ≤ 4194304 := by omega
    have hn : cval T 16 [.int .i64 room] St0 = some (.tup [.ptr 2 0, .int .i64 0], ⟨[[], [], [.int .i64 room, .map 0, .map 1, .nils, .int .i64 (-1), .int .i64 0, .bool false]], []⟩) := new_ok hr1 hr2
    have hA := new_at (S := St0) hr1 hr2
    have hn2 := rnew_pval ⟨hr1, hr2⟩
    have hwf := newR_wf ⟨hr1, hr2⟩
    have hrel : RelD (newD room 0) (newR room) := rel_new 0 1 _ _ _
    have hA0 : At ⟨[[], [], dcells (newD room 0), (newR room).c], []⟩ 2 0 (newD room 0) := hA.grows ((Grows.refl _).objs [(newR room).c])
    simp only [newR, RD.v, RD.c] at hn2
    have hL := fun (fr : Fr) (S : St) (g1 : fr 1 = lv) (g5 : fr 5 = .ptr 2 0) (g7 : fr 7 = .ptr 3 0) (g9 : fr 9 = .int .i64 0) (hS : S = ⟨[[], [], dcells (newD room 0), (newR room).c], []⟩) (KK : List Kt) (Q : Fr → St → Prop)
        (hK : ∀ fr S D R, fr 5 = .ptr 2 0 → fr 7 = .ptr 3 0 → At S 2 120 D → S.objs[3]? = some R.c → RelD D R → R.Wf 120 → Ok (gval T KK fr S) Q) (hQ : ∀ fr S, fr 4 = .bool true → Q fr S) =>
      plays_loop hl l1 l2 l3 l4 hK hQ fr S (newD room 0) (newR room) g1 g5 g7 g9 (by rw [hS]; exact hA0) (by rw [hS]; rfl) (by simp [OwnsO, newD]) hrel hwf
    simp -implicitDefEqProofs [-law04_DiskPlays_r17_go, law04_DiskPlays, hn, hn2, pstep, putCells, peval, fillParts, hz, lives_pval]
    refine hL _ _ (by simp) (by simp) (by simp) (by simp) (by first | rfl | simp [dcells, newD, newR, RD.c]) _ _ ?_ ?_
    · intro fr S D R g5 g7 hA h3 hr hR
      have hwh := whole_val hA (by omega) hr hR (by omega)
      have hld : loadP S true 7 (.ptr 3 0) = some R.v := by rw [loadP_ptr h3]; rfl
      simp -implicitDefEqProofs [g5, g7, hld, hwh, hz, lives_pval]
      all_goals first | exact finish_pur_free rfl | skip
    · intro fr S g4
      simp [g4]
      all_goals first | exact finish_pur_free rfl | skip

theorem law_DiskPlays (xs : denL [.int .i64, .sl tyAct]) (h : wfL [.int .i64, .sl tyAct] xs) : ∃ S', cval T 3 (pvL [.int .i64, .sl tyAct] xs) St0 = some (.bool true, S') := by
  obtain ⟨room, l, u⟩ := xs
  obtain ⟨h1, h2, _⟩ := h
  obtain ⟨l1, l2⟩ := inA_wf h2
  have l3 := inA_b h2
  have l4 := inA_fz (x := l)
  have hl := inA_reads (x := l)
  refine ⟨St0, ?_⟩
  show cval T 3 [.int .i64 room, (Ty.sl tyAct).pv l] St0 = _
  exact plays_law room hl l1 l2 l3 l4

end Ps
