/- The document's disk: Change, whole. -/
import Derived.Test.YtidloidlffjimaaGE
namespace Ps
set_option linter.unusedSimpArgs false
set_option linter.unusedVariables false
open Go
def lenAt (fs : List RF) (i : Int) : Int := match fs[i.toNat]? with | some f => (f.b.length : Int) | none => 0
def lensR (fs : List RF) : List RE → Int
 | [] => 0
 | e :: l => lenAt fs e.2 + lensR fs l
theorem lensR_snoc (fs : List RF) : ∀ (l : List RE) (e : RE), lensR fs (l ++ [e]) = lensR fs l + lenAt fs e.2
 | [], e => by simp [lensR]
 | x :: l, e => by simp only [List.cons_append, lensR, lensR_snoc fs l e]; omega
theorem lenAt_bd {R : RD} {K : Nat} (h : R.Wf K) (i : Int) : 0 ≤ lenAt R.files i ∧ lenAt R.files i ≤ 4194304 := by
 unfold lenAt
 split
 ·rename_i f hf
  have := (h.ff f (List.mem_of_getElem? hf)).2.2.2
  omega
 ·omega
theorem lensR_bd {R : RD} {K : Nat} (h : R.Wf K) : ∀ l : List RE, 0 ≤ lensR R.files l ∧ lensR R.files l ≤ l.length * 4194304
 | [] => by simp [lensR]
 | e :: l => by
  have h1 := lenAt_bd h e.2
  have h2 := lensR_bd h l
  simp only [lensR, List.length_cons]
  push_cast
  omega

def chE (R : RD) (kind : Int) (name to : Nm) (b : List UInt8) : Int :=
 if (kind ≠ 6 ∧ namedB name = false) ∨ (kind = 3 ∧ namedB to = false) then 8
 else if kind = 1 ∧ 0 ≤ atR name (liveR R) then 10
 else if kind = 1 ∧ 64 ≤ (liveR R).length then 7
 else if 1 < kind ∧ kind < 6 ∧ atR name (liveR R) < 0 then 9
 else if kind = 2 ∧ (b.length : Int) > R.room - lensR R.files (liveR R) then 7 else 0

def chRest : PCode := (.seq (.seq (.clr [(86, 96)] (.region ref04_Change_r16)) (.cond (V 96) (.seq (.clr [(97, 98)] (.region ref04_Change_r17)) .ret) .skip)) (.seq (.clr [(98, 103)] (.region ref04_Change_r18)) (.seq (.seq (.clr [(103, 104)] (.region ref04_Change_r19)) (.cond (V 104) (.seq (.clr [(105, 107)] (.region ref04_Change_r20)) .ret) .skip)) (.seq (.clr [(107, 111)] (.region ref04_Change_r21)) (.seq (.clr [(111, 115)] (.region ref04_Change_r22)) (.seq (.seq (.region ref04_Change_r23) (.block 2 (.seq (.clr [(117, 118)] (.region ref04_Change_r24)) (.cond (V 116) (.seq (.clr [(118, 125)] (.region ref04_Change_r25)) (.clr [(125, 129)] (.region ref04_Change_r26))) (.seq (.clr [(130, 131)] (.region ref04_Change_r27)) (.cond (V 129) (.clr [(131, 144)] (.region ref04_Change_r28)) (.seq (.clr [(145, 146)] (.region ref04_Change_r29)) (.cond (V 144) (.clr [(146, 152)] (.region ref04_Change_r30)) (.seq (.clr [(153, 154)] (.region ref04_Change_r31)) (.cond (V 152) (.clr [(154, 159)] (.region ref04_Change_r32)) (.seq (.clr [(160, 161)] (.region ref04_Change_r33)) (.cond (V 159) (.clr [(161, 171)] (.region ref04_Change_r34)) (.seq (.clr [(172, 173)] (.region ref04_Change_r35)) (.cond (V 171) (.seq (.clr [(173, 175)] (.region ref04_Change_r36)) (.region ref04_Change_r37)) .skip)))))))))))))) (.seq (.clr [(175, 179)] (.region ref04_Change_r38)) (.seq (.clr [(179, 180)] (.region ref04_Change_r39)) .ret))))))))

theorem sum_loop {R : RD} {K : Nat} (hR : R.Wf K) (hK : K ≤ 1048560) {lv : PV} (l2 : Sl0 2 lv ((liveR R).map entR)) (hlv : ∀ e ∈ liveR R, 0 ≤ e.2 ∧ e.2 < R.files.length) {S1 : St} {o1 : Nat} (ho1 : S1.objs[o1]? = some R.c) {KK : List Kt} {Q : Fr → St → Prop}
  {x1 x2 x3 x4 x10 x13 : PV} (fr : Fr) (f1 : fr 1 = x1) (f2 : fr 2 = x2) (f3 : fr 3 = x3) (f4 : fr 4 = x4) (f5 : fr 5 = .ptr o1 0) (f10 : fr 10 = x10) (f12 : fr 12 = lv) (f13 : fr 13 = x13) (f14 : fr 14 = .int .i64 0) (f15 : fr 15 = .int .i64 0)
  (k : ∀ fr' : Fr, fr' 1 = x1 → fr' 2 = x2 → fr' 3 = x3 → fr' 4 = x4 → fr' 5 = .ptr o1 0 → fr' 10 = x10 → fr' 12 = lv → fr' 13 = x13 → fr' 14 = .int .i64 (lensR R.files (liveR R)) → Ok (gval T KK fr' S1) Q) :
  Ok (gval T (.lp ref04_Change_l0 :: .blk 0 :: KK) fr S1) Q := by
 have hll : (liveR R).length ≤ maxLen := by have := liveR_len hR; unfold maxLen; omega
 have hlen := l2.len
 rw [List.length_map] at hlen
 refine lp_up (liveR R).length (fun i fr' S' => S' = S1 ∧ fr' 1 = x1 ∧ fr' 2 = x2 ∧ fr' 3 = x3 ∧ fr' 4 = x4 ∧ fr' 5 = .ptr o1 0 ∧ fr' 10 = x10 ∧ fr' 12 = lv ∧ fr' 13 = x13 ∧ fr' 14 = .int .i64 (lensR R.files ((liveR R).take i)) ∧ fr' 15 = .int .i64 (i : Int)) ?_ ?_ 0 (Nat.zero_le _) _ _ ⟨rfl, f1, f2, f3, f4, f5, f10, f12, f13, by simpa [lensR] using f14, by simpa using f15⟩
 ·rintro i fr' S' hi ⟨rfl, g1, g2, g3, g4, g5, g10, g12, g13, g14, g15⟩ kk
  have hw := wrap_up hi hll
  have hg := l2.reads.get i (by simpa using hi) .i64
  have hx : ((liveR R).map entR)[i]'(by simpa using hi) = entR (liveR R)[i] := by simp
  rw [hx, entR_cells] at hg
  have hb := hlv _ (List.getElem_mem hi)
  have ht : (liveR R).take (i + 1) = (liveR R).take i ++ [(liveR R)[i]] := by rw [List.take_add_one, List.getElem?_eq_getElem hi]; rfl
  obtain ⟨e, he⟩ : ∃ e, e = (liveR R)[i] := ⟨_, rfl⟩
  rw [← he] at hg hb ht
  obtain ⟨m, hm⟩ : ∃ m : Nat, e.2 = (m : Int) := ⟨e.2.toNat, by omega⟩
  have hml : m < R.files.length := by omega
  have hgf := hR.fs.reads.get m (by simpa using hml) .i64
  have hxf : (R.files.map RF.v)[m]'(by simpa using hml) = R.files[m].v := by simp
  rw [hxf, RF.v_cells] at hgf
  have hsl := (hR.ff _ (List.getElem_mem hml)).1
  have hlf := hsl.len
  rw [show (ofBytes R.files[m].b).length = R.files[m].b.length by simp [ofBytes]] at hlf
  rw [hm] at hg
  have hla : lenAt R.files e.2 = (R.files[m].b.length : Int) := by
   unfold lenAt
   rw [hm]
   simp [hml]
  have hbd := lensR_bd hR ((liveR R).take i)
  have hbd2 := lenAt_bd hR e.2
  have hil : ((liveR R).take i).length ≤ 1048570 := by have := liveR_len hR; simp; omega
  have hw2 : IntKind.i64.wrap (lensR R.files ((liveR R).take i) + (R.files[m].b.length : Int)) = lensR R.files ((liveR R).take (i + 1)) := by
   rw [ht, lensR_snoc, hla]
   exact wrap_i64 (by omega) (by rw [hla] at hbd2; omega)
  have hL := fun (fr2 : Fr) (q1 : fr2 1 = x1) (q2 : fr2 2 = x2) (q3 : fr2 3 = x3) (q4 : fr2 4 = x4) (q5 : fr2 5 = .ptr o1 0) (q10 : fr2 10 = x10) (q12 : fr2 12 = lv) (q13 : fr2 13 = x13) (q14 : fr2 14 = .int .i64 (lensR R.files ((liveR R).take (i + 1)))) (q15 : fr2 15 = .int .i64 ((i : Int) + 1)) =>
   kk fr2 S' ⟨rfl, q1, q2, q3, q4, q5, q10, q12, q13, q14, by simpa using q15⟩
  clear kk k
  have hs1 := loadP_ptr (ag := false) (n := 1) (off := 0 + 1) ho1
  rw [gval_lp]
  simp -implicitDefEqProofs [g5, g12, g14, g15, hlen, hi, hg, loadP_ptr ho1, RD.c, hgf, hlf, hw2]
  exact hL _ (by simp [g1]) (by simp [g2]) (by simp [g3]) (by simp [g4]) (by simp [g5]) (by simp [g10]) (by simp [g12]) (by simp [g13]) (by simp) (by simp [hw])
 ·rintro fr' S' ⟨rfl, g1, g2, g3, g4, g5, g10, g12, g13, g14, g15⟩
  rw [List.take_length] at g14
  rw [gval_lp]
  simp -implicitDefEqProofs [g12, g15, hlen]
  exact k _ (by simp [g1]) (by simp [g2]) (by simp [g3]) (by simp [g4]) (by simp [g5]) (by simp [g10]) (by simp [g12]) (by simp [g13]) (by simp [g14])

theorem liveR_step (R : RD) : liveR (stepRD R) = liveR R := by
 unfold stepRD; split <;> rfl
theorem stepRD_files (R : RD) : (stepRD R).files = R.files := by
 unfold stepRD; split <;> rfl

theorem change_rest {R : RD} {K : Nat} (hR : R.Wf K) (hK : K ≤ 1048560) {kind : Int} (hk : 1 ≤ kind ∧ kind ≤ 6) {name to : Nm} {lv bv : PV} {b : List UInt8} (l2 : Sl0 2 lv ((liveR R).map entR))
  (hbv : ∀ S, appendedS S 1 bv = some (ofBytes b)) (hbl : lenP false bv = some (.int .i64 b.length)) (hbm : b.length ≤ maxLen) (hlv : ∀ e ∈ liveR R, 0 ≤ e.2 ∧ e.2 < R.files.length) {S : St} {z : List PV} (hz : z.length = 7)
  (hat : kind = 2 ∨ kind = 5 → 0 ≤ atR name (liveR R)) (hpre : kind ≠ 2 → chE R kind name to b = 0) (hpre2 : kind = 2 → chE R kind name to b = if (b.length : Int) > R.room - lensR R.files (liveR R) then 7 else 0)
  (fr : Fr) (f1 : fr 1 = .int .i64 kind) (f2 : fr 2 = .str name) (f3 : fr 3 = .str to) (f4 : fr 4 = bv) (f5 : fr 5 = .ptr S.objs.length 0) (f10 : fr 10 = .ptr (S.objs.length + 1) 0) (f12 : fr 12 = lv) (f13 : fr 13 = .int .i64 (atR name (liveR R))) (f14 : fr 14 = .int .i64 0) (f15 : fr 15 = .int .i64 0) :
  Ok (gval T (.lp ref04_Change_l0 :: .blk 0 :: [.code chRest]) fr ⟨S.objs ++ [R.c, z], S.tips⟩) (Ends [.cell 10 true 7, .tmp 11] false S
   (if chE R kind name to b ≠ 0 then .tup [R.v, .int .i64 (chE R kind name to b)] else if stepE R = 6 then .tup [(stepRD R).v, .int .i64 6] else .tup [(chD (stepRD R) kind name to b (atR name (liveR R)).toNat lv).v, .int .i64 0]) S) := by
 have hK' : K ≤ 1048570 := by omega
 have o1 := hR.fs.one.1
 have o2 := hR.bs.one.1
 have o3 := hR.ws.one.1
 have hR2 := stepRD_wf hR
 have p1 := hR2.fs.one
 have p2 := hR2.bs.one
 have p3 := hR2.ws.one
 have hob : (S.objs ++ [R.c, z])[S.objs.length]? = some R.c := by simp
 have hatn : kind = 2 ∨ kind = 5 → (atR name (liveR R)).toNat < R.files.length := by
  intro h
  have h0 := hat h
  have key : ∀ l : List RE, (∀ e ∈ l, e.2 < R.files.length) → 0 ≤ atR name l → (atR name l).toNat < R.files.length := by
   intro l
   induction l with
   | nil => intro _ h; simp [atR] at h
   | cons x l ih =>
    obtain ⟨q, f⟩ := x
    intro h1 h2
    simp only [atR] at h2 ⊢
    split at h2
    ·rename_i hq
     have := h1 (q, f) (by simp)
     simp only [hq, if_true]
     simp only at this; omega
    ·rename_i hq
     simp only [hq, if_false, Bool.false_eq_true]
     exact ih (fun e he => h1 e (by simp [he])) h2
  exact key _ (fun e he => (hlv e he).2) h0
 have hz7 : z.drop 7 = [] := List.drop_of_length_le (by omega)
 refine sum_loop hR hK l2 hlv hob fr f1 f2 f3 f4 f5 f10 f12 f13 f14 f15 (fun fr' g1 g2 g3 g4 g5 g10 g12 g13 g14 => ?_)
 unfold chRest
 have hstep := rstep_val hR hK' (S := ⟨S.objs ++ [R.c, z], S.tips⟩)
 have g7 : Grows S ⟨S.objs ++ [R.c, R.c], S.tips⟩ := (Grows.refl S).objs _
 have g8 : Grows S ⟨S.objs ++ [(stepRD R).c, (stepRD R).c], S.tips⟩ := (Grows.refl S).objs _
 -- the code behind the step
 have after : ∀ fr2 : Fr, fr2 1 = .int .i64 kind → fr2 2 = .str name → fr2 3 = .str to → fr2 4 = bv → fr2 5 = .ptr S.objs.length 0 → fr2 10 = .ptr (S.objs.length + 1) 0 → fr2 12 = lv → fr2 13 = .int .i64 (atR name (liveR R)) → fr2 16 = .int .i64 (stepE R) → chE R kind name to b = 0 →
   Ok (gval T (.ops ref04_Change_r19 :: .clr [(103, 104)] :: .code (.cond (V 104) (.seq (.clr [(105, 107)] (.region ref04_Change_r20)) .ret) .skip) :: [.code (.seq (.clr [(107, 111)] (.region ref04_Change_r21)) (.seq (.clr [(111, 115)] (.region ref04_Change_r22)) chSwitch))]) fr2 ⟨S.objs ++ [(stepRD R).c, z], S.tips⟩) (Ends [.cell 10 true 7, .tmp 11] false S
   (if chE R kind name to b ≠ 0 then .tup [R.v, .int .i64 (chE R kind name to b)] else if stepE R = 6 then .tup [(stepRD R).v, .int .i64 6] else .tup [(chD (stepRD R) kind name to b (atR name (liveR R)).toNat lv).v, .int .i64 0]) S) := by
  intro fr2 q1 q2 q3 q4 q5 q10 q12 q13 q16 hE
  rw [if_neg (by simp [hE])]
  by_cases hs : stepE R = 6
  ·rw [if_pos hs]
   have hfin := fin_rd hR2 g8 6
   simp only [RD.c] at hfin ⊢
   simp -implicitDefEqProofs [q5, q10, q16, hs, pstep, part7, putCells, hz, p1.1, p2.1, p3.1, hz7]
   exact ends_ct (by simp [q10, part7] <;> rfl) (by simp <;> rfl) hfin
  ·rw [if_neg hs]
   have hs0 : stepE R = 0 := by unfold stepE at hs ⊢; split at hs <;> simp_all
   obtain ⟨F, S2, a1, a2, a3, a4, a5, a6, a7, a8⟩ := (show GAcc S 2 ⟨S.objs ++ [(stepRD R).c, z], S.tips⟩ .emp [] from ⟨.inl ⟨.inl rfl, rfl⟩, by simp⟩).app (bytes := 32) (new := (stepRD R).files.map RF.v) ((Grows.refl S).objs _) (by omega) (fun e he => by
    obtain ⟨f, hf, rfl⟩ := List.mem_map.1 he
    exact ⟨rfl, (RF.v_ok (hR2.ff f hf).1).2.1⟩) (by have := hR2.fl; simp; omega)
   rw [List.nil_append] at a2
   obtain ⟨W, S3, b1, b2, b3, b4, b5, b6, b7, b8⟩ := (show GAcc S 4 S2 .emp [] from ⟨.inl ⟨.inl rfl, rfl⟩, by simp⟩).app (bytes := 48) (new := (stepRD R).wait.map RS.v) a3 (by omega) (fun e he => by
    obtain ⟨f, hf, rfl⟩ := List.mem_map.1 he
    exact ⟨rfl, rfl⟩) (by have := hR2.bl; simp; omega)
   rw [List.nil_append] at b2
   have hF1 : ∀ i, gidV F = some i → S.objs.length + 2 ≤ i := by
    intro i hi
    by_cases hlt : i < (S.objs ++ [(stepRD R).c, z]).length
    ·have := a7 i hi hlt; cases this
    ·simp at hlt; omega
   have hW1 : ∀ i, gidV W = some i → S2.objs.length ≤ i := by
    intro i hi
    by_cases hlt : i < S2.objs.length
    ·have := b7 i hi hlt; cases this
    ·omega
   have a5' : S.objs.length + 2 ≤ S2.objs.length := by simpa using a5
   have hFl : ∀ i, gidV F = some i → i < S2.objs.length := by
    intro i hi
    rcases a2.acc with ⟨hv | hv, _⟩ | ⟨id, _, hv, h3, _⟩
    ·subst hv; cases hi
    ·subst hv; cases hi
    ·subst hv; cases hi; exact (List.getElem?_eq_some_iff.1 h3).1
   have gF : GAcc S 2 S3 F ((stepRD R).files.map RF.v) := by
    refine ⟨?_, a2.ok⟩
    rcases a2.acc with h | ⟨id, h1, h2, h3, h4⟩
    ·exact .inl h
    ·exact .inr ⟨id, h1, h2, b6 id _ h3 (fun e => by cases e), h4⟩
   have r1 : S3.objs[S.objs.length]? = some (stepRD R).c := b6 _ _ (a6 _ _ (by simp) (fun e => by cases e)) (fun e => by cases e)
   have r2 : S3.objs[S.objs.length + 1]? = some z := b6 _ _ (a6 _ _ (by simp) (fun e => by cases e)) (fun e => by cases e)
   have hsw := fun (fr3 : Fr) (u1 : fr3 1 = .int .i64 kind) (u2 : fr3 2 = .str name) (u3 : fr3 3 = .str to) (u4 : fr3 4 = bv) (u5 : fr3 5 = .ptr S.objs.length 0) (u10 : fr3 10 = .ptr (S.objs.length + 1) 0) (u12 : fr3 12 = lv) (u13 : fr3 13 = .int .i64 (atR name (liveR R))) (u17 : fr3 17 = F) (u18 : fr3 18 = W) (hroom : kind = 2 → ∀ f, (stepRD R).files[(atR name (liveR R)).toNat]? = some f → f.b.length + b.length ≤ 4194304) =>
    change_switch b3 (Nat.le_refl _) (Nat.le_succ _) (by omega) hR2 (by omega) (lv := lv) (by rw [liveR_step]; exact l2) hbv hk (n := (atR name (liveR R)).toNat) (fun h => by rw [stepRD_files]; exact hatn h) hroom r1 r2 hz u1 u2 u3 u4 u5 u10 u12 (fun h => by rw [u13]; congr 1; have := hat h; omega) u17 u18 gF b2 (a8 (fun e => by cases e)) (b8 (fun e => by cases e))
     (fun i hi => by have := hF1 i hi; omega) (fun i hi => by have := hW1 i hi; omega) (fun i hi e => by have := hFl i hi; have := hW1 i e; omega)
   have hroom : kind = 2 → ∀ f, (stepRD R).files[(atR name (liveR R)).toNat]? = some f → f.b.length + b.length ≤ 4194304 := by
    intro hk2 f hf
    have h7 := hpre2 hk2
    rw [hE] at h7
    have h8 : ¬ (b.length : Int) > R.room - lensR R.files (liveR R) := by
     intro hc; rw [if_pos hc] at h7; cases h7
    have hle : lenAt R.files (atR name (liveR R)) ≤ lensR R.files (liveR R) := by
     have hnn := hat (.inl hk2)
     have key : ∀ l : List RE, 0 ≤ atR name l → lenAt R.files (atR name l) ≤ lensR R.files l := by
      intro l
      induction l with
      | nil => intro h; simp [atR] at h
      | cons x l ih =>
       obtain ⟨q, g⟩ := x
       intro h
       have hbd := lensR_bd hR l
       have hbd2 := lenAt_bd hR g
       simp only [atR, lensR] at h ⊢
       by_cases hq : (q == name) = true
       ·simp only [hq, if_true]; omega
       ·simp only [hq, if_false, Bool.false_eq_true] at h ⊢
        have := ih h; omega
     exact key _ hnn
    rw [stepRD_files] at hf
    have : lenAt R.files (atR name (liveR R)) = f.b.length := by simp only [lenAt, hf]
    have := hR.rm
    omega
   have hload1 : loadP ⟨S.objs ++ [(stepRD R).c, z], S.tips⟩ false 1 (.ptr S.objs.length (0 + 1)) = some (stepRD R).fv := by
    rw [loadP_ptr (by simp : (S.objs ++ [(stepRD R).c, z])[S.objs.length]? = some (stepRD R).c)]; rfl
   have hload3 : loadP S2 false 1 (.ptr S.objs.length (0 + 3)) = some (stepRD R).wv := by
    rw [loadP_ptr (a6 _ _ (by simp : (S.objs ++ [(stepRD R).c, z])[S.objs.length]? = some (stepRD R).c) (fun e => by cases e))]; rfl
   have ap1 := hR2.fs.appd ⟨S.objs ++ [(stepRD R).c, z], S.tips⟩
   have ap2 := hR2.ws.appd S2
   unfold chSwitch at hsw ⊢
   simp only [gval_seq, gval_region] at hsw
   simp only [Nat.zero_add] at hload1 hload3
   generalize hrr : PV.tup [RD.v (chD (stepRD R) kind name to b (atR name (liveR R)).toNat lv), .int .i64 0] = rr at hsw ⊢
   simp -implicitDefEqProofs [-ref04_Change_r23_go, q5, q16, hs0, hload1, hload3, ap1, ap2, a1, b1]
   exact hsw _ (by simp [q1]) (by simp [q2]) (by simp [q3]) (by simp [q4]) (by simp [q5]) (by simp [q10]) (by simp [q12]) (by simp [q13]) (by simp) (by simp) hroom
 have hrm := hR.rm
 have hbd := lensR_bd hR (liveR R)
 have hll := liveR_len hR
 have hw : IntKind.i64.wrap (R.room - lensR R.files (liveR R)) = R.room - lensR R.files (liveR R) := wrap_i64 (by omega) (by omega)
 generalize hres : (if chE R kind name to b ≠ 0 then PV.tup [R.v, .int .i64 (chE R kind name to b)] else if stepE R = 6 then .tup [(stepRD R).v, .int .i64 6] else .tup [(chD (stepRD R) kind name to b (atR name (liveR R)).toNat lv).v, .int .i64 0]) = res at after ⊢
 unfold chSwitch at after
 simp only [RD.v, RD.c] at hstep after g7 ⊢
 by_cases k2 : kind = 2
 ·subst k2
  by_cases c : (b.length : Int) > R.room - lensR R.files (liveR R)
  ·have e7 : chE R 2 name to b = 7 := by rw [hpre2 rfl, if_pos c]
   have hfin := fin_rd hR g7 7
   rw [e7, if_pos (by omega)] at hres
   have c' : R.room - lensR R.files (liveR R) < (b.length : Int) := c
   simp -implicitDefEqProofs [g1, g4, g5, g10, g14, hbl, loadP_ptr (S := ⟨S.objs ++ [R.c, z], S.tips⟩) hob, RD.c, hw, c', pstep, part7, putCells, hz, o1, o2, o3, hz7]
   refine ends_ct (by simp [g10, part7] <;> rfl) (by simp <;> rfl) ?_
   rw [← hres]; exact hfin
  ·have e0 : chE R 2 name to b = 0 := by rw [hpre2 rfl, if_neg c]
   have c' : ¬ R.room - lensR R.files (liveR R) < (b.length : Int) := c
   simp -implicitDefEqProofs [-ref04_Change_r19_go, g1, g4, g5, g14, hbl, hw, c', pstep, part7, putCells, hstep, p1.1, p2.1, p3.1]
   exact after _ (by simp [g1]) (by simp [g2]) (by simp [g3]) (by simp [g4]) (by simp [g5]) (by simp [g10]) (by simp [g12]) (by simp [g13]) (by simp) e0
 ·have e0 := hpre k2
  have k2' : (kind == 2) = false := by simpa using k2
  simp -implicitDefEqProofs [-ref04_Change_r19_go, g1, g4, g5, g14, hbl, k2', pstep, part7, putCells, hstep, p1.1, p2.1, p3.1]
  exact after _ (by simp [g1]) (by simp [g2]) (by simp [g3]) (by simp [g4]) (by simp [g5]) (by simp [g10]) (by simp [g12]) (by simp [g13]) (by simp) e0

set_option maxHeartbeats 4000000 in
theorem change_val {R : RD} {K : Nat} (hR : R.Wf K) (hK : K ≤ 1048560) {kind : Int} (hk : 1 ≤ kind ∧ kind ≤ 6) {name to : Nm} (hn : name.length ≤ maxLen) (ht : to.length ≤ maxLen) {bv : PV} {b : List UInt8}
  (hbv : ∀ S, appendedS S 1 bv = some (ofBytes b)) (hbl : lenP false bv = some (.int .i64 b.length)) (hbm : b.length ≤ maxLen) (hlv : ∀ e ∈ liveR R, 0 ≤ e.2 ∧ e.2 < R.files.length) {S : St} :
  ∃ lv, Sl0 2 lv ((liveR R).map entR) ∧
   cval T 86 [R.v, .int .i64 kind, .str name, .str to, bv] S = some (if chE R kind name to b ≠ 0 then .tup [R.v, .int .i64 (chE R kind name to b)] else if stepE R = 6 then .tup [(stepRD R).v, .int .i64 6] else .tup [(chD (stepRD R) kind name to b (atR name (liveR R)).toNat lv).v, .int .i64 0], S) := by
 have hK' : K ≤ 1048570 := by omega
 obtain ⟨lv, l1, l2⟩ := live_val hR hK' (S := ⟨S.objs ++ [R.c, [.int .i64 0, .nils, .nils, .nils, .int .i64 0, .bool false, .int .i64 0]], S.tips⟩)
 have o1 := hR.fs.one.1
 have o2 := hR.bs.one.1
 have o3 := hR.ws.one.1
 have q1 := rnamed_pval hn
 have q2 := rnamed_pval ht
 refine ⟨lv, l2, ?_⟩
 generalize hres : (if chE R kind name to b ≠ 0 then PV.tup [R.v, .int .i64 (chE R kind name to b)] else if stepE R = 6 then .tup [(stepRD R).v, .int .i64 6] else .tup [(chD (stepRD R) kind name to b (atR name (liveR R)).toNat lv).v, .int .i64 0]) = res
 have hlen := l2.len
 rw [List.length_map] at hlen
 have hll : (liveR R).length ≤ maxLen := by have := liveR_len hR; unfold maxLen; omega
 have ha := at_val l2.reads hll (n := name) (S := ⟨S.objs ++ [R.c, [.int .i64 0, .nils, .nils, .nils, .int .i64 0, .bool false, .int .i64 0]], S.tips⟩)
 have hE : ∀ e : Int, e ≠ 0 → chE R kind name to b = e → res = .tup [R.v, .int .i64 e] := fun e h1 h2 => by
  rw [← hres, if_pos (by rw [h2]; exact h1), h2]
 have g0 : Grows S ⟨S.objs ++ [R.c, R.c], S.tips⟩ := (Grows.refl S).objs _
 have v1 : purV T 203 [.str name] = some (.bool (namedB name)) := (purV_free rfl).trans q1
 have v2 : purV T 203 [.str to] = some (.bool (namedB to)) := (purV_free rfl).trans q2
 have hrest := fun (fr : Fr) => change_rest hR hK hk (to := to) (bv := bv) l2 hbv hbl hbm hlv (S := S) (z := [.int .i64 0, .nils, .nils, .nils, .int .i64 0, .bool false, .int .i64 0]) rfl (name := name) (fr := fr)
 rw [hres] at hrest
 unfold chRest at hrest
 have lenI : ((liveR R).length : Int) < 64 ↔ (liveR R).length < 64 := by omega
 refine cval_ok' fn_86 rfl ?_
 simp only [RD.v, RD.c] at l1 ha g0 hrest ⊢
 have hk6 : kind = 1 ∨ kind = 2 ∨ kind = 3 ∨ kind = 4 ∨ kind = 5 ∨ kind = 6 := by omega
 rcases hk6 with rfl | rfl | rfl | rfl | rfl | rfl
 ·by_cases n1 : namedB name = true
  rotate_left
  ·have n1 : namedB name = false := by simpa using n1
   have ex : chE R 1 name to b = 8 := by simp [chE, n1]
   have hfin := fin_rd hR g0 8
   simp -implicitDefEqProofs [ref04_Change, pstep, o1, o2, o3, v1, v2, n1, putCells, part7, l1, ha, hlen]
   refine ends_ct (by simp [part7] <;> rfl) (by simp <;> rfl) ?_
   rw [hE 8 (by omega) ex]; exact hfin
  by_cases a1 : 0 ≤ atR name (liveR R)
  ·have ex : chE R 1 name to b = 10 := by simp [chE, n1, a1]
   have hfin := fin_rd hR g0 10
   simp -implicitDefEqProofs [ref04_Change, pstep, o1, o2, o3, v1, v2, n1, a1, putCells, part7, l1, ha, hlen]
   refine ends_ct (by simp [part7] <;> rfl) (by simp <;> rfl) ?_
   rw [hE 10 (by omega) ex]; exact hfin
  by_cases a2 : 64 ≤ (liveR R).length
  ·have a2' : (64 : Int) ≤ ((liveR R).length : Int) := by omega
   have ex : chE R 1 name to b = 7 := by simp [chE, n1, a1, a2]
   have hfin := fin_rd hR g0 7
   simp -implicitDefEqProofs [ref04_Change, pstep, o1, o2, o3, v1, v2, n1, a1, a2, a2', putCells, part7, l1, ha, hlen]
   refine ends_ct (by simp [part7] <;> rfl) (by simp <;> rfl) ?_
   rw [hE 7 (by omega) ex]; exact hfin
  have a2' : ¬ (64 : Int) ≤ ((liveR R).length : Int) := by omega
  simp -implicitDefEqProofs [ref04_Change, pstep, o1, o2, o3, v1, v2, n1, a1, a2, a2', putCells, part7, l1, ha, hlen]
  exact hrest _ (fun h => by omega) (fun _ => by simp [chE, n1, a1, a2]) (fun h => by omega) (by simp) (by simp) (by simp) (by simp) (by simp) (by simp) (by simp) (by simp) (by simp) (by simp)
 ·by_cases n1 : namedB name = true
  rotate_left
  ·have n1 : namedB name = false := by simpa using n1
   have ex : chE R 2 name to b = 8 := by simp [chE, n1]
   have hfin := fin_rd hR g0 8
   simp -implicitDefEqProofs [ref04_Change, pstep, o1, o2, o3, v1, v2, n1, putCells, part7, l1, ha, hlen]
   refine ends_ct (by simp [part7] <;> rfl) (by simp <;> rfl) ?_
   rw [hE 8 (by omega) ex]; exact hfin
  by_cases a1 : atR name (liveR R) < 0
  ·have ex : chE R 2 name to b = 9 := by simp [chE, n1, a1]
   have hfin := fin_rd hR g0 9
   simp -implicitDefEqProofs [ref04_Change, pstep, o1, o2, o3, v1, v2, n1, a1, putCells, part7, l1, ha, hlen]
   refine ends_ct (by simp [part7] <;> rfl) (by simp <;> rfl) ?_
   rw [hE 9 (by omega) ex]; exact hfin
  simp -implicitDefEqProofs [ref04_Change, pstep, o1, o2, o3, v1, v2, n1, a1, putCells, part7, l1, ha, hlen]
  exact hrest _ (fun _ => by omega) (fun h => absurd rfl h) (fun _ => by simp [chE, n1, a1]) (by simp) (by simp) (by simp) (by simp) (by simp) (by simp) (by simp) (by simp) (by simp) (by simp)
 ·by_cases n1 : namedB name = true
  rotate_left
  ·have n1 : namedB name = false := by simpa using n1
   have ex : chE R 3 name to b = 8 := by simp [chE, n1]
   have hfin := fin_rd hR g0 8
   simp -implicitDefEqProofs [ref04_Change, pstep, o1, o2, o3, v1, v2, n1, putCells, part7, l1, ha, hlen]
   refine ends_ct (by simp [part7] <;> rfl) (by simp <;> rfl) ?_
   rw [hE 8 (by omega) ex]; exact hfin
  by_cases n2 : namedB to = true
  rotate_left
  ·have n2 : namedB to = false := by simpa using n2
   have ex : chE R 3 name to b = 8 := by simp [chE, n1, n2]
   have hfin := fin_rd hR g0 8
   simp -implicitDefEqProofs [ref04_Change, pstep, o1, o2, o3, v1, v2, n1, n2, putCells, part7, l1, ha, hlen]
   refine ends_ct (by simp [part7] <;> rfl) (by simp <;> rfl) ?_
   rw [hE 8 (by omega) ex]; exact hfin
  by_cases a1 : atR name (liveR R) < 0
  ·have ex : chE R 3 name to b = 9 := by simp [chE, n1, n2, a1]
   have hfin := fin_rd hR g0 9
   simp -implicitDefEqProofs [ref04_Change, pstep, o1, o2, o3, v1, v2, n1, n2, a1, putCells, part7, l1, ha, hlen]
   refine ends_ct (by simp [part7] <;> rfl) (by simp <;> rfl) ?_
   rw [hE 9 (by omega) ex]; exact hfin
  simp -implicitDefEqProofs [ref04_Change, pstep, o1, o2, o3, v1, v2, n1, n2, a1, putCells, part7, l1, ha, hlen]
  exact hrest _ (fun h => by omega) (fun _ => by simp [chE, n1, n2, a1]) (fun h => by omega) (by simp) (by simp) (by simp) (by simp) (by simp) (by simp) (by simp) (by simp) (by simp) (by simp)
 ·by_cases n1 : namedB name = true
  rotate_left
  ·have n1 : namedB name = false := by simpa using n1
   have ex : chE R 4 name to b = 8 := by simp [chE, n1]
   have hfin := fin_rd hR g0 8
   simp -implicitDefEqProofs [ref04_Change, pstep, o1, o2, o3, v1, v2, n1, putCells, part7, l1, ha, hlen]
   refine ends_ct (by simp [part7] <;> rfl) (by simp <;> rfl) ?_
   rw [hE 8 (by omega) ex]; exact hfin
  by_cases a1 : atR name (liveR R) < 0
  ·have ex : chE R 4 name to b = 9 := by simp [chE, n1, a1]
   have hfin := fin_rd hR g0 9
   simp -implicitDefEqProofs [ref04_Change, pstep, o1, o2, o3, v1, v2, n1, a1, putCells, part7, l1, ha, hlen]
   refine ends_ct (by simp [part7] <;> rfl) (by simp <;> rfl) ?_
   rw [hE 9 (by omega) ex]; exact hfin
  simp -implicitDefEqProofs [ref04_Change, pstep, o1, o2, o3, v1, v2, n1, a1, putCells, part7, l1, ha, hlen]
  exact hrest _ (fun h => by omega) (fun _ => by simp [chE, n1, a1]) (fun h => by omega) (by simp) (by simp) (by simp) (by simp) (by simp) (by simp) (by simp) (by simp) (by simp) (by simp)
 ·by_cases n1 : namedB name = true
  rotate_left
  ·have n1 : namedB name = false := by simpa using n1
   have ex : chE R 5 name to b = 8 := by simp [chE, n1]
   have hfin := fin_rd hR g0 8
   simp -implicitDefEqProofs [ref04_Change, pstep, o1, o2, o3, v1, v2, n1, putCells, part7, l1, ha, hlen]
   refine ends_ct (by simp [part7] <;> rfl) (by simp <;> rfl) ?_
   rw [hE 8 (by omega) ex]; exact hfin
  by_cases a1 : atR name (liveR R) < 0
  ·have ex : chE R 5 name to b = 9 := by simp [chE, n1, a1]
   have hfin := fin_rd hR g0 9
   simp -implicitDefEqProofs [ref04_Change, pstep, o1, o2, o3, v1, v2, n1, a1, putCells, part7, l1, ha, hlen]
   refine ends_ct (by simp [part7] <;> rfl) (by simp <;> rfl) ?_
   rw [hE 9 (by omega) ex]; exact hfin
  simp -implicitDefEqProofs [ref04_Change, pstep, o1, o2, o3, v1, v2, n1, a1, putCells, part7, l1, ha, hlen]
  exact hrest _ (fun _ => by omega) (fun _ => by simp [chE, n1, a1]) (fun h => by omega) (by simp) (by simp) (by simp) (by simp) (by simp) (by simp) (by simp) (by simp) (by simp) (by simp)
 ·simp -implicitDefEqProofs [ref04_Change, pstep, o1, o2, o3, v1, v2, hk, putCells, part7, l1, ha, hlen]
  exact hrest _ (fun h => by omega) (fun _ => by simp [chE, hk]) (fun h => by omega) (by simp) (by simp) (by simp) (by simp) (by simp) (by simp) (by simp) (by simp) (by simp) (by simp)
end Ps
