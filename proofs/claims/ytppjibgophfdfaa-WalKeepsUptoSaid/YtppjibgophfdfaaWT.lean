/- The law WalKeeps. -/
import Derived.Test.YtppjibgophfdfaaWQ
namespace Ps
set_option linter.unusedSimpArgs false
open Go
theorem fn_489 : T.fn 489 = some (.code z23) := rfl
theorem RecsC.take : ∀ {es : List PV} {rs : List RecM} (k : Nat), RecsC es rs → RecsC (es.take k) (rs.take k)
  | _, _, 0, _ => by simp [RecsC]
  | [], [], k + 1, _ => trivial
  | x :: es, q :: rs, k + 1, h => ⟨h.1, h.2.take k⟩
  | [], _ :: _, _ + 1, h => by cases h
  | _ :: _, [], _ + 1, h => by cases h
structure KAct where
  kind : Int
  r : RecM
  cs : List PV
  bv : PV
  n : Int
  kept : List Int
  kv : PV
def kactC (a : KAct) : List PV := .int .i64 a.kind :: (a.cs ++ [a.bv, .int .i64 a.n, a.kv])
structure KAct.Wf (a : KAct) : Prop where
  r : RecC a.r a.cs
  lens : a.r.labs.length ≤ 100000000 ∧ a.r.rows.length ≤ 100000000 ∧ a.r.ids.length ≤ 100000000
  n : a.n ≤ 9223372036854775807
  kept : Reads1 1 a.kv (a.kept.map (.int .i64))
  bone : a.bv.one = true
  kone : a.kv.one = true
theorem kact_len {a : KAct} (h : a.Wf) : (kactC a).length = 10 := by
  have := (recC_all h.r).1
  simp [kactC, this]
theorem kact_one {a : KAct} (h : a.Wf) : (kactC a).all PV.one = true := by
  have := (recC_all h.r).2
  simp only [kactC, List.all_cons, List.all_append, this, h.bone, h.kone, List.all_nil, one_int, Bool.and_self]
theorem framesB_lenK {rs : List RecM} (h : ∀ r ∈ rs, recN r = 0) : (framesB rs).length ≤ 10006 * rs.length := by
  induction rs with
  | nil => simp [framesB]
  | cons r rs ih =>
    have e : framesB (r :: rs) = frameB (recB r) ++ framesB rs := by simp [framesB]
    have := ih (fun x hx => h x (by simp [hx]))
    have hl := recB_len (h r (by simp))
    rw [e, List.length_append, frameB_len, List.length_cons]
    omega
structure KpI (S : St) (o lo K : Nat) (D : Dk) (F : Nat) (hv : PV) (rs : List RecM) (m : Nat) : Prop where
  at_ : At S o K D
  live : D.live = [(nLog, F)]
  base : D.base = [(nLog, F)]
  wait : D.wait = []
  room : D.room = 4194304
  log : Lg S lo o D rs.length (framesB rs).length
  fb : D.fb F = framesB rs
  ok : ∀ r ∈ rs, recN r = 0
  acc : ∃ es, AccZ 6 S D hv es ∧ RecsC es rs
  sure : m ≤ rs.length ∧ (framesB (rs.take m)).length ≤ D.fs F
theorem kp_crash {S : St} {o lo K : Nat} {D : Dk} {F : Nat} {hv : PV} {rs : List RecM} {m : Nat} (I : KpI S o lo K D F hv rs m) (hK : K ≤ 880) (hrl : rs.length ≤ 40) {n : Int} {kept : List Int} {kv : PV} (hk : Reads1 1 kv (kept.map (.int .i64))) :
    ∃ S1 S2 D2 F2 lo2 v m2 t, cval T 80 [.ptr o 0, .int .i64 n, kv] S = some (.int .i64 0, S1) ∧ cval T 144 [.ptr o 0, .str nLog] S1 = some (.tup [.ptr lo2 0, v, .int .i64 0], S2) ∧ KpI S2 o lo2 (K + 20) D2 F2 v (rs.take m2) m2 ∧ m ≤ m2 ∧ m2 ≤ rs.length ∧
      lenP false v = some (.int .i64 (m2 : Int)) ∧ lenP false hv = some (.int .i64 (rs.length : Int)) ∧ slcP 6 none (some (.int .i64 (m2 : Int))) hv = some t ∧ cval T 146 [v, t] S2 = some (.bool true, S2) ∧ v.cells = [v] ∧ v.one = true := by
  obtain ⟨es, z1, z2⟩ := I.acc
  obtain ⟨li', fv', S1, c1, a1, r1, _⟩ := crash_val I.at_ (by omega) (dirs := n) hk
  have hck : crashK D n = 0 := by have := crashK_le D n; rw [I.wait] at this; simpa using this
  have hdir : dirAt D (crashK D n) = [(nLog, F)] := by rw [hck]; simp [dirAt, doA, I.base]
  have hsort : sortN [(nLog, F)] = [nLog] := by simp [sortN]
  obtain ⟨D1, hD1⟩ : ∃ D1, D1 = crashD D li' fv' n kept := ⟨_, rfl⟩
  rw [← hD1] at a1 r1
  have hfF := (I.at_.file F (I.at_.inl (nLog, F) (by rw [I.live]; simp))).2.2.1
  obtain ⟨k, hkd⟩ : ∃ k, k = kOf kept 0 (D.fb F) (D.fs F) := ⟨_, rfl⟩
  have hk1 : D.fs F ≤ k := by rw [hkd]; exact kOf_ge _ _ _ _
  have hk2 : k ≤ (D.fb F).length := by rw [hkd]; exact kOf_le _ _ _ _ hfF
  have hlkn : lk nLog [(nLog, F)] = some F := by simp [lk]
  have hcut : crashC D n kept = (fun g => if g = F then (D.fb F).take k else D.fb g, fun g => if g = F then k else D.fs g) := by
    unfold crashC
    rw [hdir, hsort]
    simp only [cutS, hlkn, ← hkd]
  have f1 : Free D1 := by rw [hD1]; exact ⟨rfl, rfl⟩
  have l1 : D1.live = [(nLog, F)] := by rw [hD1]; exact hdir
  have b1 : D1.base = [(nLog, F)] := by rw [hD1]; exact hdir
  have w1 : D1.wait = [] := by rw [hD1]; rfl
  have m1 : D1.room = 4194304 := by rw [hD1]; exact I.room
  obtain ⟨s, hs⟩ : ∃ s, s = (framesB rs).take k := ⟨_, rfl⟩
  have x1 : D1.fb F = s := by rw [hD1]; show (crashC D n kept).1 F = _; rw [hcut, hs, I.fb]; simp
  have y1 : D1.fs F = k := by rw [hD1]; show (crashC D n kept).2 F = _; rw [hcut]; simp
  rw [I.fb] at hk2
  have hsl : s.length = k := by rw [hs, List.length_take]; omega
  have hf := framesB_lenK I.ok
  obtain ⟨m2, p1, p2, p3⟩ := whL_prefix rs s I.ok (by rw [hs]; exact List.take_prefix _ _)
  obtain ⟨S2, D2, F2, lo2, v, es2, c2, q2, g2, v1, v2, a2, r2, f2, l2, b2, w2, x2, y2, mm2, lg2, _⟩ := open_old a1 (by omega) f1 l1 b1 w1 (by rw [x1, hsl]; omega) (by rw [x1, hsl, m1]; omega)
  rw [x1] at g2 x2 y2 lg2
  have hinv := (whL_inv s).1
  rw [p2] at g2 y2 lg2
  simp only at g2 y2 lg2
  have hW1 : (whL s).1 = rs.take m2 := by rw [p2]
  have hW2 : (whL s).2 = (framesB (rs.take m2)).length := by rw [p2]
  have hmm : m ≤ m2 := p3 m I.sure.1 (by rw [hsl]; exact Nat.le_trans I.sure.2 hk1)
  have hvl := q2.reads.len
  rw [g2.len, List.length_take, Nat.min_eq_left p1] at hvl
  have hhl := z1.reads.len
  rw [z2.len] at hhl
  obtain ⟨t, t1, t2⟩ := z1.isSl.hi (hi := m2) (j := .i64) (by rw [z2.len]; exact p1)
  have hok2 : ∀ r ∈ rs.take m2, recN r = 0 := fun r hr => I.ok r (List.mem_of_mem_take hr)
  have hsame := sall_val q2.reads t2.reads g2.c (z2.take m2) hok2 (by rw [List.length_take]; omega) S2
  refine ⟨S1, S2, D2, F2, lo2, v, m2, t, c1, c2, ⟨a2.mono (by omega), l2, b2, w2, by rw [mm2, m1], lg2, ?_, hok2, ⟨es2, q2, g2.c⟩, ⟨?_, ?_⟩⟩, hmm, p1, hvl, hhl, t1, hsame, v1, v2⟩
  · rw [x2, hinv, hW1]
  · rw [List.length_take]; omega
  · rw [List.take_take, Nat.min_self]
    rcases y2 with y2 | ⟨y2, y3⟩
    · rw [y2]; exact Nat.le_refl _
    · rw [y3, y1, ← hsl, ← y2]; exact Nat.le_refl _
set_option maxRecDepth 20000 in
set_option maxHeartbeats 16000000 in
theorem kp_loop {xs : List KAct} {v : PV} (hv : Reads1 10 v (xs.map fun a => .agg (kactC a))) (hx : ∀ a ∈ xs, a.Wf) (hl : xs.length ≤ 2000000) {o : Nat} {K : List Kt} {Q : Fr → St → Prop} :
    ∀ (rest pre : List KAct), xs = pre ++ rest → pre.length ≤ 40 → ∀ (fr : Fr) (S : St) (lo : Nat) (D : Dk) (F : Nat) (hv : PV) (rs : List RecM) (m : Nat), KpI S o lo (5 + 20 * pre.length) D F hv rs m → rs.length ≤ pre.length →
    fr 0 = v → fr 3 = .ptr o 0 → fr 4 = .ptr lo 0 → fr 6 = hv → fr 7 = .int .i64 (m : Int) → fr 8 = .int .i64 (pre.length : Int) →
    (∀ fr' S' lo' D' F' hv' rs' m', KpI S' o lo' 880 D' F' hv' rs' m' → fr' 4 = .ptr lo' 0 → fr' 6 = hv' → Ok (gval T K fr' S') Q) →
    Ok (gval T (.lp z23_l0 :: .blk 0 :: K) fr S) Q := by
  intro rest
  induction rest with
  | nil =>
    intro pre hp h40 fr S lo D F hvv rs m I hrl h0 h3 h4 h6 h7 h8 k
    rw [List.append_nil] at hp; subst hp
    have hlen := hv.len
    rw [List.length_map] at hlen
    rw [gval_lp]
    simp -implicitDefEqProofs [h0, h3, h4, h6, h8, hlen]
    exact k _ S lo D F hvv rs m { I with at_ := I.at_.mono (by omega) } (by simp [h4]) (by simp [h6])
  | cons a rest ih =>
    intro pre hp h40 fr S lo D F hvv rs m I hrl h0 h3 h4 h6 h7 h8 k
    have hi : pre.length < xs.length := by rw [hp]; simp
    have hlen := hv.len
    rw [List.length_map] at hlen
    have hg := hv.get pre.length (by simpa using hi) .i64
    have hgx : (xs.map fun a => PV.agg (kactC a))[pre.length]'(by simpa using hi) = .agg (kactC a) := by simp [hp]
    rw [hgx, cells_agg] at hg
    have ha := hx a (by rw [hp]; simp)
    have c10 := kact_len ha
    have c1 := kact_one ha
    have c1' : (∀ x, x ∈ kactC a → x.one = true) = True := eq_true (by simpa using c1)
    have hp10 : partOf true 10 (kactC a) = some (.agg (kactC a)) := by
      unfold partOf
      rw [if_pos (by omega), if_pos rfl, List.take_of_length_le (by omega)]
    have hu : putCells [PV.int .i64 0, .int .i64 0, .nils, .nils, .nils, .int .i64 0, .int .i64 0, .nils, .int .i64 0, .nils] 0 (kactC a) = kactC a := put_all (by simp [c10])
    have hw := wrap_len (a := pre.length) (by omega)
    obtain ⟨S1, hS1⟩ : ∃ S1 : St, S1 = ⟨S.objs ++ [kactC a], S.tips⟩ := ⟨_, rfl⟩
    have hgr : Grows S S1 := ⟨[kactC a], [], by rw [hS1]; simp⟩
    have ob : S1.objs[S.objs.length]? = some (kactC a) := by rw [hS1]; simp
    have H : KpI S1 o lo (5 + 20 * pre.length) D F hvv rs m := by
      obtain ⟨es, z1, z2⟩ := I.acc
      exact { I with at_ := I.at_.grows hgr, log := I.log.fra (Fra.grows hgr), acc := ⟨es, z1.fra (Fra.grows (o := o) hgr).t, z2⟩ }
    have hlt := I.at_.lt
    have hLo : S.objs.length ≠ o ∧ S.objs.length ≠ lo ∧ ¬ OwnsO D S.objs.length := by
      refine ⟨by omega, by have := (List.getElem?_eq_some_iff.1 I.log.obj).1; omega, ?_⟩
      rintro (q | q | q)
      · omega
      · omega
      · have := hlt.2.2.2 _ q; omega
    have hS1' : St.mk (S.objs ++ [kactC a]) S.tips = S1 := hS1.symm
    have k0 : partOf false 1 ((kactC a).drop 0) = some (.int .i64 a.kind) := by simp [kactC, partOf]
    have k1 : partOf true 6 ((kactC a).drop 1) = some (.agg a.cs) := by
      have h6 := (recC_all ha.r).1
      have e : (kactC a).drop 1 = a.cs ++ [a.bv, .int .i64 a.n, a.kv] := rfl
      rw [e]
      unfold partOf
      rw [if_pos (by simp [h6]), if_pos rfl, List.take_left' h6]
    have k8 : partOf false 1 ((kactC a).drop 8) = some (.int .i64 a.n) := by
      have h6 := (recC_all ha.r).1
      have e : (kactC a).drop 8 = [.int .i64 a.n, a.kv] := by
        have : kactC a = (.int .i64 a.kind :: (a.cs ++ [a.bv])) ++ [.int .i64 a.n, a.kv] := by simp [kactC]
        rw [this, List.drop_append_of_le_length (by simp [h6]), List.drop_of_length_le (by simp [h6]), List.nil_append]
      rw [e]; rfl
    have k9 : partOf false 1 ((kactC a).drop 9) = some a.kv := by
      have h6 := (recC_all ha.r).1
      have e : (kactC a).drop 9 = [a.kv] := by
        have : kactC a = (.int .i64 a.kind :: (a.cs ++ [a.bv, .int .i64 a.n])) ++ [a.kv] := by simp [kactC]
        rw [this, List.drop_append_of_le_length (by simp [h6]), List.drop_of_length_le (by simp [h6]), List.nil_append]
      rw [e]; simp [partOf]
    have k0' : partOf false 1 (kactC a) = some (.int .i64 a.kind) := k0
    have k1' : partOf true 6 (kactC a).tail = some (.agg a.cs) := by rw [← List.drop_one]; exact k1
    by_cases hy : pre.length < 40
    · have hj : (pre.length : Int) < 40 := by omega
      have hL : ∀ fr' S' lo' D' F' hv' rs' m', KpI S' o lo' (5 + 20 * (pre.length + 1)) D' F' hv' rs' m' → rs'.length ≤ pre.length + 1 → fr' 0 = v → fr' 3 = .ptr o 0 → fr' 4 = .ptr lo' 0 → fr' 6 = hv' → fr' 7 = .int .i64 (m' : Int) → fr' 8 = .int .i64 ((pre.length + 1 : Nat) : Int) →
          Ok (gval T (.lp z23_l0 :: .blk 0 :: K) fr' S') Q := by
        intro fr' S' lo' D' F' hv' rs' m' I' hr' g0 g3 g4 g6 g7 g8
        exact ih (pre ++ [a]) (by simp [hp]) (by simp; omega) fr' S' lo' D' F' hv' rs' m' (by simpa using I') (by simpa using hr') g0 g3 g4 g6 g7 (by simpa using g8) k
      clear k ih
      have hf := framesB_lenK I.ok
      have hsk : ∀ fr' : Fr, fr' 0 = v → fr' 3 = .ptr o 0 → fr' 4 = .ptr lo 0 → fr' 6 = hvv → fr' 7 = .int .i64 (m : Int) → fr' 8 = .int .i64 ((pre.length + 1 : Nat) : Int) → Ok (gval T (.lp z23_l0 :: .blk 0 :: K) fr' S1) Q :=
        fun fr' g0 g3 g4 g6 g7 g8 => hL fr' S1 lo D F hvv rs m { H with at_ := H.at_.mono (by omega) } (by omega) g0 g3 g4 g6 g7 g8
      by_cases e1 : a.kind = 1
      · obtain ⟨ds, d1, d2⟩ := rown_val ha.r ha.lens S1
        obtain ⟨e, S2, D2, a1, a2, a3, a4, a5, a6, a7, a8, a9, a10⟩ := logapp_val H.at_ (by omega) H.log (by omega) (by omega) H.live d2
        obtain ⟨es, z1, z2⟩ := H.acc
        rcases a10 with ⟨b1, b2, b3⟩ | ⟨rfl, b1, b2, b3⟩
        · have J : KpI S2 o lo (5 + 20 * (pre.length + 1)) D2 F hvv rs m := ⟨a2.mono (by omega), a4.trans I.live, a5.trans I.base, a6.trans I.wait, a7.trans I.room, b3, b2.trans I.fb, I.ok, ⟨es, z1.fra a3.t, z2⟩, ⟨I.sure.1, by rw [a8]; exact I.sure.2⟩⟩
          rw [gval_lp]
          simp -implicitDefEqProofs [h0, h3, h4, h6, h7, h8, hlen, hi, hy, hj, hg, hp10, pstep, newObj, c10, c1, c1', hu, hS1', loadP_ptr ob, k0', k1', e1, k1, d1, a1, b1]
          refine hL _ S2 lo D2 F hvv rs m J (by omega) ?_ ?_ ?_ ?_ ?_ ?_ <;> simp [h0,h3,h4,h6,h7,hw]
        · have ob2 := a3.obj _ _ ob hLo.1 hLo.2.1 hLo.2.2
          obtain ⟨v', S3, p1, p2, p3, p4⟩ := AccZ.push (b := 96) a2 (z1.fra a3.t) (e := .agg a.cs) (by rw [z2.len]; omega) (by simpa using (recC_all ha.r).1)
          have hfs : framesB (rs ++ [a.r]) = framesB rs ++ frameB (recB a.r) := by rw [framesB_app, framesB_one]
          have J : KpI S3 o lo (5 + 20 * (pre.length + 1)) D2 F v' (rs ++ [a.r]) m := by
            refine ⟨p2.mono (by omega), a4.trans I.live, a5.trans I.base, a6.trans I.wait, a7.trans I.room, ?_, ?_, ?_, ⟨_, p3, z2.snoc ha.r⟩, ⟨by have := I.sure.1; simp; omega, ?_⟩⟩
            · have hl2 : (framesB (rs ++ [a.r])).length = (framesB rs).length + ((recB a.r).length + 6) := by rw [hfs, List.length_append, frameB_len]
              rw [hl2, List.length_append]
              exact ⟨by rw [p4]; exact b3.obj, b3.ne, b3.own⟩
            · rw [b2, I.fb, hfs]
            · intro q hq
              rcases List.mem_append.1 hq with hq | hq
              · exact I.ok q hq
              · simp at hq; rw [hq]; exact b1
            · rw [a8, List.take_append_of_le_length I.sure.1]; exact I.sure.2
          have d1' : (∀ x, x ∈ a.cs → x.one = true) = True := eq_true (by simpa using (recC_all ha.r).2)
          have d6 := (recC_all ha.r).1
          have hsz : szOk 6 [PV.agg a.cs] = true := by simp [szOk, d6]
          have d2' := (recC_all ha.r).2
          rw [gval_lp]
          simp -implicitDefEqProofs [h0, h3, h4, h6, h7, h8, hlen, hi, hy, hj, hg, hp10, pstep, newObj, c10, c1, c1', hu, hS1', loadP_ptr ob, k0', k1', e1, k1, d1, a1, loadP_ptr ob2, elems, setParts, d6, d1', d2', newArr, appended, hsz, p1]
          exact hL _ S3 lo D2 F v' (rs ++ [a.r]) m J (by simp; omega) (by simp [h0]) (by simp [h3]) (by simp [h4]) (by simp) (by simp [h7]) (by simp [hw])
      · have e1' : (a.kind == 1) = false := by simpa using e1
        by_cases e2 : a.kind = 2
        · obtain ⟨e, S2, D2, a1, a2, a3, a4, a5, a6, a7, a8, a9⟩ := logsync_val H.at_ (by omega) H.log H.live
          obtain ⟨es, z1, z2⟩ := H.acc
          have lg2 := H.log.fra a3
          have hhl := (z1.fra a3.t).reads.len
          rw [z2.len] at hhl
          rcases a9 with ⟨b1, b2⟩ | ⟨rfl, b2⟩
          · have J : KpI S2 o lo (5 + 20 * (pre.length + 1)) D2 F hvv rs m := ⟨a2.mono (by omega), a4.trans I.live, a5.trans I.base, a6.trans I.wait, a7.trans I.room, lg2, a8.trans I.fb, I.ok, ⟨es, z1.fra a3.t, z2⟩, ⟨I.sure.1, by rw [b2]; exact I.sure.2⟩⟩
            rw [gval_lp]
            simp -implicitDefEqProofs [h0, h3, h4, h6, h7, h8, hlen, hi, hy, hj, hg, hp10, pstep, newObj, c10, c1, c1', hu, hS1', loadP_ptr ob, k0', k1', e2, a1, b1]
            refine hL _ S2 lo D2 F hvv rs m J (by omega) ?_ ?_ ?_ ?_ ?_ ?_ <;> simp [h0,h3,h4,h6,h7,hw]
          · have J : KpI S2 o lo (5 + 20 * (pre.length + 1)) D2 F hvv rs rs.length := ⟨a2.mono (by omega), a4.trans I.live, a5.trans I.base, a6.trans I.wait, a7.trans I.room, lg2, a8.trans I.fb, I.ok, ⟨es, z1.fra a3.t, z2⟩, ⟨Nat.le_refl _, by rw [b2, I.fb, List.take_length]; exact Nat.le_refl _⟩⟩
            rw [gval_lp]
            simp -implicitDefEqProofs [h0, h3, h4, h6, h7, h8, hlen, hi, hy, hj, hg, hp10, pstep, newObj, c10, c1, c1', hu, hS1', loadP_ptr ob, k0', k1', e2, a1, hhl]
            exact hL _ S2 lo D2 F hvv rs rs.length J (by omega) (by simp [h0]) (by simp [h3]) (by simp [h4]) (by simp [h6]) (by simp) (by simp [hw])
        · have e2' : (a.kind == 2) = false := by simpa using e2
          by_cases e3 : a.kind = 3
          · obtain ⟨S2, S3, D3, F3, lo3, v3, m3, t, a1, a2, J, b1, b2, b3, b4, b5, b6, b7, b8⟩ := kp_crash H (by omega) (by omega) (n := a.n) ha.kept
            have n1 : ¬ (m3 : Int) < (m : Int) := by omega
            have n2 : ¬ (rs.length : Int) < (m3 : Int) := by omega
            have p4 : eqnP false .p (.ptr lo3 0) = some (.bool false) := rfl
            simp only [nLog] at a2
            rw [gval_lp]
            simp -implicitDefEqProofs [h0, h3, h4, h6, h7, h8, hlen, hi, hy, hj, hg, hp10, pstep, newObj, c10, c1, c1', hu, hS1', loadP_ptr ob, k0', k1', k8, k9, e3, a1, a2, p4, b3, b4, b5, b6, n1, n2]
            exact hL _ S3 lo3 D3 F3 v3 (rs.take m3) m3 { J with at_ := J.at_.mono (by omega) } (by rw [List.length_take]; omega) (by simp [h0]) (by simp [h3]) (by simp) (by simp) (by simp) (by simp [hw])
          · have e3' : (a.kind == 3) = false := by simpa using e3
            by_cases e4 : a.kind = 4
            · obtain ⟨a1, a2, a3⟩ := fuse_val H.at_ ha.n
              obtain ⟨S2, hS2⟩ : ∃ S2 : St, S2 = ⟨S1.objs.set o (dcells (fuseD D a.n)), S1.tips⟩ := ⟨_, rfl⟩
              rw [← hS2] at a1 a2 a3
              obtain ⟨es, z1, z2⟩ := H.acc
              have J : KpI S2 o lo (5 + 20 * (pre.length + 1)) (fuseD D a.n) F hvv rs m := ⟨a2.mono (by omega), I.live, I.base, I.wait, I.room, H.log.fra a3, I.fb, I.ok, ⟨es, z1.fra a3.t, z2⟩, I.sure⟩
              rw [gval_lp]
              simp -implicitDefEqProofs [h0, h3, h4, h6, h7, h8, hlen, hi, hy, hj, hg, hp10, pstep, newObj, c10, c1, c1', hu, hS1', loadP_ptr ob, k0', k1', k8, e4, a1]
              refine hL _ S2 lo (fuseD D a.n) F hvv rs m J (by omega) ?_ ?_ ?_ ?_ ?_ ?_ <;> simp [h0,h3,h4,h6,h7,hw]
            · have e4' : (a.kind == 4) = false := by simpa using e4
              rw [gval_lp]
              simp -implicitDefEqProofs [h0, h3, h4, h6, h7, h8, hlen, hi, hy, hj, hg, hp10, pstep, newObj, c10, c1, c1', hu, hS1', loadP_ptr ob, k0', k1', e1', e2', e3', e4']
              refine hsk _ ?_ ?_ ?_ ?_ ?_ ?_ <;> simp [h0,h3,h4,h6,h7,hw]
    · have hj : ¬ (pre.length : Int) < 40 := by omega
      rw [gval_lp]
      simp -implicitDefEqProofs [h0, h3, h4, h6, h8, hlen, hi, hy, hj]
      exact k _ S lo D F hvv rs m { I with at_ := I.at_.mono (by omega) } (by simp [h4]) (by simp [h6])
theorem kp_walk {xs : List KAct} {v : PV} (hv : Reads1 10 v (xs.map fun a => .agg (kactC a))) (hx : ∀ a ∈ xs, a.Wf) (hl : xs.length ≤ 2000000) : ∃ S', cval T 489 [v] St0 = some (.bool true, S') := by
  obtain ⟨S1, o, lo, D1, F, c1, a1, f1, l1, b1, w1, x1, y1, m1, lg1⟩ := again_val
  have fin : ∀ S : St, finish false St0 S (.bool true) = (.bool true, St0) := fun S => finish_pur_free rfl
  have I0 : KpI S1 o lo (5 + 20 * 0) D1 F .nils [] 0 := ⟨a1.mono (by omega), l1, b1, w1, m1, lg1, by rw [x1]; rfl, fun r hr => by simp at hr, ⟨[], ⟨.inl ⟨rfl, rfl⟩, fun e he => by simp at he⟩, trivial⟩, ⟨Nat.le_refl _, by simp [framesB]⟩⟩
  refine ⟨St0, cval_ok' fn_489 rfl ?_⟩
  simp -implicitDefEqProofs [z23, c1]
  refine kp_loop hv hx hl xs [] rfl (by simp) _ S1 lo D1 F .nils [] 0 I0 (by simp) (by simp) (by simp) (by simp) (by simp) (by simp) (by simp) ?_
  intro fr2 S2 lo2 D2 F2 hv2 rs m I g4 g6
  obtain ⟨es, z1, z2⟩ := I.acc
  have hln := len_val I.log
  have hhl := z1.reads.len
  rw [z2.len] at hhl
  simp -implicitDefEqProofs [g4, g6, hln, hhl, lives_pval, fin]
abbrev tyKAct : Ty := .st (.pair (.int .i64) (.pair tyRec (.pair (.sl (.int .u8)) (.pair (.int .i64) (.pair (.sl (.int .i64)) .unit)))))
def inK2 (x : (Ty.sl (.int .i64)).den) : List Int := match x with | none => [] | some q => q.1
def actK (x : tyKAct.den) : KAct := ⟨x.1, inR x.2.1, tyRec.emb x.2.1, (Ty.sl (.int .u8)).pv x.2.2.1, x.2.2.2.1, inK2 x.2.2.2.2.1, (Ty.sl (.int .i64)).pv x.2.2.2.2.1⟩
theorem actK_pv (x : tyKAct.den) : tyKAct.pv x = .agg (kactC (actK x)) := by
  obtain ⟨k, r, b, n, kp, u⟩ := x
  cases b <;> cases kp <;> rfl
theorem sl_one2 {e : Ty} (x : (Ty.sl e).den) : ((Ty.sl e).pv x).one = true := by
  cases x with
  | none => rfl
  | some q => rfl
theorem actK_wf {x : tyKAct.den} (h : tyKAct.wf x) (hb : tyKAct.bulk x ≤ 1048576) : (actK x).Wf := by
  obtain ⟨k, r, b, n, kp, u⟩ := x
  obtain ⟨h1, h2, h3, h4, h5, _⟩ := h
  have hb' : 1 + (tyRec.bulk r + ((Ty.sl (.int .u8)).bulk b + (1 + ((Ty.sl (.int .i64)).bulk kp + 0)))) + 1 ≤ 1048576 := hb
  obtain ⟨⟨cs, e1, e2⟩, l1, l2, l3⟩ := inR_rec h2 (by omega)
  have e3 : cs = tyRec.emb r := by
    have : PV.agg cs = PV.agg (tyRec.emb r) := e1.symm
    exact PV.agg.inj this
  rw [e3] at e2
  have hi : (Lit.int .i64 n).wf = true := h4
  simp only [Lit.wf, Bool.and_eq_true, decide_eq_true_eq] at hi
  have hi2 := hi.2
  simp [IntKind.max, IntKind.signed, IntKind.bits] at hi2
  refine ⟨e2, ⟨Nat.le_trans l1 (by decide), Nat.le_trans l2 (by decide), Nat.le_trans l3 (by decide)⟩, hi2, ?_, sl_one2 b, sl_one2 kp⟩
  cases kp with
  | none => exact reads_nils 1
  | some q =>
    obtain ⟨es, sp⟩ := q
    exact reads_sl (es := es.map (.int .i64)) (fun e he => by obtain ⟨_, _, rfl⟩ := List.mem_map.1 he; rfl)
theorem law_WalKeeps (xs : denL [.sl tyKAct]) (h : wfL [.sl tyKAct] xs) (hb : bulkL [.sl tyKAct] xs ≤ 1048576) : ∃ S', cval T 489 (pvL [.sl tyKAct] xs) St0 = some (.bool true, S') := by
  obtain ⟨l, u⟩ := xs
  obtain ⟨h1, _⟩ := h
  have hb : (Ty.sl tyKAct).bulk l + 0 ≤ 1048576 := hb
  show ∃ S', cval T 489 [(Ty.sl tyKAct).pv l] St0 = _
  have hisl := inS_isl (e := tyKAct) rfl l
  have hln := inS_len (e := tyKAct) (fun y => by show 1 ≤ _ + 1; omega) l
  have hmap : (inS l).map tyKAct.pv = ((inS l).map actK).map fun a => PV.agg (kactC a) := by
    rw [List.map_map]
    exact List.map_congr_left (fun x _ => actK_pv x)
  rw [hmap] at hisl
  refine kp_walk hisl.reads (fun a ha => ?_) (by rw [List.length_map]; omega)
  obtain ⟨x, hx, rfl⟩ := List.mem_map.1 ha
  cases l with
  | none => simp [inS] at hx
  | some q =>
    obtain ⟨es, sp⟩ := q
    have hw : tyKAct.wf x := h1.2.1 x hx
    have hmem : ∀ (l : List tyKAct.den), x ∈ l → tyKAct.bulk x ≤ (l.map tyKAct.bulk).sum := by
      intro l
      induction l with
      | nil => intro h; simp at h
      | cons z l ih =>
        intro h
        simp only [List.map_cons, List.sum_cons]
        rcases List.mem_cons.1 h with rfl | h
        · omega
        · have := ih h; omega
    have hyb := hmem es hx
    have hb2 : (es.map tyKAct.bulk).sum + (sp.map tyKAct.bulk).sum + 1 + 0 ≤ 1048576 := hb
    exact actK_wf hw (by omega)
end Ps
