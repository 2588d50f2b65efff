/- The law WalWhatever. -/
import Derived.Test.YtppjibgophfdfaaWQ
namespace Ps
set_option linter.unusedSimpArgs false
set_option linter.unusedVariables false
open Go
theorem fn_493' : T.fn 493 = some (.code law11_WalWhatever) := rfl

def RecsI (es : List PV) : Prop := ∀ e ∈ es, ∃ r cs, e = .agg cs ∧ RecC r cs

structure WhI (S : St) (o lo K : Nat) (D : Dk) (F : Nat) (hv : PV) (rs : List RecM) : Prop where
  at_ : At S o K D
  free : Free D
  live : D.live = [(nLog, F)]
  base : D.base = [(nLog, F)]
  wait : D.wait = []
  room : D.room = 4194304
  log : Lg S lo o D rs.length (framesB rs).length
  fb : D.fb F = framesB rs
  ok : ∀ r ∈ rs, recN r = 0
  acc : ∃ es, AccZ 6 S D hv es ∧ RecsC es rs

theorem framesB_len {rs : List RecM} (h : ∀ r ∈ rs, recN r = 0) : (framesB rs).length ≤ 10006 * rs.length := by
  induction rs with
  | nil => simp [framesB]
  | cons r rs ih =>
    have e : framesB (r :: rs) = frameB (recB r) ++ framesB rs := by simp [framesB]
    have := ih (fun x hx => h x (by simp [hx]))
    have hl := recB_len (h r (by simp))
    rw [e, List.length_append, frameB_len, List.length_cons]
    omega

theorem wh_loop {xs : List PV} {v : PV} (hv : Reads1 6 v xs) (hx : RecsI xs) (hl : xs.length ≤ 2000000) {o lo : Nat} {K : List Kt} {Q : Fr → St → Prop} :
    ∀ (rest pre : List PV), xs = pre ++ rest → pre.length ≤ 20 → ∀ (fr : Fr) (S : St) (D : Dk) (F : Nat) (hv : PV) (rs : List RecM), WhI S o lo (5 + pre.length) D F hv rs → rs.length ≤ pre.length → fr 0 = v → fr 5 = .ptr o 0 → fr 6 = .ptr lo 0 → fr 8 = hv → fr 9 = .int .i64 (pre.length : Int) →
    (∀ fr' S' D' F' hv' rs', WhI S' o lo 30 D' F' hv' rs' → rs'.length ≤ 20 → fr' 1 = fr 1 → fr' 5 = .ptr o 0 → fr' 6 = .ptr lo 0 → fr' 8 = hv' → Ok (gval T K fr' S') Q) →
    Ok (gval T (.lp law11_WalWhatever_l0 :: .blk 0 :: K) fr S) Q := by
  intro rest
  induction rest with
  | nil =>
    intro pre hp h20 fr S D F hvv rs I hrl h0 h5 h6 h8 h9 k
    rw [List.append_nil] at hp; subst hp
    rw [gval_lp]
    simp -implicitDefEqProofs [h0, h5, h6, h8, h9, hv.len]
    exact k _ S D F hvv rs { I with at_ := I.at_.mono (by omega) } (by omega) (by simp) (by simp [h5]) (by simp [h6]) (by simp [h8])
  | cons x rest ih =>
    intro pre hp h20 fr S D F hvv rs I hrl h0 h5 h6 h8 h9 k
    have hi : pre.length < xs.length := by rw [hp]; simp
    have hg := hv.get pre.length hi .i64
    have hgx : xs[pre.length]'hi = x := by simp [hp]
    obtain ⟨r, cs, rfl, hr⟩ := hx x (by rw [hp]; simp)
    rw [hgx, cells_agg] at hg
    obtain ⟨c6, c1⟩ := recC_all hr
    have hpt := pt_all c6
    have hw := wrap_len (a := pre.length) (by omega)
    by_cases hlt : pre.length < 20
    · have hlt' : (pre.length : Int) < 20 := by omega
      have hfl := framesB_len I.ok
      obtain ⟨e, S1, D1, a1, a2, a3, a4, a5, a6, a7, a8, a9, a10⟩ := logapp_val I.at_ (by omega) I.log (by omega) (by omega) I.live hr
      obtain ⟨es, z1, z2⟩ := I.acc
      rcases a10 with ⟨b1, b2, b3⟩ | ⟨rfl, b1, b2, b3⟩
      · have I1 : WhI S1 o lo (5 + (pre.length + 1)) D1 F hvv rs := ⟨a2.mono (by omega), a9 I.free, a4.trans I.live, a5.trans I.base, a6.trans I.wait, a7.trans I.room, b3, b2.trans I.fb, I.ok, es, z1.fra a3.t, z2⟩
        have hL : ∀ fr', fr' 0 = v → fr' 1 = fr 1 → fr' 5 = .ptr o 0 → fr' 6 = .ptr lo 0 → fr' 8 = hvv → fr' 9 = .int .i64 ((pre.length + 1 : Nat) : Int) → Ok (gval T (.lp law11_WalWhatever_l0 :: .blk 0 :: K) fr' S1) Q := by
          intro fr' g0 g1 g5 g6 g8 g9
          exact ih (pre ++ [.agg cs]) (by simp [hp]) (by simp; omega) fr' S1 D1 F hvv rs (by simpa using I1) (by simp; omega) g0 g5 g6 g8 (by simpa using g9) (fun fr2 S2 D2 F2 h2 r2 w1 w2 w3 w4 w5 w6 => k fr2 S2 D2 F2 h2 r2 w1 w2 (w3.trans g1) w4 w5 w6)
        clear k ih
        rw [gval_lp]
        simp -implicitDefEqProofs [h0, h5, h6, h8, h9, hv.len, hi, hlt, hlt', hg, hpt, a1, b1]
        exact hL _ (by simp [h0]) (by simp) (by simp [h5]) (by simp [h6]) (by simp [h8]) (by simp [hw])
      · obtain ⟨v', S2, p1, p2, p3, p4⟩ := AccZ.push (b := 96) a2 (z1.fra a3.t) (e := .agg cs) (by rw [z2.len]; omega) (by simpa using c6)
        have hfs : framesB (rs ++ [r]) = framesB rs ++ frameB (recB r) := by rw [framesB_app, framesB_one]
        have I1 : WhI S2 o lo (5 + (pre.length + 1)) D1 F v' (rs ++ [r]) := by
          refine ⟨p2.mono (by omega), a9 I.free, a4.trans I.live, a5.trans I.base, a6.trans I.wait, a7.trans I.room, ?_, ?_, ?_, _, p3, z2.snoc hr⟩
          · have hl2 : (framesB (rs ++ [r])).length = (framesB rs).length + ((recB r).length + 6) := by rw [hfs, List.length_append, frameB_len]
            rw [hl2, List.length_append]
            exact ⟨by rw [p4]; exact b3.obj, b3.ne, b3.own⟩
          · rw [b2, I.fb, hfs]
          · intro q hq
            rcases List.mem_append.1 hq with hq | hq
            · exact I.ok q hq
            · simp at hq; rw [hq]; exact b1
        have hL : ∀ fr', fr' 0 = v → fr' 1 = fr 1 → fr' 5 = .ptr o 0 → fr' 6 = .ptr lo 0 → fr' 8 = v' → fr' 9 = .int .i64 ((pre.length + 1 : Nat) : Int) → Ok (gval T (.lp law11_WalWhatever_l0 :: .blk 0 :: K) fr' S2) Q := by
          intro fr' g0 g1 g5 g6 g8 g9
          exact ih (pre ++ [.agg cs]) (by simp [hp]) (by simp; omega) fr' S2 D1 F v' (rs ++ [r]) (by simpa using I1) (by simp; omega) g0 g5 g6 g8 (by simpa using g9) (fun fr2 S2 D2 F2 h2 r2 w1 w2 w3 w4 w5 w6 => k fr2 S2 D2 F2 h2 r2 w1 w2 (w3.trans g1) w4 w5 w6)
        clear k ih
        have c1' : (∀ x, x ∈ cs → x.one = true) = True := eq_true (by simpa using c1)
        have hsz : szOk 6 [PV.agg cs] = true := by simp [szOk, c6]
        rw [gval_lp]
        simp -implicitDefEqProofs [h0, h5, h6, h8, h9, hv.len, hi, hlt, hlt', hg, hpt, a1, pstep, elems, setParts, c6, c1, c1', newArr, appended, hsz, p1]
        exact hL _ (by simp [h0]) (by simp) (by simp [h5]) (by simp [h6]) (by simp) (by simp [hw])
    · have hlt' : ¬ (pre.length : Int) < 20 := by omega
      rw [gval_lp]
      simp -implicitDefEqProofs [h0, h5, h6, h8, h9, hv.len, hi, hlt, hlt']
      exact k _ S D F hvv rs { I with at_ := I.at_.mono (by omega) } (by omega) (by simp) (by simp [h5]) (by simp [h6]) (by simp [h8])

theorem wh_walk {xs : List PV} {v mv : PV} {more : List UInt8} (hv : Reads1 6 v xs) (hx : RecsI xs) (hl : xs.length ≤ 2000000) (hm : IsSl 1 mv (ofBytes more)) (hml : more.length ≤ 2000000) :
    ∃ S', cval T 493 [v, mv] St0 = some (.bool true, S') := by
  obtain ⟨S1, o, lo, D1, F, c1, a1, f1, l1, b1, w1, x1, y1, m1, lg1⟩ := again_val
  have hmlen := hm.len
  rw [ofBytes_len] at hmlen
  have fin : ∀ S : St, finish false St0 S (.bool true) = (.bool true, St0) := fun S => finish_pur_free rfl
  refine ⟨St0, cval_ok' fn_493' rfl ?_⟩
  by_cases h6 : 65536 < more.length
  · have h6' : (65536 : Int) < (more.length : Int) := by omega
    simp -implicitDefEqProofs [law11_WalWhatever, c1, hmlen, h6, h6', fin]
  · have h6' : ¬ (65536 : Int) < (more.length : Int) := by omega
    have I0 : WhI S1 o lo 5 D1 F .nils [] := ⟨a1, f1, l1, b1, w1, m1, lg1, by rw [x1]; rfl, fun r hr => by simp at hr, [], ⟨.inl ⟨rfl, rfl⟩, fun e he => by simp at he⟩, trivial⟩
    simp -implicitDefEqProofs [law11_WalWhatever, c1, hmlen, h6, h6']
    refine wh_loop hv hx hl xs [] rfl (by simp) _ S1 D1 F .nils [] I0 (by simp) (by simp) (by simp) (by simp) (by simp) (by simp) ?_
    intro fr2 S2 D2 F2 hv2 rs I hrl g1 g5 g6 g8
    simp at g1
    obtain ⟨es, z1, z2⟩ := I.acc
    have hfl := framesB_len I.ok
    have hsz2 := size_val I.log
    -- the bytes behind
    obtain ⟨S3, D3, c3, a3, r3, f3, d3, l3, b3, w3, e3, e3', o3, m3⟩ := sum_append I.at_ (by omega) I.free named_log (f := F2) (by rw [I.live]; rfl) hm (by rw [I.live, I.room]; simp [sumB, I.fb]; omega)
    obtain ⟨s, hs⟩ : ∃ s, s = framesB rs ++ more := ⟨_, rfl⟩
    have hfb3 : D3.fb F2 = s := by rw [e3, I.fb, hs]
    have hsl : s.length = (framesB rs).length + more.length := by rw [hs, List.length_append]
    -- Open
    obtain ⟨S4, D4, F4, lo4, v4, es4, c4, i4, rf4, v41, v42, a4, r4, f4, l4, b4, w4, x4, y4, m4, lg4, _⟩ := open_old a3 (by omega) f3 (by rw [l3, I.live]) (by rw [b3, I.base]) (by rw [w3, I.wait]) (by rw [hfb3, hsl]; omega) (by rw [hfb3, hsl, m3, I.room]; push_cast; omega)
    rw [hfb3] at rf4 x4 y4 lg4
    have hwa := whL_app (t := more) rs I.ok
    rw [← hs] at hwa
    obtain ⟨W, hW⟩ : ∃ W, W = whL s := ⟨_, rfl⟩
    rw [← hW] at rf4 x4 y4 lg4 hwa
    have hW1 : W.1 = rs ++ (whL more).1 := by rw [hwa]
    have hW2 : W.2 = (framesB rs).length + (whL more).2 := by rw [hwa]
    have hWle : W.2 ≤ s.length := by rw [hW]; exact wholeS_le _ _ (Nat.zero_le _)
    have hWok : ∀ r ∈ W.1, recN r = 0 := by rw [hW]; exact (whL_inv s).2
    have hWag : whL (s.take W.2) = W := by rw [hW]; exact whL_again s
    have hfl4 : (s.take W.2).length = W.2 := by rw [List.length_take]; omega
    -- the same ones
    have hl4 := i4.len
    rw [rf4.len] at hl4
    have hl2 := z1.reads.len
    rw [z2.len] at hl2
    have hWlen : W.1.length = rs.length + (whL more).1.length := by rw [hW1, List.length_append]
    obtain ⟨v4', t1, t2⟩ := i4.hi (hi := rs.length) (j := .i64) (by rw [rf4.len]; omega)
    have hrf4' : RecsF (es4.take rs.length) rs := by
      have := rf4.take rs.length
      rw [hW1, List.take_left] at this
      exact this
    have hs1 := sall_val t2.reads z1.reads hrf4'.c z2 I.ok (by omega) S4
    -- Open again
    obtain ⟨S5, D5, F5, lo5, v5, es5, c5, i5, rf5, v51, v52, a5, r5, f5, l5, b5, w5, x5, y5, m5, lg5, _⟩ := open_old a4 (by omega) f4 l4 b4 w4 (by rw [x4, hfl4]; omega) (by rw [x4, hfl4, m4, m3, I.room]; omega)
    rw [x4, hWag] at rf5 x5 y5 lg5
    have hfl5 : D5.fb F5 = s.take W.2 := by rw [x5, List.take_of_length_le (by omega)]
    have hrd := dread_val a5 (n := nLog) (by decide)
    obtain ⟨q1', q2', q3'⟩ := read_at a5 named_log (f := F5) (by rw [l5]; rfl) f5.2
    rw [q1'] at hrd
    obtain ⟨rv, hrv⟩ : ∃ rv, rv = readV D5 nLog := ⟨_, rfl⟩
    rw [← hrv] at hrd q3'
    have hrl' := q3'.len
    rw [ofBytes_len, hfl5, hfl4] at hrl'
    have hWlen2 : W.1.length ≤ 900000 := by
      have e1 := (whL_inv s).1
      rw [← hW] at e1
      have e2 : ∀ rs : List RecM, rs.length ≤ (framesB rs).length := by
        intro rs
        induction rs with
        | nil => simp
        | cons r rs ih =>
          have e : framesB (r :: rs) = frameB (recB r) ++ framesB rs := by simp [framesB]
          rw [e, List.length_append, frameB_len, List.length_cons]; omega
      have e3 := e2 W.1
      rw [← e1, hfl4] at e3
      omega
    have hs2 := sall_val i5.reads i4.reads rf5.c rf4.c hWok (by omega) S5
    have hlen5 := len_val lg5
    have hsz5 := size_val lg5
    have n1 : ¬ (W.1.length : Int) < (rs.length : Int) := by omega
    have n2 : ((framesB rs).length : Int) ≤ (W.2 : Int) := by omega
    have n3 : IntKind.i64.wrap (((framesB rs).length : Int) + (more.length : Int)) = ((framesB rs).length : Int) + (more.length : Int) := wrap_i64 (by omega) (by omega)
    have n4 : (W.2 : Int) ≤ ((framesB rs).length : Int) + (more.length : Int) := by omega
    simp only [nLog] at c3 c4 c5 hrd
    have p4 : eqnP false .p (.ptr lo4 0) = some (.bool false) := rfl
    have p5 : eqnP true .p (.ptr lo5 0) = some (.bool true) := rfl
    simp -implicitDefEqProofs [g1, g5, g6, g8, hsz2, c3, c4, p4, hl4, hl2, n1, t1, hs1, c5, hrd, p5, hs2, hlen5, hrl', hsz5, n2, hmlen, n3, n4, lives_pval, fin]

theorem inRs_ok {x : (Ty.sl tyRec).den} (h : (Ty.sl tyRec).wf x) (hb : (Ty.sl tyRec).bulk x ≤ 1048576) : ∃ xs, Reads1 6 ((Ty.sl tyRec).pv x) xs ∧ RecsI xs ∧ xs.length ≤ 2000000 := by
  have hisl := inS_isl (e := tyRec) rfl x
  have hln := inS_len (e := tyRec) (fun y => by show 1 ≤ _ + 1; omega) x
  refine ⟨_, hisl.reads, ?_, by rw [List.length_map]; omega⟩
  intro e he
  obtain ⟨y, hy, rfl⟩ := List.mem_map.1 he
  cases x with
  | none => simp [inS] at hy
  | some q =>
    obtain ⟨es, sp⟩ := q
    have hw : tyRec.wf y := h.2.1 y hy
    have hmem : ∀ (l : List tyRec.den), y ∈ l → tyRec.bulk y ≤ (l.map tyRec.bulk).sum := by
      intro l
      induction l with
      | nil => intro h; simp at h
      | cons z l ih =>
        intro h
        simp only [List.map_cons, List.sum_cons]
        rcases List.mem_cons.1 h with rfl | h
        · omega
        · have := ih h; omega
    have hyb := hmem es hy
    have hb2 : (es.map tyRec.bulk).sum + (sp.map tyRec.bulk).sum + 1 ≤ 1048576 := hb
    obtain ⟨⟨cs, e1, e2⟩, _⟩ := inR_rec hw (by omega)
    exact ⟨_, cs, e1, e2⟩

theorem law_WalWhatever (xs : denL [.sl tyRec, .sl (.int .u8)]) (h : wfL [.sl tyRec, .sl (.int .u8)] xs) (hb : bulkL [.sl tyRec, .sl (.int .u8)] xs ≤ 1048576) : ∃ S', cval T 493 (pvL [.sl tyRec, .sl (.int .u8)] xs) St0 = some (.bool true, S') := by
  obtain ⟨l, m, u⟩ := xs
  obtain ⟨h1, h2, _⟩ := h
  have hb : (Ty.sl tyRec).bulk l + ((Ty.sl (.int .u8)).bulk m + _) ≤ 1048576 := hb
  obtain ⟨xs, r1, r2, r3⟩ := inRs_ok h1 (by omega)
  have hml := inB_len m
  exact wh_walk r1 r2 r3 (inB_isl h2) (by omega)
end Ps
