/- Lists of records: the same; gathered. -/
import Derived.Test.YtppjibgophfdfaaLives
import Derived.Test.YtppjibgophfdfaaWP
namespace Ps
set_option linter.unusedSimpArgs false
open Go
theorem fn_148 : T.fn 148 = some (.code z20) := rfl
theorem fn_150 : T.fn 150 = some (.code z34) := rfl
theorem fn_61 : T.fn 61 = some (.code z40) := rfl
theorem fn_490 : T.fn 490 = some (.code z43) := rfl
theorem At.setx {S : St} {o K : Nat} {D : Dk} (h : At S o K D) {lo : Nat} {c : List PV} (h1 : lo ≠ o) (h2 : ¬ OwnsO D lo) : At ⟨S.objs.set lo c, S.tips⟩ o K D where
  obj := by rw [List.getElem?_set_ne h1]; exact h.obj
  base := by rw [List.getElem?_set_ne (fun e => h2 (.inl e))]; exact h.base
  live := by rw [List.getElem?_set_ne (fun e => h2 (.inr (.inl e)))]; exact h.live
  wv := h.wv
  file := fun f hf => by
    rw [List.getElem?_set_ne (fun e => h2 (.inr (.inr (by rw [e]; exact hf))))]
    exact h.file f hf
  inb := h.inb
  inw := h.inw
  nd := h.nd
  tw := h.tw
  tf := h.tf
  hist := h.hist
  nb := h.nb
  nw := h.nw
  rm := h.rm
  cnt := h.cnt
  dn := h.dn
  lf := h.lf
structure FraL (o lo : Nat) (S S' : St) (D D' : Dk) : Prop where
  t : FraT S S' D D'
  obj : ∀ (i : Nat) (c : List PV), S.objs[i]? = some c → i ≠ o → i ≠ lo → ¬ OwnsO D i → S'.objs[i]? = some c
  own : ∀ i, i < S.objs.length → i ≠ o → ¬ OwnsO D i → ¬ OwnsO D' i
  len : S.objs.length ≤ S'.objs.length
theorem Fra.toL {o lo : Nat} {S S' : St} {D D' : Dk} (h : Fra o S S' D D') (hl : S.objs.length ≤ S'.objs.length) : FraL o lo S S' D D' := ⟨h.t, fun i c hc hi _ hn => h.o.obj i c hc hi hn, h.o.own, hl⟩
theorem logapp_val {S : St} {o K lo n size : Nat} {D : Dk} (h : At S o K D) (hK : K ≤ 900) (lg : Lg S lo o D n size) (hn : n ≤ 1000) (hsz : size ≤ 10000000) {f : Nat} (hl : D.live = [(nLog, f)]) {r : RecM} {cs : List PV} (hr : RecC r cs) :
    ∃ (e : Int) (S' : St) (D' : Dk), cval T 148 [.ptr lo 0, .agg cs] S = some (.int .i64 e, S') ∧ At S' o (K + 1) D' ∧ FraL o lo S S' D D' ∧ D'.live = D.live ∧ D'.base = D.base ∧ D'.wait = D.wait ∧ D'.room = D.room ∧ D'.fs f = D.fs f ∧ (Free D → Free D') ∧
      (((e == 0) = false ∧ D'.fb f = D.fb f ∧ Lg S' lo o D' n size) ∨ (e = 0 ∧ recN r = 0 ∧ D'.fb f = D.fb f ++ frameB (recB r) ∧ Lg S' lo o D' (n + 1) (size + ((recB r).length + 6)))) := by
  have hob := lg.obj
  obtain ⟨c6, c1⟩ := recC_all hr
  have hp := pt_all c6
  have e0 : eqnP false .p (.ptr lo 0) = some (.bool false) := rfl
  have hlk : lk nLog D.live = some f := by rw [hl]; rfl
  by_cases hz : recN r = 0
  · obtain ⟨v1, a1, a2⟩ := recB_ok hr hz S
    have hrl := recB_len hz
    obtain ⟨v2, b1, b2⟩ := put_ok a2.isl (by omega) S
    have hfl := frameB_len (recB r)
    have hlen := b2.isl.len
    rw [ofBytes_len] at hlen
    by_cases he : appendE D nLog (frameB (recB r)) = 0
    · rcases stepR_cases D with hs | hs
      · obtain ⟨fv, S1, d1, d2, d3⟩ := append_ok h (by omega) (n := nLog) (by decide) hlen b2.isl.appd he hs hlk
        obtain ⟨s1, s2, s3, s4, s5, s6, s7, s8, s9, s10, s11⟩ := stepD_fields D
        obtain ⟨D1, hD1⟩ : ∃ D1, D1 = setF (stepD D) f fv (D.fb f ++ frameB (recB r)) (D.fs f) := ⟨_, rfl⟩
        rw [← hD1] at d2 d3
        have lg1 := lg.fra d3
        have hob1 := lg1.obj
        have w1 : IntKind.i64.wrap ((n : Int) + 1) = (n : Int) + 1 := wrap_i64 (by omega) (by omega)
        have w2 : IntKind.i64.wrap ((size : Int) + ((frameB (recB r)).length : Int)) = (size : Int) + ((frameB (recB r)).length : Int) := wrap_i64 (by omega) (by omega)
        have hat := d2.setx (c := [.ptr o 0, .str nLog, .int .i64 ((n : Int) + 1), .int .i64 ((size : Int) + ((frameB (recB r)).length : Int))]) lg1.ne lg1.own
        have hlt := (List.getElem?_eq_some_iff.1 hob1).1
        have hdone : D1.done = D.done + 1 := by rw [hD1]; show (stepD D).done = _; rw [stepD_ok hs]
        have hfin := fin_done h hat hdone (n := 0)
        refine ⟨0, _, D1, cval_ok' fn_148 rfl ?_, hat, ⟨⟨d3.t.len, d3.t.keep⟩, fun i c hc hi hi2 hn => ?_, d3.o.own, ?_⟩, by rw [hD1]; exact s4, by rw [hD1]; exact s3, by rw [hD1]; exact s5, by rw [hD1]; exact s11, by rw [hD1]; simp [setF], fun hf => by rw [hD1]; exact hf.step.2, .inr ⟨rfl, hz, by rw [hD1]; simp [setF], ⟨?_, lg1.ne, lg1.own⟩⟩⟩
        · simp -implicitDefEqProofs [z20, pstep, c1, hp, e0, a1, b1, loadP_ptr hob, q1, d1, loadP_ptr hob1, hob1, w1, putCells, get_set hob1, loadP_set hob1, hlen, w2, hfin]
        · simp only
          rw [List.getElem?_set_ne (Ne.symm hi2)]; exact d3.o.obj i c hc hi hn
        · simp only [List.length_set]
          by_cases hq : S.objs.length ≤ S1.objs.length
          · exact hq
          · exfalso
            have hlo := (List.getElem?_eq_some_iff.1 lg.obj).1
            -- the last object is still there
            have hj : S1.objs.length < S.objs.length := by omega
            by_cases ho : S1.objs.length = o
            · have := d2.lt.1; omega
            · by_cases hw : OwnsO D S1.objs.length
              · have b := d2.lt
                rcases hw with q | q | q
                · have : D1.bi = D.bi := by rw [hD1]; exact s1
                  omega
                · have : D1.li = D.li := by rw [hD1]; exact s2
                  omega
                · have hq2 : S1.objs.length ∈ D1.fl := by rw [hD1]; show _ ∈ (stepD D).fl; rw [s7]; exact q
                  have := b.2.2.2 _ hq2; omega
              · have := d3.o.obj _ _ (List.getElem?_eq_getElem hj) ho hw
                have := (List.getElem?_eq_some_iff.1 this).1; omega
        · simp only [List.getElem?_set_self hlt]
          rw [hfl]; push_cast; rfl
      · have d1 := append_dark h (by omega) (n := nLog) (by decide) hlen he hs
        obtain ⟨S1, hS1⟩ : ∃ S1 : St, S1 = ⟨S.objs.set o (dcells (stepD D)), S.tips⟩ := ⟨_, rfl⟩
        have d2 := (step_val h (by omega)).2
        have d3 := step_fra (S := S) (o := o) (D := D)
        have hfin := fin_step h (n := 6)
        rw [← hS1] at d1 d2 d3 hfin
        obtain ⟨s1, s2, s3, s4, s5, s6, s7, s8, s9, s10, s11⟩ := stepD_fields D
        refine ⟨6, S1, stepD D, cval_ok' fn_148 rfl ?_, d2, d3.toL (by rw [hS1]; simp), s4, s3, s5, s11, by rw [s9], fun hf => (by rw [hf.step.1] at hs; cases hs), .inl ⟨rfl, by rw [s8], lg.fra d3⟩⟩
        simp -implicitDefEqProofs [z20, pstep, c1, hp, e0, a1, b1, loadP_ptr hob, q1, d1, hfin]
    · have d1 := append_no h (by omega) (n := nLog) (by decide) hlen he
      have he' : (appendE D nLog (frameB (recB r)) != 0) = true := by simpa using he
      refine ⟨_, S, D, cval_ok' fn_148 rfl ?_, h.mono (by omega), (Fra.refl o S D).toL (Nat.le_refl _), rfl, rfl, rfl, rfl, rfl, fun hf => hf, .inl ⟨by simpa using he, rfl, lg⟩⟩
      simp -implicitDefEqProofs [z20, pstep, c1, hp, e0, a1, b1, loadP_ptr hob, q1, d1, he', fin_int]
  · have a1 := recB_no hr hz S
    have he' : (((recN r : Nat) : Int) != 0) = true := by simp; omega
    refine ⟨(recN r : Int), S, D, cval_ok' fn_148 rfl ?_, h.mono (by omega), (Fra.refl o S D).toL (Nat.le_refl _), rfl, rfl, rfl, rfl, rfl, fun hf => hf, .inl ⟨by simp; omega, rfl, lg⟩⟩
    simp -implicitDefEqProofs [z20, pstep, c1, hp, e0, a1, he', fin_int]
theorem len_val {S : St} {lo o n size : Nat} {D : Dk} (lg : Lg S lo o D n size) : cval T 61 [.ptr lo 0] S = some (.int .i64 (n : Int), S) := by
  have hob := lg.obj
  have e0 : eqnP false .p (.ptr lo 0) = some (.bool false) := rfl
  refine cval_ok' fn_61 rfl ?_
  simp -implicitDefEqProofs [z40, e0, loadP_ptr hob, q1, fin_int]
theorem logsync_val {S : St} {o K lo n size : Nat} {D : Dk} (h : At S o K D) (hK : K ≤ 900) (lg : Lg S lo o D n size) {f : Nat} (hl : D.live = [(nLog, f)]) :
    ∃ (e : Int) (S' : St) (D' : Dk), cval T 150 [.ptr lo 0] S = some (.int .i64 e, S') ∧ At S' o (K + 1) D' ∧ Fra o S S' D D' ∧ D'.live = D.live ∧ D'.base = D.base ∧ D'.wait = D.wait ∧ D'.room = D.room ∧ D'.fb f = D.fb f ∧
      (((e == 0) = false ∧ D'.fs f = D.fs f) ∨ (e = 0 ∧ D'.fs f = (D.fb f).length)) := by
  have hob := lg.obj
  have e0 : eqnP false .p (.ptr lo 0) = some (.bool false) := rfl
  have hlk : lk nLog D.live = some f := by rw [hl]; rfl
  have hfe : findE D nLog = 0 := by simp [findE, named_log, hlk]
  obtain ⟨s1, s2, s3, s4, s5, s6, s7, s8, s9, s10, s11⟩ := stepD_fields D
  rcases stepR_cases D with hs | hs
  · obtain ⟨S1, d1, d2, d3⟩ := sync_ok h (n := nLog) (by decide) (by omega) hfe hs hlk
    refine ⟨0, S1, _, cval_ok' fn_150 rfl ?_, d2, d3, s4, s3, s5, s11, by simp [setF], .inr ⟨rfl, by simp [setF]⟩⟩
    have hfin := fin_done h d2 (n := 0) (by show (stepD D).done = _; rw [stepD_ok hs])
    simp -implicitDefEqProofs [z34, e0, loadP_ptr hob, q1, d1, hfin]
  · have d1 := sync_dark h (n := nLog) (by decide) (by omega) hfe hs
    have d2 := (step_val h (by omega)).2
    have d3 := step_fra (S := S) (o := o) (D := D)
    have hfin := fin_step h (n := 6)
    obtain ⟨S1, hS1⟩ : ∃ S1 : St, S1 = ⟨S.objs.set o (dcells (stepD D)), S.tips⟩ := ⟨_, rfl⟩
    rw [← hS1] at d1 d2 d3 hfin
    refine ⟨6, S1, _, cval_ok' fn_150 rfl ?_, d2, d3, s4, s3, s5, s11, by rw [s8], .inl ⟨rfl, by rw [s9]⟩⟩
    simp -implicitDefEqProofs [z34, e0, loadP_ptr hob, q1, d1, hfin]
theorem again_val : ∃ S' o lo D F, cval T 490 [] St0 = some (.tup [.ptr o 0, .ptr lo 0, .bool true], S') ∧ At S' o 5 D ∧ Free D ∧ D.live = [(nLog, F)] ∧ D.base = [(nLog, F)] ∧ D.wait = [] ∧ D.fb F = [] ∧ D.fs F = 0 ∧ D.room = 4194304 ∧ Lg S' lo o D 0 0 := by
  have hn := new_ok (S := St0) (r := 4194304) (by omega) (by omega)
  have hA0 := new_at (S := St0) (r := 4194304) (by omega) (by omega)
  obtain ⟨S0, hS0⟩ : ∃ S0 : St, S0 = ⟨St0.objs ++ [[], [], dcells (newD 4194304 St0.objs.length)], St0.tips⟩ := ⟨_, rfl⟩
  rw [← hS0] at hn hA0
  obtain ⟨o, ho⟩ : ∃ o, o = St0.objs.length + 2 := ⟨_, rfl⟩
  rw [← ho] at hn hA0
  obtain ⟨S1, D1, F, lo, v, c1, a1, r1, f1, l1, b1, w1, x1, y1, m1, lg, hle⟩ := open_new hA0 (by omega) (⟨rfl, rfl⟩) rfl
  refine ⟨S1, o, lo, D1, F, cval_ok' fn_490 rfl ?_, a1, f1, l1, b1, w1, x1, y1, m1, lg⟩
  have hfin : finish false St0 S1 (.tup [.ptr o 0, .ptr lo 0, .bool true]) = (.tup [.ptr o 0, .ptr lo 0, .bool true], S1) := by
    unfold finish
    have b2 := sol_at a1 (n := St0.objs.length) (Nat.zero_le _) 37
    have : sol S1.objs St0.objs.length solFuel (.tup [.ptr o 0, .ptr lo 0, .bool true]) = none := by
      show sol S1.objs St0.objs.length (39 + 1) (.tup [.ptr o 0, .ptr lo 0, .bool true]) = none
      rw [sol]
      simp only [PV.free, PV.freeL, Bool.false_and, Bool.false_eq_true, if_false]
      simp only [mapO, b2]
    simp only [Bool.false_eq_true, if_false, this]
  simp only [nLog] at c1
  simp -implicitDefEqProofs [z43, hn, c1, hfin]
end Ps
namespace Ps
set_option linter.unusedSimpArgs false
open Go
theorem u8_of_lt {n : Nat} (h : n < 256) : (IntKind.u8.wrap (n : Int)).toNat = n := by rw [u8w]; omega
theorem headB_eq (b0 b1 : UInt8) : headB (b0.toNat * 256 + b1.toNat) = [b0, b1] := by
  have h0 := b0.toNat_lt
  have h1 := b1.toNat_lt
  have e0 : ((b0.toNat * 256 + b1.toNat : Nat) : Int).fdiv 256 = (b0.toNat : Int) := by rw [Int.fdiv_eq_ediv_of_nonneg _ (by decide)]; omega
  have e1 : (IntKind.u8.wrap ((b0.toNat * 256 + b1.toNat : Nat) : Int)).toNat = b1.toNat := by rw [u8w]; omega
  unfold headB
  rw [e0, e1, u8_of_lt (by omega)]
  simp
theorem headB_of {n : Nat} (h : n ≤ 65535) : ∃ b0 b1 : UInt8, headB n = [b0, b1] ∧ b0.toNat * 256 + b1.toNat = n := by
  refine ⟨UInt8.ofNat (n / 256), UInt8.ofNat (n % 256), ?_, ?_⟩
  · have e := headB_eq (UInt8.ofNat (n / 256)) (UInt8.ofNat (n % 256))
    have e2 : (UInt8.ofNat (n / 256)).toNat * 256 + (UInt8.ofNat (n % 256)).toNat = n := by simp only [UInt8.toNat_ofNat']; omega
    rw [e2] at e; exact e
  · simp only [UInt8.toNat_ofNat']; omega
theorem getF_nil {s : List UInt8} {i : Nat} (h : s.length ≤ i) : getF s i = none := by
  unfold getF
  rw [List.drop_eq_nil_of_le h]
theorem getF_shift (s : List UInt8) (i : Nat) : getF s i = match getF (s.drop i) 0 with | some (x, l) => some (x, i + l) | none => none := by
  unfold getF
  rw [List.drop_zero]
  split
  · rename_i b0 b1 r hr
    simp only [hr]
    split
    · rfl
    · split
      · simp only [Nat.zero_add, Nat.add_assoc]
      · rfl
  · rename_i hno
    split
    · rename_i h; cases h
    · rfl
theorem wholeS_fuel {s : List UInt8} : ∀ (k k' i : Nat), s.length < k + i → s.length < k' + i → wholeS s k i = wholeS s k' i := by
  have z : ∀ (k i : Nat), s.length < i → wholeS s k i = ([], i) := by
    intro k i h
    cases k with
    | zero => rfl
    | succ k => simp [wholeS, getF_nil (Nat.le_of_lt h)]
  intro k
  induction k with
  | zero => intro k' i h1 h2; rw [z 0 i (by omega), z k' i (by omega)]
  | succ k ih =>
    intro k' i h1 h2
    cases k' with
    | zero => rw [z 0 i (by omega), z (k + 1) i (by omega)]
    | succ k' =>
      simp only [wholeS]
      cases hg : getF s i with
      | none => rfl
      | some p =>
        obtain ⟨x, n⟩ := p
        have hlt := getF_lt hg
        simp only
        cases ofR x with
        | none => rfl
        | some r => simp only [ih k' n (by omega) (by omega)]
theorem wholeS_shift {s : List UInt8} : ∀ (k i : Nat), wholeS s k i = ((wholeS (s.drop i) k 0).1, i + (wholeS (s.drop i) k 0).2)
  | 0, i => rfl
  | k + 1, i => by
    simp only [wholeS]
    rw [getF_shift]
    cases hg : getF (s.drop i) 0 with
    | none => rfl
    | some p =>
      obtain ⟨x, l⟩ := p
      simp only
      cases ofR x with
      | none => rfl
      | some r =>
        simp only
        rw [wholeS_shift k (i + l), wholeS_shift (s := s.drop i) k l, List.drop_drop]
        simp only [Nat.add_assoc]
theorem getF_frame {x t : List UInt8} (h : x.length ≤ 65535) : getF (frameB x ++ t) 0 = some (x, 6 + x.length) := by
  obtain ⟨b0, b1, e1, e2⟩ := headB_of h
  have hs := sealB_len (headB x.length ++ x)
  unfold getF
  rw [List.drop_zero]
  have hf : frameB x ++ t = b0 :: b1 :: (x ++ sealB (headB x.length ++ x) ++ t) := by simp [frameB, e1]
  rw [hf]
  simp only [e2]
  have ht2 : (b0 :: b1 :: (x ++ sealB (headB x.length ++ x) ++ t)).take (2 + x.length) = headB x.length ++ x := by
    rw [e1, Nat.add_comm]
    simp
  have ht6 : (b0 :: b1 :: (x ++ sealB (headB x.length ++ x) ++ t)).take (6 + x.length) = headB x.length ++ x ++ sealB (headB x.length ++ x) := by
    have : b0 :: b1 :: (x ++ sealB (headB x.length ++ x) ++ t) = (headB x.length ++ x ++ sealB (headB x.length ++ x)) ++ t := by rw [e1]; simp
    rw [this, List.take_append_of_le_length (by simp only [List.length_append, sealB_len, e1, List.length_cons, List.length_nil]; omega), List.take_of_length_le (by simp only [List.length_append, sealB_len, e1, List.length_cons, List.length_nil]; omega)]
  have hl : ¬ ((x ++ sealB (headB x.length ++ x) ++ t).length < 4 ∨ (x ++ sealB (headB x.length ++ x) ++ t).length - 4 < x.length) := by
    simp only [List.length_append, hs]; omega
  rw [if_neg hl, ht2, ht6, List.drop_append_of_le_length (by simp [e1]; omega), List.drop_of_length_le (by simp [e1]; omega), List.nil_append, if_pos rfl]
  simp [e1]
theorem getF_short {x t : List UInt8} (h : x.length ≤ 65535) (hp : t <+: frameB x) (hl : t.length < x.length + 6) : getF t 0 = none := by
  obtain ⟨b0, b1, e1, e2⟩ := headB_of h
  obtain ⟨u, hu⟩ := hp
  unfold getF
  rw [List.drop_zero]
  match t, hl, hu with
  | [], _, _ => rfl
  | [_], _, _ => rfl
  | c0 :: c1 :: r, hl, hu =>
    have hf : frameB x = b0 :: b1 :: (x ++ sealB (headB x.length ++ x)) := by simp [frameB, e1]
    rw [hf] at hu
    simp only [List.cons_append, List.cons.injEq] at hu
    obtain ⟨rfl, rfl, _⟩ := hu
    simp only [e2]
    simp only [List.length_cons] at hl
    rw [if_pos (by omega)]
theorem getF_inv {s x : List UInt8} {i n : Nat} (h : getF s i = some (x, n)) (hi : i ≤ s.length) : s.take n = s.take i ++ frameB x ∧ x.length ≤ 65535 := by
  unfold getF at h
  split at h
  · rename_i b0 b1 r hr
    have hl : (s.drop i).length = r.length + 2 := by rw [hr]; simp
    rw [List.length_drop] at hl
    simp only at h
    split at h
    · cases h
    · rename_i hc
      split at h
      · rename_i he
        simp only [Option.some.injEq, Prod.mk.injEq] at h
        obtain ⟨h1, h2⟩ := h
        have l0 := b0.toNat_lt
        have l1 := b1.toNat_lt
        obtain ⟨m, hm⟩ : ∃ m, m = b0.toNat * 256 + b1.toNat := ⟨_, rfl⟩
        rw [← hm] at h1 h2 he hc
        have hxl : x.length = m := by
          rw [← h1]; simp only [List.length_drop, List.length_take, List.length_cons]; omega
        have hx2 : (b0 :: b1 :: r).take (2 + m) = headB x.length ++ x := by
          rw [hxl, hm, headB_eq, ← h1, ← hm, Nat.add_comm]
          simp
        refine ⟨?_, by omega⟩
        have e1 : s.take n = s.take i ++ (s.drop i).take (6 + m) := by
          rw [← h2, Nat.add_assoc, List.take_add]
        rw [e1, hr]
        congr 1
        have e2 : (b0 :: b1 :: r).take (6 + m) = (b0 :: b1 :: r).take (2 + m) ++ ((b0 :: b1 :: r).take (6 + m)).drop (2 + m) := by
          have := List.take_append_drop (2 + m) ((b0 :: b1 :: r).take (6 + m))
          rw [List.take_take, Nat.min_eq_left (by omega)] at this
          exact this.symm
        rw [e2, ← he, hx2]; rfl
      · cases h
  · cases h
def framesB (rs : List RecM) : List UInt8 := rs.flatMap fun r => frameB (recB r)
theorem framesB_app (a b : List RecM) : framesB (a ++ b) = framesB a ++ framesB b := by simp [framesB]
theorem framesB_one (r : RecM) : framesB [r] = frameB (recB r) := by simp [framesB]
theorem whL_cons {r : RecM} {t : List UInt8} (h : recN r = 0) : whL (frameB (recB r) ++ t) = (r :: (whL t).1, (frameB (recB r)).length + (whL t).2) := by
  have hl := recB_len h
  have hfl := frameB_len (recB r)
  show wholeS (frameB (recB r) ++ t) ((frameB (recB r) ++ t).length + 1) 0 = _
  simp only [wholeS, getF_frame (x := recB r) (t := t) (by omega), ofR_put h]
  rw [wholeS_shift]
  have hd : (frameB (recB r) ++ t).drop (6 + (recB r).length) = t := by
    rw [List.drop_append_of_le_length (by omega), List.drop_of_length_le (by omega), List.nil_append]
  rw [hd, wholeS_fuel (s := t) ((frameB (recB r) ++ t).length) (t.length + 1) 0 (by rw [List.length_append]; omega) (by omega)]
  rw [hfl, Nat.add_comm (recB r).length 6]
  simp only [Nat.zero_add]
  rfl
theorem whL_prefix : ∀ (rs : List RecM) (t : List UInt8), (∀ r ∈ rs, recN r = 0) → t <+: framesB rs → ∃ m, m ≤ rs.length ∧ whL t = (rs.take m, (framesB (rs.take m)).length) ∧ ∀ j, j ≤ rs.length → (framesB (rs.take j)).length ≤ t.length → j ≤ m
  | [], t, _, hp => by
    have : t = [] := by simpa [framesB] using hp
    subst this
    exact ⟨0, Nat.le_refl _, rfl, fun j hj _ => hj⟩
  | r :: rs, t, h, hp => by
    have hz := h r (by simp)
    have hl := recB_len hz
    have hfl := frameB_len (recB r)
    have e : framesB (r :: rs) = frameB (recB r) ++ framesB rs := by simp [framesB]
    rw [e] at hp
    by_cases hlt : t.length < (recB r).length + 6
    · have hp1 : t <+: frameB (recB r) := List.prefix_of_prefix_length_le hp (List.prefix_append _ _) (by omega)
      refine ⟨0, Nat.zero_le _, ?_, fun j hj hjl => ?_⟩
      · show wholeS t (t.length + 1) 0 = _
        simp [wholeS, getF_short (by omega) hp1 hlt, framesB]
      · cases j with
        | zero => exact Nat.le_refl _
        | succ j =>
          exfalso
          have : framesB ((r :: rs).take (j + 1)) = frameB (recB r) ++ framesB (rs.take j) := by simp [framesB]
          rw [this, List.length_append] at hjl
          omega
    · have hp1 : frameB (recB r) <+: t := List.prefix_of_prefix_length_le (List.prefix_append _ _) hp (by omega)
      obtain ⟨t', rfl⟩ := hp1
      have hp2 : t' <+: framesB rs := (List.prefix_append_right_inj _).1 hp
      obtain ⟨m, m1, m2, m3⟩ := whL_prefix rs t' (fun x hx => h x (by simp [hx])) hp2
      refine ⟨m + 1, by simpa using m1, ?_, fun j hj hjl => ?_⟩
      · rw [whL_cons hz, m2]
        have : framesB ((r :: rs).take (m + 1)) = frameB (recB r) ++ framesB (rs.take m) := by simp [framesB]
        rw [this, List.length_append]; rfl
      · cases j with
        | zero => omega
        | succ j =>
          have e2 : framesB ((r :: rs).take (j + 1)) = frameB (recB r) ++ framesB (rs.take j) := by simp [framesB]
          rw [e2, List.length_append, List.length_append] at hjl
          have := m3 j (by simpa using hj) (by omega)
          omega
theorem wholeS_inv {s : List UInt8} : ∀ (k i : Nat), i ≤ s.length → s.take (wholeS s k i).2 = s.take i ++ framesB (wholeS s k i).1 ∧ ∀ r ∈ (wholeS s k i).1, recN r = 0
  | 0, i, _ => ⟨by simp [wholeS, framesB], fun r hr => by simp [wholeS] at hr⟩
  | k + 1, i, h => by
    simp only [wholeS]
    cases hg : getF s i with
    | none => exact ⟨by simp [framesB], fun r hr => by simp at hr⟩
    | some p =>
      obtain ⟨x, n⟩ := p
      simp only
      cases ho : ofR x with
      | none => exact ⟨by simp [framesB], fun r hr => by simp at hr⟩
      | some r =>
        have hlt := getF_lt hg
        obtain ⟨g1, g2⟩ := getF_inv hg h
        obtain ⟨o1, o2⟩ := ofR_some ho
        obtain ⟨i1, i2⟩ := wholeS_inv k n hlt.2.1
        simp only
        refine ⟨?_, fun q hq => ?_⟩
        · rw [i1, g1, List.append_assoc]
          congr 1
          rw [← o2]; simp [framesB]
        · rcases List.mem_cons.1 hq with rfl | hq
          · exact o1
          · exact i2 q hq
theorem whL_inv (s : List UInt8) : s.take (whL s).2 = framesB (whL s).1 ∧ ∀ r ∈ (whL s).1, recN r = 0 := by
  have := wholeS_inv (s := s) (s.length + 1) 0 (Nat.zero_le _)
  simpa using this
end Ps
namespace Ps
set_option linter.unusedSimpArgs false
open Go
theorem fn_146 : T.fn 146 = some (.code z26) := rfl
def RecsC : List PV → List RecM → Prop
  | [], [] => True
  | e :: es, r :: rs => (∃ cs, e = .agg cs ∧ RecC r cs) ∧ RecsC es rs
  | _, _ => False
theorem RecsF.c : ∀ {es : List PV} {rs : List RecM}, RecsF es rs → RecsC es rs
  | [], [], _ => trivial
  | e :: es, r :: rs, h => by
    obtain ⟨cs, h1, h2⟩ := h.1
    exact ⟨⟨cs, h1, h2.c⟩, h.2.c⟩
  | [], _ :: _, h => by cases h
  | _ :: _, [], h => by cases h
theorem RecsC.snoc : ∀ {es : List PV} {rs : List RecM} {cs : List PV} {r : RecM}, RecsC es rs → RecC r cs → RecsC (es ++ [.agg cs]) (rs ++ [r])
  | [], [], cs, r, _, h => ⟨⟨cs, rfl, h⟩, trivial⟩
  | e :: es, q :: rs, cs, r, h, k => ⟨h.1, h.2.snoc k⟩
  | [], _ :: _, _, _, h, _ => by cases h
  | _ :: _, [], _, _, h, _ => by cases h
theorem RecsC.len : ∀ {es : List PV} {rs : List RecM}, RecsC es rs → es.length = rs.length
  | [], [], _ => rfl
  | x :: es, q :: rs, h => by simp only [List.length_cons, h.2.len]
  | [], _ :: _, h => by cases h
  | _ :: _, [], h => by cases h
theorem RecsC.get : ∀ {es : List PV} {rs : List RecM}, RecsC es rs → ∀ (i : Nat) (h1 : i < es.length) (h2 : i < rs.length), ∃ cs, es[i] = .agg cs ∧ RecC rs[i] cs
  | [], [], _, i, h1, _ => by simp at h1
  | x :: es, q :: rs, h, 0, _, _ => h.1
  | x :: es, q :: rs, h, i + 1, h1, h2 => by
    have := h.2.get i (by simpa using h1) (by simpa using h2)
    simpa using this
  | [], _ :: _, h, _, _, _ => by cases h
  | _ :: _, [], h, _, _, _ => by cases h
theorem sall_loop {es fs : List PV} {rs : List RecM} {av bv : PV} (ha : Reads1 6 av es) (hb : Reads1 6 bv fs) (h1 : RecsC es rs) (h2 : RecsC fs rs) (hz : ∀ r ∈ rs, recN r = 0) (hl : rs.length ≤ 1000000) {K : List Kt} {Q : Fr → St → Prop} {S : St} :
    ∀ (n i : Nat), n + i = rs.length → ∀ (fr : Fr), fr 0 = av → fr 1 = bv → fr 5 = .int .i64 (i : Int) → (∀ fr', Ok (gval T K fr' S) Q) → Ok (gval T (.lp z26_l0 :: .blk 0 :: K) fr S) Q := by
  intro n
  induction n with
  | zero =>
    intro i hi fr q0 q1' q5 k
    have hlen := ha.len
    rw [h1.len, ← hi, Nat.zero_add] at hlen
    rw [gval_lp]
    simp -implicitDefEqProofs [q0, q1', q5, hlen]
    exact k _
  | succ n ih =>
    intro i hi fr q0 q1' q5 k
    have hlt : i < rs.length := by omega
    have hlen := ha.len
    rw [h1.len] at hlen
    obtain ⟨cs, g1, g2⟩ := h1.get i (by rw [h1.len]; exact hlt) hlt
    obtain ⟨ds, g3, g4⟩ := h2.get i (by rw [h2.len]; exact hlt) hlt
    have ga := ha.get i (by rw [h1.len]; exact hlt) .i64
    have gb := hb.get i (by rw [h2.len]; exact hlt) .i64
    rw [g1, cells_agg] at ga
    rw [g3, cells_agg] at gb
    have p1 := pt_all (recC_all g2).1
    have p2 := pt_all (recC_all g4).1
    have hr := hz rs[i] (List.getElem_mem hlt)
    obtain ⟨_, l2, l3⟩ := recC_lens hr
    have hs := same11_val g2 g4 ⟨l2, l3⟩ S
    have hw := wrap_len (a := i) (by omega)
    have hlt' : (i : Int) < (rs.length : Int) := by omega
    have hL : ∀ fr', fr' 0 = av → fr' 1 = bv → fr' 5 = .int .i64 ((i + 1 : Nat) : Int) → Ok (gval T (.lp z26_l0 :: .blk 0 :: K) fr' S) Q := fun fr' z0 z1 z5 => ih (i + 1) (by omega) fr' z0 z1 z5 k
    clear k ih
    rw [gval_lp]
    simp -implicitDefEqProofs [q0, q1', q5, hlen, hlt, hlt', ga, gb, p1, p2, hs]
    exact hL _ (by simp [q0]) (by simp [q1']) (by simp [hw])
theorem sall_val {es fs : List PV} {rs : List RecM} {av bv : PV} (ha : Reads1 6 av es) (hb : Reads1 6 bv fs) (h1 : RecsC es rs) (h2 : RecsC fs rs) (hz : ∀ r ∈ rs, recN r = 0) (hl : rs.length ≤ 1000000) (S : St) : cval T 146 [av, bv] S = some (.bool true, S) := by
  have l1 := ha.len
  have l2 := hb.len
  rw [h1.len] at l1
  rw [h2.len] at l2
  have fb : ∀ b, finish false S S (.bool b) = (.bool b, S) := fun b => fin_gb (Grows.refl S)
  refine cval_ok' fn_146 rfl ?_
  simp -implicitDefEqProofs [z26, l1, l2]
  refine sall_loop ha hb h1 h2 hz hl rs.length 0 (by omega) _ (by simp) (by simp) (by simp) (fun fr' => ?_)
  simp -implicitDefEqProofs [fb]
end Ps
