/- Lists of records: the same; gathered. -/
import Derived.Test.YtppjibgophfdfaaFG
namespace Ps
set_option linter.unusedSimpArgs false
set_option linter.unusedVariables false
open Go
theorem u8_of_lt {n : Nat} (h : n < 256) : (IntKind.u8.wrap (n : Int)).toNat = n := by rw [u8w]; omega
theorem headB_eq (b0 b1 : UInt8) : headB (b0.toNat * 256 + b1.toNat) = [b0, b1] := by
  have h0 := b0.toNat_lt
  have h1 := b1.toNat_lt
  have e0 : ((b0.toNat * 256 + b1.toNat : Nat) : Int).fdiv 256 = (b0.toNat : Int) := by rw [Int.fdiv_eq_ediv_of_nonneg _ (by decide)]; omega
  have e1 : (IntKind.u8.wrap ((b0.toNat * 256 + b1.toNat : Nat) : Int)).toNat = b1.toNat := by rw [u8w]; omega
  unfold headB
  rw [e0, e1, u8_of_lt (by omega)]
  simp
theorem headB_of {n : Nat} (h : n ≤ 65535) : ∃ b0 b1 : UInt8, headB n = [b0, b1] ∧ b0.toNat * 256 + b1.toNat = n := by
  refine ⟨UInt8.ofNat (n / 256), UInt8.ofNat (n % 256), ?_, ?_⟩
  · have e := headB_eq (UInt8.ofNat (n / 256)) (UInt8.ofNat (n % 256))
    have e2 : (UInt8.ofNat (n / 256)).toNat * 256 + (UInt8.ofNat (n % 256)).toNat = n := by simp only [UInt8.toNat_ofNat']; omega
    rw [e2] at e; exact e
  · simp only [UInt8.toNat_ofNat']; omega

theorem getF_nil {s : List UInt8} {i : Nat} (h : s.length ≤ i) : getF s i = none := by
  unfold getF
  rw [List.drop_eq_nil_of_le h]
theorem getF_shift (s : List UInt8) (i : Nat) : getF s i = match getF (s.drop i) 0 with | some (x, l) => some (x, i + l) | none => none := by
  unfold getF
  rw [List.drop_zero]
  split
  · rename_i b0 b1 r hr
    simp only [hr]
    split
    · rfl
    · split
      · simp only [Nat.zero_add, Nat.add_assoc]
      · rfl
  · rename_i hno
    split
    · rename_i h; cases h
    · rfl

theorem wholeS_fuel {s : List UInt8} : ∀ (k k' i : Nat), s.length < k + i → s.length < k' + i → wholeS s k i = wholeS s k' i := by
  have z : ∀ (k i : Nat), s.length < i → wholeS s k i = ([], i) := by
    intro k i h
    cases k with
    | zero => rfl
    | succ k => simp [wholeS, getF_nil (Nat.le_of_lt h)]
  intro k
  induction k with
  | zero => intro k' i h1 h2; rw [z 0 i (by omega), z k' i (by omega)]
  | succ k ih =>
    intro k' i h1 h2
    cases k' with
    | zero => rw [z 0 i (by omega), z (k + 1) i (by omega)]
    | succ k' =>
      simp only [wholeS]
      cases hg : getF s i with
      | none => rfl
      | some p =>
        obtain ⟨x, n⟩ := p
        have hlt := getF_lt hg
        simp only
        cases ofR x with
        | none => rfl
        | some r => simp only [ih k' n (by omega) (by omega)]

theorem wholeS_shift {s : List UInt8} : ∀ (k i : Nat), wholeS s k i = ((wholeS (s.drop i) k 0).1, i + (wholeS (s.drop i) k 0).2)
  | 0, i => rfl
  | k + 1, i => by
    simp only [wholeS]
    rw [getF_shift]
    cases hg : getF (s.drop i) 0 with
    | none => rfl
    | some p =>
      obtain ⟨x, l⟩ := p
      simp only
      cases ofR x with
      | none => rfl
      | some r =>
        simp only
        rw [wholeS_shift k (i + l), wholeS_shift (s := s.drop i) k l, List.drop_drop]
        simp only [Nat.add_assoc]

theorem getF_frame {x t : List UInt8} (h : x.length ≤ 65535) : getF (frameB x ++ t) 0 = some (x, 6 + x.length) := by
  obtain ⟨b0, b1, e1, e2⟩ := headB_of h
  have hs := sealB_len (headB x.length ++ x)
  unfold getF
  rw [List.drop_zero]
  have hf : frameB x ++ t = b0 :: b1 :: (x ++ sealB (headB x.length ++ x) ++ t) := by simp [frameB, e1]
  rw [hf]
  simp only [e2]
  have ht2 : (b0 :: b1 :: (x ++ sealB (headB x.length ++ x) ++ t)).take (2 + x.length) = headB x.length ++ x := by
    rw [e1, Nat.add_comm]
    simp
  have ht6 : (b0 :: b1 :: (x ++ sealB (headB x.length ++ x) ++ t)).take (6 + x.length) = headB x.length ++ x ++ sealB (headB x.length ++ x) := by
    have : b0 :: b1 :: (x ++ sealB (headB x.length ++ x) ++ t) = (headB x.length ++ x ++ sealB (headB x.length ++ x)) ++ t := by rw [e1]; simp
    rw [this, List.take_append_of_le_length (by simp only [List.length_append, sealB_len, e1, List.length_cons, List.length_nil]; omega), List.take_of_length_le (by simp only [List.length_append, sealB_len, e1, List.length_cons, List.length_nil]; omega)]
  have hl : ¬ ((x ++ sealB (headB x.length ++ x) ++ t).length < 4 ∨ (x ++ sealB (headB x.length ++ x) ++ t).length - 4 < x.length) := by
    simp only [List.length_append, hs]; omega
  rw [if_neg hl, ht2, ht6, List.drop_append_of_le_length (by simp [e1]; omega), List.drop_of_length_le (by simp [e1]; omega), List.nil_append, if_pos rfl]
  simp [e1]

theorem getF_inv {s x : List UInt8} {i n : Nat} (h : getF s i = some (x, n)) (hi : i ≤ s.length) : s.take n = s.take i ++ frameB x ∧ x.length ≤ 65535 := by
  unfold getF at h
  split at h
  · rename_i b0 b1 r hr
    have hl : (s.drop i).length = r.length + 2 := by rw [hr]; simp
    rw [List.length_drop] at hl
    simp only at h
    split at h
    · cases h
    · rename_i hc
      split at h
      · rename_i he
        simp only [Option.some.injEq, Prod.mk.injEq] at h
        obtain ⟨h1, h2⟩ := h
        have l0 := b0.toNat_lt
        have l1 := b1.toNat_lt
        obtain ⟨m, hm⟩ : ∃ m, m = b0.toNat * 256 + b1.toNat := ⟨_, rfl⟩
        rw [← hm] at h1 h2 he hc
        have hxl : x.length = m := by
          rw [← h1]; simp only [List.length_drop, List.length_take, List.length_cons]; omega
        have hx2 : (b0 :: b1 :: r).take (2 + m) = headB x.length ++ x := by
          rw [hxl, hm, headB_eq, ← h1, ← hm, Nat.add_comm]
          simp
        refine ⟨?_, by omega⟩
        have e1 : s.take n = s.take i ++ (s.drop i).take (6 + m) := by
          rw [← h2, Nat.add_assoc, List.take_add]
        rw [e1, hr]
        congr 1
        have e2 : (b0 :: b1 :: r).take (6 + m) = (b0 :: b1 :: r).take (2 + m) ++ ((b0 :: b1 :: r).take (6 + m)).drop (2 + m) := by
          have := List.take_append_drop (2 + m) ((b0 :: b1 :: r).take (6 + m))
          rw [List.take_take, Nat.min_eq_left (by omega)] at this
          exact this.symm
        rw [e2, ← he, hx2]; rfl
      · cases h
  · cases h

def framesB (rs : List RecM) : List UInt8 := rs.flatMap fun r => frameB (recB r)
theorem framesB_app (a b : List RecM) : framesB (a ++ b) = framesB a ++ framesB b := by simp [framesB]
theorem framesB_one (r : RecM) : framesB [r] = frameB (recB r) := by simp [framesB]

theorem whL_cons {r : RecM} {t : List UInt8} (h : recN r = 0) : whL (frameB (recB r) ++ t) = (r :: (whL t).1, (frameB (recB r)).length + (whL t).2) := by
  have hl := recB_len h
  have hfl := frameB_len (recB r)
  show wholeS (frameB (recB r) ++ t) ((frameB (recB r) ++ t).length + 1) 0 = _
  simp only [wholeS, getF_frame (x := recB r) (t := t) (by omega), ofR_put h]
  rw [wholeS_shift]
  have hd : (frameB (recB r) ++ t).drop (6 + (recB r).length) = t := by
    rw [List.drop_append_of_le_length (by omega), List.drop_of_length_le (by omega), List.nil_append]
  rw [hd, wholeS_fuel (s := t) ((frameB (recB r) ++ t).length) (t.length + 1) 0 (by rw [List.length_append]; omega) (by omega)]
  rw [hfl, Nat.add_comm (recB r).length 6]
  simp only [Nat.zero_add]
  rfl

theorem whL_nil : whL [] = ([], 0) := rfl

theorem whL_app {t : List UInt8} : ∀ (rs : List RecM), (∀ r ∈ rs, recN r = 0) → whL (framesB rs ++ t) = (rs ++ (whL t).1, (framesB rs).length + (whL t).2)
  | [], _ => by simp [framesB]
  | r :: rs, h => by
    have ih := whL_app (t := t) rs (fun x hx => h x (by simp [hx]))
    have e : framesB (r :: rs) = frameB (recB r) ++ framesB rs := by simp [framesB]
    rw [e, List.append_assoc, whL_cons (h r (by simp)), ih]
    simp only [List.cons_append, List.length_append, Prod.mk.injEq, true_and]
    omega

theorem wholeS_inv {s : List UInt8} : ∀ (k i : Nat), i ≤ s.length → s.take (wholeS s k i).2 = s.take i ++ framesB (wholeS s k i).1 ∧ ∀ r ∈ (wholeS s k i).1, recN r = 0
  | 0, i, _ => ⟨by simp [wholeS, framesB], fun r hr => by simp [wholeS] at hr⟩
  | k + 1, i, h => by
    simp only [wholeS]
    cases hg : getF s i with
    | none => exact ⟨by simp [framesB], fun r hr => by simp at hr⟩
    | some p =>
      obtain ⟨x, n⟩ := p
      simp only
      cases ho : ofR x with
      | none => exact ⟨by simp [framesB], fun r hr => by simp at hr⟩
      | some r =>
        have hlt := getF_lt hg
        obtain ⟨g1, g2⟩ := getF_inv hg h
        obtain ⟨o1, o2⟩ := ofR_some ho
        obtain ⟨i1, i2⟩ := wholeS_inv k n hlt.2.1
        simp only
        refine ⟨?_, fun q hq => ?_⟩
        · rw [i1, g1, List.append_assoc]
          congr 1
          rw [← o2]; simp [framesB]
        · rcases List.mem_cons.1 hq with rfl | hq
          · exact o1
          · exact i2 q hq
theorem whL_inv (s : List UInt8) : s.take (whL s).2 = framesB (whL s).1 ∧ ∀ r ∈ (whL s).1, recN r = 0 := by
  have := wholeS_inv (s := s) (s.length + 1) 0 (Nat.zero_le _)
  simpa using this
theorem whL_again (s : List UInt8) : whL (s.take (whL s).2) = whL s := by
  obtain ⟨h1, h2⟩ := whL_inv s
  have h3 : (whL s).2 ≤ s.length := wholeS_le _ _ (Nat.zero_le _)
  have h4 : (framesB (whL s).1).length = (whL s).2 := by rw [← h1, List.length_take]; omega
  have := whL_app (t := []) (whL s).1 h2
  rw [List.append_nil, whL_nil, List.append_nil] at this
  rw [h1, this, h4]; rfl
end Ps
namespace Ps
set_option linter.unusedSimpArgs false
set_option linter.unusedVariables false
open Go
theorem fn_146 : T.fn 146 = some (.code ref11_SameAll) := rfl

def RecsC : List PV → List RecM → Prop
  | [], [] => True
  | e :: es, r :: rs => (∃ cs, e = .agg cs ∧ RecC r cs) ∧ RecsC es rs
  | _, _ => False
theorem RecsF.c : ∀ {es : List PV} {rs : List RecM}, RecsF es rs → RecsC es rs
  | [], [], _ => trivial
  | e :: es, r :: rs, h => by
    obtain ⟨cs, h1, h2⟩ := h.1
    exact ⟨⟨cs, h1, h2.c⟩, h.2.c⟩
  | [], _ :: _, h => by cases h
  | _ :: _, [], h => by cases h
theorem RecsC.snoc : ∀ {es : List PV} {rs : List RecM} {cs : List PV} {r : RecM}, RecsC es rs → RecC r cs → RecsC (es ++ [.agg cs]) (rs ++ [r])
  | [], [], cs, r, _, h => ⟨⟨cs, rfl, h⟩, trivial⟩
  | e :: es, q :: rs, cs, r, h, k => ⟨h.1, h.2.snoc k⟩
  | [], _ :: _, _, _, h, _ => by cases h
  | _ :: _, [], _, _, h, _ => by cases h
theorem RecsC.len : ∀ {es : List PV} {rs : List RecM}, RecsC es rs → es.length = rs.length
  | [], [], _ => rfl
  | x :: es, q :: rs, h => by simp only [List.length_cons, h.2.len]
  | [], _ :: _, h => by cases h
  | _ :: _, [], h => by cases h
theorem RecsC.get : ∀ {es : List PV} {rs : List RecM}, RecsC es rs → ∀ (i : Nat) (h1 : i < es.length) (h2 : i < rs.length), ∃ cs, es[i] = .agg cs ∧ RecC rs[i] cs
  | [], [], _, i, h1, _ => by simp at h1
  | x :: es, q :: rs, h, 0, _, _ => h.1
  | x :: es, q :: rs, h, i + 1, h1, h2 => by
    have := h.2.get i (by simpa using h1) (by simpa using h2)
    simpa using this
  | [], _ :: _, h, _, _, _ => by cases h
  | _ :: _, [], h, _, _, _ => by cases h

theorem sall_loop {es fs : List PV} {rs : List RecM} {av bv : PV} (ha : Reads1 6 av es) (hb : Reads1 6 bv fs) (h1 : RecsC es rs) (h2 : RecsC fs rs) (hz : ∀ r ∈ rs, recN r = 0) (hl : rs.length ≤ 1000000) {K : List Kt} {Q : Fr → St → Prop} {S : St} :
    ∀ (n i : Nat), n + i = rs.length → ∀ (fr : Fr), fr 0 = av → fr 1 = bv → fr 5 = .int .i64 (i : Int) → (∀ fr', Ok (gval T K fr' S) Q) → Ok (gval T (.lp ref11_SameAll_l0 :: .blk 0 :: K) fr S) Q := by
  intro n
  induction n with
  | zero =>
    intro i hi fr q0 q1' q5 k
    have hlen := ha.len
    rw [h1.len, ← hi, Nat.zero_add] at hlen
    rw [gval_lp]
    simp -implicitDefEqProofs [q0, q1', q5, hlen]
    exact k _
  | succ n ih =>
    intro i hi fr q0 q1' q5 k
    have hlt : i < rs.length := by omega
    have hlen := ha.len
    rw [h1.len] at hlen
    obtain ⟨cs, g1, g2⟩ := h1.get i (by rw [h1.len]; exact hlt) hlt
    obtain ⟨ds, g3, g4⟩ := h2.get i (by rw [h2.len]; exact hlt) hlt
    have ga := ha.get i (by rw [h1.len]; exact hlt) .i64
    have gb := hb.get i (by rw [h2.len]; exact hlt) .i64
    rw [g1, cells_agg] at ga
    rw [g3, cells_agg] at gb
    have p1 := pt_all (recC_all g2).1
    have p2 := pt_all (recC_all g4).1
    have hr := hz rs[i] (List.getElem_mem hlt)
    obtain ⟨_, l2, l3⟩ := recC_lens hr
    have hs := same11_val g2 g4 ⟨l2, l3⟩ S
    have hw := wrap_len (a := i) (by omega)
    have hlt' : (i : Int) < (rs.length : Int) := by omega
    have hL : ∀ fr', fr' 0 = av → fr' 1 = bv → fr' 5 = .int .i64 ((i + 1 : Nat) : Int) → Ok (gval T (.lp ref11_SameAll_l0 :: .blk 0 :: K) fr' S) Q := fun fr' z0 z1 z5 => ih (i + 1) (by omega) fr' z0 z1 z5 k
    clear k ih
    rw [gval_lp]
    simp -implicitDefEqProofs [q0, q1', q5, hlen, hlt, hlt', ga, gb, p1, p2, hs]
    exact hL _ (by simp [q0]) (by simp [q1']) (by simp [hw])

theorem sall_val {es fs : List PV} {rs : List RecM} {av bv : PV} (ha : Reads1 6 av es) (hb : Reads1 6 bv fs) (h1 : RecsC es rs) (h2 : RecsC fs rs) (hz : ∀ r ∈ rs, recN r = 0) (hl : rs.length ≤ 1000000) (S : St) : cval T 146 [av, bv] S = some (.bool true, S) := by
  have l1 := ha.len
  have l2 := hb.len
  rw [h1.len] at l1
  rw [h2.len] at l2
  have fb : ∀ b, finish false S S (.bool b) = (.bool b, S) := fun b => fin_gb (Grows.refl S)
  refine cval_ok' fn_146 rfl ?_
  simp -implicitDefEqProofs [ref11_SameAll, l1, l2]
  refine sall_loop ha hb h1 h2 hz hl rs.length 0 (by omega) _ (by simp) (by simp) (by simp) (fun fr' => ?_)
  simp -implicitDefEqProofs [fb]

structure AccZ (sz : Nat) (S : St) (D : Dk) (v : PV) (es : List PV) : Prop where
  acc : (v = .nils ∧ es = []) ∨ ∃ id, v = .sl (some (id, es.length)) es [] ∧ S.tips[id]? = some (es.length, sz) ∧ ¬ Owns D id
  one : ∀ e ∈ es, e.cells.length = sz
theorem AccZ.fra {sz : Nat} {S S' : St} {D D' : Dk} {v : PV} {es : List PV} (h : AccZ sz S D v es) (f : FraT S S' D D') : AccZ sz S' D' v es := by
  refine ⟨?_, h.one⟩
  rcases h.acc with h | ⟨id, h1, h2, h3⟩
  · exact .inl h
  · obtain ⟨k1, k2⟩ := f.keep id (List.getElem?_eq_some_iff.1 h2).1 h3
    exact .inr ⟨id, h1, k2.trans h2, k1⟩
theorem AccZ.reads {sz : Nat} {S : St} {D : Dk} {v : PV} {es : List PV} (h : AccZ sz S D v es) : Reads1 sz v es := by
  rcases h.acc with ⟨rfl, rfl⟩ | ⟨id, rfl, _⟩
  · exact reads_nils sz
  · exact reads_sl h.one
theorem AccZ.push {sz b : Nat} {S : St} {o K : Nat} {D : Dk} (h : At S o K D) {v : PV} {es : List PV} (ha : AccZ sz S D v es) (hl : (es.length + 1) * b ≤ 140737488355328) {e : PV} (he : e.cells.length = sz) :
    ∃ v' S', appendTo sz b ⟨S.objs, S.tips ++ [(1, sz)]⟩ v [e] = some (v', S') ∧ At S' o K D ∧ AccZ sz S' D v' (es ++ [e]) ∧ S'.objs = S.objs := by
  have h1 := h.more [(1, sz)]
  have hone : ∀ x ∈ es ++ [e], x.cells.length = sz := fun x hx => by
    rcases List.mem_append.1 hx with hx | hx
    · exact ha.one x hx
    · simp at hx; rw [hx]; exact he
  rcases ha.acc with ⟨rfl, rfl⟩ | ⟨id, rfl, h2, h3⟩
  · refine ⟨_, _, appendTo_nils (by simp) (by simpa using hl), ?_, ?_, rfl⟩
    · exact h1.more _
    · refine ⟨.inr ⟨S.tips.length + 1, by simp [newArr], by simp [newArr], fun hk => by have := h.owns hk; omega⟩, by simpa using hone⟩
  · have hlt := (List.getElem?_eq_some_iff.1 h2).1
    refine ⟨_, _, appendTo_sl (by simp) (by simp only; rw [List.getElem?_append_left hlt]; exact h2) (by simpa using hl), ?_, ?_, rfl⟩
    · refine h.tips (fun k hk => ?_)
      have hne : id ≠ k := fun e => h3 (by rw [e]; exact hk)
      rw [List.getElem?_set_ne hne, List.getElem?_append_left (h.owns hk)]
    · refine ⟨.inr ⟨id, by simp, ?_, h3⟩, hone⟩
      simp only [List.length_append, List.length_cons, List.length_nil]
      exact List.getElem?_set_self (by rw [List.length_append]; omega)
end Ps
