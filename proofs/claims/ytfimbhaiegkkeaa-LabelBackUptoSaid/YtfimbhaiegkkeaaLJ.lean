/- Labels laid down. -/
import Derived.Test.YtfimbhaiegkkeaaLH
namespace Ps
set_option linter.unusedSimpArgs false
open Go

theorem fn_218 : T.fn 218 = some (.code frame_own) := rfl
theorem fn_107 : T.fn 107 = some (.code frame_PutUint) := rfl
theorem fn_108 : T.fn 108 = some (.code frame_PutText) := rfl
theorem fn_219 : T.fn 219 = some (.code ref02_Uint) := rfl
theorem fn_220 : T.fn 220 = some (.code ref02_Text) := rfl

def orI (k : IntKind) (a b : Int) : Int := k.wrap (BitVec.ofInt k.bits a ||| BitVec.ofInt k.bits b).toNat
def andI (k : IntKind) (a b : Int) : Int := k.wrap (BitVec.ofInt k.bits a &&& BitVec.ofInt k.bits b).toNat
@[simp] theorem ar_or {k : IntKind} {a b : Int} : arith .or (.int k a) (.int k b) = some (.int k (orI k a b)) := by simp [arith, isShift, intOp, orI]
@[simp] theorem ar_and {k : IntKind} {a b : Int} : arith .and (.int k a) (.int k b) = some (.int k (andI k a b)) := by simp [arith, isShift, intOp, andI]
theorem ar_shr7 {a : Int} : arith .shr (.int .i64 a) (.int .u64 7) = some (.int .i64 (a.fdiv 128)) := rfl
theorem fdiv128 (n : Nat) : (n : Int).fdiv 128 = ((n / 128 : Nat) : Int) := by
  rw [Int.fdiv_eq_ediv_of_nonneg _ (by decide)]; omega
theorem wrap_u8n (n : Nat) : IntKind.u8.wrap (n : Int) = ((n % 256 : Nat) : Int) := by
  have e : IntKind.u8.wrap (n : Int) = (n : Int) % 256 := by
    simp [IntKind.wrap, IntKind.bits, IntKind.signed]
  rw [e]; omega
theorem or128_fin : ∀ m : Fin 256, orI .u8 ((m.val : Nat) : Int) 128 = ((m.val % 128 + 128 : Nat) : Int) := by decide +kernel
theorem or128 (n : Nat) : orI .u8 (IntKind.u8.wrap (n : Int)) 128 = ((n % 128 + 128 : Nat) : Int) := by
  rw [wrap_u8n]
  have := or128_fin ⟨n % 256, by omega⟩
  simp only at this
  rw [this]; omega

/-- A number's bytes. -/
def uintB (n : Nat) : List UInt8 := if n < 128 then [UInt8.ofNat n] else UInt8.ofNat (n % 128 + 128) :: uintB (n / 128)
termination_by n
decreasing_by omega
def textB (s : List UInt8) : List UInt8 := uintB s.length ++ s

theorem ofBytes_app (a b : List UInt8) : ofBytes (a ++ b) = ofBytes a ++ ofBytes b := by simp [ofBytes]
theorem ofBytes_len (a : List UInt8) : (ofBytes a).length = a.length := by simp [ofBytes]
theorem ofBytes_cells (a : List UInt8) : ∀ e ∈ ofBytes a, e.cells.length = 1 := by
  intro e he
  obtain ⟨x, _, rfl⟩ := List.mem_map.1 he
  rfl
theorem ofBytes_free (a : List UInt8) : PV.freeL (ofBytes a) = true := freeL_map _ (fun _ => rfl) a
theorem ofBytes_frz (a : List UInt8) : PV.frzL (ofBytes a) = ofBytes a := frzL_map' _ (fun _ => rfl) a
theorem byte_u8 {n : Nat} (h : n < 256) : [PV.int .u8 (n : Int)] = ofBytes [UInt8.ofNat n] := by
  simp [ofBytes, Nat.mod_eq_of_lt h]

theorem uintB_len : ∀ (k n : Nat), n < 128 ^ (k + 1) → (uintB n).length ≤ k + 1 := by
  intro k
  induction k with
  | zero => intro n h; rw [uintB, if_pos (by simpa using h)]; simp
  | succ k ih =>
    intro n h
    rw [uintB]
    split
    · simp
    · have := ih (n / 128) (by rw [Nat.div_lt_iff_lt_mul (by decide)]; rw [Nat.pow_succ] at h; exact h)
      simp; omega
theorem uintB_le9 {n : Nat} (h : n < 9223372036854775808) : (uintB n).length ≤ 9 := uintB_len 8 n (by omega)

theorem own_raw {s : List UInt8} {v : PV} (hv : IsSl 1 v (ofBytes s)) {m : Nat} (hs : s.length + m ≤ 134217728) {S0 S : St} (hg : Grows S0 S) :
    ∃ v' S', cval T 218 [v, .int .i64 (m : Int)] S = some (v', S') ∧ AccG S0 1 S' v' (ofBytes s) ∧ S'.objs = S.objs := by
  obtain ⟨v', S', a1, a2, a3⟩ := (accg_new 1 [] hg).app (bytes := 1) (ofBytes s) (by rw [ofBytes_len]; simp; omega)
  have hw : IntKind.i64.wrap ((s.length : Int) + (m : Int)) = (s.length : Int) + (m : Int) := wrap_i64 (by omega) (by omega)
  have hlen := hv.len
  rw [ofBytes_len] at hlen
  have h0 : (0 : Int) ≤ (s.length : Int) + (m : Int) := by omega
  have h1 : (s.length : Int) + (m : Int) ≤ 140737488355328 := by omega
  refine ⟨v', S', ?_, by simpa using a2, a3⟩
  refine cval_ok' fn_218 rfl ?_
  simp only [List.length_nil] at a1
  simp -implicitDefEqProofs [frame_own, hlen, hw, pstep, h0, h1, hv.appd, a1, finish]

theorem pu_loop {s : List UInt8} {S0 : St} {K : List Kt} {Q : Fr → St → Prop} : ∀ (n : Nat) (p : List UInt8), p.length + (uintB n).length ≤ 134217728 → n < 9223372036854775808 → ∀ (fr : Fr) (S : St),
    fr 1 = .int .i64 (n : Int) → AccG S0 1 S (fr 6) (ofBytes p) →
    (∀ fr' S' (m : Nat) q, fr' 1 = .int .i64 (m : Int) → m < 128 → AccG S0 1 S' (fr' 6) (ofBytes q) → q ++ [UInt8.ofNat m] = p ++ uintB n → S'.objs = S.objs → Ok (gval T K fr' S') Q) →
    Ok (gval T (.lp frame_PutUint_l0 :: .blk 0 :: K) fr S) Q := by
  intro n
  induction n using Nat.strongRecOn with
  | _ n ih =>
    intro p hp hn fr S h1 ha k
    rw [gval_lp]
    by_cases h : n < 128
    · have hlt : ¬ (128 : Int) ≤ (n : Int) := by omega
      simp -implicitDefEqProofs [h1, hlt]
      refine k _ _ n p (by simp [h1]) h (by simpa using ha) ?_ rfl
      rw [uintB, if_pos h]
    · have hlt : (128 : Int) ≤ (n : Int) := by omega
      have hu : uintB n = UInt8.ofNat (n % 128 + 128) :: uintB (n / 128) := by rw [uintB, if_neg h]
      have hb := byte_u8 (n := n % 128 + 128) (by omega)
      rw [hu] at hp
      simp only [List.length_cons] at hp
      obtain ⟨v', S', a1, a2, a3⟩ := (ha.arrs [(1, 1)]).app (bytes := 1) [PV.int .u8 ((n % 128 + 128 : Nat) : Int)] (by rw [ofBytes_len]; simp; omega)
      have ho := or128 n
      have a1' : appendTo 1 1 ⟨S.objs, S.tips ++ [(1, 1)]⟩ (fr 6) [PV.int .u8 (orI .u8 (IntKind.u8.wrap (n : Int)) 128)] = some (v', S') := by rw [ho]; exact a1
      simp -implicitDefEqProofs [h1, hlt, pstep, elems, setParts, a1', ar_shr7, fdiv128]
      refine ih (n / 128) (by omega) (p ++ [UInt8.ofNat (n % 128 + 128)]) (by simp; omega) (by omega) _ S' (by simp) ?_ (fun fr' S'' m q q1 q2 q3 q4 q5 => k fr' S'' m q q1 q2 q3 ?_ (by rw [q5, a3]))
      · rw [ofBytes_app, ← hb]; simpa using a2
      · rw [q4, hu]; simp
theorem putU_raw {s : List UInt8} {v : PV} (hv : IsSl 1 v (ofBytes s)) {n : Nat} (hn : n < 9223372036854775808) (hs : s.length + 20 ≤ 134217728) {S0 S : St} (hg : Grows S0 S) :
    ∃ v' S', cval T 107 [v, .int .i64 (n : Int)] S = some (.tup [v', .int .i64 0], S') ∧ AccG S0 1 S' v' (ofBytes (s ++ uintB n)) ∧ S'.objs = S.objs := by
  obtain ⟨v1, S1, e1, e2, e3⟩ := own_raw hv (m := 9) (by omega) hg
  have e1' : cval T 218 [v, .int .i64 9] S = some (v1, S1) := e1
  have hu := uintB_le9 hn
  have hlt : ¬ (n : Int) < 0 := by omega
  have key := cval_ex (T := T) (f := 107) (c := frame_PutUint) fn_107 (args := [v, .int .i64 (n : Int)]) (S := S) rfl
    (R := fun r S2 => ∃ v', r = .tup [v', .int .i64 0] ∧ AccG S0 1 S2 v' (ofBytes (s ++ uintB n)) ∧ S2.objs = S.objs) ?_
  · obtain ⟨r, S2, h1, v', rfl, h2, h3⟩ := key
    exact ⟨v', S2, h1, h2, h3⟩
  simp -implicitDefEqProofs [frame_PutUint, hlt, e1']
  refine pu_loop (s := s) (S0 := S0) n s (by omega) hn _ S1 (by simp) (by simpa using e2) (fun fr' S' m q q1 q2 q3 q4 q5 => ?_)
  have hb := byte_u8 (n := m) (by omega)
  have hql : q.length + 1 = s.length + (uintB n).length := by
    have := congrArg List.length q4
    simpa using this
  obtain ⟨v', S2, a1, a2, a3⟩ := (q3.arrs [(1, 1)]).app (bytes := 1) [PV.int .u8 (m : Int)] (by rw [ofBytes_len]; simp; omega)
  have hwm : IntKind.u8.wrap (m : Int) = (m : Int) := wrap_u8 (by omega) (by omega)
  simp -implicitDefEqProofs [q1, hwm, pstep, elems, setParts, a1, finish]
  refine ⟨?_, by rw [a3, q5, e3]⟩
  rw [← q4, ofBytes_app, ← hb]; exact a2

theorem putT_raw {s t : List UInt8} {v : PV} (hv : IsSl 1 v (ofBytes s)) (ht : t.length ≤ 65535) (hs : s.length + 20 ≤ 67108864) {S0 S : St} (hg : Grows S0 S) :
    ∃ v' S', cval T 108 [v, .str t] S = some (.tup [v', .int .i64 0], S') ∧ AccG S0 1 S' v' (ofBytes (s ++ textB t)) ∧ S'.objs = S.objs := by
  obtain ⟨v1, S1, e1, e2, e3⟩ := putU_raw hv (n := t.length) (by omega) (by omega) hg
  have hu := uintB_le9 (n := t.length) (by omega)
  have hlt : ¬ (65535 : Int) < (t.length : Int) := by omega
  obtain ⟨v2, S2, a1, a2, a3⟩ := e2.app (bytes := 1) (ofBytes t) (by rw [ofBytes_len, ofBytes_len, List.length_append]; omega)
  refine ⟨v2, S2, ?_, ?_, by rw [a3, e3]⟩
  · refine cval_ok' fn_108 rfl ?_
    simp -implicitDefEqProofs [frame_PutText, hlt, e1, a1, finish]
  · rw [← ofBytes_app, List.append_assoc] at a2; exact a2

theorem bytesOf_of (s : List UInt8) : bytesOf (ofBytes s) = some s := by
  induction s with
  | nil => rfl
  | cons b s ih =>
    simp only [ofBytes, List.map_cons, bytesOf] at ih ⊢
    rw [ih]
    simp
theorem toStr_of {v : PV} {s : List UInt8} (h : IsSl 1 v (ofBytes s)) : toStrP v = some (.str s) := by
  rcases h with ⟨rfl, h⟩ | ⟨tip, sp, rfl, _⟩
  · cases s with
    | nil => rfl
    | cons b s => simp [ofBytes] at h
  · simp only [toStrP, bytesOf_of]

/-! The document's. -/
theorem ru_loop {S0 : St} {K : List Kt} {Q : Fr → St → Prop} : ∀ (n : Nat) (p : List UInt8), p.length + (uintB n).length ≤ 134217728 → n < 9223372036854775808 → ∀ (fr : Fr) (S : St),
    fr 0 = .int .i64 (n : Int) → AccG S0 1 S (fr 3) (ofBytes p) →
    (∀ fr' S' (m : Nat) q, fr' 0 = .int .i64 (m : Int) → m < 128 → AccG S0 1 S' (fr' 3) (ofBytes q) → q ++ [UInt8.ofNat m] = p ++ uintB n → S'.objs = S.objs → Ok (gval T K fr' S') Q) →
    Ok (gval T (.lp ref02_Uint_l0 :: .blk 0 :: K) fr S) Q := by
  intro n
  induction n using Nat.strongRecOn with
  | _ n ih =>
    intro p hp hn fr S h1 ha k
    rw [gval_lp]
    by_cases h : n < 128
    · have hlt : ¬ (127 : Int) < (n : Int) := by omega
      simp -implicitDefEqProofs [h1, hlt]
      refine k _ _ n p (by simp [h1]) h (by simpa using ha) ?_ rfl
      rw [uintB, if_pos h]
    · have hlt : (127 : Int) < (n : Int) := by omega
      have hu : uintB n = UInt8.ofNat (n % 128 + 128) :: uintB (n / 128) := by rw [uintB, if_neg h]
      have hb := byte_u8 (n := n % 128 + 128) (by omega)
      rw [hu] at hp
      simp only [List.length_cons] at hp
      obtain ⟨v', S', a1, a2, a3⟩ := (ha.arrs [(1, 1)]).app (bytes := 1) [PV.int .u8 ((n % 128 + 128 : Nat) : Int)] (by rw [ofBytes_len]; simp; omega)
      have hm : IntKind.u8.wrap (IntKind.i64.wrap ((n : Int).tmod 128 + 128)) = ((n % 128 + 128 : Nat) : Int) := by
        have e1 : (n : Int).tmod 128 = ((n % 128 : Nat) : Int) := by rw [Int.tmod_eq_emod_of_nonneg (by omega)]; omega
        rw [e1, wrap_i64 (by omega) (by omega), show ((n % 128 : Nat) : Int) + 128 = ((n % 128 + 128 : Nat) : Int) by omega, wrap_u8 (by omega) (by omega)]
      have hd : IntKind.i64.wrap ((n : Int).tdiv 128) = ((n / 128 : Nat) : Int) := by
        have e1 : (n : Int).tdiv 128 = ((n / 128 : Nat) : Int) := by rw [Int.tdiv_eq_ediv_of_nonneg (by omega)]; omega
        rw [e1, wrap_i64 (by omega) (by omega)]
      have hd2 : IntKind.i64.wrap ((n : Int) / 128) = (n : Int) / 128 := by rw [wrap_i64] <;> omega
      have a1' : appendTo 1 1 ⟨S.objs, S.tips ++ [(1, 1)]⟩ (fr 3) [PV.int .u8 (IntKind.u8.wrap (IntKind.i64.wrap ((n : Int).tmod 128 + 128)))] = some (v', S') := by rw [hm]; exact a1
      simp -implicitDefEqProofs [h1, hlt, pstep, elems, setParts, a1', hd, hd2]
      refine ih (n / 128) (by omega) (p ++ [UInt8.ofNat (n % 128 + 128)]) (by simp; omega) (by omega) _ S' (by simp [hd2]) ?_ (fun fr' S'' m q q1 q2 q3 q4 q5 => k fr' S'' m q q1 q2 q3 ?_ (by rw [q5, a3]))
      · rw [ofBytes_app, ← hb]; simpa using a2
      · rw [q4, hu]; simp

theorem ruint_raw {n : Nat} (hn : n < 9223372036854775808) {S0 S : St} (hg : Grows S0 S) :
    ∃ v' S', cval T 219 [.int .i64 (n : Int)] S = some (v', S') ∧ AccG S0 1 S' v' (ofBytes (uintB n)) ∧ S'.objs = S.objs := by
  have hu := uintB_le9 hn
  have key := cval_ex (T := T) (f := 219) (c := ref02_Uint) fn_219 (args := [.int .i64 (n : Int)]) (S := S) rfl (R := fun r S2 => AccG S0 1 S2 r (ofBytes (uintB n)) ∧ S2.objs = S.objs) ?_
  · obtain ⟨r, S2, h1, h2, h3⟩ := key
    exact ⟨r, S2, h1, h2, h3⟩
  simp -implicitDefEqProofs [ref02_Uint]
  refine ru_loop (S0 := S0) n [] (by simp; omega) hn _ S (by simp) (by simpa [ofBytes] using accg_nil 1 hg) (fun fr' S' m q q1 q2 q3 q4 q5 => ?_)
  have hb := byte_u8 (n := m) (by omega)
  have hql : q.length + 1 = (uintB n).length := by
    have := congrArg List.length q4
    simpa using this
  obtain ⟨v', S2, a1, a2, a3⟩ := (q3.arrs [(1, 1)]).app (bytes := 1) [PV.int .u8 (m : Int)] (by rw [ofBytes_len]; simp; omega)
  have hwm : IntKind.u8.wrap (m : Int) = (m : Int) := wrap_u8 (by omega) (by omega)
  simp -implicitDefEqProofs [q1, hwm, pstep, elems, setParts, a1, finish]
  refine ⟨?_, by rw [a3, q5]⟩
  have : uintB n = q ++ [UInt8.ofNat m] := by simpa using q4.symm
  rw [this, ofBytes_app, ← hb]; exact a2

/-- Bytes, handed back. -/
structure SlB (v : PV) (s : List UInt8) : Prop where
  isl : IsSl 1 v (ofBytes s)
  free : v.free = true
  frz : v.frz = v
theorem slF_byt {S0 S : St} {v : PV} {s : List UInt8} (ha : AccG S0 1 S v (ofBytes s)) : SlB (slF v (ofBytes s)) s := by
  refine ⟨slF_isSl ha (ofBytes_cells _), ?_, ?_⟩
  · rcases ha.acc with ⟨h, _⟩ | ⟨id, _, h, _⟩
    · rw [h]; rfl
    · rw [h]; simp [slF, PV.free, ofBytes_free, PV.freeL]
  · rcases ha.acc with ⟨h, _⟩ | ⟨id, _, h, _⟩
    · rw [h]; rfl
    · rw [h]; simp [slF, PV.frz, ofBytes_frz, PV.frzL]

theorem rtext_pval {s : List UInt8} (hs : s.length ≤ 67108864) : ∃ v', pval T 220 [.str s] = some v' ∧ SlB v' (textB s) := by
  obtain ⟨v1, S1, e1, e2, e3⟩ := ruint_raw (n := s.length) (by omega) (Grows.refl St0)
  have hu := uintB_le9 (n := s.length) (by omega)
  obtain ⟨v2, S2, a1, a2, a3⟩ := e2.app (bytes := 1) (ofBytes s) (by rw [ofBytes_len, ofBytes_len]; omega)
  rw [← ofBytes_app] at a2
  have hb := slF_byt a2
  refine ⟨_, ?_, hb⟩
  refine pval_st ?_ hb.free hb.frz
  refine cval_ok' fn_220 rfl ?_
  simp -implicitDefEqProofs [ref02_Text, e1, a1]
  exact a2.fin (ofBytes_free _) (ofBytes_frz _)

theorem fn_29 : T.fn 29 = some (.code label_Put) := rfl
theorem fn_30 : T.fn 30 = some (.code ref06_Put) := rfl
theorem fn_109 : T.fn 109 = some (.code ref06_Bytes) := rfl

def lab1B (x : Lab) : List UInt8 := textB x.1 ++ textB x.2.1
def labsB (l : List Lab) : List UInt8 := uintB l.length ++ l.flatMap lab1B

theorem nameB_len {s : List UInt8} (h : nameB s = true) : s.length ≤ 32 := by
  rw [nameB_eq] at h
  simp only [Bool.and_eq_true, decide_eq_true_eq] at h
  exact h.2.2
theorem okLab_len {x : Lab} (h : okLab x) : x.1.length ≤ 32 ∧ x.2.1.length ≤ 64 := ⟨nameB_len h.1, h.2.2⟩
theorem textB_len {s : List UInt8} (h : s.length ≤ 65535) : (textB s).length ≤ s.length + 9 := by
  have := uintB_le9 (n := s.length) (by omega)
  simp only [textB, List.length_append]; omega
theorem lab1B_len {x : Lab} (h : okLab x) : (lab1B x).length ≤ 114 := by
  obtain ⟨h1, h2⟩ := okLab_len h
  have a := textB_len (s := x.1) (by omega)
  have b := textB_len (s := x.2.1) (by omega)
  simp only [lab1B, List.length_append]; omega
theorem labs_flat_len : ∀ {l : List Lab}, (∀ x ∈ l, okLab x) → (l.flatMap lab1B).length ≤ 114 * l.length
  | [], _ => by simp
  | x :: l, h => by
    have a := lab1B_len (h x (by simp))
    have b := labs_flat_len (l := l) (fun y hy => h y (by simp [hy]))
    simp only [List.flatMap_cons, List.length_append, List.length_cons]; omega

theorem put_loop {l : List Lab} {vl : PV} (hv : Reads1 2 vl (l.map labV)) (hl : l.length ≤ 8) (hok : ∀ x ∈ l, okLab x) {S0 : St} {K : List Kt} {Q : Fr → St → Prop} : ∀ (r p : List Lab) (s : List UInt8), l = p ++ r → s.length + 114 * r.length ≤ 67100000 → ∀ (fr : Fr) (S : St),
    fr 23 = vl → fr 24 = .int .i64 l.length → fr 25 = .int .i64 p.length → AccG S0 1 S (fr 7) (ofBytes s) →
    (∀ fr' S', AccG S0 1 S' (fr' 7) (ofBytes (s ++ r.flatMap lab1B)) → Ok (gval T K fr' S') Q) →
    Ok (gval T (.lp label_Put_l0 :: .blk 0 :: K) fr S) Q := by
  intro r
  induction r with
  | nil =>
    intro p s e hs fr S h23 h24 h25 ha k
    rw [List.append_nil] at e; subst e
    rw [gval_lp]
    simp -implicitDefEqProofs [h23, h24, h25]
    exact k _ _ (by simpa using ha)
  | cons x r ih =>
    intro p s e hs fr S h23 h24 h25 ha k
    have hlt : p.length < l.length := by rw [e]; simp
    have hg := sl_get hv e
    have hw := wrap_len (a := p.length) (by omega)
    have hx := hok x (by rw [e]; simp)
    obtain ⟨l1, l2⟩ := okLab_len hx
    simp only [List.length_cons] at hs
    have hA := ha.objs [[.str x.1, .str x.2.1]]
    have t1 := textB_len (s := x.1) (by omega)
    have t2 := textB_len (s := x.2.1) (by omega)
    obtain ⟨v1, S1, a1, a2, a3⟩ := putT_raw (t := x.1) (hA.isSl (ofBytes_cells _)) (by omega) (by omega) hA.grows
    obtain ⟨v2, S2, b1, b2, b3⟩ := putT_raw (t := x.2.1) (a2.isSl (ofBytes_cells _)) (by omega) (by rw [List.length_append]; omega) a2.grows
    have ho1 : S1.objs[S.objs.length]? = some [.str x.1, .str x.2.1] := by rw [a3]; simp
    rw [gval_lp]
    simp -implicitDefEqProofs [h23, h24, h25, hlt, hg, p1, p2, pstep, putCells, a1, loadP_ptr ho1, b1, hw]
    refine ih (p ++ [x]) (s ++ textB x.1 ++ textB x.2.1) (by simp [e]) (by simp only [List.length_append]; omega) _ S2 (by simp [h23]) (by simp [h24]) (by simp) (by simpa using b2) (fun fr' S' h => k fr' S' ?_)
    simpa [lab1B] using h

theorem putL_ok {b : List UInt8} {l : List Lab} {v vl : PV} (hb : IsSl 1 v (ofBytes b)) (hbl : b.length ≤ 4194304) (hv : Reads1 2 vl (l.map labV)) (hn : ∀ x ∈ l, x.1.length ≤ maxLen) (hl : l.length ≤ maxLen) (hr : Right l) (S : St) :
    ∃ v', cval T 29 [v, vl] S = some (.tup [v', .int .i64 0], S) ∧ SlB v' (b ++ labsB l) := by
  have c1 := check_val hv hn hl S
  rw [checkN_zero.2 hr] at c1
  have hlen := hv.len
  rw [List.length_map] at hlen
  obtain ⟨v1, S1, a1, a2, a3⟩ := putU_raw hb (n := l.length) (by have := hr.1; omega) (by omega) (Grows.refl S)
  have hu := uintB_le9 (n := l.length) (by have := hr.1; omega)
  have key := cval_ex (T := T) (f := 29) (c := label_Put) fn_29 (args := [v, vl]) (S := S) rfl (R := fun r S2 => S2 = S ∧ ∃ v', r = .tup [v', .int .i64 0] ∧ SlB v' (b ++ labsB l)) ?_
  · obtain ⟨r, S2, h1, rfl, v', rfl, h2⟩ := key
    exact ⟨v', h1, h2⟩
  have c1' : cval T 40 [vl] S = some (.int .i64 0, S) := c1
  simp -implicitDefEqProofs [label_Put, c1', hlen, a1]
  refine put_loop hv hr.1 hr.2.1 (S0 := S) l [] (b ++ uintB l.length) rfl (by have := hr.1; simp only [List.length_append]; omega) _ S1 (by simp) (by simp) (by simp) (by simpa using a2) (fun fr' S' ha => ?_)
  have he : b ++ uintB l.length ++ l.flatMap lab1B = b ++ labsB l := by simp [labsB]
  rw [he] at ha
  have hf : (fr' 7).free = true ∧ (fr' 7).frz = slF (fr' 7) (ofBytes (b ++ labsB l)) := by
    rcases ha.acc with ⟨h, _⟩ | ⟨id, _, h, _⟩
    · rw [h]; exact ⟨rfl, rfl⟩
    · rw [h]; exact ⟨by simp [PV.free, ofBytes_free, PV.freeL], by simp [slF, PV.frz, ofBytes_frz, PV.frzL]⟩
  have hfin : finish false S S' (.tup [fr' 7, .int .i64 0]) = (.tup [slF (fr' 7) (ofBytes (b ++ labsB l)), .int .i64 0], S) := by
    rw [fin_free ha.grows (by simp [PV.free, PV.freeL, hf.1])]
    simp [PV.frz, PV.frzL, hf.2]
  simp [hfin]
  exact slF_byt ha

theorem putL_no {l : List Lab} {v vl : PV} (hv : Reads1 2 vl (l.map labV)) (hn : ∀ x ∈ l, x.1.length ≤ maxLen) (hl : l.length ≤ maxLen) (hr : checkN l ≠ 0) (S : St) :
    cval T 29 [v, vl] S = some (.tup [.nils, .int .i64 (checkN l)], S) := by
  refine cval_ok' fn_29 rfl ?_
  simp -implicitDefEqProofs [label_Put, check_val hv hn hl]
  refine ok_br (fun _ => ?_) (fun a => absurd a (by simpa using hr))
  simp
  rw [fin_free (Grows.refl S) rfl]; rfl

theorem rbytes_loop {l : List Lab} {vl : PV} (hv : Reads1 2 vl (l.map labV)) (hl : l.length ≤ 8) (hok : ∀ x ∈ l, okLab x) {S0 : St} {K : List Kt} {Q : Fr → St → Prop} : ∀ (r p : List Lab) (s : List UInt8), l = p ++ r → s.length + 114 * r.length ≤ 67100000 → ∀ (fr : Fr) (S : St),
    fr 0 = vl → fr 4 = .int .i64 p.length → AccG S0 1 S (fr 3) (ofBytes s) →
    (∀ fr' S', AccG S0 1 S' (fr' 3) (ofBytes (s ++ r.flatMap lab1B)) → Ok (gval T K fr' S') Q) →
    Ok (gval T (.lp ref06_Bytes_l0 :: .blk 0 :: K) fr S) Q := by
  intro r
  induction r with
  | nil =>
    intro p s e hs fr S h0 h4 ha k
    rw [List.append_nil] at e; subst e
    have hlen := hv.len
    rw [List.length_map] at hlen
    rw [gval_lp]
    simp -implicitDefEqProofs [h0, h4, hlen]
    exact k _ _ (by simpa using ha)
  | cons x r ih =>
    intro p s e hs fr S h0 h4 ha k
    have hlt : p.length < l.length := by rw [e]; simp
    have hlen := hv.len
    rw [List.length_map] at hlen
    have hg := sl_get hv e
    have hw := wrap_len (a := p.length) (by omega)
    have hx := hok x (by rw [e]; simp)
    obtain ⟨l1, l2⟩ := okLab_len hx
    simp only [List.length_cons] at hs
    obtain ⟨t1, t1e, t1b⟩ := rtext_pval (s := x.1) (by omega)
    obtain ⟨t2, t2e, t2b⟩ := rtext_pval (s := x.2.1) (by omega)
    have u1 := textB_len (s := x.1) (by omega)
    have u2 := textB_len (s := x.2.1) (by omega)
    obtain ⟨v1, S1, a1, a2, a3⟩ := ha.app (bytes := 1) (ofBytes (textB x.1)) (by rw [ofBytes_len, ofBytes_len]; omega)
    rw [← ofBytes_app] at a2
    obtain ⟨v2, S2, b1, b2, b3⟩ := a2.app (bytes := 1) (ofBytes (textB x.2.1)) (by rw [ofBytes_len, ofBytes_len, List.length_append]; omega)
    rw [← ofBytes_app] at b2
    rw [gval_lp]
    simp -implicitDefEqProofs [h0, h4, hlt, hlen, hg, p1, t1e, t2e, t1b.isl.appd, t2b.isl.appd, a1, b1, hw]
    refine ih (p ++ [x]) (s ++ textB x.1 ++ textB x.2.1) (by simp [e]) (by simp only [List.length_append]; omega) _ S2 (by simp [h0]) (by simp) (by simpa using b2) (fun fr' S' h => k fr' S' ?_)
    simpa [lab1B] using h

theorem rbytes_val {l : List Lab} {vl : PV} (hv : Reads1 2 vl (l.map labV)) (hr : Right l) (S : St) :
    ∃ v', cval T 109 [vl] S = some (v', S) ∧ SlB v' (labsB l) := by
  have hlen := hv.len
  rw [List.length_map] at hlen
  obtain ⟨v1, S1, a1, a2, a3⟩ := ruint_raw (n := l.length) (by have := hr.1; omega) (Grows.refl S)
  have hu := uintB_le9 (n := l.length) (by have := hr.1; omega)
  have key := cval_ex (T := T) (f := 109) (c := ref06_Bytes) fn_109 (args := [vl]) (S := S) rfl (R := fun r S2 => S2 = S ∧ SlB r (labsB l)) ?_
  · obtain ⟨r, S2, h1, rfl, h2⟩ := key
    exact ⟨r, h1, h2⟩
  simp -implicitDefEqProofs [ref06_Bytes, hlen, a1]
  refine rbytes_loop hv hr.1 hr.2.1 (S0 := S) l [] (uintB l.length) rfl (by have := hr.1; omega) _ S1 (by simp) (by simp) (by simpa using a2) (fun fr' S' ha => ?_)
  have ha' : AccG S 1 S' (fr' 3) (ofBytes (labsB l)) := ha
  have hfin := ha'.fin (ofBytes_free _) (ofBytes_frz _)
  simp [hfin]
  exact slF_byt ha'

theorem rput_ok {b : List UInt8} {l : List Lab} {v vl : PV} (hb : IsSl 1 v (ofBytes b)) (hbl : b.length ≤ 4194304) (hv : Reads1 2 vl (l.map labV)) (hn : ∀ x ∈ l, x.1.length ≤ maxLen) (hl : l.length ≤ maxLen) (hr : Right l) (S : St) :
    ∃ v', cval T 30 [v, vl] S = some (.tup [v', .int .i64 0], S) ∧ SlB v' (b ++ labsB l) := by
  have c1 := rcheck_val hv hn hl S
  rw [checkN_zero.2 hr] at c1
  have c1' : cval T 98 [vl] S = some (.int .i64 0, S) := c1
  obtain ⟨v1, S1, a1, a2, a3⟩ := (accg_new 1 [] (Grows.refl S)).app (bytes := 1) (ofBytes b) (by rw [ofBytes_len]; simp; omega)
  simp only [List.length_nil, List.nil_append] at a1 a2
  obtain ⟨w, e1, e2⟩ := rbytes_val hv hr S1
  have hll : (labsB l).length ≤ 9 + 114 * 8 := by
    have h1 := uintB_le9 (n := l.length) (by have := hr.1; omega)
    have h2 := labs_flat_len hr.2.1
    have h3 := hr.1
    simp only [labsB, List.length_append]; omega
  obtain ⟨v2, S2, b1, b2, b3⟩ := a2.app (bytes := 1) (ofBytes (labsB l)) (by rw [ofBytes_len, ofBytes_len]; omega)
  rw [← ofBytes_app] at b2
  have hs := slF_byt b2
  refine ⟨_, ?_, hs⟩
  refine cval_ok' fn_30 rfl ?_
  simp -implicitDefEqProofs [ref06_Put, c1', pstep, elems, setParts, hb.appd, a1, e1, e2.isl.appd, b1]
  have hf : v2.free = true ∧ v2.frz = slF v2 (ofBytes (b ++ labsB l)) := by
    rcases b2.acc with ⟨h, _⟩ | ⟨id, _, h, _⟩
    · rw [h]; exact ⟨rfl, rfl⟩
    · rw [h]; exact ⟨by simp [PV.free, ofBytes_free, PV.freeL], by simp [slF, PV.frz, ofBytes_frz, PV.frzL]⟩
  rw [fin_free b2.grows (by simp [PV.free, PV.freeL, hf.1])]
  simp [PV.frz, PV.frzL, hf.2]

theorem rput_no {l : List Lab} {v vl : PV} (hv : Reads1 2 vl (l.map labV)) (hn : ∀ x ∈ l, x.1.length ≤ maxLen) (hl : l.length ≤ maxLen) (hr : checkN l ≠ 0) (S : St) :
    cval T 30 [v, vl] S = some (.tup [.nils, .int .i64 (checkN l)], S) := by
  refine cval_ok' fn_30 rfl ?_
  simp -implicitDefEqProofs [ref06_Put, rcheck_val hv hn hl]
  refine ok_br (fun _ => ?_) (fun a => absurd a (by simpa using hr))
  simp
  rw [fin_free (Grows.refl S) rfl]; rfl
end Ps
