/- Labels, numbers and texts laid down and read (out of the label seat's texts) -/
import Derived.Test.YtppjibgophfdfaaLB
namespace Ps
set_option linter.unusedSimpArgs false
open Go
theorem fn_218 : T.fn 218 = some (.code z56) := rfl
theorem fn_107 : T.fn 107 = some (.code z25) := rfl
theorem fn_108 : T.fn 108 = some (.code z27) := rfl
def orI (k : IntKind) (a b : Int) : Int := k.wrap (BitVec.ofInt k.bits a ||| BitVec.ofInt k.bits b).toNat
def andI (k : IntKind) (a b : Int) : Int := k.wrap (BitVec.ofInt k.bits a &&& BitVec.ofInt k.bits b).toNat
@[simp] theorem ar_or {k : IntKind} {a b : Int} : arith .or (.int k a) (.int k b) = some (.int k (orI k a b)) := by simp [arith, isShift, intOp, orI]
@[simp] theorem ar_and {k : IntKind} {a b : Int} : arith .and (.int k a) (.int k b) = some (.int k (andI k a b)) := by simp [arith, isShift, intOp, andI]
theorem ar_shr7 {a : Int} : arith .shr (.int .i64 a) (.int .u64 7) = some (.int .i64 (a.fdiv 128)) := rfl
theorem fdiv128 (n : Nat) : (n : Int).fdiv 128 = ((n / 128 : Nat) : Int) := by
  rw [Int.fdiv_eq_ediv_of_nonneg _ (by decide)]; omega
theorem wrap_u8n (n : Nat) : IntKind.u8.wrap (n : Int) = ((n % 256 : Nat) : Int) := by
  have e : IntKind.u8.wrap (n : Int) = (n : Int) % 256 := by
    simp [IntKind.wrap, IntKind.bits, IntKind.signed]
  rw [e]; omega
theorem or128_fin : ∀ m : Fin 256, orI .u8 ((m.val : Nat) : Int) 128 = ((m.val % 128 + 128 : Nat) : Int) := by decide +kernel
theorem or128 (n : Nat) : orI .u8 (IntKind.u8.wrap (n : Int)) 128 = ((n % 128 + 128 : Nat) : Int) := by
  rw [wrap_u8n]
  have := or128_fin ⟨n % 256, by omega⟩
  simp only at this
  rw [this]; omega
def uintB (n : Nat) : List UInt8 := if n < 128 then [UInt8.ofNat n] else UInt8.ofNat (n % 128 + 128) :: uintB (n / 128)
termination_by n
decreasing_by omega
def textB (s : List UInt8) : List UInt8 := uintB s.length ++ s
theorem ofBytes_app (a b : List UInt8) : ofBytes (a ++ b) = ofBytes a ++ ofBytes b := by simp [ofBytes]
theorem ofBytes_len (a : List UInt8) : (ofBytes a).length = a.length := by simp [ofBytes]
theorem ofBytes_cells (a : List UInt8) : ∀ e ∈ ofBytes a, e.cells.length = 1 := by
  intro e he
  obtain ⟨x, _, rfl⟩ := List.mem_map.1 he
  rfl
theorem ofBytes_free (a : List UInt8) : PV.freeL (ofBytes a) = true := freeL_map _ (fun _ => rfl) a
theorem ofBytes_frz (a : List UInt8) : PV.frzL (ofBytes a) = ofBytes a := frzL_map' _ (fun _ => rfl) a
theorem byte_u8 {n : Nat} (h : n < 256) : [PV.int .u8 (n : Int)] = ofBytes [UInt8.ofNat n] := by
  simp [ofBytes, Nat.mod_eq_of_lt h]
theorem uintB_len : ∀ (k n : Nat), n < 128 ^ (k + 1) → (uintB n).length ≤ k + 1 := by
  intro k
  induction k with
  | zero => intro n h; rw [uintB, if_pos (by simpa using h)]; simp
  | succ k ih =>
    intro n h
    rw [uintB]
    split
    · simp
    · have := ih (n / 128) (by rw [Nat.div_lt_iff_lt_mul (by decide)]; rw [Nat.pow_succ] at h; exact h)
      simp; omega
theorem uintB_le9 {n : Nat} (h : n < 9223372036854775808) : (uintB n).length ≤ 9 := uintB_len 8 n (by omega)
theorem own_raw {s : List UInt8} {v : PV} (hv : IsSl 1 v (ofBytes s)) {m : Nat} (hs : s.length + m ≤ 134217728) {S0 S : St} (hg : Grows S0 S) :
    ∃ v' S', cval T 218 [v, .int .i64 (m : Int)] S = some (v', S') ∧ AccG S0 1 S' v' (ofBytes s) ∧ S'.objs = S.objs := by
  obtain ⟨v', S', a1, a2, a3⟩ := (accg_new 1 [] hg).app (bytes := 1) (ofBytes s) (by rw [ofBytes_len]; simp; omega)
  have hw : IntKind.i64.wrap ((s.length : Int) + (m : Int)) = (s.length : Int) + (m : Int) := wrap_i64 (by omega) (by omega)
  have hlen := hv.len
  rw [ofBytes_len] at hlen
  have h0 : (0 : Int) ≤ (s.length : Int) + (m : Int) := by omega
  have h1 : (s.length : Int) + (m : Int) ≤ 140737488355328 := by omega
  refine ⟨v', S', ?_, by simpa using a2, a3⟩
  refine cval_ok' fn_218 rfl ?_
  simp only [List.length_nil] at a1
  simp -implicitDefEqProofs [z56, hlen, hw, pstep, h0, h1, hv.appd, a1, finish]
theorem pu_loop {s : List UInt8} {S0 : St} {K : List Kt} {Q : Fr → St → Prop} : ∀ (n : Nat) (p : List UInt8), p.length + (uintB n).length ≤ 134217728 → n < 9223372036854775808 → ∀ (fr : Fr) (S : St),
    fr 1 = .int .i64 (n : Int) → AccG S0 1 S (fr 6) (ofBytes p) →
    (∀ fr' S' (m : Nat) q, fr' 1 = .int .i64 (m : Int) → m < 128 → AccG S0 1 S' (fr' 6) (ofBytes q) → q ++ [UInt8.ofNat m] = p ++ uintB n → S'.objs = S.objs → Ok (gval T K fr' S') Q) →
    Ok (gval T (.lp z25_l0 :: .blk 0 :: K) fr S) Q := by
  intro n
  induction n using Nat.strongRecOn with
  | _ n ih =>
    intro p hp hn fr S h1 ha k
    rw [gval_lp]
    by_cases h : n < 128
    · have hlt : ¬ (128 : Int) ≤ (n : Int) := by omega
      simp -implicitDefEqProofs [h1, hlt]
      refine k _ _ n p (by simp [h1]) h (by simpa using ha) ?_ rfl
      rw [uintB, if_pos h]
    · have hlt : (128 : Int) ≤ (n : Int) := by omega
      have hu : uintB n = UInt8.ofNat (n % 128 + 128) :: uintB (n / 128) := by rw [uintB, if_neg h]
      have hb := byte_u8 (n := n % 128 + 128) (by omega)
      rw [hu] at hp
      simp only [List.length_cons] at hp
      obtain ⟨v', S', a1, a2, a3⟩ := (ha.arrs [(1, 1)]).app (bytes := 1) [PV.int .u8 ((n % 128 + 128 : Nat) : Int)] (by rw [ofBytes_len]; simp; omega)
      have ho := or128 n
      have a1' : appendTo 1 1 ⟨S.objs, S.tips ++ [(1, 1)]⟩ (fr 6) [PV.int .u8 (orI .u8 (IntKind.u8.wrap (n : Int)) 128)] = some (v', S') := by rw [ho]; exact a1
      simp -implicitDefEqProofs [h1, hlt, pstep, elems, setParts, a1', ar_shr7, fdiv128]
      refine ih (n / 128) (by omega) (p ++ [UInt8.ofNat (n % 128 + 128)]) (by simp; omega) (by omega) _ S' (by simp) ?_ (fun fr' S'' m q q1 q2 q3 q4 q5 => k fr' S'' m q q1 q2 q3 ?_ (by rw [q5, a3]))
      · rw [ofBytes_app, ← hb]; simpa using a2
      · rw [q4, hu]; simp
theorem putU_raw {s : List UInt8} {v : PV} (hv : IsSl 1 v (ofBytes s)) {n : Nat} (hn : n < 9223372036854775808) (hs : s.length + 20 ≤ 134217728) {S0 S : St} (hg : Grows S0 S) :
    ∃ v' S', cval T 107 [v, .int .i64 (n : Int)] S = some (.tup [v', .int .i64 0], S') ∧ AccG S0 1 S' v' (ofBytes (s ++ uintB n)) ∧ S'.objs = S.objs := by
  obtain ⟨v1, S1, e1, e2, e3⟩ := own_raw hv (m := 9) (by omega) hg
  have e1' : cval T 218 [v, .int .i64 9] S = some (v1, S1) := e1
  have hu := uintB_le9 hn
  have hlt : ¬ (n : Int) < 0 := by omega
  have key := cval_ex (T := T) (f := 107) (c := z25) fn_107 (args := [v, .int .i64 (n : Int)]) (S := S) rfl
    (R := fun r S2 => ∃ v', r = .tup [v', .int .i64 0] ∧ AccG S0 1 S2 v' (ofBytes (s ++ uintB n)) ∧ S2.objs = S.objs) ?_
  · obtain ⟨r, S2, h1, v', rfl, h2, h3⟩ := key
    exact ⟨v', S2, h1, h2, h3⟩
  simp -implicitDefEqProofs [z25, hlt, e1']
  refine pu_loop (s := s) (S0 := S0) n s (by omega) hn _ S1 (by simp) (by simpa using e2) (fun fr' S' m q q1 q2 q3 q4 q5 => ?_)
  have hb := byte_u8 (n := m) (by omega)
  have hql : q.length + 1 = s.length + (uintB n).length := by
    have := congrArg List.length q4
    simpa using this
  obtain ⟨v', S2, a1, a2, a3⟩ := (q3.arrs [(1, 1)]).app (bytes := 1) [PV.int .u8 (m : Int)] (by rw [ofBytes_len]; simp; omega)
  have hwm : IntKind.u8.wrap (m : Int) = (m : Int) := wrap_u8 (by omega) (by omega)
  simp -implicitDefEqProofs [q1, hwm, pstep, elems, setParts, a1, finish]
  refine ⟨?_, by rw [a3, q5, e3]⟩
  rw [← q4, ofBytes_app, ← hb]; exact a2
theorem putT_raw {s t : List UInt8} {v : PV} (hv : IsSl 1 v (ofBytes s)) (ht : t.length ≤ 65535) (hs : s.length + 20 ≤ 67108864) {S0 S : St} (hg : Grows S0 S) :
    ∃ v' S', cval T 108 [v, .str t] S = some (.tup [v', .int .i64 0], S') ∧ AccG S0 1 S' v' (ofBytes (s ++ textB t)) ∧ S'.objs = S.objs := by
  obtain ⟨v1, S1, e1, e2, e3⟩ := putU_raw hv (n := t.length) (by omega) (by omega) hg
  have hu := uintB_le9 (n := t.length) (by omega)
  have hlt : ¬ (65535 : Int) < (t.length : Int) := by omega
  obtain ⟨v2, S2, a1, a2, a3⟩ := e2.app (bytes := 1) (ofBytes t) (by rw [ofBytes_len, ofBytes_len, List.length_append]; omega)
  refine ⟨v2, S2, ?_, ?_, by rw [a3, e3]⟩
  · refine cval_ok' fn_108 rfl ?_
    simp -implicitDefEqProofs [z27, hlt, e1, a1, finish]
  · rw [← ofBytes_app, List.append_assoc] at a2; exact a2
theorem bytesOf_of (s : List UInt8) : bytesOf (ofBytes s) = some s := by
  induction s with
  | nil => rfl
  | cons b s ih =>
    simp only [ofBytes, List.map_cons, bytesOf] at ih ⊢
    rw [ih]
    simp
theorem toStr_of {v : PV} {s : List UInt8} (h : IsSl 1 v (ofBytes s)) : toStrP v = some (.str s) := by
  rcases h with ⟨rfl, h⟩ | ⟨tip, sp, rfl, _⟩
  · cases s with
    | nil => rfl
    | cons b s => simp [ofBytes] at h
  · simp only [toStrP, bytesOf_of]
structure SlB (v : PV) (s : List UInt8) : Prop where
  isl : IsSl 1 v (ofBytes s)
  free : v.free = true
  frz : v.frz = v
theorem slF_byt {S0 S : St} {v : PV} {s : List UInt8} (ha : AccG S0 1 S v (ofBytes s)) : SlB (slF v (ofBytes s)) s := by
  refine ⟨slF_isSl ha (ofBytes_cells _), ?_, ?_⟩
  · rcases ha.acc with ⟨h, _⟩ | ⟨id, _, h, _⟩
    · rw [h]; rfl
    · rw [h]; simp [slF, PV.free, ofBytes_free, PV.freeL]
  · rcases ha.acc with ⟨h, _⟩ | ⟨id, _, h, _⟩
    · rw [h]; rfl
    · rw [h]; simp [slF, PV.frz, ofBytes_frz, PV.frzL]
theorem fn_29 : T.fn 29 = some (.code z59) := rfl
def lab1B (x : Lab) : List UInt8 := textB x.1 ++ textB x.2.1
def labsB (l : List Lab) : List UInt8 := uintB l.length ++ l.flatMap lab1B
theorem nameB_len {s : List UInt8} (h : nameB s = true) : s.length ≤ 32 := by
  rw [nameB_eq] at h
  simp only [Bool.and_eq_true, decide_eq_true_eq] at h
  exact h.2.2
theorem okLab_len {x : Lab} (h : okLab x) : x.1.length ≤ 32 ∧ x.2.1.length ≤ 64 := ⟨nameB_len h.1, h.2.2⟩
theorem textB_len {s : List UInt8} (h : s.length ≤ 65535) : (textB s).length ≤ s.length + 9 := by
  have := uintB_le9 (n := s.length) (by omega)
  simp only [textB, List.length_append]; omega
theorem lab1B_len {x : Lab} (h : okLab x) : (lab1B x).length ≤ 114 := by
  obtain ⟨h1, h2⟩ := okLab_len h
  have a := textB_len (s := x.1) (by omega)
  have b := textB_len (s := x.2.1) (by omega)
  simp only [lab1B, List.length_append]; omega
theorem labs_flat_len : ∀ {l : List Lab}, (∀ x ∈ l, okLab x) → (l.flatMap lab1B).length ≤ 114 * l.length
  | [], _ => by simp
  | x :: l, h => by
    have a := lab1B_len (h x (by simp))
    have b := labs_flat_len (l := l) (fun y hy => h y (by simp [hy]))
    simp only [List.flatMap_cons, List.length_append, List.length_cons]; omega
theorem put_loop {l : List Lab} {vl : PV} (hv : Reads1 2 vl (l.map labV)) (hl : l.length ≤ 8) (hok : ∀ x ∈ l, okLab x) {S0 : St} {K : List Kt} {Q : Fr → St → Prop} : ∀ (r p : List Lab) (s : List UInt8), l = p ++ r → s.length + 114 * r.length ≤ 67100000 → ∀ (fr : Fr) (S : St),
    fr 23 = vl → fr 24 = .int .i64 l.length → fr 25 = .int .i64 p.length → AccG S0 1 S (fr 7) (ofBytes s) →
    (∀ fr' S', AccG S0 1 S' (fr' 7) (ofBytes (s ++ r.flatMap lab1B)) → Ok (gval T K fr' S') Q) →
    Ok (gval T (.lp z59_l0 :: .blk 0 :: K) fr S) Q := by
  intro r
  induction r with
  | nil =>
    intro p s e hs fr S h23 h24 h25 ha k
    rw [List.append_nil] at e; subst e
    rw [gval_lp]
    simp -implicitDefEqProofs [h23, h24, h25]
    exact k _ _ (by simpa using ha)
  | cons x r ih =>
    intro p s e hs fr S h23 h24 h25 ha k
    have hlt : p.length < l.length := by rw [e]; simp
    have hg := sl_get hv e
    have hw := wrap_len (a := p.length) (by omega)
    have hx := hok x (by rw [e]; simp)
    obtain ⟨l1, l2⟩ := okLab_len hx
    simp only [List.length_cons] at hs
    have hA := ha.objs [[.str x.1, .str x.2.1]]
    have t1 := textB_len (s := x.1) (by omega)
    have t2 := textB_len (s := x.2.1) (by omega)
    obtain ⟨v1, S1, a1, a2, a3⟩ := putT_raw (t := x.1) (hA.isSl (ofBytes_cells _)) (by omega) (by omega) hA.grows
    obtain ⟨v2, S2, b1, b2, b3⟩ := putT_raw (t := x.2.1) (a2.isSl (ofBytes_cells _)) (by omega) (by rw [List.length_append]; omega) a2.grows
    have ho1 : S1.objs[S.objs.length]? = some [.str x.1, .str x.2.1] := by rw [a3]; simp
    rw [gval_lp]
    simp -implicitDefEqProofs [h23, h24, h25, hlt, hg, p1, p2, pstep, putCells, a1, loadP_ptr ho1, b1, hw]
    refine ih (p ++ [x]) (s ++ textB x.1 ++ textB x.2.1) (by simp [e]) (by simp only [List.length_append]; omega) _ S2 (by simp [h23]) (by simp [h24]) (by simp) (by simpa using b2) (fun fr' S' h => k fr' S' ?_)
    simpa [lab1B] using h
theorem putL_ok {b : List UInt8} {l : List Lab} {v vl : PV} (hb : IsSl 1 v (ofBytes b)) (hbl : b.length ≤ 4194304) (hv : Reads1 2 vl (l.map labV)) (hn : ∀ x ∈ l, x.1.length ≤ maxLen) (hl : l.length ≤ maxLen) (hr : Right l) (S : St) :
    ∃ v', cval T 29 [v, vl] S = some (.tup [v', .int .i64 0], S) ∧ SlB v' (b ++ labsB l) := by
  have c1 := check_val hv hn hl S
  rw [checkN_zero.2 hr] at c1
  have hlen := hv.len
  rw [List.length_map] at hlen
  obtain ⟨v1, S1, a1, a2, a3⟩ := putU_raw hb (n := l.length) (by have := hr.1; omega) (by omega) (Grows.refl S)
  have hu := uintB_le9 (n := l.length) (by have := hr.1; omega)
  have key := cval_ex (T := T) (f := 29) (c := z59) fn_29 (args := [v, vl]) (S := S) rfl (R := fun r S2 => S2 = S ∧ ∃ v', r = .tup [v', .int .i64 0] ∧ SlB v' (b ++ labsB l)) ?_
  · obtain ⟨r, S2, h1, rfl, v', rfl, h2⟩ := key
    exact ⟨v', h1, h2⟩
  have c1' : cval T 40 [vl] S = some (.int .i64 0, S) := c1
  simp -implicitDefEqProofs [z59, c1', hlen, a1]
  refine put_loop hv hr.1 hr.2.1 (S0 := S) l [] (b ++ uintB l.length) rfl (by have := hr.1; simp only [List.length_append]; omega) _ S1 (by simp) (by simp) (by simp) (by simpa using a2) (fun fr' S' ha => ?_)
  have he : b ++ uintB l.length ++ l.flatMap lab1B = b ++ labsB l := by simp [labsB]
  rw [he] at ha
  have hf : (fr' 7).free = true ∧ (fr' 7).frz = slF (fr' 7) (ofBytes (b ++ labsB l)) := by
    rcases ha.acc with ⟨h, _⟩ | ⟨id, _, h, _⟩
    · rw [h]; exact ⟨rfl, rfl⟩
    · rw [h]; exact ⟨by simp [PV.free, ofBytes_free, PV.freeL], by simp [slF, PV.frz, ofBytes_frz, PV.frzL]⟩
  have hfin : finish false S S' (.tup [fr' 7, .int .i64 0]) = (.tup [slF (fr' 7) (ofBytes (b ++ labsB l)), .int .i64 0], S) := by
    rw [fin_free ha.grows (by simp [PV.free, PV.freeL, hf.1])]
    simp [PV.frz, PV.frzL, hf.2]
  simp [hfin]
  exact slF_byt ha
theorem fn_110 : T.fn 110 = some (.code z28) := rfl
theorem fn_111 : T.fn 111 = some (.code z31) := rfl
def getR (at_ : Nat) : List UInt8 → Nat → Nat → Nat × Nat × Nat
  | [], _, _ => (0, 0, 4)
  | d :: r, k, acc => if (k = 8 ∧ 127 < d.toNat) ∨ (0 < k ∧ d.toNat = 0) then (0, 0, 5) else if d.toNat < 128 then (acc + d.toNat % 128 * 128 ^ k, at_ + k + 1, 0) else getR at_ r (k + 1) (acc + d.toNat % 128 * 128 ^ k)
def getU (s : List UInt8) (i : Int) : Nat × Nat × Nat := if i < 0 ∨ (s.length : Int) < i then (0, 0, 2) else getR i.toNat (s.drop i.toNat) 0 0
def res3 (x : Nat × Nat × Nat) : PV := .tup [.int .i64 x.1, .int .i64 x.2.1, .int .i64 x.2.2]
theorem pow_step (k : Nat) : 128 ^ (k + 1) = 128 ^ k * 128 := Nat.pow_succ ..
theorem pow_le8 {k : Nat} (h : k ≤ 8) : 128 ^ k ≤ 72057594037927936 := Nat.le_trans (Nat.pow_le_pow_right (by decide) h) (by decide)
theorem acc_step {acc d k : Nat} (h : acc < 128 ^ k) : acc + d % 128 * 128 ^ k < 128 ^ (k + 1) := by
  have h1 : d % 128 ≤ 127 := by omega
  have h2 : d % 128 * 128 ^ k ≤ 127 * 128 ^ k := Nat.mul_le_mul_right _ h1
  rw [pow_step]; omega
theorem getR_ok : ∀ (r : List UInt8) (at_ k acc : Nat), k ≤ 8 → acc < 128 ^ k → (getR at_ r k acc).2.2 = 0 → (getR at_ r k acc).2.1 ≤ at_ + k + r.length ∧ (getR at_ r k acc).1 < 9223372036854775808
  | [], at_, k, acc, _, _, h => by simp [getR] at h
  | d :: r, at_, k, acc, hk, ha, h => by
    rw [getR] at h ⊢
    split at h
    · simp at h
    · rename_i hn
      rw [if_neg hn]
      have hs := acc_step (d := d.toNat) ha
      have hp : 128 ^ (k + 1) ≤ 9223372036854775808 := Nat.le_trans (Nat.pow_le_pow_right (by decide) (show k + 1 ≤ 9 by omega)) (by decide)
      split at h
      · rename_i hd
        rw [if_pos hd]
        simp only [List.length_cons]
        exact ⟨by omega, by omega⟩
      · rename_i hd
        rw [if_neg hd]
        have hk8 : k + 1 ≤ 8 := by
          rcases Nat.lt_or_ge k 8 with h8 | h8
          · omega
          · exact absurd (.inl ⟨by omega, by omega⟩) hn
        have := getR_ok r at_ (k + 1) _ hk8 hs h
        simp only [List.length_cons]
        exact ⟨by omega, this.2⟩
theorem getU_ok {s : List UInt8} {i : Int} (h : (getU s i).2.2 = 0) : (getU s i).2.1 ≤ s.length ∧ (getU s i).1 < 9223372036854775808 := by
  unfold getU at h ⊢
  split at h
  · simp at h
  · rename_i hi
    rw [if_neg hi]
    have := getR_ok _ _ 0 0 (by omega) (by decide) h
    rw [List.length_drop] at this
    exact ⟨by omega, this.2⟩
theorem and127_fin : ∀ m : Fin 256, andI .u8 ((m.val : Nat) : Int) 127 = ((m.val % 128 : Nat) : Int) := by decide +kernel
theorem and127 (d : UInt8) : andI .u8 (d.toNat : Int) 127 = ((d.toNat % 128 : Nat) : Int) := and127_fin ⟨d.toNat, d.toNat_lt⟩
theorem wrap_u64n {n : Nat} (h : n < 18446744073709551616) : IntKind.u64.wrap (n : Int) = (n : Int) := by
  have e : IntKind.u64.wrap (n : Int) = (n : Int) % 18446744073709551616 := by
    simp [IntKind.wrap, IntKind.bits, IntKind.signed]
  rw [e]; omega
theorem pow7 (k : Nat) : (128 : Nat) ^ k = 2 ^ (7 * k) := by
  rw [show (128 : Nat) = 2 ^ 7 from rfl, ← Nat.pow_mul]
theorem shl7 {a k : Nat} (hk : k ≤ 8) (ha : a < 128) : arith .shl (.int .u64 (a : Int)) (.int .i64 ((7 * k : Nat) : Int)) = some (.int .u64 ((a * 128 ^ k : Nat) : Int)) := by
  have h1 : ¬ (((7 * k : Nat) : Int) < 0) := by omega
  have h2 : min ((7 * k : Nat) : Int).toNat IntKind.u64.bits = 7 * k := by
    rw [Int.toNat_natCast]
    show min (7 * k) 64 = 7 * k
    omega
  have h3 : a * 128 ^ k < 18446744073709551616 := by
    have := pow_le8 hk
    have h4 : a * 128 ^ k ≤ 127 * 72057594037927936 := Nat.mul_le_mul (by omega) this
    omega
  simp only [arith, isShift, if_true, shiftOp, h1, if_false, h2]
  have e : (a : Int) * 2 ^ (7 * k) = ((a * 128 ^ k : Nat) : Int) := by rw [pow7]; simp
  rw [e, wrap_u64n h3]
theorem or_u64 {a b : Nat} (ha : a < 18446744073709551616) (hb : b < 18446744073709551616) : orI .u64 (a : Int) (b : Int) = ((a ||| b : Nat) : Int) := by
  have hlt : a ||| b < 18446744073709551616 := Nat.or_lt_two_pow (n := 64) ha hb
  unfold orI
  have e : (BitVec.ofInt IntKind.u64.bits (a : Int) ||| BitVec.ofInt IntKind.u64.bits (b : Int)).toNat = a ||| b := by
    rw [BitVec.toNat_or, BitVec.ofInt_natCast, BitVec.ofInt_natCast, BitVec.toNat_ofNat, BitVec.toNat_ofNat]
    have h1 : a % 2 ^ IntKind.u64.bits = a := Nat.mod_eq_of_lt ha
    have h2 : b % 2 ^ IntKind.u64.bits = b := Nat.mod_eq_of_lt hb
    rw [h1, h2]
  rw [e, wrap_u64n hlt]
theorem or_acc {acc x k : Nat} (hk : k ≤ 8) (h : acc < 128 ^ k) (hx : x < 128) : orI .u64 (acc : Int) ((x * 128 ^ k : Nat) : Int) = ((acc + x * 128 ^ k : Nat) : Int) := by
  have hp := pow_le8 hk
  have h4 : x * 128 ^ k ≤ 127 * 72057594037927936 := Nat.mul_le_mul (by omega) hp
  rw [or_u64 (by omega) (by omega)]
  congr 1
  rw [Nat.or_comm]
  have := Nat.shiftLeft_add_eq_or_of_lt (i := 7 * k) (b := acc) (by rw [← pow7]; exact h) x
  rw [Nat.shiftLeft_eq, ← pow7] at this
  omega
theorem byt_get {s p r : List UInt8} {d : UInt8} {v : PV} (hv : Reads1 1 v (ofBytes s)) (hl : s = p ++ d :: r) : iaddrP 1 v (.int .i64 (p.length : Int)) = some (.ref [.int .u8 d.toNat]) := by
  have h : p.length < (ofBytes s).length := by rw [ofBytes_len, hl]; simp
  have := hv.get p.length h .i64
  have e : (ofBytes s)[p.length] = .int .u8 d.toNat := by simp [hl, ofBytes]
  rw [e] at this
  exact this
theorem gu_loop {s : List UInt8} {v : PV} (hv : Reads1 1 v (ofBytes s)) {a : Nat} (ha : a + s.length ≤ 134217728) {K : List Kt} {Q : Fr → St → Prop} {S : St} : ∀ (r p : List UInt8) (acc : Nat), s = p ++ r → p.length ≤ 8 → acc < 128 ^ p.length → ∀ (fr : Fr),
    fr 1 = .int .i64 (a : Int) → fr 7 = .int .u64 (acc : Int) → fr 20 = v → fr 21 = .int .i64 s.length → fr 22 = .int .i64 p.length →
    (getR a r p.length acc = (0, 0, 4) → ∀ fr', Ok (gval T K fr' S) Q) →
    (∀ fr', fr' 4 = .int .i64 (getR a r p.length acc).1 → fr' 5 = .int .i64 (getR a r p.length acc).2.1 → fr' 6 = .int .i64 (getR a r p.length acc).2.2 → Q fr' S) →
    Ok (gval T (.lp z28_l0 :: .blk 0 :: K) fr S) Q := by
  intro r
  induction r with
  | nil =>
    intro p acc e hp hacc fr h1 h7 h20 h21 h22 k1 k2
    rw [List.append_nil] at e; subst e
    rw [gval_lp]
    simp -implicitDefEqProofs [h21, h22]
    exact k1 rfl _
  | cons d r ih =>
    intro p acc e hp hacc fr h1 h7 h20 h21 h22 k1 k2
    have hlt : p.length < s.length := by rw [e]; simp
    have hg := byt_get hv e
    have hw := wrap_len (a := p.length) (by omega)
    have hd := d.toNat_lt
    have h7k : IntKind.i64.wrap (7 * (p.length : Int)) = ((7 * p.length : Nat) : Int) := by rw [wrap_i64 (by omega) (by omega)]; omega
    have hx : d.toNat % 128 < 128 := by omega
    have hw64 := wrap_u64n (n := d.toNat % 128) (by omega)
    have hsh := shl7 (a := d.toNat % 128) hp hx
    have hor := or_acc hp hacc hx
    have hstep := acc_step (d := d.toNat) hacc
    have hpl : 128 ^ (p.length + 1) ≤ 9223372036854775808 := Nat.le_trans (Nat.pow_le_pow_right (by decide) (show p.length + 1 ≤ 9 by omega)) (by decide)
    have hA0 : acc + d.toNat % 128 * 128 ^ p.length < 9223372036854775808 := by omega
    generalize hX : d.toNat % 128 * 128 ^ p.length = X at *
    generalize hA : acc + X = A at *
    have hw64' : IntKind.u64.wrap ((d.toNat : Int) % 128) = (d.toNat : Int) % 128 := by simpa using hw64
    have h7k' : IntKind.i64.wrap (7 * (p.length : Int)) = 7 * (p.length : Int) := by simpa using h7k
    have hsh' : arith .shl (.int .u64 ((d.toNat : Int) % 128)) (.int .i64 (7 * (p.length : Int))) = some (.int .u64 (X : Int)) := by simpa using hsh
    have hwA : IntKind.i64.wrap (A : Int) = (A : Int) := by rw [wrap_i64] <;> omega
    have hn1 : IntKind.i64.wrap ((a : Int) + (p.length : Int)) = (a : Int) + (p.length : Int) := by rw [wrap_i64 (by omega) (by omega)]
    have hn2 : IntKind.i64.wrap ((a : Int) + (p.length : Int) + 1) = (a : Int) + (p.length : Int) + 1 := by rw [wrap_i64 (by omega) (by omega)]
    rw [gval_lp]
    simp -implicitDefEqProofs [h1, h7, h20, h21, h22, hlt, hg, p1]
    refine ok_br (fun c => ?_) (fun c => ?_)
    · have hc : (p.length = 8 ∧ 127 < d.toNat) ∨ (0 < p.length ∧ d.toNat = 0) := by simp at c; omega
      have hr : getR a (d :: r) p.length acc = (0, 0, 5) := by rw [getR, if_pos hc]
      rw [hr] at k2
      exact ok_ret (k2 _ (by simp) (by simp) (by simp))
    · have hc : ¬ ((p.length = 8 ∧ 127 < d.toNat) ∨ (0 < p.length ∧ d.toNat = 0)) := by simp at c; omega
      simp -implicitDefEqProofs [h1, h7, and127, hw64', h7k', hsh', hor, hwA, hn1, hn2]
      refine ok_br (fun q => ?_) (fun q => ?_)
      · have hq : d.toNat < 128 := by simp at q; omega
        have hr : getR a (d :: r) p.length acc = (A, a + p.length + 1, 0) := by rw [getR, if_neg hc, if_pos hq, hX, hA]
        rw [hr] at k2
        exact ok_ret (k2 _ (by simp) (by simp) (by simp))
      · have hq : ¬ d.toNat < 128 := by simp at q; omega
        have hr : getR a (d :: r) p.length acc = getR a r (p.length + 1) A := by rw [getR, if_neg hc, if_neg hq, hX, hA]
        rw [hr] at k1 k2
        have hlen : (p ++ [d]).length = p.length + 1 := by simp
        refine ih (p ++ [d]) A (by simp [e]) (by rw [hlen]; omega) (by rw [hlen]; exact hstep) _ (by simp [h1]) (by simp) (by simp [h20]) (by simp [h21]) (by simp [hw]) (by rw [hlen]; exact k1) (by rw [hlen]; exact k2)
theorem gu_val {s : List UInt8} {v : PV} (hv : IsSl 1 v (ofBytes s)) (hs : s.length ≤ 67108864) {i : Int} (S : St) : cval T 110 [v, .int .i64 i] S = some (res3 (getU s i), S) := by
  have hlen := hv.len
  rw [ofBytes_len] at hlen
  refine cval_ok' fn_110 rfl ?_
  simp -implicitDefEqProofs [z28, hlen]
  refine ok_br (fun c => ?_) (fun c => ?_)
  · have hc : i < 0 ∨ (s.length : Int) < i := by simpa using c
    have hr : getU s i = (0, 0, 2) := by rw [getU, if_pos hc]
    simp [hr, res3]
    rw [fin_free (Grows.refl S) rfl]; rfl
  · have hc : ¬ (i < 0 ∨ (s.length : Int) < i) := by simpa using c
    obtain ⟨a, rfl⟩ := Int.eq_ofNat_of_zero_le (show 0 ≤ i by omega)
    have ha : a ≤ s.length := by omega
    obtain ⟨v2, e1, e2⟩ := hv.lo (lo := a) (k := .i64) (by rw [ofBytes_len]; exact ha)
    have e2' : IsSl 1 v2 (ofBytes (s.drop a)) := by simpa [ofBytes] using e2
    have hlen2 := e2'.len
    rw [ofBytes_len] at hlen2
    have hr : getU s (a : Int) = getR a (s.drop a) 0 0 := by rw [getU, if_neg hc]; rfl
    have hw0 : (((s.drop a).length : Nat) : Int) = ((s.length - a : Nat) : Int) := by simp
    simp -implicitDefEqProofs [hlen, e1, hlen2]
    rw [hr]
    refine gu_loop (s := s.drop a) e2'.reads (a := a) (by rw [List.length_drop]; omega) (s.drop a) [] 0 rfl (by simp) (by simp) _ (by simp) (by simp) (by simp) (by simp) (by simp) (fun hz fr' => ?_) (fun fr' g4 g5 g6 => ?_)
    · have hz' : getR a (s.drop a) 0 0 = (0, 0, 4) := hz
      simp [hz', res3]
      rw [fin_free (Grows.refl S) rfl]; rfl
    · simp [g4, g5, g6, res3]
      rw [fin_free (Grows.refl S) rfl]; rfl
def getX (s : List UInt8) (i : Int) : List UInt8 × Nat × Nat :=
  if (getU s i).2.2 ≠ 0 then ([], 0, (getU s i).2.2) else if 65535 < (getU s i).1 then ([], 0, 3) else if s.length - (getU s i).2.1 < (getU s i).1 then ([], 0, 4) else
  ((s.drop (getU s i).2.1).take (getU s i).1, (getU s i).2.1 + (getU s i).1, 0)
def resT (x : List UInt8 × Nat × Nat) : PV := .tup [.str x.1, .int .i64 x.2.1, .int .i64 x.2.2]
end Ps
