/- Frames: sealed, Put, Get. -/
import Derived.Test.YtppjibgophfdfaaLK
namespace Ps
set_option linter.unusedSimpArgs false
open Go
theorem fn_256 : T.fn 256 = some (.code z61) := rfl
theorem fn_270 : T.fn 270 = some (.code z64) := rfl
theorem fn_342 : T.fn 342 = some (.code z36) := rfl
theorem fn_328 : T.fn 328 = some (.code z33) := rfl
theorem fn_319 : T.fn 319 = some (.code z60) := rfl
def xorI (k : IntKind) (a b : Int) : Int := k.wrap (BitVec.ofInt k.bits a ^^^ BitVec.ofInt k.bits b).toNat
@[simp] theorem ar_xor {k : IntKind} {a b : Int} : arith .xor (.int k a) (.int k b) = some (.int k (xorI k a b)) := by simp [arith, isShift, intOp, xorI]
theorem ar_shr1 {a : Int} : arith .shr (.int .u32 a) (.int .u64 1) = some (.int .u32 (a.fdiv 2)) := rfl
def stepC (c : Int) : Int := xorI .u32 (c.fdiv 2) (andI .u32 2197175160 (IntKind.u32.wrap (-andI .u32 c 1)))
def iterC : Nat → Int → Int
  | 0, c => c
  | n + 1, c => iterC n (stepC c)
def byteC (c : Int) (b : UInt8) : Int := iterC 8 (xorI .u32 c (IntKind.u32.wrap (b.toNat : Int)))
def sumC (s : List UInt8) : Int := s.foldl byteC 4294967295
def sumI (s : List UInt8) : Int := IntKind.u32.wrap (BitVec.ofInt 32 4294967295 ^^^ BitVec.ofInt 32 (sumC s)).toNat
theorem q1 {a : PV} {m : List PV} : partOf false 1 (a :: m) = some a := by simp [partOf]
theorem step_run {o : List (List PV)} {c : Int} {t : List (Nat × Nat)} : cval T 342 [.ptr o.length 0] ⟨o ++ [[.int .u32 c]], t⟩ = some (.tup [], ⟨o ++ [[.int .u32 (stepC c)]], t⟩) := by
  refine cval_ok' fn_342 rfl ?_
  have ho : (o ++ [[PV.int .u32 c]])[o.length]? = some [.int .u32 c] := by simp
  simp -implicitDefEqProofs [z36, pstep, loadP_last, q1, ar_shr1, ho, putCells]
  rw [ends_nil]
  exact finish_noalloc (b := false) (S := ⟨o ++ [[.int .u32 c]], t⟩) (S1 := ⟨o ++ [[.int .u32 (stepC c)]], t⟩) (r := .tup []) (by simp) rfl rfl rfl (fun _ _ => beqLL_eq)
theorem sum_l1 {v : PV} {o : List (List PV)} {t : List (Nat × Nat)} {K : List Kt} {Q : Fr → St → Prop} : ∀ (n j : Nat), n + j = 8 → ∀ (fr : Fr) (c : Int), fr 4 = .fn 342 [.ptr o.length 0] → fr 18 = .int .i64 (j : Int) →
    (∀ fr', fr' 3 = fr 3 → fr' 4 = fr 4 → fr' 8 = fr 8 → fr' 9 = fr 9 → fr' 10 = fr 10 → Ok (gval T K fr' ⟨o ++ [[.int .u32 (iterC n c)]], t⟩) Q) →
    Ok (gval T (.lp z64_l1 :: .blk 2 :: K) fr ⟨o ++ [[.int .u32 c]], t⟩) Q := by
  intro n
  induction n with
  | zero =>
    intro j hj fr c h4 h18 k
    have hj : j = 8 := by omega
    subst hj
    rw [gval_lp]
    simp -implicitDefEqProofs [h18]
    exact k _ (by simp) (by simp) (by simp) (by simp) (by simp)
  | succ n ih =>
    intro j hj fr c h4 h18 k
    have hlt : (j : Int) < 8 := by omega
    have hw := wrap_len (a := j) (by omega)
    have hL : ∀ fr', fr' 3 = fr 3 → fr' 4 = fr 4 → fr' 8 = fr 8 → fr' 9 = fr 9 → fr' 10 = fr 10 → fr' 18 = .int .i64 ((j + 1 : Nat) : Int) → Ok (gval T (.lp z64_l1 :: .blk 2 :: K) fr' ⟨o ++ [[.int .u32 (stepC c)]], t⟩) Q := by
      intro fr' g3 g4 g8 g9 g10 g18
      exact ih (j + 1) (by omega) fr' (stepC c) (by rw [g4, h4]) g18 (fun fr2 q3 q4 q8 q9 q10 => k fr2 (q3.trans g3) (q4.trans g4) (q8.trans g8) (q9.trans g9) (q10.trans g10))
    clear k ih
    rw [gval_lp]
    simp -implicitDefEqProofs [h18, h4, hlt, callvP, step_run]
    exact hL _ (by simp) (by simp [h4]) (by simp) (by simp) (by simp) (by simp [hw])
theorem sum_l0 {s : List UInt8} {v : PV} (hv : Reads1 1 v (ofBytes s)) (hs : s.length ≤ 67108864) {o : List (List PV)} {t : List (Nat × Nat)} {K : List Kt} {Q : Fr → St → Prop} : ∀ (rest pre : List UInt8), s = pre ++ rest → ∀ (fr : Fr) (c : Int),
    fr 3 = .ptr o.length 0 → fr 4 = .fn 342 [.ptr o.length 0] → fr 8 = v → fr 9 = .int .i64 s.length → fr 10 = .int .i64 (pre.length : Int) →
    (∀ fr', fr' 3 = .ptr o.length 0 → Ok (gval T K fr' ⟨o ++ [[.int .u32 (rest.foldl byteC c)]], t⟩) Q) →
    Ok (gval T (.lp z64_l0 :: .blk 0 :: K) fr ⟨o ++ [[.int .u32 c]], t⟩) Q := by
  intro rest
  induction rest with
  | nil =>
    intro pre hp fr c h3 h4 h8 h9 h10 k
    rw [List.append_nil] at hp; subst hp
    rw [gval_lp]
    simp -implicitDefEqProofs [h9, h10]
    exact k _ (by simp [h3])
  | cons b rest ih =>
    intro pre hp fr c h3 h4 h8 h9 h10 k
    have hi : pre.length < s.length := by rw [hp]; simp
    have hg := hv.get pre.length (by rw [ofBytes_len]; exact hi) .i64
    have hgx : (ofBytes s)[pre.length]'(by rw [ofBytes_len]; exact hi) = .int .u8 b.toNat := by simp [ofBytes, hp]
    rw [hgx, cells_int] at hg
    have hw := wrap_len (a := pre.length) (by omega)
    have hL : ∀ fr', fr' 3 = .ptr o.length 0 → fr' 4 = .fn 342 [.ptr o.length 0] → fr' 8 = v → fr' 9 = .int .i64 s.length → fr' 10 = .int .i64 ((pre.length + 1 : Nat) : Int) → Ok (gval T (.lp z64_l0 :: .blk 0 :: K) fr' ⟨o ++ [[.int .u32 (byteC c b)]], t⟩) Q := by
      intro fr' g3 g4 g8 g9 g10
      exact ih (pre ++ [b]) (by simp [hp]) fr' _ g3 g4 g8 g9 (by simpa using g10) k
    clear k ih
    have ho : (o ++ [[PV.int .u32 c]])[o.length]? = some [.int .u32 c] := by simp
    rw [gval_lp]
    simp -implicitDefEqProofs [-z64_r7_go, h3, h8, h9, h10, hi, hg, q1, pstep, loadP_last, ho, putCells]
    simp -implicitDefEqProofs
    refine sum_l1 (v := v) 8 0 rfl _ _ (by simp [h4]) (by simp) (fun fr' g3 g4 g8 g9 g10 => ?_)
    simp at g3 g4 g8 g9 g10
    simp -implicitDefEqProofs [g10, h10]
    exact hL _ (by simp [g3, h3]) (by simp [g4, h4]) (by simp [g8, h8]) (by simp [g9, h9]) (by simp [hw])
theorem sum_val {s : List UInt8} {v : PV} (hv : Reads1 1 v (ofBytes s)) (hs : s.length ≤ 67108864) (S : St) : cval T 270 [v] S = some (.int .u32 (sumI s), S) := by
  have hlen := hv.len
  rw [ofBytes_len] at hlen
  refine cval_ok' fn_270 rfl ?_
  simp -implicitDefEqProofs [z64, pstep, newObj, putCells, hlen]
  refine sum_l0 hv hs (o := S.objs) (t := S.tips) s [] rfl _ _ (by simp) (by simp) (by simp) (by simp) (by simp) (fun fr' g3 => ?_)
  simp -implicitDefEqProofs [g3, loadP_last, q1]
  have hg : Grows S ⟨S.objs ++ [[.int .u32 (s.foldl byteC 4294967295)]], S.tips⟩ := (Grows.refl S).obj _
  rw [fin_gi hg]
  rfl
end Ps
namespace Ps
set_option linter.unusedSimpArgs false
open Go
theorem u8w (n : Int) : IntKind.u8.wrap n = n % 256 := by simp [IntKind.wrap, IntKind.bits, IntKind.signed]
theorem u8_byte (n : Int) : [PV.int .u8 (IntKind.u8.wrap n)] = ofBytes [UInt8.ofNat (IntKind.u8.wrap n).toNat] := by
  have h : 0 ≤ IntKind.u8.wrap n ∧ IntKind.u8.wrap n < 256 := by rw [u8w]; omega
  simp only [ofBytes, List.map_cons, List.map_nil, List.cons.injEq, and_true]
  congr 1
  simp only [UInt8.toNat_ofNat']
  omega
def sealC (c : Int) (i : Nat) : UInt8 := UInt8.ofNat (IntKind.u8.wrap (c.fdiv (2 ^ (8 * i)))).toNat
def sealL (c : Int) : Nat → Nat → List UInt8
  | 0, _ => []
  | n + 1, i => sealC c i :: sealL c n (i + 1)
def sealB (x : List UInt8) : List UInt8 := sealL (sumI x) 4 0
theorem sealB_len (x : List UInt8) : (sealB x).length = 4 := rfl
theorem ar_shr8 {c : Int} : ∀ {i : Nat}, i < 4 → arith .shr (.int .u32 c) (.int .i64 (8 * (i : Int))) = some (.int .u32 (c.fdiv (2 ^ (8 * i))))
  | 0, _ => rfl
  | 1, _ => rfl
  | 2, _ => rfl
  | 3, _ => rfl
  | n + 4, h => by omega
theorem seal_loop {c : Int} {S0 : St} {K : List Kt} {Q : Fr → St → Prop} : ∀ (n i : Nat), n + i = 4 → ∀ (s : List UInt8) (fr : Fr) (S : St), s.length + n ≤ 1000004 → AccG S0 1 S (fr 0) (ofBytes s) → fr 5 = .int .u32 c → fr 9 = .int .i64 (i : Int) →
    (∀ fr' S', AccG S0 1 S' (fr' 0) (ofBytes (s ++ sealL c n i)) → S'.objs = S.objs → S.tips.length ≤ S'.tips.length → Ok (gval T K fr' S') Q) →
    Ok (gval T (.lp z33_l0 :: .blk 0 :: K) fr S) Q := by
  intro n
  induction n with
  | zero =>
    intro i hi s fr S hs ha h5 h9 k
    have hi : i = 4 := by omega
    subst hi
    rw [gval_lp]
    simp -implicitDefEqProofs [h9]
    exact k _ S (by simpa [sealL] using ha) rfl (Nat.le_refl _)
  | succ n ih =>
    intro i hi s fr S hs ha h5 h9 k
    have hlt : (i : Int) < 4 := by omega
    have hw := wrap_len (a := i) (by omega)
    have hw8 : IntKind.i64.wrap (8 * (i : Int)) = 8 * (i : Int) := wrap_i64 (by omega) (by omega)
    have hsh := ar_shr8 (c := c) (i := i) (by omega)
    obtain ⟨v', S', a1, a2, a3⟩ := (ha.arrs [(1, 1)]).app (bytes := 1) [PV.int .u8 (IntKind.u8.wrap (c.fdiv (2 ^ (8 * i))))] (by rw [ofBytes_len]; simp; omega)
    rw [u8_byte] at a2
    have htl : S.tips.length ≤ S'.tips.length := by
      have h1 : ∀ (v : PV) (S1 : St) (new : List PV) (v2 : PV) (S2 : St), appendTo 1 1 S1 v new = some (v2, S2) → S1.tips.length ≤ S2.tips.length := by
        intro v S1 new v2 S2 h
        unfold appendTo at h
        split at h
        · split at h
          · cases h; exact Nat.le_refl _
          · split at h
            · cases h; simp [newArr]
            · cases h
        · split at h
          · cases h; exact Nat.le_refl _
          · split at h
            · split at h
              · cases h; simp
              · cases h
            · cases h
        · cases h
      have := h1 _ _ _ _ _ a1
      simp only [List.length_append] at this
      omega
    have hL : ∀ fr', fr' 0 = v' → fr' 5 = .int .u32 c → fr' 9 = .int .i64 ((i + 1 : Nat) : Int) → Ok (gval T (.lp z33_l0 :: .blk 0 :: K) fr' S') Q := by
      intro fr' g0 g5 g9
      refine ih (i + 1) (by omega) (s ++ [sealC c i]) fr' S' (by simp; omega) (by rw [g0, ofBytes_app]; exact a2) g5 g9 (fun fr2 S2 q1 q2 q3 => k fr2 S2 ?_ (by rw [q2, a3]) (Nat.le_trans htl q3))
      simp only [sealL]
      rw [List.append_assoc] at q1
      exact q1
    clear k ih
    rw [gval_lp]
    simp -implicitDefEqProofs [h9, h5, hlt, hw8, hsh, pstep, elems, setParts, a1]
    exact hL _ (by simp) (by simp [h5]) (by simp [hw])
theorem sealed_val {s x : List UInt8} {v xv : PV} {S0 S : St} (ha : AccG S0 1 S v (ofBytes s)) (hs : s.length ≤ 1000000) (hx : IsSl 1 xv (ofBytes x)) (hxl : x.length ≤ 1000000) :
    ∃ v' S', cval T 328 [v, xv] S = some (v', S') ∧ SlB v' (s ++ sealB x) ∧ Grows S0 S' ∧ S'.objs = S.objs := by
  have hsum := sum_val hx.reads (by omega) S
  have key := cval_ex (T := T) (f := 328) (c := z33) fn_328 (args := [v, xv]) (S := S) rfl
    (R := fun r S2 => SlB r (s ++ sealB x) ∧ Grows S0 S2 ∧ S2.objs = S.objs) ?_
  · obtain ⟨r, S2, h1, h2, h3, h4⟩ := key
    exact ⟨r, S2, h1, h2, h3, h4⟩
  simp -implicitDefEqProofs [z33, hsum]
  refine seal_loop (c := sumI x) (S0 := S0) 4 0 rfl s _ S (by omega) (by simpa using ha) (by simp) (by simp) (fun fr' S' q1 q2 q3 => ?_)
  have hfree : (fr' 0).free = true := by
    rcases q1.acc with ⟨h, _⟩ | ⟨id, _, h, _⟩
    · rw [h]; rfl
    · rw [h]; simp [PV.free, ofBytes_free, PV.freeL]
  have hb := slF_byt q1
  have hfr : (fr' 0).frz = slF (fr' 0) (ofBytes (s ++ sealL (sumI x) 4 0)) := by
    rcases q1.acc with ⟨h, _⟩ | ⟨id, _, h, _⟩
    · rw [h]; rfl
    · rw [h]; simp [PV.frz, slF, ofBytes_frz, PV.frzL]
  have hfin : finish false S S' (fr' 0) = ((fr' 0).frz, ⟨S.objs, S'.tips.take S.tips.length⟩) := by
    unfold finish
    have : sol S'.objs S.objs.length solFuel (fr' 0) = some (fr' 0) := sol_of_free hfree
    simp only [Bool.false_eq_true, if_false]
    rw [this]
    simp [q2, List.take_length, beqLL_rfl']
  simp -implicitDefEqProofs [hfin]
  refine ⟨by rw [hfr]; exact hb, ?_⟩
  obtain ⟨o1, t1, e1⟩ := ha.grows
  obtain ⟨o2, t2, e2⟩ := q1.grows
  refine ⟨o1, t2.take (S.tips.length - S0.tips.length), ?_⟩
  rw [e1, e2]
  simp only [List.length_append]
  rw [List.take_append, List.take_of_length_le (by omega)]
def headB (n : Nat) : List UInt8 := [UInt8.ofNat (IntKind.u8.wrap ((n : Int).fdiv 256)).toNat, UInt8.ofNat (IntKind.u8.wrap (n : Int)).toNat]
def frameB (x : List UInt8) : List UInt8 := (headB x.length ++ x) ++ sealB (headB x.length ++ x)
theorem frameB_len (x : List UInt8) : (frameB x).length = x.length + 6 := by
  simp only [frameB, List.length_append, sealB_len, headB, List.length_cons, List.length_nil]; omega
theorem ar_shr8' {a : Int} : arith .shr (.int .i64 a) (.int .u64 8) = some (.int .i64 (a.fdiv 256)) := rfl
theorem put_ok {x : List UInt8} {xv : PV} (hx : IsSl 1 xv (ofBytes x)) (hl : x.length ≤ 65535) (S : St) : ∃ v', cval T 256 [.nils, xv] S = some (.tup [v', .int .i64 0], S) ∧ SlB v' (frameB x) := by
  have hn : IsSl 1 .nils (ofBytes []) := .inl ⟨rfl, rfl⟩
  obtain ⟨v1, S1, e1, e2, e3⟩ := own_raw hn (m := x.length + 6) (by simp; omega) (Grows.refl S)
  have hlen := hx.len
  rw [ofBytes_len] at hlen
  have hw : IntKind.i64.wrap ((x.length : Int) + 6) = (x.length : Int) + 6 := wrap_i64 (by omega) (by omega)
  have e1 : cval T 218 [.nils, .int .i64 ((x.length : Int) + 6)] S = some (v1, S1) := e1
  have hgt : ¬ (65535 : Int) < (x.length : Int) := by omega
  obtain ⟨v2, S2, a1, a2, a3⟩ := (e2.arrs [(2, 1)]).app (bytes := 1) [PV.int .u8 (IntKind.u8.wrap ((x.length : Int).fdiv 256)), PV.int .u8 (IntKind.u8.wrap (x.length : Int))] (by simp [ofBytes])
  have hh : [PV.int .u8 (IntKind.u8.wrap ((x.length : Int).fdiv 256)), PV.int .u8 (IntKind.u8.wrap (x.length : Int))] = ofBytes (headB x.length) := by
    have u1 := u8_byte ((x.length : Int).fdiv 256)
    have u2 := u8_byte (x.length : Int)
    have : headB x.length = [UInt8.ofNat (IntKind.u8.wrap ((x.length : Int).fdiv 256)).toNat] ++ [UInt8.ofNat (IntKind.u8.wrap (x.length : Int)).toNat] := rfl
    rw [this, ofBytes_app, ← u1, ← u2]; rfl
  rw [hh] at a2
  have a2 : AccG S 1 S2 v2 (ofBytes (headB x.length)) := by simpa [ofBytes] using a2
  obtain ⟨v3, S3, b1, b2, b3⟩ := a2.app (bytes := 1) (ofBytes x) (by rw [ofBytes_len, ofBytes_len]; simp [headB]; omega)
  rw [← ofBytes_app] at b2
  have hsl := b2.isSl (ofBytes_cells _)
  obtain ⟨v4, c1, c2⟩ := hsl.lo (lo := 0) (k := .i64) (by omega)
  rw [List.drop_zero] at c2
  obtain ⟨v5, S5, d1, d2, d3, d4⟩ := sealed_val b2 (by simp [headB]; omega) c2 (by simp [headB]; omega)
  refine ⟨v5, cval_ok' fn_256 rfl ?_, d2⟩
  have c1' : slcP 1 (some (.int .i64 0)) none v3 = some v4 := c1
  have hnl : lenP false .nils = some (.int .i64 0) := rfl
  have hap := hx.appd
  simp -implicitDefEqProofs [z61, hlen, hgt, hw, e1, ar_shr8', pstep, elems, setParts, a1, hap, b1, hnl, c1', d1]
  have hf := fin_free (r := .tup [v5, .int .i64 0]) d3 (by simp [PV.free, PV.freeL, d2.free])
  rw [hf]
  simp [PV.frz, PV.frzL, d2.frz]
def getF (s : List UInt8) (i : Nat) : Option (List UInt8 × Nat) :=
  match s.drop i with
  | b0 :: b1 :: r =>
    let n := b0.toNat * 256 + b1.toNat
    if r.length < 4 ∨ r.length - 4 < n then none
    else if sealB ((b0 :: b1 :: r).take (2 + n)) = ((b0 :: b1 :: r).take (6 + n)).drop (2 + n) then some (((b0 :: b1 :: r).take (2 + n)).drop 2, i + 6 + n) else none
  | _ => none
theorem nOf (b0 b1 : UInt8) : orI .i64 (IntKind.i64.wrap ((b0.toNat : Int) * 256)) (b1.toNat : Int) = ((b0.toNat * 256 + b1.toNat : Nat) : Int) := by
  have h0 := b0.toNat_lt
  have h1 := b1.toNat_lt
  rw [wrap_i64 (by omega) (by omega)]
  unfold orI
  have e : (BitVec.ofInt IntKind.i64.bits ((b0.toNat : Int) * 256) ||| BitVec.ofInt IntKind.i64.bits (b1.toNat : Int)).toNat = b0.toNat * 256 + b1.toNat := by
    rw [BitVec.toNat_or]
    have e1 : (BitVec.ofInt IntKind.i64.bits ((b0.toNat : Int) * 256)).toNat = 2 ^ 8 * b0.toNat := by
      rw [BitVec.toNat_ofInt]
      show (((b0.toNat : Int) * 256) % ((2 ^ 64 : Nat) : Int)).toNat = _
      rw [Int.emod_eq_of_lt (by omega) (by omega)]
      omega
    have e2 : (BitVec.ofInt IntKind.i64.bits (b1.toNat : Int)).toNat = b1.toNat := by
      rw [BitVec.toNat_ofInt]
      show ((b1.toNat : Int) % ((2 ^ 64 : Nat) : Int)).toNat = _
      rw [Int.emod_eq_of_lt (by omega) (by omega)]
      omega
    rw [e1, e2, ← Nat.two_pow_add_eq_or_of_lt (by omega : b1.toNat < 2 ^ 8)]
    omega
  rw [e, wrap_i64 (by omega) (by omega)]
theorem IsSl.hiW {sz : Nat} {v : PV} {es : List PV} (h : IsSl sz v es) {hi : Nat} {j : IntKind} (hh : hi ≤ es.length) : ∃ v', slcP sz none (some (.int j (hi : Int))) v = some v' ∧ IsSl sz v' (es.take hi) := by
  rcases h with ⟨rfl, rfl⟩ | ⟨tip, sp, rfl, h⟩
  · refine ⟨.nils, ?_, .inl ⟨rfl, by simp⟩⟩
    have : hi = 0 := by simpa using hh
    subst this
    rw [slcP_nils, bounds_hi (by omega)]
  · refine ⟨.sl (if hi = es.length then tip else none) (((es ++ sp).take hi).drop 0) ((es ++ sp).drop hi), ?_, .inr ⟨if hi = es.length then tip else none, (es ++ sp).drop hi, ?_, ?_⟩⟩
    · rw [slcP_sl, szOk_of h, bounds_hi (by omega)]; rfl
    · rw [List.take_append_of_le_length hh, List.drop_zero]
    · intro e he
      refine h e ?_
      rcases List.mem_append.1 he with he | he
      · exact List.mem_append_left _ (List.mem_of_mem_take he)
      · exact List.mem_of_mem_drop he
theorem ofBytes_take (s : List UInt8) (n : Nat) : (ofBytes s).take n = ofBytes (s.take n) := by simp [ofBytes, List.map_take]
theorem ofBytes_drop (s : List UInt8) (n : Nat) : (ofBytes s).drop n = ofBytes (s.drop n) := by simp [ofBytes, List.map_drop]
def GetTo : Option (List UInt8 × Nat) → PV → Prop
  | some (x, n), r => ∃ v', r = .tup [v', .int .i64 (n : Int), .int .i64 0] ∧ SlB v' x
  | none, r => ∃ e : Int, (e == 0) = false ∧ r = .tup [.nils, .int .i64 0, .int .i64 e]
theorem shl8 {a : Int} : arith .shl (.int .i64 a) (.int .u64 8) = some (.int .i64 (IntKind.i64.wrap (a * 256))) := rfl
theorem get_val {s : List UInt8} {bv : PV} (hv : IsSl 1 bv (ofBytes s)) (hs : s.length ≤ 900000) {i : Nat} (hi : i ≤ s.length) (S : St) : ∃ r, cval T 319 [bv, .int .i64 (i : Int)] S = some (r, S) ∧ GetTo (getF s i) r := by
  have hlen := hv.len
  rw [ofBytes_len] at hlen
  obtain ⟨rv, e1, e2⟩ := hv.lo (lo := i) (k := .i64) (by rw [ofBytes_len]; exact hi)
  rw [ofBytes_drop] at e2
  have hi1 : ¬ (i : Int) < 0 := by omega
  have hi2 : ¬ (s.length : Int) < (i : Int) := by omega
  obtain ⟨r, hr⟩ : ∃ r, r = s.drop i := ⟨_, rfl⟩
  rw [← hr] at e2
  have hrl : r.length = s.length - i := by rw [hr, List.length_drop]
  have hrlen := e2.len
  rw [ofBytes_len] at hrlen
  have fno : ∀ (S1 : St) (e : Int), Grows S S1 → finish false S S1 (.tup [.nils, .int .i64 0, .int .i64 e]) = (.tup [.nils, .int .i64 0, .int .i64 e], S) := fun S1 e hg => by
    have := fin_free (r := .tup [.nils, .int .i64 0, .int .i64 e]) hg rfl
    rw [this]; rfl
  have bad : ∀ e : Int, (e == 0) = false → getF s i = none → GetTo (getF s i) (.tup [.nils, .int .i64 0, .int .i64 e]) := fun e he hn => by rw [hn]; exact ⟨e, he, rfl⟩
  by_cases h6 : r.length < 6
  · have h6' : (r.length : Int) < 6 := by omega
    have hn : getF s i = none := by
      unfold getF
      rw [← hr]
      match r, h6 with
      | [], _ => rfl
      | [_], _ => rfl
      | b0 :: b1 :: t, h6 =>
        simp only [List.length_cons] at h6
        simp only
        rw [if_pos (.inl (by omega))]
    refine ⟨_, cval_ok' fn_319 rfl ?_, bad 4 rfl hn⟩
    simp -implicitDefEqProofs [z60, hlen, hi1, hi2, e1, hrlen, h6, h6', fno S 4 (Grows.refl S)]
  · have h6' : ¬ (r.length : Int) < 6 := by omega
    obtain ⟨b0, b1, t, ht⟩ : ∃ b0 b1 t, r = b0 :: b1 :: t := by
      match r, h6 with
      | [], h6 => simp at h6
      | [_], h6 => simp at h6
      | b0 :: b1 :: t, _ => exact ⟨_, _, _, rfl⟩
    have htl : t.length + 2 = r.length := by rw [ht]; simp
    have h0 := e2.reads.get 0 (by rw [ofBytes_len]; omega) .i64
    have h1 := e2.reads.get 1 (by rw [ofBytes_len]; omega) .i64
    have hx0 : (ofBytes r)[0]'(by rw [ofBytes_len]; omega) = .int .u8 b0.toNat := by simp [ofBytes, ht]
    have hx1 : (ofBytes r)[1]'(by rw [ofBytes_len]; omega) = .int .u8 b1.toNat := by simp [ofBytes, ht]
    rw [hx0, cells_int] at h0
    rw [hx1, cells_int] at h1
    have h0 : iaddrP 1 rv (.int .i64 0) = some (.ref [.int .u8 b0.toNat]) := h0
    have h1 : iaddrP 1 rv (.int .i64 1) = some (.ref [.int .u8 b1.toNat]) := h1
    have l0 := b0.toNat_lt
    have l1 := b1.toNat_lt
    have w0 : IntKind.i64.wrap (b0.toNat : Int) = (b0.toNat : Int) := wrap_i64 (by omega) (by omega)
    have w1 : IntKind.i64.wrap (b1.toNat : Int) = (b1.toNat : Int) := wrap_i64 (by omega) (by omega)
    have hn := nOf b0 b1
    obtain ⟨n, hnn⟩ : ∃ n : Nat, n = b0.toNat * 256 + b1.toNat := ⟨_, rfl⟩
    rw [← hnn] at hn
    have w6 : IntKind.i64.wrap ((r.length : Int) - 6) = (r.length : Int) - 6 := wrap_i64 (by omega) (by omega)
    have hget : getF s i = if r.length - 6 < n then none else if sealB (r.take (2 + n)) = (r.take (6 + n)).drop (2 + n) then some ((r.take (2 + n)).drop 2, i + 6 + n) else none := by
      unfold getF
      rw [← hr, ht]
      simp only [← hnn, List.length_cons]
      have q1 : (t.length < 4 ∨ t.length - 4 < n) ↔ (t.length + 1 + 1 - 6 < n) := by omega
      by_cases hc : t.length + 1 + 1 - 6 < n
      · rw [if_pos (q1.2 hc), if_pos hc]
      · rw [if_neg (fun h => hc (q1.1 h)), if_neg hc]
    by_cases hlt : r.length - 6 < n
    · have hlt' : (r.length : Int) - 6 < (n : Int) := by omega
      refine ⟨_, cval_ok' fn_319 rfl ?_, bad 4 rfl (by rw [hget, if_pos hlt])⟩
      simp -implicitDefEqProofs [z60, hlen, hi1, hi2, e1, hrlen, h6, h6', h0, h1, q1, w0, w1, shl8, hn, w6, hlt', fno S 4 (Grows.refl S)]
    · have hlt' : ¬ (r.length : Int) - 6 < (n : Int) := by omega
      have w2 : IntKind.i64.wrap (2 + (n : Int)) = ((2 + n : Nat) : Int) := by rw [wrap_i64 (by omega) (by omega)]; omega
      have w7 : IntKind.i64.wrap (6 + (n : Int)) = ((6 + n : Nat) : Int) := by rw [wrap_i64 (by omega) (by omega)]; omega
      obtain ⟨va, a1, a2⟩ := e2.hiW (hi := 2 + n) (j := .i64) (by rw [ofBytes_len]; omega)
      obtain ⟨vb, b1', b2⟩ := e2.lh (lo := 2 + n) (hi := 6 + n) (k := .i64) (j := .i64) (by omega) (by rw [ofBytes_len]; omega)
      obtain ⟨vc, c1, c2⟩ := e2.lh (lo := 2) (hi := 2 + n) (k := .i64) (j := .i64) (by omega) (by rw [ofBytes_len]; omega)
      rw [ofBytes_take] at a2
      rw [ofBytes_take, ofBytes_drop] at b2 c2
      have c1 : slcP 1 (some (.int .i64 2)) (some (.int .i64 ((2 + n : Nat) : Int))) rv = some vc := c1
      obtain ⟨v5, S5, d1, d2, d3, d4⟩ := sealed_val (s := []) (accg_nil 1 (Grows.refl S)) (by simp) a2 (by rw [List.length_take]; omega)
      rw [List.nil_append] at d2
      push_cast at w2 w7 a1 b1' c1
      have st1 := toStr_of d2.isl
      have st2 := toStr_of b2
      by_cases he : sealB (r.take (2 + n)) = (r.take (6 + n)).drop (2 + n)
      · obtain ⟨v6, S6, f1, f2, f3⟩ := own_raw c2 (m := 0) (by rw [List.length_drop, List.length_take]; omega) d3
        have f1 : cval T 218 [vc, .int .i64 0] S5 = some (v6, S6) := f1
        have w8 : IntKind.i64.wrap ((i : Int) + 6) = (i : Int) + 6 := wrap_i64 (by omega) (by omega)
        have w9 : IntKind.i64.wrap ((i : Int) + 6 + (n : Int)) = (i : Int) + 6 + (n : Int) := wrap_i64 (by omega) (by omega)
        have hb := slF_byt f2
        have hfree : v6.free = true := by
          rcases f2.acc with ⟨h, _⟩ | ⟨id, _, h, _⟩
          · rw [h]; rfl
          · rw [h]; simp [PV.free, ofBytes_free, PV.freeL]
        have hfr : v6.frz = slF v6 (ofBytes ((r.take (2 + n)).drop 2)) := by
          rcases f2.acc with ⟨h, _⟩ | ⟨id, _, h, _⟩
          · rw [h]; rfl
          · rw [h]; simp [PV.frz, slF, ofBytes_frz, PV.frzL]
        have hfin : finish false S S6 (.tup [v6, .int .i64 ((i : Int) + 6 + (n : Int)), .int .i64 0]) = (.tup [slF v6 (ofBytes ((r.take (2 + n)).drop 2)), .int .i64 ((i : Int) + 6 + (n : Int)), .int .i64 0], S) := by
          rw [fin_free f2.grows (by simp [PV.free, PV.freeL, hfree])]
          simp [PV.frz, PV.frzL, hfr]
        refine ⟨_, cval_ok' fn_319 rfl ?_, by rw [hget, if_neg hlt, if_pos he]; exact ⟨_, rfl, hb⟩⟩
        rw [← he] at st2
        simp -implicitDefEqProofs [z60, hlen, hi1, hi2, e1, hrlen, h6, h6', h0, h1, q1, w0, w1, shl8, hn, w6, hlt', w2, w7, a1, b1', c1, d1, st1, st2, f1, w8, w9, hfin]
      · have he' : (sealB (r.take (2 + n)) == (r.take (6 + n)).drop (2 + n)) = false := by simpa using he
        refine ⟨_, cval_ok' fn_319 rfl ?_, bad 5 rfl (by rw [hget, if_neg hlt, if_neg he])⟩
        simp -implicitDefEqProofs [z60, hlen, hi1, hi2, e1, hrlen, h6, h6', h0, h1, q1, w0, w1, shl8, hn, w6, hlt', w2, w7, a1, b1', c1, d1, st1, st2, he', fno S5 5 d3]
end Ps
