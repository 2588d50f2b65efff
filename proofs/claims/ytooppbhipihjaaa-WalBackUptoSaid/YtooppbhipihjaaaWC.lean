/- Bytes of posting lists, both; zig-zag, both. -/
import Derived.Test.YtooppbhipihjaaaWB
import Derived.Test.YtooppbhipihjaaaLM
namespace Ps
set_option linter.unusedSimpArgs false
set_option linter.unusedVariables false
open Go

theorem fn_241 : T.fn 241 = some (.code wal_zig) := rfl
theorem fn_326 : T.fn 326 = some (.code ref11_Zig) := rfl
theorem fn_242 : T.fn 242 = some (.code posting_Put) := rfl
theorem fn_327 : T.fn 327 = some (.code ref09_Bytes) := rfl

def zigN (v : Int) : Nat := if v < 0 then (-2 * v - 1).toNat else (2 * v).toNat
theorem zig_pval {v : Int} (h1 : -1152921504606846976 ≤ v) (h2 : v ≤ 1152921504606846976) : pval T 241 [.int .i64 v] = some (.int .i64 (zigN v : Nat)) := by
  refine pval_st ?_ rfl rfl
  refine cval_ok' fn_241 rfl ?_
  by_cases h : v < 0
  · have hz : (zigN v : Int) = -2 * v - 1 := by unfold zigN; rw [if_pos h]; omega
    have w1 : IntKind.i64.wrap (-2 * v) = -2 * v := wrap_i64 (by omega) (by omega)
    have w2 : IntKind.i64.wrap (-2 * v - 1) = -2 * v - 1 := wrap_i64 (by omega) (by omega)
    rw [hz]
    simp -implicitDefEqProofs [wal_zig, h, w1, w2]
  · have hz : (zigN v : Int) = 2 * v := by unfold zigN; rw [if_neg h]; omega
    have w1 : IntKind.i64.wrap (2 * v) = 2 * v := wrap_i64 (by omega) (by omega)
    rw [hz]
    simp -implicitDefEqProofs [wal_zig, h, w1]
theorem rzig_pval {v : Int} (h1 : -1152921504606846976 ≤ v) (h2 : v ≤ 1152921504606846976) : pval T 326 [.int .i64 v] = some (.int .i64 (zigN v : Nat)) := by
  refine pval_st ?_ rfl rfl
  refine cval_ok' fn_326 rfl ?_
  by_cases h : v < 0
  · have hz : (zigN v : Int) = -2 * v - 1 := by unfold zigN; rw [if_pos h]; omega
    have w1 : IntKind.i64.wrap (-2 * v) = -2 * v := wrap_i64 (by omega) (by omega)
    have w2 : IntKind.i64.wrap (-2 * v - 1) = -2 * v - 1 := wrap_i64 (by omega) (by omega)
    rw [hz]
    simp -implicitDefEqProofs [ref11_Zig, h, w1, w2]
  · have hz : (zigN v : Int) = 2 * v := by unfold zigN; rw [if_neg h]; omega
    have w1 : IntKind.i64.wrap (2 * v) = 2 * v := wrap_i64 (by omega) (by omega)
    rw [hz]
    simp -implicitDefEqProofs [ref11_Zig, h, w1]
theorem zigN_lt {v : Int} (h1 : -1152921504606846976 ≤ v) (h2 : v ≤ 1152921504606846976) : zigN v < 9223372036854775808 := by
  unfold zigN; split <;> omega

theorem AccG.grow {S0 S S1 : St} {sz : Nat} {v : PV} {es : List PV} (h : AccG S0 sz S v es) (g : Grows S S1) : AccG S0 sz S1 v es := by
  refine ⟨h.grows.trans g, ?_⟩
  rcases h.acc with a | ⟨id, a, b, c⟩
  · exact .inl a
  · exact .inr ⟨id, a, b, g.tip c⟩
/-! Posting lists. -/
def ascI (prev : Int) : List Int → Prop
  | [] => True
  | n :: l => prev ≤ n ∧ n ≤ 1099511627776 ∧ ascI n l
theorem postR_asc : ∀ (l : List Int) (p : Int), postR (some p) l = 0 → ascI p l := by
  intro l
  induction l with
  | nil => intro p _; trivial
  | cons n l ih =>
    intro p h
    rw [postR_cons] at h
    by_cases a : n < 0 ∨ 1099511627776 < n
    · rw [if_pos a] at h; cases h
    · rw [if_neg a] at h
      by_cases b : n ≤ p
      · rw [if_pos (by simpa using b)] at h; cases h
      · rw [if_neg (by simpa using b)] at h
        exact ⟨by omega, by omega, ih n h⟩
theorem postN_asc {l : List Int} (h : postN l = 0) : l.length ≤ 1024 ∧ ascI 0 l := by
  unfold postN at h
  by_cases c : 1024 < l.length
  · rw [if_pos c] at h; cases h
  · rw [if_neg c] at h
    refine ⟨by omega, ?_⟩
    cases l with
    | nil => trivial
    | cons n l =>
      rw [postR_cons] at h
      by_cases a : n < 0 ∨ 1099511627776 < n
      · rw [if_pos a] at h; cases h
      · rw [if_neg a, if_neg (by simp)] at h
        exact ⟨by omega, by omega, postR_asc l n h⟩
def postD (prev : Int) : List Int → List UInt8
  | [] => []
  | n :: l => uintB (n - prev).toNat ++ postD n l
theorem postD_cons (p n : Int) (l : List Int) : postD p (n :: l) = uintB (n - p).toNat ++ postD n l := rfl
def postB (l : List Int) : List UInt8 := uintB l.length ++ postD 0 l
theorem postD_len : ∀ (l : List Int) (p : Int), 0 ≤ p → ascI p l → (postD p l).length ≤ 9 * l.length := by
  intro l
  induction l with
  | nil => intro p _ _; simp [postD]
  | cons n l ih =>
    intro p hp h
    obtain ⟨h1, h2, h3⟩ := h
    have a := ih n (by omega) h3
    have b := uintB_le9 (n := (n - p).toNat) (by omega)
    rw [postD_cons, List.length_append, List.length_cons]; omega

theorem pput_loop {l : List Int} {vl : PV} (hv : Reads1 1 vl (nV l)) (hl : l.length ≤ 1024) {S0 : St} {K : List Kt} {Q : Fr → St → Prop} : ∀ (r p : List Int) (s : List UInt8) (d : Int), l = p ++ r → 0 ≤ d → d ≤ 1099511627776 → ascI d r → s.length + 9 * r.length ≤ 67100000 → ∀ (fr : Fr) (S : St),
    fr 24 = vl → fr 25 = .int .i64 l.length → fr 26 = .int .i64 p.length → fr 9 = .int .i64 d → AccG S0 1 S (fr 7) (ofBytes s) →
    (∀ fr' S', AccG S0 1 S' (fr' 7) (ofBytes (s ++ postD d r)) → S'.objs = S.objs → Ok (gval T K fr' S') Q) →
    Ok (gval T (.lp posting_Put_l0 :: .blk 0 :: K) fr S) Q := by
  intro r
  induction r with
  | nil =>
    intro p s d e hd0 hd1 hasc hs fr S h24 h25 h26 h9 ha k
    rw [List.append_nil] at e; subst e
    rw [gval_lp]
    simp -implicitDefEqProofs [h24, h25, h26]
    exact k _ _ (by simpa [postD] using ha) rfl
  | cons n r ih =>
    intro p s d e hd0 hd1 hasc hs fr S h24 h25 h26 h9 ha k
    obtain ⟨c1, c2, c3⟩ := hasc
    have hlt : p.length < l.length := by rw [e]; simp
    have hg := nV_get hv e (k := .i64)
    have hw := wrap_len (a := p.length) (by omega)
    have hw2 : IntKind.i64.wrap (n - d) = n - d := wrap_i64 (by omega) (by omega)
    have hnd : (((n - d).toNat : Nat) : Int) = n - d := by omega
    simp only [List.length_cons] at hs
    have hu := uintB_le9 (n := (n - d).toNat) (by omega)
    obtain ⟨v1, S1, a1, a2, a3⟩ := putU_raw (n := (n - d).toNat) (ha.isSl (ofBytes_cells _)) (by omega) (by omega) ha.grows
    rw [hnd] at a1
    rw [gval_lp]
    simp -implicitDefEqProofs [h24, h25, h26, h9, hlt, hg, pt1, hw2, a1, hw]
    refine ih (p ++ [n]) (s ++ uintB (n - d).toNat) n (by simp [e]) (by omega) c2 c3 (by simp only [List.length_append]; omega) _ S1 (by simp [h24]) (by simp [h25]) (by simp [hw]) (by simp) (by simpa using a2) (fun fr' S' h h2 => k fr' S' ?_ (by rw [h2, a3]))
    rw [postD_cons, ← List.append_assoc]; exact h

theorem rpput_loop {l : List Int} {vl : PV} (hv : Reads1 1 vl (nV l)) (hl : l.length ≤ 1024) {S0 : St} {K : List Kt} {Q : Fr → St → Prop} : ∀ (r p : List Int) (s : List UInt8) (d : Int), l = p ++ r → 0 ≤ d → d ≤ 1099511627776 → ascI d r → s.length + 9 * r.length ≤ 67100000 → ∀ (fr : Fr) (S : St),
    fr 0 = vl → fr 5 = .int .i64 p.length → fr 4 = .int .i64 d → AccG S0 1 S (fr 3) (ofBytes s) →
    (∀ fr' S', AccG S0 1 S' (fr' 3) (ofBytes (s ++ postD d r)) → Ok (gval T K fr' S') Q) →
    Ok (gval T (.lp ref09_Bytes_l0 :: .blk 0 :: K) fr S) Q := by
  have hlen := hv.len
  rw [nV_len] at hlen
  intro r
  induction r with
  | nil =>
    intro p s d e hd0 hd1 hasc hs fr S h0 h5 h4 ha k
    rw [List.append_nil] at e; subst e
    rw [gval_lp]
    simp -implicitDefEqProofs [h0, h5, hlen]
    exact k _ _ (by simpa [postD] using ha)
  | cons n r ih =>
    intro p s d e hd0 hd1 hasc hs fr S h0 h5 h4 ha k
    obtain ⟨c1, c2, c3⟩ := hasc
    have hlt : p.length < l.length := by rw [e]; simp
    have hg := nV_get hv e (k := .i64)
    have hw := wrap_len (a := p.length) (by omega)
    have hw2 : IntKind.i64.wrap (n - d) = n - d := wrap_i64 (by omega) (by omega)
    have hnd : (((n - d).toNat : Nat) : Int) = n - d := by omega
    simp only [List.length_cons] at hs
    have hu := uintB_le9 (n := (n - d).toNat) (by omega)
    obtain ⟨v1, S1, a1, a2, a3⟩ := ruint_raw (n := (n - d).toNat) (by omega) (Grows.refl S)
    rw [hnd] at a1
    obtain ⟨v2, S2, b1, b2, b3⟩ := (ha.grow a2.grows).app (bytes := 1) (ofBytes (uintB (n - d).toNat)) (by rw [ofBytes_len, ofBytes_len]; omega)
    rw [← ofBytes_app] at b2
    rw [gval_lp]
    simp -implicitDefEqProofs [h0, h5, h4, hlen, hlt, hg, pt1, hw2, a1, (a2.isSl (ofBytes_cells _)).appd, b1, hw]
    refine ih (p ++ [n]) (s ++ uintB (n - d).toNat) n (by simp [e]) (by omega) c2 c3 (by simp only [List.length_append]; omega) _ S2 (by simp [h0]) (by simp [hw]) (by simp) (by simpa using b2) (fun fr' S' h => k fr' S' ?_)
    rw [postD_cons, ← List.append_assoc]; exact h

/-- posting.Put lays a posting list behind bytes. -/
theorem pput_val {b : List UInt8} {l : List Int} {v vl : PV} (hb : IsSl 1 v (ofBytes b)) (hbl : b.length ≤ 4194304) (hv : Reads1 1 vl (nV l)) (hr : postN l = 0) (S : St) :
    ∃ v', cval T 242 [v, vl] S = some (.tup [v', .int .i64 0], S) ∧ SlB v' (b ++ postB l) := by
  obtain ⟨hl, hasc⟩ := postN_asc hr
  have c1 := pcheck_val hv S
  rw [hr] at c1
  have hlen := hv.len
  rw [nV_len] at hlen
  obtain ⟨v1, S1, a1, a2, a3⟩ := putU_raw hb (n := l.length) (by omega) (by omega) (Grows.refl S)
  have hu := uintB_le9 (n := l.length) (by omega)
  have key := cval_ex (T := T) (f := 242) (c := posting_Put) fn_242 (args := [v, vl]) (S := S) rfl (R := fun r S2 => S2 = S ∧ ∃ v', r = .tup [v', .int .i64 0] ∧ SlB v' (b ++ postB l)) ?_
  · obtain ⟨r, S2, h1, rfl, v', rfl, h2⟩ := key
    exact ⟨v', h1, h2⟩
  have c1' : cval T 318 [vl] S = some (.int .i64 0, S) := c1
  simp -implicitDefEqProofs [posting_Put, c1', hlen, a1]
  refine pput_loop hv hl (S0 := S) l [] (b ++ uintB l.length) 0 rfl (by omega) (by omega) hasc (by simp only [List.length_append]; omega) _ S1 (by simp) (by simp) (by simp) (by simp) (by simpa using a2) (fun fr' S' ha _ => ?_)
  have he : b ++ uintB l.length ++ postD 0 l = b ++ postB l := by simp [postB]
  rw [he] at ha
  have hf : (fr' 7).free = true ∧ (fr' 7).frz = slF (fr' 7) (ofBytes (b ++ postB l)) := by
    rcases ha.acc with ⟨h, _⟩ | ⟨id, _, h, _⟩
    · rw [h]; exact ⟨rfl, rfl⟩
    · rw [h]; exact ⟨by simp [PV.free, ofBytes_free, PV.freeL], by simp [slF, PV.frz, ofBytes_frz, PV.frzL]⟩
  have hfin : finish false S S' (.tup [fr' 7, .int .i64 0]) = (.tup [slF (fr' 7) (ofBytes (b ++ postB l)), .int .i64 0], S) := by
    rw [fin_free ha.grows (by simp [PV.free, PV.freeL, hf.1])]
    simp [PV.frz, PV.frzL, hf.2]
  simp [hfin]
  exact slF_byt ha
theorem rpput_val {l : List Int} {vl : PV} (hv : Reads1 1 vl (nV l)) (hr : postN l = 0) (S : St) :
    ∃ v', cval T 327 [vl] S = some (v', S) ∧ SlB v' (postB l) := by
  obtain ⟨hl, hasc⟩ := postN_asc hr
  have hlen := hv.len
  rw [nV_len] at hlen
  obtain ⟨v1, S1, a1, a2, a3⟩ := ruint_raw (n := l.length) (by omega) (Grows.refl S)
  have hu := uintB_le9 (n := l.length) (by omega)
  have key := cval_ex (T := T) (f := 327) (c := ref09_Bytes) fn_327 (args := [vl]) (S := S) rfl (R := fun r S2 => S2 = S ∧ SlB r (postB l)) ?_
  · obtain ⟨r, S2, h1, rfl, h2⟩ := key
    exact ⟨r, h1, h2⟩
  simp -implicitDefEqProofs [ref09_Bytes, hlen, a1]
  refine rpput_loop hv hl (S0 := S) l [] (uintB l.length) 0 rfl (by omega) (by omega) hasc (by omega) _ S1 (by simp) (by simp) (by simp) (by simpa using a2) (fun fr' S' ha => ?_)
  have ha' : AccG S 1 S' (fr' 3) (ofBytes (postB l)) := ha
  have hfin := ha'.fin (ofBytes_free _) (ofBytes_frz _)
  simp [hfin]
  exact slF_byt ha'
end Ps
