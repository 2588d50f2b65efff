/- Bytes of a record: the program's. -/
import Derived.Test.YtppjibgophfdfaaWB
import Derived.Test.YtppjibgophfdfaaLM
namespace Ps
set_option linter.unusedSimpArgs false
open Go
theorem fn_241 : T.fn 241 = some (.code z71) := rfl
theorem fn_242 : T.fn 242 = some (.code z41) := rfl
def zigN (v : Int) : Nat := if v < 0 then (-2 * v - 1).toNat else (2 * v).toNat
theorem zig_pval {v : Int} (h1 : -1152921504606846976 ≤ v) (h2 : v ≤ 1152921504606846976) : pval T 241 [.int .i64 v] = some (.int .i64 (zigN v : Nat)) := by
  refine pval_st ?_ rfl rfl
  refine cval_ok' fn_241 rfl ?_
  by_cases h : v < 0
  · have hz : (zigN v : Int) = -2 * v - 1 := by unfold zigN; rw [if_pos h]; omega
    have w1 : IntKind.i64.wrap (-2 * v) = -2 * v := wrap_i64 (by omega) (by omega)
    have w2 : IntKind.i64.wrap (-2 * v - 1) = -2 * v - 1 := wrap_i64 (by omega) (by omega)
    rw [hz]
    simp -implicitDefEqProofs [z71, h, w1, w2]
  · have hz : (zigN v : Int) = 2 * v := by unfold zigN; rw [if_neg h]; omega
    have w1 : IntKind.i64.wrap (2 * v) = 2 * v := wrap_i64 (by omega) (by omega)
    rw [hz]
    simp -implicitDefEqProofs [z71, h, w1]
theorem zigN_lt {v : Int} (h1 : -1152921504606846976 ≤ v) (h2 : v ≤ 1152921504606846976) : zigN v < 9223372036854775808 := by
  unfold zigN; split <;> omega
theorem AccG.grow {S0 S S1 : St} {sz : Nat} {v : PV} {es : List PV} (h : AccG S0 sz S v es) (g : Grows S S1) : AccG S0 sz S1 v es := by
  refine ⟨h.grows.trans g, ?_⟩
  rcases h.acc with a | ⟨id, a, b, c⟩
  · exact .inl a
  · exact .inr ⟨id, a, b, g.tip c⟩
def ascI (prev : Int) : List Int → Prop
  | [] => True
  | n :: l => prev ≤ n ∧ n ≤ 1099511627776 ∧ ascI n l
theorem postR_asc : ∀ (l : List Int) (p : Int), postR (some p) l = 0 → ascI p l := by
  intro l
  induction l with
  | nil => intro p _; trivial
  | cons n l ih =>
    intro p h
    rw [postR_cons] at h
    by_cases a : n < 0 ∨ 1099511627776 < n
    · rw [if_pos a] at h; cases h
    · rw [if_neg a] at h
      by_cases b : n ≤ p
      · rw [if_pos (by simpa using b)] at h; cases h
      · rw [if_neg (by simpa using b)] at h
        exact ⟨by omega, by omega, ih n h⟩
theorem postN_asc {l : List Int} (h : postN l = 0) : l.length ≤ 1024 ∧ ascI 0 l := by
  unfold postN at h
  by_cases c : 1024 < l.length
  · rw [if_pos c] at h; cases h
  · rw [if_neg c] at h
    refine ⟨by omega, ?_⟩
    cases l with
    | nil => trivial
    | cons n l =>
      rw [postR_cons] at h
      by_cases a : n < 0 ∨ 1099511627776 < n
      · rw [if_pos a] at h; cases h
      · rw [if_neg a, if_neg (by simp)] at h
        exact ⟨by omega, by omega, postR_asc l n h⟩
def postD (prev : Int) : List Int → List UInt8
  | [] => []
  | n :: l => uintB (n - prev).toNat ++ postD n l
theorem postD_cons (p n : Int) (l : List Int) : postD p (n :: l) = uintB (n - p).toNat ++ postD n l := rfl
def postB (l : List Int) : List UInt8 := uintB l.length ++ postD 0 l
theorem postD_len : ∀ (l : List Int) (p : Int), 0 ≤ p → ascI p l → (postD p l).length ≤ 9 * l.length := by
  intro l
  induction l with
  | nil => intro p _ _; simp [postD]
  | cons n l ih =>
    intro p hp h
    obtain ⟨h1, h2, h3⟩ := h
    have a := ih n (by omega) h3
    have b := uintB_le9 (n := (n - p).toNat) (by omega)
    rw [postD_cons, List.length_append, List.length_cons]; omega
theorem pput_loop {l : List Int} {vl : PV} (hv : Reads1 1 vl (nV l)) (hl : l.length ≤ 1024) {S0 : St} {K : List Kt} {Q : Fr → St → Prop} : ∀ (r p : List Int) (s : List UInt8) (d : Int), l = p ++ r → 0 ≤ d → d ≤ 1099511627776 → ascI d r → s.length + 9 * r.length ≤ 67100000 → ∀ (fr : Fr) (S : St),
    fr 24 = vl → fr 25 = .int .i64 l.length → fr 26 = .int .i64 p.length → fr 9 = .int .i64 d → AccG S0 1 S (fr 7) (ofBytes s) →
    (∀ fr' S', AccG S0 1 S' (fr' 7) (ofBytes (s ++ postD d r)) → S'.objs = S.objs → Ok (gval T K fr' S') Q) →
    Ok (gval T (.lp z41_l0 :: .blk 0 :: K) fr S) Q := by
  intro r
  induction r with
  | nil =>
    intro p s d e hd0 hd1 hasc hs fr S h24 h25 h26 h9 ha k
    rw [List.append_nil] at e; subst e
    rw [gval_lp]
    simp -implicitDefEqProofs [h24, h25, h26]
    exact k _ _ (by simpa [postD] using ha) rfl
  | cons n r ih =>
    intro p s d e hd0 hd1 hasc hs fr S h24 h25 h26 h9 ha k
    obtain ⟨c1, c2, c3⟩ := hasc
    have hlt : p.length < l.length := by rw [e]; simp
    have hg := nV_get hv e (k := .i64)
    have hw := wrap_len (a := p.length) (by omega)
    have hw2 : IntKind.i64.wrap (n - d) = n - d := wrap_i64 (by omega) (by omega)
    have hnd : (((n - d).toNat : Nat) : Int) = n - d := by omega
    simp only [List.length_cons] at hs
    have hu := uintB_le9 (n := (n - d).toNat) (by omega)
    obtain ⟨v1, S1, a1, a2, a3⟩ := putU_raw (n := (n - d).toNat) (ha.isSl (ofBytes_cells _)) (by omega) (by omega) ha.grows
    rw [hnd] at a1
    rw [gval_lp]
    simp -implicitDefEqProofs [h24, h25, h26, h9, hlt, hg, pt1, hw2, a1, hw]
    refine ih (p ++ [n]) (s ++ uintB (n - d).toNat) n (by simp [e]) (by omega) c2 c3 (by simp only [List.length_append]; omega) _ S1 (by simp [h24]) (by simp [h25]) (by simp [hw]) (by simp) (by simpa using a2) (fun fr' S' h h2 => k fr' S' ?_ (by rw [h2, a3]))
    rw [postD_cons, ← List.append_assoc]; exact h
theorem pput_val {b : List UInt8} {l : List Int} {v vl : PV} (hb : IsSl 1 v (ofBytes b)) (hbl : b.length ≤ 4194304) (hv : Reads1 1 vl (nV l)) (hr : postN l = 0) (S : St) :
    ∃ v', cval T 242 [v, vl] S = some (.tup [v', .int .i64 0], S) ∧ SlB v' (b ++ postB l) := by
  obtain ⟨hl, hasc⟩ := postN_asc hr
  have c1 := pcheck_val hv S
  rw [hr] at c1
  have hlen := hv.len
  rw [nV_len] at hlen
  obtain ⟨v1, S1, a1, a2, a3⟩ := putU_raw hb (n := l.length) (by omega) (by omega) (Grows.refl S)
  have hu := uintB_le9 (n := l.length) (by omega)
  have key := cval_ex (T := T) (f := 242) (c := z41) fn_242 (args := [v, vl]) (S := S) rfl (R := fun r S2 => S2 = S ∧ ∃ v', r = .tup [v', .int .i64 0] ∧ SlB v' (b ++ postB l)) ?_
  · obtain ⟨r, S2, h1, rfl, v', rfl, h2⟩ := key
    exact ⟨v', h1, h2⟩
  have c1' : cval T 318 [vl] S = some (.int .i64 0, S) := c1
  simp -implicitDefEqProofs [z41, c1', hlen, a1]
  refine pput_loop hv hl (S0 := S) l [] (b ++ uintB l.length) 0 rfl (by omega) (by omega) hasc (by simp only [List.length_append]; omega) _ S1 (by simp) (by simp) (by simp) (by simp) (by simpa using a2) (fun fr' S' ha _ => ?_)
  have he : b ++ uintB l.length ++ postD 0 l = b ++ postB l := by simp [postB]
  rw [he] at ha
  have hf : (fr' 7).free = true ∧ (fr' 7).frz = slF (fr' 7) (ofBytes (b ++ postB l)) := by
    rcases ha.acc with ⟨h, _⟩ | ⟨id, _, h, _⟩
    · rw [h]; exact ⟨rfl, rfl⟩
    · rw [h]; exact ⟨by simp [PV.free, ofBytes_free, PV.freeL], by simp [slF, PV.frz, ofBytes_frz, PV.frzL]⟩
  have hfin : finish false S S' (.tup [fr' 7, .int .i64 0]) = (.tup [slF (fr' 7) (ofBytes (b ++ postB l)), .int .i64 0], S) := by
    rw [fin_free ha.grows (by simp [PV.free, PV.freeL, hf.1])]
    simp [PV.frz, PV.frzL, hf.2]
  simp [hfin]
  exact slF_byt ha
end Ps
namespace Ps
set_option linter.unusedSimpArgs false
open Go
theorem fn_142 : T.fn 142 = some (.code z62) := rfl
def rowOk (x : RowM) : Prop := 0 ≤ x.1 ∧ x.1 ≤ 1099511627776 ∧ mayB x.2.1 x.2.2 = true
theorem rowsR_ok : ∀ (l : List RowM), rowsR l = 0 → ∀ x ∈ l, rowOk x := by
  intro l
  induction l with
  | nil => intro _ x hx; cases hx
  | cons y l ih =>
    intro h x hx
    rw [rowsR_cons] at h
    by_cases a : y.1 < 0 ∨ 1099511627776 < y.1
    · rw [if_pos a] at h; cases h
    · rw [if_neg a] at h
      cases b : mayB y.2.1 y.2.2 with
      | false => rw [b, if_pos rfl] at h; cases h
      | true =>
        rw [b, if_neg (by decide)] at h
        rcases List.mem_cons.1 hx with rfl | hx
        · exact ⟨by omega, by omega, b⟩
        · exact ih h x hx
theorem may_bounds {t v : Int} (h : mayB t v = true) : 0 ≤ t ∧ t ≤ 1099511627776 ∧ -1152921504606846976 ≤ v ∧ v ≤ 1152921504606846976 := by
  unfold mayB at h
  simp only [Bool.and_eq_true, decide_eq_true_eq] at h
  omega
def rowB (x : RowM) : List UInt8 := uintB x.1.toNat ++ uintB x.2.1.toNat ++ uintB (zigN x.2.2)
def recB (r : RecM) : List UInt8 := uintB r.kind.toNat ++ (if r.kind = 1 then labsB r.labs else if r.kind = 2 then uintB r.rows.length ++ r.rows.flatMap rowB else postB r.ids ++ uintB r.low.toNat ++ uintB r.high.toNat)
theorem rowB_len {x : RowM} (h : rowOk x) : (rowB x).length ≤ 27 := by
  obtain ⟨h1, h2, h3⟩ := h
  obtain ⟨m1, m2, m3, m4⟩ := may_bounds h3
  have a := uintB_le9 (n := x.1.toNat) (by omega)
  have b := uintB_le9 (n := x.2.1.toNat) (by omega)
  have c := uintB_le9 (n := zigN x.2.2) (zigN_lt m3 m4)
  unfold rowB
  simp only [List.length_append]; omega
theorem tup_fin {S S' : St} {v : PV} {b : List UInt8} (ha : AccG S 1 S' v (ofBytes b)) : finish false S S' (.tup [v, .int .i64 0]) = (.tup [slF v (ofBytes b), .int .i64 0], S) := by
  have hf : v.free = true ∧ v.frz = slF v (ofBytes b) := by
    rcases ha.acc with ⟨h, _⟩ | ⟨id, _, h, _⟩
    · rw [h]; exact ⟨rfl, rfl⟩
    · rw [h]; exact ⟨by simp [PV.free, ofBytes_free, PV.freeL], by simp [slF, PV.frz, ofBytes_frz, PV.frzL]⟩
  rw [fin_free ha.grows (by simp [PV.free, PV.freeL, hf.1])]
  simp [PV.frz, PV.frzL, hf.2]
theorem recN_zero {r : RecM} (h : recN r = 0) : (r.kind = 1 ∧ checkN r.labs = 0) ∨ (r.kind = 2 ∧ rowsN r.rows = 0) ∨ (r.kind = 3 ∧ postN r.ids = 0 ∧ 0 ≤ r.low ∧ r.low ≤ r.high ∧ r.high ≤ 1099511627776) := by
  unfold recN at h
  by_cases a : r.kind = 1 ∧ r.rows.length = 0 ∧ r.ids.length = 0 ∧ r.low = 0 ∧ r.high = 0
  · rw [if_pos a] at h; exact .inl ⟨a.1, h⟩
  rw [if_neg a] at h
  by_cases b : r.kind = 2 ∧ r.labs.length = 0 ∧ r.ids.length = 0 ∧ r.low = 0 ∧ r.high = 0
  · rw [if_pos b] at h; exact .inr (.inl ⟨b.1, h⟩)
  rw [if_neg b] at h
  by_cases c : r.kind = 3 ∧ r.labs.length = 0 ∧ r.rows.length = 0
  · rw [if_pos c] at h
    unfold delN at h
    by_cases d : postN r.ids = 0
    · rw [if_neg (by simpa using d)] at h
      by_cases e : r.ids.length = 0
      · rw [if_pos e] at h; cases h
      rw [if_neg e] at h
      by_cases f : r.low < 0 ∨ 1099511627776 < r.high
      · rw [if_pos f] at h; cases h
      rw [if_neg f] at h
      by_cases g : r.high < r.low
      · rw [if_pos g] at h; cases h
      exact .inr (.inr ⟨c.1, d, by omega, by omega, by omega⟩)
    · rw [if_pos d] at h; exact absurd h d
  · rw [if_neg c] at h; cases h
theorem rowsN_ok {l : List RowM} (h : rowsN l = 0) : l.length ≤ 64 ∧ 0 < l.length ∧ ∀ x ∈ l, rowOk x := by
  unfold rowsN at h
  by_cases a : l.length = 0 ∨ 64 < l.length
  · rw [if_pos a] at h; cases h
  · rw [if_neg a] at h
    exact ⟨by omega, by omega, rowsR_ok l h⟩
end Ps
namespace Ps
set_option linter.unusedSimpArgs false
open Go
theorem fn_240 : T.fn 240 = some (.code z38) := rfl
theorem accg_cells {S0 S : St} {sz : Nat} {v : PV} {es : List PV} (h : AccG S0 sz S v es) : v.cells = [v] ∧ v.one = true := by
  rcases h.acc with ⟨a, _⟩ | ⟨id, _, a, _⟩ <;> rw [a] <;> exact ⟨rfl, rfl⟩
theorem Grows.set {S0 S : St} (h : Grows S0 S) {i : Nat} (hi : S0.objs.length ≤ i) {x : List PV} : Grows S0 ⟨S.objs.set i x, S.tips⟩ := by
  obtain ⟨o, t, rfl⟩ := h
  exact ⟨o.set (i - S0.objs.length) x, t, by simp [List.set_append_right _ _ hi]⟩
theorem c_loop {l : List Nat} {vl : PV} (hv : Reads1 1 vl (nV (l.map Int.ofNat))) (hl : l.length ≤ 8) (hn : ∀ x ∈ l, x < 9223372036854775808) {i : Nat} {S0 : St} (hi : S0.objs.length ≤ i) (hne : l ≠ []) {K : List Kt} {Q : Fr → St → Prop} : ∀ (r p : List Nat) (s : List UInt8) (v : PV), l = p ++ r → s.length + 9 * r.length ≤ 67100000 → ∀ (fr : Fr) (S : St),
    fr 1 = .ptr i 0 → fr 5 = vl → fr 6 = .int .i64 l.length → fr 7 = .int .i64 p.length → S.objs[i]? = some [v] → Grows S0 S → IsSl 1 v (ofBytes s) → (p = [] ∨ AccG S0 1 S v (ofBytes s)) →
    (∀ fr' S' v', S'.objs[i]? = some [v'] → S'.objs.length = S.objs.length → AccG S0 1 S' v' (ofBytes (s ++ r.flatMap uintB)) → Ok (gval T K fr' S') Q) →
    Ok (gval T (.lp z38_l0 :: .blk 0 :: K) fr S) Q := by
  intro r
  induction r with
  | nil =>
    intro p s v e hs fr S h1 h5 h6 h7 ho hgr hsl hac k
    rw [List.append_nil] at e; subst e
    rw [gval_lp]
    simp -implicitDefEqProofs [h5, h6, h7]
    exact k _ S v ho rfl (by simpa using hac.resolve_left hne)
  | cons n r ih =>
    intro p s v e hs fr S h1 h5 h6 h7 ho hgr hsl hac k
    have hlt : p.length < l.length := by rw [e]; simp
    have hg := nV_get (p := p.map Int.ofNat) (r := r.map Int.ofNat) (n := (n : Int)) hv (by rw [e]; simp) (k := .i64)
    rw [List.length_map] at hg
    have hw := wrap_len (a := p.length) (by omega)
    have hx := hn n (by rw [e]; simp)
    simp only [List.length_cons] at hs
    have u1 := uintB_le9 (n := n) hx
    obtain ⟨v1, S1, a1, a2, a3⟩ := putU_raw (n := n) hsl hx (by omega) hgr
    have ho1 : S1.objs[i]? = some [v] := by rw [a3]; exact ho
    rw [gval_lp]
    obtain ⟨cc, co⟩ := accg_cells a2
    simp -implicitDefEqProofs [h1, h5, h6, h7, hlt, hg, pt1, hw, loadP_ptr ho, pstep, putCells, a1, ho1, cc, co]
    have hlt1 : i < S1.objs.length := (List.getElem?_eq_some_iff.1 ho1).1
    have ha2 : AccG S0 1 ⟨S1.objs.set i [v1], S1.tips⟩ v1 (ofBytes (s ++ uintB n)) := ⟨a2.grows.set hi, a2.acc⟩
    refine ih (p ++ [n]) (s ++ uintB n) v1 (by simp [e]) (by simp only [List.length_append]; omega) _ _ (by simp [h1]) (by simp [h5]) (by simp [h6]) (by simp) (by simp [hlt1]) ha2.grows (ha2.isSl (ofBytes_cells _)) (.inr ha2) (fun fr' S' v' g1 g2 g3 => k fr' S' v' g1 (by rw [g2]; simp [a3]) ?_)
    simpa using g3
theorem fin_tup0 {S0 S S' : St} {i : Nat} {v v' : PV} {es : List PV} (hi : S0.objs.length ≤ i) (ho : S.objs[i]? = some [v]) (hgr : Grows S0 S) (hidl : ∀ id n es sp, v = .sl (some (id, n)) es sp → id < S.tips.length) (ho' : S'.objs[i]? = some [v']) (ha' : AccG S0 1 S' v' es) :
    ∃ S'', finish false S S' (.tup []) = (.tup [], S'') ∧ S''.objs[i]? = some [v'] ∧ AccG S0 1 S'' v' es := by
  have hs : sol S'.objs S.objs.length solFuel (.tup []) = some (.tup []) := rfl
  have hlt : i < S.objs.length := (List.getElem?_eq_some_iff.1 ho).1
  have htake : (S'.objs.take S.objs.length)[i]? = some [v'] := by rw [List.getElem?_take_of_lt hlt]; exact ho'
  obtain ⟨o, t, hS⟩ := hgr
  obtain ⟨o', t', hS'⟩ := ha'.grows
  unfold finish
  rw [hs]
  simp only [Bool.false_eq_true, if_false]
  split
  · rename_i hb
    have e := beqLL_eq hb
    have ho2 : S.objs[i]? = some [v'] := by rw [← e]; exact htake
    have hv : v = v' := by rw [ho] at ho2; simpa using ho2
    refine ⟨_, rfl, ho2, ⟨o, t'.take t.length, ?_⟩, ?_⟩
    · rw [hS', hS]; simp [List.take_append]; exact List.take_of_length_le (by omega)
    · rcases ha'.acc with a | ⟨id, a, b, c⟩
      · exact .inl a
      · refine .inr ⟨id, a, b, ?_⟩
        have hid : id < S.tips.length := hidl id _ _ _ (hv.trans b)
        simp only
        rw [List.getElem?_take_of_lt hid]; exact c
  · split
    · refine ⟨_, rfl, htake, ⟨o'.take (S.objs.length - S0.objs.length), t', ?_⟩, ha'.acc⟩
      rw [hS', hS]; simp [List.take_append]; exact List.take_of_length_le (by omega)
    · exact ⟨_, rfl, ho', ha'⟩
theorem cput_val {l : List Nat} {vl : PV} (hv : Reads1 1 vl (nV (l.map Int.ofNat))) (hl : l.length ≤ 8) (hn : ∀ x ∈ l, x < 9223372036854775808) {i : Nat} {S0 S : St} (hi : S0.objs.length ≤ i) (hne : l ≠ []) {v : PV} {s : List UInt8} (ho : S.objs[i]? = some [v]) (hgr : Grows S0 S) (hsl : IsSl 1 v (ofBytes s)) (hidl : ∀ id n es sp, v = .sl (some (id, n)) es sp → id < S.tips.length) (hs : s.length + 9 * l.length ≤ 67100000) :
    ∃ S' v', cval T 240 [vl, .ptr i 0] S = some (.tup [], S') ∧ S'.objs[i]? = some [v'] ∧ AccG S0 1 S' v' (ofBytes (s ++ l.flatMap uintB)) := by
  have hlen := hv.len
  rw [nV_len, List.length_map] at hlen
  have key := cval_ex (T := T) (f := 240) (c := z38) fn_240 (args := [vl, .ptr i 0]) (S := S) rfl (R := fun r S2 => r = .tup [] ∧ ∃ v', S2.objs[i]? = some [v'] ∧ AccG S0 1 S2 v' (ofBytes (s ++ l.flatMap uintB))) ?_
  · obtain ⟨r, S2, h1, rfl, v', h2, h3⟩ := key
    exact ⟨S2, v', h1, h2, h3⟩
  simp -implicitDefEqProofs [z38, hlen]
  refine c_loop hv hl hn hi hne l [] s v rfl hs _ S (by simp) (by simp) (by simp) (by simp) ho hgr hsl (.inl rfl) (fun fr' S' v' g1 g2 g3 => ?_)
  obtain ⟨S'', f1, f2, f3⟩ := fin_tup0 hi ho hgr hidl g1 g3
  simp [f1]
  exact ⟨v', f2, f3⟩
end Ps
