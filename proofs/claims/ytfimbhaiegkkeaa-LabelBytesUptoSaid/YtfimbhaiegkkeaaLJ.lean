/- Labels laid down. -/
import Derived.Test.YtfimbhaiegkkeaaLI
namespace Ps
set_option linter.unusedSimpArgs false
open Go

theorem fn_29 : T.fn 29 = some (.code label_Put) := rfl
theorem fn_30 : T.fn 30 = some (.code ref06_Put) := rfl
theorem fn_109 : T.fn 109 = some (.code ref06_Bytes) := rfl

def lab1B (x : Lab) : List UInt8 := textB x.1 ++ textB x.2.1
def labsB (l : List Lab) : List UInt8 := uintB l.length ++ l.flatMap lab1B

theorem nameB_len {s : List UInt8} (h : nameB s = true) : s.length ≤ 32 := by
  rw [nameB_eq] at h
  simp only [Bool.and_eq_true, decide_eq_true_eq] at h
  exact h.2.2
theorem okLab_len {x : Lab} (h : okLab x) : x.1.length ≤ 32 ∧ x.2.1.length ≤ 64 := ⟨nameB_len h.1, h.2.2⟩
theorem textB_len {s : List UInt8} (h : s.length ≤ 65535) : (textB s).length ≤ s.length + 9 := by
  have := uintB_le9 (n := s.length) (by omega)
  simp only [textB, List.length_append]; omega
theorem lab1B_len {x : Lab} (h : okLab x) : (lab1B x).length ≤ 114 := by
  obtain ⟨h1, h2⟩ := okLab_len h
  have a := textB_len (s := x.1) (by omega)
  have b := textB_len (s := x.2.1) (by omega)
  simp only [lab1B, List.length_append]; omega
theorem labs_flat_len : ∀ {l : List Lab}, (∀ x ∈ l, okLab x) → (l.flatMap lab1B).length ≤ 114 * l.length
  | [], _ => by simp
  | x :: l, h => by
    have a := lab1B_len (h x (by simp))
    have b := labs_flat_len (l := l) (fun y hy => h y (by simp [hy]))
    simp only [List.flatMap_cons, List.length_append, List.length_cons]; omega

theorem put_loop {l : List Lab} {vl : PV} (hv : Reads1 2 vl (l.map labV)) (hl : l.length ≤ 8) (hok : ∀ x ∈ l, okLab x) {S0 : St} {K : List Kt} {Q : Fr → St → Prop} : ∀ (r p : List Lab) (s : List UInt8), l = p ++ r → s.length + 114 * r.length ≤ 67100000 → ∀ (fr : Fr) (S : St),
    fr 23 = vl → fr 24 = .int .i64 l.length → fr 25 = .int .i64 p.length → AccG S0 1 S (fr 7) (ofBytes s) →
    (∀ fr' S', AccG S0 1 S' (fr' 7) (ofBytes (s ++ r.flatMap lab1B)) → Ok (gval T K fr' S') Q) →
    Ok (gval T (.lp label_Put_l0 :: .blk 0 :: K) fr S) Q := by
  intro r
  induction r with
  | nil =>
    intro p s e hs fr S h23 h24 h25 ha k
    rw [List.append_nil] at e; subst e
    rw [gval_lp]
    simp -implicitDefEqProofs [h23, h24, h25]
    exact k _ _ (by simpa using ha)
  | cons x r ih =>
    intro p s e hs fr S h23 h24 h25 ha k
    have hlt : p.length < l.length := by rw [e]; simp
    have hg := sl_get hv e
    have hw := wrap_len (a := p.length) (by omega)
    have hx := hok x (by rw [e]; simp)
    obtain ⟨l1, l2⟩ := okLab_len hx
    simp only [List.length_cons] at hs
    have hA := ha.objs [[.str x.1, .str x.2.1]]
    have t1 := textB_len (s := x.1) (by omega)
    have t2 := textB_len (s := x.2.1) (by omega)
    obtain ⟨v1, S1, a1, a2, a3⟩ := putT_raw (t := x.1) (hA.isSl (ofBytes_cells _)) (by omega) (by omega) hA.grows
    obtain ⟨v2, S2, b1, b2, b3⟩ := putT_raw (t := x.2.1) (a2.isSl (ofBytes_cells _)) (by omega) (by rw [List.length_append]; omega) a2.grows
    have ho1 : S1.objs[S.objs.length]? = some [.str x.1, .str x.2.1] := by rw [a3]; simp
    rw [gval_lp]
    simp -implicitDefEqProofs [h23, h24, h25, hlt, hg, p1, p2, pstep, putCells, a1, loadP_ptr ho1, b1, hw]
    refine ih (p ++ [x]) (s ++ textB x.1 ++ textB x.2.1) (by simp [e]) (by simp only [List.length_append]; omega) _ S2 (by simp [h23]) (by simp [h24]) (by simp) (by simpa using b2) (fun fr' S' h => k fr' S' ?_)
    simpa [lab1B] using h

theorem putL_ok {b : List UInt8} {l : List Lab} {v vl : PV} (hb : IsSl 1 v (ofBytes b)) (hbl : b.length ≤ 4194304) (hv : Reads1 2 vl (l.map labV)) (hn : ∀ x ∈ l, x.1.length ≤ maxLen) (hl : l.length ≤ maxLen) (hr : Right l) (S : St) :
    ∃ v', cval T 29 [v, vl] S = some (.tup [v', .int .i64 0], S) ∧ SlB v' (b ++ labsB l) := by
  have c1 := check_val hv hn hl S
  rw [checkN_zero.2 hr] at c1
  have hlen := hv.len
  rw [List.length_map] at hlen
  obtain ⟨v1, S1, a1, a2, a3⟩ := putU_raw hb (n := l.length) (by have := hr.1; omega) (by omega) (Grows.refl S)
  have hu := uintB_le9 (n := l.length) (by have := hr.1; omega)
  have key := cval_ex (T := T) (f := 29) (c := label_Put) fn_29 (args := [v, vl]) (S := S) rfl (R := fun r S2 => S2 = S ∧ ∃ v', r = .tup [v', .int .i64 0] ∧ SlB v' (b ++ labsB l)) ?_
  · obtain ⟨r, S2, h1, rfl, v', rfl, h2⟩ := key
    exact ⟨v', h1, h2⟩
  have c1' : cval T 40 [vl] S = some (.int .i64 0, S) := c1
  simp -implicitDefEqProofs [label_Put, c1', hlen, a1]
  refine put_loop hv hr.1 hr.2.1 (S0 := S) l [] (b ++ uintB l.length) rfl (by have := hr.1; simp only [List.length_append]; omega) _ S1 (by simp) (by simp) (by simp) (by simpa using a2) (fun fr' S' ha => ?_)
  have he : b ++ uintB l.length ++ l.flatMap lab1B = b ++ labsB l := by simp [labsB]
  rw [he] at ha
  have hf : (fr' 7).free = true ∧ (fr' 7).frz = slF (fr' 7) (ofBytes (b ++ labsB l)) := by
    rcases ha.acc with ⟨h, _⟩ | ⟨id, _, h, _⟩
    · rw [h]; exact ⟨rfl, rfl⟩
    · rw [h]; exact ⟨by simp [PV.free, ofBytes_free, PV.freeL], by simp [slF, PV.frz, ofBytes_frz, PV.frzL]⟩
  have hfin : finish false S S' (.tup [fr' 7, .int .i64 0]) = (.tup [slF (fr' 7) (ofBytes (b ++ labsB l)), .int .i64 0], S) := by
    rw [fin_free ha.grows (by simp [PV.free, PV.freeL, hf.1])]
    simp [PV.frz, PV.frzL, hf.2]
  simp [hfin]
  exact slF_byt ha

theorem putL_no {l : List Lab} {v vl : PV} (hv : Reads1 2 vl (l.map labV)) (hn : ∀ x ∈ l, x.1.length ≤ maxLen) (hl : l.length ≤ maxLen) (hr : checkN l ≠ 0) (S : St) :
    cval T 29 [v, vl] S = some (.tup [.nils, .int .i64 (checkN l)], S) := by
  refine cval_ok' fn_29 rfl ?_
  simp -implicitDefEqProofs [label_Put, check_val hv hn hl]
  refine ok_br (fun _ => ?_) (fun a => absurd a (by simpa using hr))
  simp
  rw [fin_free (Grows.refl S) rfl]; rfl

theorem rbytes_loop {l : List Lab} {vl : PV} (hv : Reads1 2 vl (l.map labV)) (hl : l.length ≤ 8) (hok : ∀ x ∈ l, okLab x) {S0 : St} {K : List Kt} {Q : Fr → St → Prop} : ∀ (r p : List Lab) (s : List UInt8), l = p ++ r → s.length + 114 * r.length ≤ 67100000 → ∀ (fr : Fr) (S : St),
    fr 0 = vl → fr 4 = .int .i64 p.length → AccG S0 1 S (fr 3) (ofBytes s) →
    (∀ fr' S', AccG S0 1 S' (fr' 3) (ofBytes (s ++ r.flatMap lab1B)) → Ok (gval T K fr' S') Q) →
    Ok (gval T (.lp ref06_Bytes_l0 :: .blk 0 :: K) fr S) Q := by
  intro r
  induction r with
  | nil =>
    intro p s e hs fr S h0 h4 ha k
    rw [List.append_nil] at e; subst e
    have hlen := hv.len
    rw [List.length_map] at hlen
    rw [gval_lp]
    simp -implicitDefEqProofs [h0, h4, hlen]
    exact k _ _ (by simpa using ha)
  | cons x r ih =>
    intro p s e hs fr S h0 h4 ha k
    have hlt : p.length < l.length := by rw [e]; simp
    have hlen := hv.len
    rw [List.length_map] at hlen
    have hg := sl_get hv e
    have hw := wrap_len (a := p.length) (by omega)
    have hx := hok x (by rw [e]; simp)
    obtain ⟨l1, l2⟩ := okLab_len hx
    simp only [List.length_cons] at hs
    obtain ⟨t1, t1e, t1b⟩ := rtext_pval (s := x.1) (by omega)
    obtain ⟨t2, t2e, t2b⟩ := rtext_pval (s := x.2.1) (by omega)
    have u1 := textB_len (s := x.1) (by omega)
    have u2 := textB_len (s := x.2.1) (by omega)
    obtain ⟨v1, S1, a1, a2, a3⟩ := ha.app (bytes := 1) (ofBytes (textB x.1)) (by rw [ofBytes_len, ofBytes_len]; omega)
    rw [← ofBytes_app] at a2
    obtain ⟨v2, S2, b1, b2, b3⟩ := a2.app (bytes := 1) (ofBytes (textB x.2.1)) (by rw [ofBytes_len, ofBytes_len, List.length_append]; omega)
    rw [← ofBytes_app] at b2
    rw [gval_lp]
    simp -implicitDefEqProofs [h0, h4, hlt, hlen, hg, p1, t1e, t2e, t1b.isl.appd, t2b.isl.appd, a1, b1, hw]
    refine ih (p ++ [x]) (s ++ textB x.1 ++ textB x.2.1) (by simp [e]) (by simp only [List.length_append]; omega) _ S2 (by simp [h0]) (by simp) (by simpa using b2) (fun fr' S' h => k fr' S' ?_)
    simpa [lab1B] using h

theorem rbytes_val {l : List Lab} {vl : PV} (hv : Reads1 2 vl (l.map labV)) (hr : Right l) (S : St) :
    ∃ v', cval T 109 [vl] S = some (v', S) ∧ SlB v' (labsB l) := by
  have hlen := hv.len
  rw [List.length_map] at hlen
  obtain ⟨v1, S1, a1, a2, a3⟩ := ruint_raw (n := l.length) (by have := hr.1; omega) (Grows.refl S)
  have hu := uintB_le9 (n := l.length) (by have := hr.1; omega)
  have key := cval_ex (T := T) (f := 109) (c := ref06_Bytes) fn_109 (args := [vl]) (S := S) rfl (R := fun r S2 => S2 = S ∧ SlB r (labsB l)) ?_
  · obtain ⟨r, S2, h1, rfl, h2⟩ := key
    exact ⟨r, h1, h2⟩
  simp -implicitDefEqProofs [ref06_Bytes, hlen, a1]
  refine rbytes_loop hv hr.1 hr.2.1 (S0 := S) l [] (uintB l.length) rfl (by have := hr.1; omega) _ S1 (by simp) (by simp) (by simpa using a2) (fun fr' S' ha => ?_)
  have ha' : AccG S 1 S' (fr' 3) (ofBytes (labsB l)) := ha
  have hfin := ha'.fin (ofBytes_free _) (ofBytes_frz _)
  simp [hfin]
  exact slF_byt ha'

theorem rput_ok {b : List UInt8} {l : List Lab} {v vl : PV} (hb : IsSl 1 v (ofBytes b)) (hbl : b.length ≤ 4194304) (hv : Reads1 2 vl (l.map labV)) (hn : ∀ x ∈ l, x.1.length ≤ maxLen) (hl : l.length ≤ maxLen) (hr : Right l) (S : St) :
    ∃ v', cval T 30 [v, vl] S = some (.tup [v', .int .i64 0], S) ∧ SlB v' (b ++ labsB l) := by
  have c1 := rcheck_val hv hn hl S
  rw [checkN_zero.2 hr] at c1
  have c1' : cval T 98 [vl] S = some (.int .i64 0, S) := c1
  obtain ⟨v1, S1, a1, a2, a3⟩ := (accg_new 1 [] (Grows.refl S)).app (bytes := 1) (ofBytes b) (by rw [ofBytes_len]; simp; omega)
  simp only [List.length_nil, List.nil_append] at a1 a2
  obtain ⟨w, e1, e2⟩ := rbytes_val hv hr S1
  have hll : (labsB l).length ≤ 9 + 114 * 8 := by
    have h1 := uintB_le9 (n := l.length) (by have := hr.1; omega)
    have h2 := labs_flat_len hr.2.1
    have h3 := hr.1
    simp only [labsB, List.length_append]; omega
  obtain ⟨v2, S2, b1, b2, b3⟩ := a2.app (bytes := 1) (ofBytes (labsB l)) (by rw [ofBytes_len, ofBytes_len]; omega)
  rw [← ofBytes_app] at b2
  have hs := slF_byt b2
  refine ⟨_, ?_, hs⟩
  refine cval_ok' fn_30 rfl ?_
  simp -implicitDefEqProofs [ref06_Put, c1', pstep, elems, setParts, hb.appd, a1, e1, e2.isl.appd, b1]
  have hf : v2.free = true ∧ v2.frz = slF v2 (ofBytes (b ++ labsB l)) := by
    rcases b2.acc with ⟨h, _⟩ | ⟨id, _, h, _⟩
    · rw [h]; exact ⟨rfl, rfl⟩
    · rw [h]; exact ⟨by simp [PV.free, ofBytes_free, PV.freeL], by simp [slF, PV.frz, ofBytes_frz, PV.frzL]⟩
  rw [fin_free b2.grows (by simp [PV.free, PV.freeL, hf.1])]
  simp [PV.frz, PV.frzL, hf.2]

theorem rput_no {l : List Lab} {v vl : PV} (hv : Reads1 2 vl (l.map labV)) (hn : ∀ x ∈ l, x.1.length ≤ maxLen) (hl : l.length ≤ maxLen) (hr : checkN l ≠ 0) (S : St) :
    cval T 30 [v, vl] S = some (.tup [.nils, .int .i64 (checkN l)], S) := by
  refine cval_ok' fn_30 rfl ?_
  simp -implicitDefEqProofs [ref06_Put, rcheck_val hv hn hl]
  refine ok_br (fun _ => ?_) (fun a => absurd a (by simpa using hr))
  simp
  rw [fin_free (Grows.refl S) rfl]; rfl
end Ps
