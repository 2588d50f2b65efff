/- Bytes of a record: the program's. -/
import Derived.Test.YtooppbhipihjaaaWD
namespace Ps
set_option linter.unusedSimpArgs false
set_option linter.unusedVariables false
open Go

theorem fn_240 : T.fn 240 = some (.code wal_Bytes_1) := rfl

theorem accg_cells {S0 S : St} {sz : Nat} {v : PV} {es : List PV} (h : AccG S0 sz S v es) : v.cells = [v] ∧ v.one = true := by
  rcases h.acc with ⟨a, _⟩ | ⟨id, _, a, _⟩ <;> rw [a] <;> exact ⟨rfl, rfl⟩
theorem Grows.set {S0 S : St} (h : Grows S0 S) {i : Nat} (hi : S0.objs.length ≤ i) {x : List PV} : Grows S0 ⟨S.objs.set i x, S.tips⟩ := by
  obtain ⟨o, t, rfl⟩ := h
  exact ⟨o.set (i - S0.objs.length) x, t, by simp [List.set_append_right _ _ hi]⟩
theorem c_loop {l : List Nat} {vl : PV} (hv : Reads1 1 vl (nV (l.map Int.ofNat))) (hl : l.length ≤ 8) (hn : ∀ x ∈ l, x < 9223372036854775808) {i : Nat} {S0 : St} (hi : S0.objs.length ≤ i) (hne : l ≠ []) {K : List Kt} {Q : Fr → St → Prop} : ∀ (r p : List Nat) (s : List UInt8) (v : PV), l = p ++ r → s.length + 9 * r.length ≤ 67100000 → ∀ (fr : Fr) (S : St),
    fr 1 = .ptr i 0 → fr 5 = vl → fr 6 = .int .i64 l.length → fr 7 = .int .i64 p.length → S.objs[i]? = some [v] → Grows S0 S → IsSl 1 v (ofBytes s) → (p = [] ∨ AccG S0 1 S v (ofBytes s)) →
    (∀ fr' S' v', S'.objs[i]? = some [v'] → S'.objs.length = S.objs.length → AccG S0 1 S' v' (ofBytes (s ++ r.flatMap uintB)) → Ok (gval T K fr' S') Q) →
    Ok (gval T (.lp wal_Bytes_1_l0 :: .blk 0 :: K) fr S) Q := by
  intro r
  induction r with
  | nil =>
    intro p s v e hs fr S h1 h5 h6 h7 ho hgr hsl hac k
    rw [List.append_nil] at e; subst e
    rw [gval_lp]
    simp -implicitDefEqProofs [h5, h6, h7]
    exact k _ S v ho rfl (by simpa using hac.resolve_left hne)
  | cons n r ih =>
    intro p s v e hs fr S h1 h5 h6 h7 ho hgr hsl hac k
    have hlt : p.length < l.length := by rw [e]; simp
    have hg := nV_get (p := p.map Int.ofNat) (r := r.map Int.ofNat) (n := (n : Int)) hv (by rw [e]; simp) (k := .i64)
    rw [List.length_map] at hg
    have hw := wrap_len (a := p.length) (by omega)
    have hx := hn n (by rw [e]; simp)
    simp only [List.length_cons] at hs
    have u1 := uintB_le9 (n := n) hx
    obtain ⟨v1, S1, a1, a2, a3⟩ := putU_raw (n := n) hsl hx (by omega) hgr
    have ho1 : S1.objs[i]? = some [v] := by rw [a3]; exact ho
    rw [gval_lp]
    obtain ⟨cc, co⟩ := accg_cells a2
    simp -implicitDefEqProofs [h1, h5, h6, h7, hlt, hg, pt1, hw, loadP_ptr ho, pstep, putCells, a1, ho1, cc, co]
    have hlt1 : i < S1.objs.length := (List.getElem?_eq_some_iff.1 ho1).1
    have ha2 : AccG S0 1 ⟨S1.objs.set i [v1], S1.tips⟩ v1 (ofBytes (s ++ uintB n)) := ⟨a2.grows.set hi, a2.acc⟩
    refine ih (p ++ [n]) (s ++ uintB n) v1 (by simp [e]) (by simp only [List.length_append]; omega) _ _ (by simp [h1]) (by simp [h5]) (by simp [h6]) (by simp) (by simp [hlt1]) ha2.grows (ha2.isSl (ofBytes_cells _)) (.inr ha2) (fun fr' S' v' g1 g2 g3 => k fr' S' v' g1 (by rw [g2]; simp [a3]) ?_)
    simpa using g3

theorem fin_tup0 {S0 S S' : St} {i : Nat} {v v' : PV} {es : List PV} (hi : S0.objs.length ≤ i) (ho : S.objs[i]? = some [v]) (hgr : Grows S0 S) (hidl : ∀ id n es sp, v = .sl (some (id, n)) es sp → id < S.tips.length) (ho' : S'.objs[i]? = some [v']) (ha' : AccG S0 1 S' v' es) :
    ∃ S'', finish false S S' (.tup []) = (.tup [], S'') ∧ S''.objs[i]? = some [v'] ∧ AccG S0 1 S'' v' es := by
  have hs : sol S'.objs S.objs.length solFuel (.tup []) = some (.tup []) := rfl
  have hlt : i < S.objs.length := (List.getElem?_eq_some_iff.1 ho).1
  have htake : (S'.objs.take S.objs.length)[i]? = some [v'] := by rw [List.getElem?_take_of_lt hlt]; exact ho'
  obtain ⟨o, t, hS⟩ := hgr
  obtain ⟨o', t', hS'⟩ := ha'.grows
  unfold finish
  rw [hs]
  simp only [Bool.false_eq_true, if_false]
  split
  · rename_i hb
    have e := beqLL_eq hb
    have ho2 : S.objs[i]? = some [v'] := by rw [← e]; exact htake
    have hv : v = v' := by rw [ho] at ho2; simpa using ho2
    refine ⟨_, rfl, ho2, ⟨o, t'.take t.length, ?_⟩, ?_⟩
    · rw [hS', hS]; simp [List.take_append]; exact List.take_of_length_le (by omega)
    · rcases ha'.acc with a | ⟨id, a, b, c⟩
      · exact .inl a
      · refine .inr ⟨id, a, b, ?_⟩
        have hid : id < S.tips.length := hidl id _ _ _ (hv.trans b)
        simp only
        rw [List.getElem?_take_of_lt hid]; exact c
  · split
    · refine ⟨_, rfl, htake, ⟨o'.take (S.objs.length - S0.objs.length), t', ?_⟩, ha'.acc⟩
      rw [hS', hS]; simp [List.take_append]; exact List.take_of_length_le (by omega)
    · exact ⟨_, rfl, ho', ha'⟩
/-- The closure lays integers behind the bytes. -/
theorem cput_val {l : List Nat} {vl : PV} (hv : Reads1 1 vl (nV (l.map Int.ofNat))) (hl : l.length ≤ 8) (hn : ∀ x ∈ l, x < 9223372036854775808) {i : Nat} {S0 S : St} (hi : S0.objs.length ≤ i) (hne : l ≠ []) {v : PV} {s : List UInt8} (ho : S.objs[i]? = some [v]) (hgr : Grows S0 S) (hsl : IsSl 1 v (ofBytes s)) (hidl : ∀ id n es sp, v = .sl (some (id, n)) es sp → id < S.tips.length) (hs : s.length + 9 * l.length ≤ 67100000) :
    ∃ S' v', cval T 240 [vl, .ptr i 0] S = some (.tup [], S') ∧ S'.objs[i]? = some [v'] ∧ AccG S0 1 S' v' (ofBytes (s ++ l.flatMap uintB)) := by
  have hlen := hv.len
  rw [nV_len, List.length_map] at hlen
  have key := cval_ex (T := T) (f := 240) (c := wal_Bytes_1) fn_240 (args := [vl, .ptr i 0]) (S := S) rfl (R := fun r S2 => r = .tup [] ∧ ∃ v', S2.objs[i]? = some [v'] ∧ AccG S0 1 S2 v' (ofBytes (s ++ l.flatMap uintB))) ?_
  · obtain ⟨r, S2, h1, rfl, v', h2, h3⟩ := key
    exact ⟨S2, v', h1, h2, h3⟩
  simp -implicitDefEqProofs [wal_Bytes_1, hlen]
  refine c_loop hv hl hn hi hne l [] s v rfl hs _ S (by simp) (by simp) (by simp) (by simp) ho hgr hsl (.inl rfl) (fun fr' S' v' g1 g2 g3 => ?_)
  obtain ⟨S'', f1, f2, f3⟩ := fin_tup0 hi ho hgr hidl g1 g3
  simp [f1]
  exact ⟨v', f2, f3⟩
end Ps
