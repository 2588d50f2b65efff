/- The law DiskSwaps. -/
import Derived.Test.YtedmhhncckddmaaDT
namespace Ps
set_option linter.unusedSimpArgs false
set_option linter.unusedVariables false
open Go

theorem fn_472 : T.fn 472 = some (.code law04_DiskSwaps) := rfl

theorem sum_create {S : St} {o K : Nat} {D : Dk} (h : At S o K D) (hK : K ≤ 1000) (hf : Free D) {n : Nm} (hn : namedB n = true) (hl : lk n D.live = none) (h64 : D.live.length < 64) :
    ∃ F S' D', cval T 77 [.ptr o 0, .str n] S = some (.int .i64 0, S') ∧ At S' o (K + 2) D' ∧ Free D' ∧ F ∉ D.fl ∧ D'.live = put n F D.live ∧ D'.base = D.base ∧ D'.wait = D.wait ++ [([], n, some F)] ∧ D'.fb F = [] ∧ D'.fs F = 0 ∧
      (∀ g, g ≠ F → D'.fb g = D.fb g ∧ D'.fs g = D.fs g) ∧ D'.room = D.room ∧ F ∈ D'.fl := by
  have he : createE D n = 0 := by
    have : findE D n = 9 := by simp [findE, hn, hl]
    simp [createE, this]; omega
  obtain ⟨wv', S', hc, hA, hR⟩ := create_ok h (Nat.le_trans (named_len hn) (by decide)) (by omega) he hf.step.1
  obtain ⟨s1, s2, s3, s4, s5, s6, s7, s8, s9, s10, s11⟩ := stepD_fields (addF D S.objs.length)
  refine ⟨S.objs.length, S', _, hc, hA, (Free.step (D := addF D S.objs.length) hf).2, lt_nf h, rfl, s3, rfl, ?_, ?_, fun g hg => ⟨?_, ?_⟩, s11, ?_⟩
  · show (stepD (addF D S.objs.length)).fb S.objs.length = []
    rw [s8]; simp [addF]
  · show (stepD (addF D S.objs.length)).fs S.objs.length = 0
    rw [s9]; simp [addF]
  · show (stepD (addF D S.objs.length)).fb g = _
    rw [s8]; simp [addF, hg]
  · show (stepD (addF D S.objs.length)).fs g = _
    rw [s9]; simp [addF, hg]
  · show _ ∈ (stepD (addF D S.objs.length)).fl
    rw [s7]; simp [addF]

theorem sum_append {S : St} {o K : Nat} {D : Dk} (h : At S o K D) (hK : K ≤ 1000) (hf : Free D) {n : Nm} (hn : namedB n = true) {f : Nat} (hl : lk n D.live = some f) {bv : PV} {b : List UInt8} (hb : IsSl 1 bv (ofBytes b)) (hr : (b.length : Int) ≤ D.room - sumB D D.live) :
    ∃ S' D', cval T 78 [.ptr o 0, .str n, bv] S = some (.int .i64 0, S') ∧ At S' o (K + 1) D' ∧ Free D' ∧ D'.live = D.live ∧ D'.base = D.base ∧ D'.wait = D.wait ∧ D'.fb f = D.fb f ++ b ∧ D'.fs f = D.fs f ∧
      (∀ g, g ≠ f → D'.fb g = D.fb g ∧ D'.fs g = D.fs g) ∧ D'.room = D.room := by
  have he : appendE D n b = 0 := by
    have : findE D n = 0 := by simp [findE, hn, hl]
    simp [appendE, this]; omega
  have hlen := hb.len
  rw [ofBytes_len] at hlen
  obtain ⟨v', S', hc, hA, hR⟩ := append_ok h (by omega) (Nat.le_trans (named_len hn) (by decide)) hlen hb.appd he hf.step.1 hl
  obtain ⟨s1, s2, s3, s4, s5, s6, s7, s8, s9, s10, s11⟩ := stepD_fields D
  refine ⟨S', _, hc, hA, hf.step.2, s4, s3, s5, by simp [setF], by simp [setF], fun g hg => ⟨?_, ?_⟩, s11⟩
  · simp [setF, hg, s8]
  · simp [setF, hg, s9]

theorem sum_sync {S : St} {o K : Nat} {D : Dk} (h : At S o K D) (hK : K ≤ 1000) (hf : Free D) {n : Nm} (hn : namedB n = true) {f : Nat} (hl : lk n D.live = some f) :
    ∃ S' D', cval T 84 [.ptr o 0, .str n] S = some (.int .i64 0, S') ∧ At S' o (K + 1) D' ∧ Free D' ∧ D'.live = D.live ∧ D'.base = D.base ∧ D'.wait = D.wait ∧ (∀ g, D'.fb g = D.fb g) ∧ D'.fs f = (D.fb f).length ∧
      (∀ g, g ≠ f → D'.fs g = D.fs g) ∧ D'.room = D.room := by
  have he : findE D n = 0 := by simp [findE, hn, hl]
  obtain ⟨S', hc, hA, hR⟩ := sync_ok h (Nat.le_trans (named_len hn) (by decide)) (by omega) he hf.step.1 hl
  obtain ⟨s1, s2, s3, s4, s5, s6, s7, s8, s9, s10, s11⟩ := stepD_fields D
  refine ⟨S', _, hc, hA, hf.step.2, s4, s3, s5, fun g => ?_, by simp [setF], fun g hg => ?_, s11⟩
  · simp only [setF, s8]; split
    · rename_i e; rw [e]
    · rfl
  · simp [setF, hg, s9]

theorem sum_syncdir {S : St} {o K : Nat} {D : Dk} (h : At S o K D) (hK : K ≤ 1000) (hf : Free D) :
    ∃ S' D', cval T 79 [.ptr o 0] S = some (.int .i64 0, S') ∧ At S' o (K + 1) D' ∧ Free D' ∧ D'.live = D.live ∧ D'.base = D.live ∧ D'.wait = [] ∧ D'.fb = D.fb ∧ D'.fs = D.fs ∧ D'.room = D.room := by
  obtain ⟨S', hc, hA, hR⟩ := syncdir_ok h (by omega) hf.step.1
  obtain ⟨s1, s2, s3, s4, s5, s6, s7, s8, s9, s10, s11⟩ := stepD_fields D
  exact ⟨S', _, hc, hA, hf.step.2, s4, rfl, rfl, s8, s9, s11⟩

theorem sum_rename {S : St} {o K : Nat} {D : Dk} (h : At S o K D) (hK : K ≤ 1000) (hf : Free D) {a b : Nm} (ha : namedB a = true) (hb : namedB b = true) {f : Nat} (hl : lk a D.live = some f) :
    ∃ S' D', cval T 82 [.ptr o 0, .str a, .str b] S = some (.int .i64 0, S') ∧ At S' o (K + 2) D' ∧ Free D' ∧ D'.live = doE (a, b, none) D.live ∧ D'.base = D.base ∧ D'.wait = D.wait ++ [(a, b, none)] ∧ D'.fb = D.fb ∧ D'.fs = D.fs ∧ D'.room = D.room := by
  have he : renameE D a b = 0 := by
    have : findE D a = 0 := by simp [findE, ha, hl]
    simp [renameE, this, hb]
  obtain ⟨wv', S', hc, hA, hR⟩ := rename_ok h (Nat.le_trans (named_len ha) (by decide)) (Nat.le_trans (named_len hb) (by decide)) (by omega) he hf.step.1
  obtain ⟨s1, s2, s3, s4, s5, s6, s7, s8, s9, s10, s11⟩ := stepD_fields D
  exact ⟨S', _, hc, hA, hf.step.2, rfl, s3, rfl, s8, s9, s11⟩

def nOne : Nm := [111, 110, 101]
def nTwo : Nm := [116, 119, 111]
theorem named_one : namedB nOne = true := by decide
theorem named_two : namedB nTwo = true := by decide

theorem inB_len (x : (Ty.sl (.int .u8)).den) : (inB x).length ≤ (Ty.sl (.int .u8)).bulk x := by
  cases x with
  | none => exact Nat.zero_le _
  | some q =>
    obtain ⟨es, sp⟩ := q
    have h : ∀ l : List (Ty.int .u8).den, l.length ≤ (l.map (Ty.bulk (.int .u8))).sum := by
      intro l
      induction l with
      | nil => exact Nat.le_refl _
      | cons a l ih =>
        simp only [List.length_cons, List.map_cons, List.sum_cons]
        exact Nat.le_trans (Nat.add_le_add_right ih 1) (Nat.le_of_eq (Nat.add_comm _ _))
    have h := h es
    have e : (inB (some (es, sp))).length = es.length := by show (List.map _ es).length = _; exact List.length_map _
    have e2 : (Ty.sl (.int .u8)).bulk (some (es, sp)) = (es.map (Ty.bulk (.int .u8))).sum + (sp.map (Ty.bulk (.int .u8))).sum + 1 := rfl
    omega

/-- The two files stand sure; the one is renamed over the other. -/
theorem swap_run {L : Nat} {S0 : St} {o : Nat} {D0 : Dk} (h0 : At S0 o 0 D0) (hf0 : Free D0) (hl0 : D0.live = []) (hr0 : D0.room = 4194304) {a b : List UInt8} {av bv : PV} (ha : IsSl 1 av (ofBytes a)) (hb : IsSl 1 bv (ofBytes b)) (hab : a.length + b.length ≤ 100000) :
    ∃ S1 S2 S3 S4 S5 S6 S7 S8 D8 F G, cval T 77 [.ptr o 0, .str nOne] S0 = some (.int .i64 0, S1) ∧ cval T 77 [.ptr o 0, .str nTwo] S1 = some (.int .i64 0, S2) ∧ cval T 78 [.ptr o 0, .str nOne, av] S2 = some (.int .i64 0, S3) ∧
      cval T 78 [.ptr o 0, .str nTwo, bv] S3 = some (.int .i64 0, S4) ∧ cval T 84 [.ptr o 0, .str nOne] S4 = some (.int .i64 0, S5) ∧ cval T 84 [.ptr o 0, .str nTwo] S5 = some (.int .i64 0, S6) ∧
      cval T 79 [.ptr o 0] S6 = some (.int .i64 0, S7) ∧ cval T 82 [.ptr o 0, .str nTwo, .str nOne] S7 = some (.int .i64 0, S8) ∧ At S8 o 20 D8 ∧ Free D8 ∧ F ≠ G ∧
      D8.base = [(nOne, F), (nTwo, G)] ∧ D8.wait = [(nTwo, nOne, none)] ∧ D8.live = [(nOne, G)] ∧ D8.fb F = a ∧ D8.fb G = b ∧ D8.fs F = a.length ∧ D8.fs G = b.length := by
  obtain ⟨F, S1, D1, c1, h1, f1, nF, l1, b1, w1, e1, e1', o1, r1, m1⟩ := sum_create h0 (by omega) hf0 named_one (by rw [hl0]; rfl) (by rw [hl0]; decide)
  rw [hl0] at l1
  have l1 : D1.live = [(nOne, F)] := l1
  obtain ⟨G, S2, D2, c2, h2, f2, nG, l2, b2, w2, e2, e2', o2, r2, m2⟩ := sum_create h1 (by omega) f1 named_two (by rw [l1]; rfl) (by rw [l1]; simp)
  rw [l1] at l2
  have l2 : D2.live = [(nOne, F), (nTwo, G)] := l2
  have hFG : F ≠ G := fun e => nG (by rw [← e]; exact m1)
  have k2F : lk nOne D2.live = some F := by rw [l2]; rfl
  have k2G : lk nTwo D2.live = some G := by rw [l2]; rfl
  have bF2 : D2.fb F = [] := by rw [(o2 F hFG).1, e1]
  have s2 : sumB D2 D2.live = 0 := by rw [l2]; simp [sumB, bF2, e2]
  obtain ⟨S3, D3, c3, h3, f3, l3, b3, w3, e3, e3', o3, r3⟩ := sum_append h2 (by omega) f2 named_one k2F ha (by rw [s2, r2, r1, hr0]; omega)
  have bG3 : D3.fb G = [] := by rw [(o3 G (Ne.symm hFG)).1, e2]
  have bF3 : D3.fb F = a := by rw [e3, bF2]; rfl
  have s3 : sumB D3 D3.live = a.length := by rw [l3, l2]; simp [sumB, bF3, bG3]
  obtain ⟨S4, D4, c4, h4, f4, l4, b4, w4, e4, e4', o4, r4⟩ := sum_append h3 (by omega) f3 named_two (by rw [l3]; exact k2G) hb (by rw [s3, r3, r2, r1, hr0]; omega)
  have bF4 : D4.fb F = a := by rw [(o4 F hFG).1, bF3]
  have bG4 : D4.fb G = b := by rw [e4, bG3]; rfl
  obtain ⟨S5, D5, c5, h5, f5, l5, b5, w5, e5, e5', o5, r5⟩ := sum_sync h4 (by omega) f4 named_one (by rw [l4, l3]; exact k2F)
  obtain ⟨S6, D6, c6, h6, f6, l6, b6, w6, e6, e6', o6, r6⟩ := sum_sync h5 (by omega) f5 named_two (by rw [l5, l4, l3]; exact k2G)
  obtain ⟨S7, D7, c7, h7, f7, l7, b7, w7, e7, e7', r7⟩ := sum_syncdir h6 (by omega) f6
  have l7' : D7.live = [(nOne, F), (nTwo, G)] := by rw [l7, l6, l5, l4, l3, l2]
  obtain ⟨S8, D8, c8, h8, f8, l8, b8, w8, e8, e8', r8⟩ := sum_rename h7 (by omega) f7 named_two named_one (f := G) (by rw [l7']; rfl)
  refine ⟨S1, S2, S3, S4, S5, S6, S7, S8, D8, F, G, c1, c2, c3, c4, c5, c6, c7, c8, h8.mono (by omega), f8, hFG, ?_, ?_, ?_, ?_, ?_, ?_, ?_⟩
  · rw [b8, b7, l6, l5, l4, l3, l2]
  · rw [w8, w7]; rfl
  · rw [l8, l7']; rfl
  · rw [e8, e7, e6, e5, bF4]
  · rw [e8, e7, e6, e5, bG4]
  · rw [e8', e7', o6 F hFG, e5', bF4]
  · rw [e8', e7', e6', e5, bG4]

/-- Behind the crash. -/
theorem swap_crash {S : St} {o K : Nat} {D : Dk} (h : At S o K D) (hK : K ≤ 1000) {F : Nat} {a : List UInt8} {dirs : Int} (hfb : D.fb F = a) (hfs : D.fs F = a.length) {li' : Nat} {fv' : Nat → PV} : (crashD D li' fv' dirs []).fb F = a := by
  obtain ⟨q1, q2⟩ := cutS_ok (dirAt D (crashK D dirs)) [] F (sortN (dirAt D (crashK D dirs))) 0 D.fb D.fs (by rw [hfs, hfb]; exact Nat.le_refl _)
  rw [hfb] at q1
  rw [hfs] at q2
  exact q1.eq_of_length_le q2

theorem swap_end {S : St} {o K : Nat} {D : Dk} (h : At S o K D) (hK : K ≤ 1000) {F G : Nat} {a b : List UInt8} (hb : D.base = [(nOne, F), (nTwo, G)] ∧ D.wait = [(nTwo, nOne, none)] ∨ D.base = [(nOne, G)] ∧ D.wait = [])
    (hfa : D.fb F = a) (hfb : D.fb G = b) (hsa : D.fs F = a.length) (hsb : D.fs G = b.length) (dirs : Int) :
    ∃ S' rv tv, cval T 80 [.ptr o 0, .int .i64 dirs, .nils] S = some (.int .i64 0, S') ∧ cval T 81 [.ptr o 0, .str nOne] S' = some (.tup [rv, .int .i64 0], S') ∧
      ((IsSl 1 rv (ofBytes b) ∧ cval T 81 [.ptr o 0, .str nTwo] S' = some (.tup [tv, .int .i64 9], S')) ∨ (D.wait ≠ [] ∧ IsSl 1 rv (ofBytes a) ∧ cval T 81 [.ptr o 0, .str nTwo] S' = some (.tup [tv, .int .i64 0], S'))) := by
  obtain ⟨li', fv', S', hc, hA, _, _⟩ := crash_val h (by omega) (dirs := dirs) (kept := []) (kv := .nils) (reads_nils 1)
  have hF := swap_crash h hK (dirs := dirs) (li' := li') (fv' := fv') hfa hsa
  have hG := swap_crash h hK (dirs := dirs) (li' := li') (fv' := fv') hfb hsb
  obtain ⟨D', hD'⟩ : ∃ D', D' = crashD D li' fv' dirs [] := ⟨_, rfl⟩
  rw [← hD'] at hA hF hG
  have hdk : D'.dark = false := by rw [hD']; rfl
  have hlive : D'.live = dirAt D (crashK D dirs) := by rw [hD']; rfl
  have hk := crashK_le D dirs
  have h1 := read_val hA (n := nOne) (by decide)
  have h2 := read_val hA (n := nTwo) (by decide)
  have new : D'.live = [(nOne, G)] → ∃ S' rv tv, cval T 80 [.ptr o 0, .int .i64 dirs, .nils] S = some (.int .i64 0, S') ∧ cval T 81 [.ptr o 0, .str nOne] S' = some (.tup [rv, .int .i64 0], S') ∧
      ((IsSl 1 rv (ofBytes b) ∧ cval T 81 [.ptr o 0, .str nTwo] S' = some (.tup [tv, .int .i64 9], S')) ∨ (D.wait ≠ [] ∧ IsSl 1 rv (ofBytes a) ∧ cval T 81 [.ptr o 0, .str nTwo] S' = some (.tup [tv, .int .i64 0], S'))) := by
    intro e
    obtain ⟨q1, q2, q3⟩ := read_at hA named_one (f := G) (by rw [e]; rfl) hdk
    have t1 : readE D' nTwo = 9 := by
      have hlk : lk nTwo D'.live = none := by rw [e]; rfl
      simp [readE, findE, named_two, hlk]
    rw [q1] at h1
    rw [t1] at h2
    rw [hG] at q3
    exact ⟨S', _, _, hc, h1, .inl ⟨q3, h2⟩⟩
  rcases hb with ⟨hb, hw⟩ | ⟨hb, hw⟩
  · rw [hw] at hk
    have hk2 : crashK D dirs = 0 ∨ crashK D dirs = 1 := by simp at hk; omega
    rcases hk2 with hk2 | hk2
    · have e : D'.live = [(nOne, F), (nTwo, G)] := by rw [hlive, hk2]; simp [dirAt, doA, hb]
      obtain ⟨q1, q2, q3⟩ := read_at hA named_one (f := F) (by rw [e]; rfl) hdk
      obtain ⟨p1, p2, p3⟩ := read_at hA named_two (f := G) (by rw [e]; rfl) hdk
      rw [q1] at h1
      rw [p1] at h2
      rw [hF] at q3
      exact ⟨S', _, _, hc, h1, .inr ⟨by rw [hw]; simp, q3, h2⟩⟩
    · exact new (by rw [hlive, hk2]; simp only [dirAt, hw, hb]; rfl)
  · rw [hw] at hk
    have hk2 : crashK D dirs = 0 := by simpa using hk
    exact new (by rw [hlive, hk2]; simp [dirAt, doA, hb])

set_option maxHeartbeats 2000000 in
theorem swaps_walk {a b : List UInt8} {av bv : PV} {dirs : Int} {sure : Bool} (ha : IsSl 1 av (ofBytes a)) (hb : IsSl 1 bv (ofBytes b)) (la : a.length ≤ 1048576) (lb : b.length ≤ 1048576) :
    cval T 472 [av, bv, .int .i64 dirs, .bool sure] St0 = some (.bool true, St0) := by
  have hla := ha.len
  have hlb := hb.len
  rw [ofBytes_len] at hla hlb
  have hsa := toStr_isl ha
  have hsb := toStr_isl hb
  have hn := new_ok (S := St0) (r := 4194304) (by omega) (by omega)
  have hA0 := new_at (S := St0) (r := 4194304) (by omega) (by omega)
  obtain ⟨S0, hS0⟩ : ∃ S0 : St, S0 = ⟨St0.objs ++ [[], [], dcells (newD 4194304 St0.objs.length)], St0.tips⟩ := ⟨_, rfl⟩
  rw [← hS0] at hn hA0
  have hw : IntKind.i64.wrap ((a.length : Int) + (b.length : Int)) = (a.length : Int) + (b.length : Int) := wrap_i64 (by omega) (by omega)
  refine cval_ok' fn_472 rfl ?_
  by_cases hab : a.length + b.length ≤ 100000
  · have hab' : ¬ (100000 : Int) < (a.length : Int) + (b.length : Int) := by omega
    obtain ⟨S1, S2, S3, S4, S5, S6, S7, S8, D8, F, G, c1, c2, c3, c4, c5, c6, c7, c8, h8, f8, hFG, b8, w8, l8, e1, e2, e3, e4⟩ := swap_run (L := 0) hA0 ⟨rfl, rfl⟩ rfl rfl ha hb hab
    obtain ⟨o, ho⟩ : ∃ o, o = St0.objs.length + 2 := ⟨_, rfl⟩
    rw [← ho] at hn c1 c2 c3 c4 c5 c6 c7 c8 h8
    simp only [nOne, nTwo] at c1 c2 c3 c4 c5 c6 c8
    have fin : ∀ S : St, finish false St0 S (.bool true) = (.bool true, St0) := fun S => finish_pur_free rfl
    have tail : ∀ (fr : Fr) (S9 S10 : St) (rv tv : PV), fr 0 = av → fr 1 = bv → fr 2 = .int .i64 dirs → fr 3 = .bool sure → fr 9 = .ptr o 0 →
        cval T 80 [.ptr o 0, .int .i64 dirs, .nils] S9 = some (.int .i64 0, S10) → cval T 81 [.ptr o 0, .str [111, 110, 101]] S10 = some (.tup [rv, .int .i64 0], S10) →
        ((IsSl 1 rv (ofBytes b) ∧ cval T 81 [.ptr o 0, .str [116, 119, 111]] S10 = some (.tup [tv, .int .i64 9], S10)) ∨ (sure = false ∧ IsSl 1 rv (ofBytes a) ∧ cval T 81 [.ptr o 0, .str [116, 119, 111]] S10 = some (.tup [tv, .int .i64 0], S10))) →
        Ok (gval T [.code (.seq (.clr [(90, 93)] (.region law04_DiskSwaps_r8)) (.seq (.clr [(93, 98)] (.region law04_DiskSwaps_r9)) (.seq (.clr [(13, 14), (98, 103)] (.region law04_DiskSwaps_r10)) (.seq (.clr [(103, 112)] (.region law04_DiskSwaps_r11)) (.seq (.clr [(112, 121)] (.region law04_DiskSwaps_r12)) (.seq (.clr [(121, 136)] (.region law04_DiskSwaps_r13)) .ret))))))] fr S9) (Ends law04_DiskSwaps.results law04_DiskSwaps.raw St0 (.bool true) St0) := by
      intro fr S9 S10 rv tv g0 g1 g2 g3 g9 d1 d2 d3
      have hres : law04_DiskSwaps.results = [.tmp 8] := rfl
      have hraw : law04_DiskSwaps.raw = false := rfl
      rcases d3 with ⟨i1, d3⟩ | ⟨hs, i1, d3⟩
      · have hst := toStr_isl i1
        by_cases hq : (b == a) = true
        · cases sure <;> simp -implicitDefEqProofs [hres, hraw, g0, g1, g2, g3, g9, d1, d2, d3, hst, hsa, hsb, lives_pval, fin, hq]
        · cases sure <;> simp -implicitDefEqProofs [hres, hraw, g0, g1, g2, g3, g9, d1, d2, d3, hst, hsa, hsb, lives_pval, fin, hq]
      · have hst := toStr_isl i1
        subst hs
        by_cases hq : (a == b) = true
        · simp -implicitDefEqProofs [hres, hraw, g0, g1, g2, g3, g9, d1, d2, d3, hst, hsa, hsb, lives_pval, fin, hq]
        · simp -implicitDefEqProofs [hres, hraw, g0, g1, g2, g3, g9, d1, d2, d3, hst, hsa, hsb, lives_pval, fin, hq]
    have mid : ∀ fr : Fr, fr 0 = av → fr 1 = bv → fr 2 = .int .i64 dirs → fr 3 = .bool sure → fr 9 = .ptr o 0 →
        Ok (gval T [.code (.seq (.seq (.clr [(84, 89)] (.region law04_DiskSwaps_r6)) (.cond (.tmp 89) (.seq (.region law04_DiskSwaps_r7) .ret) .skip)) (.seq (.clr [(90, 93)] (.region law04_DiskSwaps_r8)) (.seq (.clr [(93, 98)] (.region law04_DiskSwaps_r9)) (.seq (.clr [(13, 14), (98, 103)] (.region law04_DiskSwaps_r10)) (.seq (.clr [(103, 112)] (.region law04_DiskSwaps_r11)) (.seq (.clr [(112, 121)] (.region law04_DiskSwaps_r12)) (.seq (.clr [(121, 136)] (.region law04_DiskSwaps_r13)) .ret)))))))] fr S8) (Ends law04_DiskSwaps.results law04_DiskSwaps.raw St0 (.bool true) St0) := by
      intro fr g0 g1 g2 g3 g9
      rw [gval_seq]
      cases sure with
      | true =>
        obtain ⟨S9, D9, c9, h9, f9, l9, b9, w9, g1', g2', _⟩ := sum_syncdir h8 (by omega) f8
        obtain ⟨S10, rv, tv, d1, d2, d3⟩ := swap_end h9 (by omega) (F := F) (G := G) (a := a) (b := b) (.inr ⟨by rw [b9, l8], w9⟩) (by rw [g1', e1]) (by rw [g1', e2]) (by rw [g2', e3]) (by rw [g2', e4]) dirs
        simp only [nOne, nTwo] at d2 d3
        have tl := fun (fr : Fr) q0 q1 q2 q3 q9 => tail fr S9 S10 rv tv q0 q1 q2 q3 q9 d1 d2 (by
          rcases d3 with d3 | ⟨q, _⟩
          · exact .inl d3
          · exact absurd w9 q)
        clear tail
        obtain ⟨c, hcd⟩ : ∃ c : PCode, c = (.seq (.clr [(90, 93)] (.region law04_DiskSwaps_r8)) (.seq (.clr [(93, 98)] (.region law04_DiskSwaps_r9)) (.seq (.clr [(13, 14), (98, 103)] (.region law04_DiskSwaps_r10)) (.seq (.clr [(103, 112)] (.region law04_DiskSwaps_r11)) (.seq (.clr [(112, 121)] (.region law04_DiskSwaps_r12)) (.seq (.clr [(121, 136)] (.region law04_DiskSwaps_r13)) .ret)))))) := ⟨_, rfl⟩
        rw [← hcd] at tl ⊢
        simp -implicitDefEqProofs [g3, g9, c9]
        exact tl _ (by simp [g0]) (by simp [g1]) (by simp [g2]) (by simp [g3]) (by simp [g9])
      | false =>
        obtain ⟨S10, rv, tv, d1, d2, d3⟩ := swap_end h8 (by omega) (F := F) (G := G) (a := a) (b := b) (.inl ⟨b8, w8⟩) e1 e2 e3 e4 dirs
        simp only [nOne, nTwo] at d2 d3
        have tl := fun (fr : Fr) q0 q1 q2 q3 q9 => tail fr S8 S10 rv tv q0 q1 q2 q3 q9 d1 d2 (by
          rcases d3 with d3 | ⟨_, d3⟩
          · exact .inl d3
          · exact .inr ⟨rfl, d3⟩)
        clear tail
        obtain ⟨c, hcd⟩ : ∃ c : PCode, c = (.seq (.clr [(90, 93)] (.region law04_DiskSwaps_r8)) (.seq (.clr [(93, 98)] (.region law04_DiskSwaps_r9)) (.seq (.clr [(13, 14), (98, 103)] (.region law04_DiskSwaps_r10)) (.seq (.clr [(103, 112)] (.region law04_DiskSwaps_r11)) (.seq (.clr [(112, 121)] (.region law04_DiskSwaps_r12)) (.seq (.clr [(121, 136)] (.region law04_DiskSwaps_r13)) .ret)))))) := ⟨_, rfl⟩
        rw [← hcd] at tl ⊢
        simp -implicitDefEqProofs [g3, g9]
        exact tl _ (by simp [g0]) (by simp [g1]) (by simp [g2]) (by simp [g3]) (by simp [g9])
    clear tail
    obtain ⟨c, hcd⟩ : ∃ c : PCode, c = (.seq (.seq (.clr [(84, 89)] (.region law04_DiskSwaps_r6)) (.cond (.tmp 89) (.seq (.region law04_DiskSwaps_r7) .ret) .skip)) (.seq (.clr [(90, 93)] (.region law04_DiskSwaps_r8)) (.seq (.clr [(93, 98)] (.region law04_DiskSwaps_r9)) (.seq (.clr [(13, 14), (98, 103)] (.region law04_DiskSwaps_r10)) (.seq (.clr [(103, 112)] (.region law04_DiskSwaps_r11)) (.seq (.clr [(112, 121)] (.region law04_DiskSwaps_r12)) (.seq (.clr [(121, 136)] (.region law04_DiskSwaps_r13)) .ret))))))) := ⟨_, rfl⟩
    rw [← hcd] at mid
    have hbody : law04_DiskSwaps.body = .seq (.region law04_DiskSwaps_r0) (.seq (.clr [(17, 21)] (.region law04_DiskSwaps_r1)) (.seq (.seq (.clr [(21, 34)] (.region law04_DiskSwaps_r2)) (.cond (.tmp 34) (.seq (.clr [(35, 44)] (.region law04_DiskSwaps_r3)) .ret) .skip)) (.seq (.seq (.clr [(44, 83)] (.region law04_DiskSwaps_r4)) (.cond (.tmp 83) (.seq (.region law04_DiskSwaps_r5) .ret) .skip)) c))) := by rw [hcd]; rfl
    rw [hbody]
    simp -implicitDefEqProofs [-law04_DiskSwaps_r4_go, hn, hla, hlb, hw, hab, hab']
    simp -implicitDefEqProofs [c1, c2, c3, c4, c5, c6, c7, c8]
    exact mid _ (by simp) (by simp) (by simp) (by simp) (by simp)
  · have hab' : (100000 : Int) < (a.length : Int) + (b.length : Int) := by omega
    simp -implicitDefEqProofs [law04_DiskSwaps, hn, hla, hlb, hw, hab, hab', lives_pval]
    exact finish_pur_free rfl

theorem law_DiskSwaps (xs : denL [.sl (.int .u8), .sl (.int .u8), .int .i64, .bool]) (h : wfL [.sl (.int .u8), .sl (.int .u8), .int .i64, .bool] xs) (hbk : bulkL [.sl (.int .u8), .sl (.int .u8), .int .i64, .bool] xs ≤ 1048576) :
    ∃ S', cval T 472 (pvL [.sl (.int .u8), .sl (.int .u8), .int .i64, .bool] xs) St0 = some (.bool true, S') := by
  obtain ⟨xa, xb, dirs, sure, u⟩ := xs
  obtain ⟨h1, h2, _⟩ := h
  have hbk : (Ty.sl (.int .u8)).bulk xa + ((Ty.sl (.int .u8)).bulk xb + _) ≤ 1048576 := hbk
  have la := inB_len xa
  have lb := inB_len xb
  exact ⟨St0, swaps_walk (inB_isl h1) (inB_isl h2) (by omega) (by omega)⟩

end Ps
