/- The law DiskLasts. -/
import Derived.Test.YtedmhhncckddmaaDS
namespace Ps
set_option linter.unusedSimpArgs false
set_option linter.unusedVariables false
open Go

theorem fn_467 : T.fn 467 = some (.code law04_DiskLasts) := rfl

/-- Behind a crash a file is a beginning of what it was, at least what was sure. -/
theorem cutS_ok (l : List (Nm × Nat)) (kept : List Int) (f : Nat) : ∀ (ns : List Nm) (i : Nat) (fb : Nat → List UInt8) (fs : Nat → Nat), fs f ≤ (fb f).length →
    (cutS l kept i ns fb fs).1 f <+: fb f ∧ fs f ≤ ((cutS l kept i ns fb fs).1 f).length
  | [], i, fb, fs, h => ⟨List.prefix_refl _, h⟩
  | n :: ns, i, fb, fs, h => by
    simp only [cutS]
    split
    · rename_i g hg
      by_cases e : f = g
      · subst e
        have h1 := kOf_ge kept i (fb f) (fs f)
        have h2 := kOf_le kept i (fb f) (fs f) h
        obtain ⟨q1, q2⟩ := cutS_ok l kept f ns (i + 1) (fun g => if g = f then (fb f).take (kOf kept i (fb f) (fs f)) else fb g) (fun g => if g = f then kOf kept i (fb f) (fs f) else fs g) (by simp only [if_true, List.length_take]; omega)
        simp only [if_true] at q1 q2
        exact ⟨q1.trans (List.take_prefix _ _), Nat.le_trans h1 q2⟩
      · obtain ⟨q1, q2⟩ := cutS_ok l kept f ns (i + 1) (fun a => if a = g then (fb g).take (kOf kept i (fb g) (fs g)) else fb a) (fun a => if a = g then kOf kept i (fb g) (fs g) else fs a) (by simp only [if_neg e]; exact h)
        simp only [if_neg e] at q1 q2
        exact ⟨q1, q2⟩
    · exact cutS_ok l kept f ns (i + 1) fb fs h

/-- A file that stands under a name, where the power is there. -/
theorem read_at {S : St} {o K : Nat} {D : Dk} (h : At S o K D) {n : Nm} (hn : namedB n = true) {f : Nat} (hf : lk n D.live = some f) (hd : D.dark = false) : readE D n = 0 ∧ readV D n = cloneV (D.fv f) (D.fb f) ∧ IsSl 1 (readV D n) (ofBytes (D.fb f)) := by
  have h0 : findE D n = 0 := by simp [findE, hn, hf]
  have h1 : readE D n = 0 := by simp [readE, h0, hd]
  have h2 : readV D n = cloneV (D.fv f) (D.fb f) := by simp [readV, h1, hf]
  exact ⟨h1, h2, by rw [h2]; exact cloneV_isl (h.file f (h.inl _ (lk_mem hf))).2.1⟩

theorem law_DiskLasts (xs : denL [.int .i64, .sl tyAct, .str, .int .i64, .sl (.int .i64)]) (h : wfL [.int .i64, .sl tyAct, .str, .int .i64, .sl (.int .i64)] xs) :
    ∃ S', cval T 467 (pvL [.int .i64, .sl tyAct, .str, .int .i64, .sl (.int .i64)] xs) St0 = some (.bool true, S') := by
  obtain ⟨room, l, n, dirs, kept, u⟩ := xs
  obtain ⟨h1, h2, h3, _, h5, _⟩ := h
  have hn : List.length n ≤ maxLen := h3
  obtain ⟨l1, l2⟩ := inA_wf h2
  have hl := inA_reads (x := l)
  have hkr := inK_reads kept
  refine ⟨St0, ?_⟩
  show cval T 467 [.int .i64 room, (Ty.sl tyAct).pv l, .str n, .int .i64 dirs, (Ty.sl (.int .i64)).pv kept] St0 = _
  generalize (Ty.sl tyAct).pv l = lv at hl
  generalize (Ty.sl (.int .i64)).pv kept = kv at hkr
  generalize inA l = al at *
  generalize inK kept = ks at *
  refine cval_ok' fn_467 rfl ?_
  rcases begun_val (S := St0) (room := room) hl l1 l2 with hb | ⟨o, S1, D1, hb, hA1, _⟩
  · simp -implicitDefEqProofs [law04_DiskLasts, hb, lives_pval]
  obtain ⟨hc2, hA2, _⟩ := fuse_val hA1 (n := -1) (by omega)
  obtain ⟨D2, hD2⟩ : ∃ D2, D2 = fuseD D1 (-1) := ⟨_, rfl⟩
  rw [← hD2] at hc2 hA2
  obtain ⟨S2, hS2⟩ : ∃ S2 : St, S2 = ⟨S1.objs.set o (dcells D2), S1.tips⟩ := ⟨_, rfl⟩
  rw [← hS2] at hc2 hA2
  have hl2 : D2.left = -1 := by rw [hD2]; simp [fuseD]
  by_cases hf : findE D2 n = 0
  · by_cases hdk : D2.dark = true
    · -- dark
      have hs : stepR D2 = 6 := by simp [stepR, hdk]
      have hc3 := sync_dark hA2 hn (by omega) hf hs
      simp -implicitDefEqProofs [law04_DiskLasts, hb, hc2, hc3, lives_pval]
      exact finish_pur_free rfl
    · have hdk : D2.dark = false := by simpa using hdk
      have hfr2 : Free D2 := ⟨hl2, hdk⟩
      obtain ⟨hs2, hfr2'⟩ := hfr2.step
      obtain ⟨f, hlk, _, hnm⟩ := find_some hf
      obtain ⟨S3, hc3, hA3, _⟩ := sync_ok hA2 hn (by omega) hf hs2 hlk
      obtain ⟨D3, hD3⟩ : ∃ D3, D3 = setF (stepD D2) f (D2.fv f) (D2.fb f) (D2.fb f).length := ⟨_, rfl⟩
      rw [← hD3] at hA3
      obtain ⟨s1, s2, s3, s4, s5, s6, s7, s8, s9, s10, s11⟩ := stepD_fields D2
      have hfr3 : Free D3 := by rw [hD3]; exact hfr2'
      have hlv3 : D3.live = D2.live := by rw [hD3]; exact s4
      have hfs3 : D3.fs f = (D3.fb f).length := by rw [hD3]; simp [setF]
      obtain ⟨hs3, hfr3'⟩ := hfr3.step
      obtain ⟨S4, hc4, hA4, _⟩ := syncdir_ok hA3 (by omega) hs3
      obtain ⟨D4, hD4⟩ : ∃ D4 : Dk, D4 = { stepD D3 with bi := S3.objs.length, base := D3.live, wait := [], wv := .nils } := ⟨_, rfl⟩
      rw [← hD4] at hA4
      obtain ⟨t1, t2, t3, t4, t5, t6, t7, t8, t9, t10, t11⟩ := stepD_fields D3
      have hfr4 : Free D4 := by rw [hD4]; exact hfr3'
      have hlv4 : D4.live = D3.live := by rw [hD4]; exact t4
      have hbs4 : D4.base = D3.live := by rw [hD4]
      have hwt4 : D4.wait = [] := by rw [hD4]
      have hfb4 : D4.fb = D3.fb := by rw [hD4]; exact t8
      have hfs4 : D4.fs = D3.fs := by rw [hD4]; exact t9
      have hlk4 : lk n D4.live = some f := by rw [hlv4, hlv3]; exact hlk
      have hrd4 := read_val hA4 hn
      obtain ⟨r1, r2, r3⟩ := read_at hA4 hnm hlk4 hfr4.2
      rw [r1] at hrd4
      obtain ⟨sv, hsv⟩ : ∃ sv, sv = readV D4 n := ⟨_, rfl⟩
      rw [← hsv] at hrd4 r3
      -- Append
      have hA4' := hA4.more [(4, 1)]
      obtain ⟨mb, hmb⟩ : ∃ mb : List UInt8, mb = [109, 111, 114, 101] := ⟨_, rfl⟩
      obtain ⟨mv, hmv⟩ : ∃ mv : PV, mv = .sl (some (S4.tips.length, 4)) [.int .u8 109, .int .u8 111, .int .u8 114, .int .u8 101] [] := ⟨_, rfl⟩
      have hml : lenP false mv = some (.int .i64 mb.length) := by rw [hmv, hmb]; rfl
      have hma : appended 1 mv = some (ofBytes mb) := by rw [hmv, hmb]; rfl
      have hS4 : ∀ y, (⟨S4.objs, S4.tips ++ [(4, 1)]⟩ : St) = y → y = ⟨S4.objs, S4.tips ++ [(4, 1)]⟩ := fun y e => e.symm
      by_cases ha : appendE D4 n mb = 0
      · obtain ⟨hs4, hfr4'⟩ := hfr4.step
        obtain ⟨v5, S5, hc5, hA5, _⟩ := append_ok hA4' (by omega) hn hml hma ha hs4 hlk4
        obtain ⟨D5, hD5⟩ : ∃ D5, D5 = setF (stepD D4) f v5 (D4.fb f ++ mb) (D4.fs f) := ⟨_, rfl⟩
        rw [← hD5] at hA5
        obtain ⟨u1, u2, u3, u4, u5, u6, u7, u8, u9, u10, u11⟩ := stepD_fields D4
        have hfr5 : Free D5 := by rw [hD5]; exact hfr4'
        have hlv5 : D5.live = D4.live := by rw [hD5]; exact u4
        have hbs5 : D5.base = D4.base := by rw [hD5]; exact u3
        have hwt5 : D5.wait = [] := by rw [hD5]; exact u5.trans hwt4
        have hfb5 : D5.fb f = D4.fb f ++ mb := by rw [hD5]; simp [setF]
        have hfs5 : D5.fs f = D4.fs f := by rw [hD5]; simp [setF]
        have hlk5 : lk n D5.live = some f := by rw [hlv5]; exact hlk4
        have hrd5 := read_val hA5 hn
        obtain ⟨p1, p2, p3⟩ := read_at hA5 hnm hlk5 hfr5.2
        rw [p1] at hrd5
        obtain ⟨wv, hwv⟩ : ∃ wv, wv = readV D5 n := ⟨_, rfl⟩
        rw [← hwv] at hrd5 p3
        obtain ⟨li6, fv6, S6, hc6, hA6, _, _⟩ := crash_val hA5 (by omega) (dirs := dirs) hkr
        obtain ⟨D6, hD6⟩ : ∃ D6, D6 = crashD D5 li6 fv6 dirs ks := ⟨_, rfl⟩
        rw [← hD6] at hA6
        have hlv6 : D6.live = D5.base := by
          rw [hD6]
          have : crashK D5 dirs = 0 := by have := crashK_le D5 dirs; rw [hwt5] at this; simpa using this
          simp [crashD, this, dirAt, doA]
        have hlk6 : lk n D6.live = some f := by rw [hlv6, hbs5, hbs4, hlv3]; exact hlk
        have hrd6 := read_val hA6 hn
        obtain ⟨q1, q2, q3⟩ := read_at hA6 hnm hlk6 (by rw [hD6]; rfl)
        rw [q1] at hrd6
        obtain ⟨iv, hiv⟩ : ∃ iv, iv = readV D6 n := ⟨_, rfl⟩
        rw [← hiv] at hrd6 q3
        have hf5 := (hA5.file f (hA5.inl _ (lk_mem hlk5))).2.2.1
        have hcut := cutS_ok (dirAt D5 (crashK D5 dirs)) ks f (sortN (dirAt D5 (crashK D5 dirs))) 0 D5.fb D5.fs hf5
        have hfb6 : D6.fb f = (cutS (dirAt D5 (crashK D5 dirs)) ks 0 (sortN (dirAt D5 (crashK D5 dirs))) D5.fb D5.fs).1 f := by rw [hD6]; rfl
        rw [← hfb6] at hcut
        obtain ⟨k1, k2⟩ := hcut
        have hb1 := begins_val (S := S6) p3 q3 k1
        have hpre : D4.fb f <+: D6.fb f := by
          rw [hfb5] at k1
          rw [hfs5, hfs4, hfs3] at k2
          rw [← hfb4] at k2
          exact List.prefix_of_prefix_length_le (List.prefix_append _ _) k1 k2
        have hb2 := begins_val (S := S6) q3 r3 hpre
        simp -implicitDefEqProofs [law04_DiskLasts, hb, hc2, hc3, hc4, hrd4, pstep, elems, setParts, newArr, ← hmv, hc5, hrd5, hc6, hrd6, hb1, hb2, lives_pval]
        exact finish_pur_free rfl
      · have hc5 := append_no hA4' (by omega) hn hml ha
        have ha' : (appendE D4 n mb != 0) = true := by simpa using ha
        simp -implicitDefEqProofs [law04_DiskLasts, hb, hc2, hc3, hc4, hrd4, pstep, elems, setParts, newArr, ← hmv, hc5, ha', lives_pval]
        exact finish_pur_free rfl
  · have hc3 := sync_no hA2 hn hf
    have hf' : (findE D2 n != 0) = true := by simpa using hf
    simp -implicitDefEqProofs [law04_DiskLasts, hb, hc2, hc3, hf', lives_pval]
    exact finish_pur_free rfl

end Ps
