/- The disk: what a call of the law's does; Read's bytes are one's own. -/
import Derived.Test.YtedmhhncckddmaaDV
import Derived.Test.YtedmhhncckddmaaDI
namespace Ps
set_option linter.unusedSimpArgs false
set_option linter.unusedVariables false
open Go

theorem fn_19 : T.fn 19 = some (.code law04_do) := rfl

structure ActD where
  kind : Int
  name : Nm
  to : Nm
  b : List UInt8
  bv : PV
  n : Int
  kept : List Int
  kv : PV
def actV (a : ActD) : PV := .agg [.int .i64 a.kind, .str a.name, .str a.to, a.bv, .int .i64 a.n, a.kv]
structure ActD.Wf (a : ActD) : Prop where
  name : a.name.length ≤ maxLen
  to : a.to.length ≤ maxLen
  len : lenP false a.bv = some (.int .i64 a.b.length)
  app : appended 1 a.bv = some (ofBytes a.b)
  kept : Reads1 1 a.kv (a.kept.map (.int .i64))
  n : a.n ≤ 9223372036854775807
  bone : a.bv.one = true
  kone : a.kv.one = true
  bcells : a.bv.cells = [a.bv]
  kcells : a.kv.cells = [a.kv]

theorem do_1 {S S' : St} {p r : PV} {a : ActD} (ha : a.Wf) (hk : a.kind = 1) (hc : cval T 77 [p, .str a.name] S = some (r, S')) : cval T 19 [p, actV a] S = some (.tup [r, .nils], S') := by
  refine cval_ok' fn_19 rfl ?_
  simp -implicitDefEqProofs [law04_do, actV, pstep, ha.bone, ha.kone, ha.bcells, ha.kcells, hk, part1, hc]
theorem do_2 {S S' : St} {p r : PV} {a : ActD} (ha : a.Wf) (hk : a.kind = 2) (hc : cval T 78 [p, .str a.name, a.bv] S = some (r, S')) : cval T 19 [p, actV a] S = some (.tup [r, .nils], S') := by
  refine cval_ok' fn_19 rfl ?_
  simp -implicitDefEqProofs [law04_do, actV, pstep, ha.bone, ha.kone, ha.bcells, ha.kcells, hk, part1, hc]
theorem do_3 {S S' : St} {p r : PV} {a : ActD} (ha : a.Wf) (hk : a.kind = 3) (hc : cval T 82 [p, .str a.name, .str a.to] S = some (r, S')) : cval T 19 [p, actV a] S = some (.tup [r, .nils], S') := by
  refine cval_ok' fn_19 rfl ?_
  simp -implicitDefEqProofs [law04_do, actV, pstep, ha.bone, ha.kone, ha.bcells, ha.kcells, hk, part1, hc]
theorem do_4 {S S' : St} {p r : PV} {a : ActD} (ha : a.Wf) (hk : a.kind = 4) (hc : cval T 83 [p, .str a.name] S = some (r, S')) : cval T 19 [p, actV a] S = some (.tup [r, .nils], S') := by
  refine cval_ok' fn_19 rfl ?_
  simp -implicitDefEqProofs [law04_do, actV, pstep, ha.bone, ha.kone, ha.bcells, ha.kcells, hk, part1, hc]
theorem do_5 {S S' : St} {p r : PV} {a : ActD} (ha : a.Wf) (hk : a.kind = 5) (hc : cval T 84 [p, .str a.name] S = some (r, S')) : cval T 19 [p, actV a] S = some (.tup [r, .nils], S') := by
  refine cval_ok' fn_19 rfl ?_
  simp -implicitDefEqProofs [law04_do, actV, pstep, ha.bone, ha.kone, ha.bcells, ha.kcells, hk, part1, hc]
theorem do_6 {S S' : St} {p r : PV} {a : ActD} (ha : a.Wf) (hk : a.kind = 6) (hc : cval T 79 [p] S = some (r, S')) : cval T 19 [p, actV a] S = some (.tup [r, .nils], S') := by
  refine cval_ok' fn_19 rfl ?_
  simp -implicitDefEqProofs [law04_do, actV, pstep, ha.bone, ha.kone, ha.bcells, ha.kcells, hk, part1, hc]
theorem do_9 {S S' : St} {p r : PV} {a : ActD} (ha : a.Wf) (hk : a.kind = 9) (hc : cval T 80 [p, .int .i64 a.n, a.kv] S = some (r, S')) : cval T 19 [p, actV a] S = some (.tup [r, .nils], S') := by
  refine cval_ok' fn_19 rfl ?_
  simp -implicitDefEqProofs [law04_do, actV, pstep, ha.bone, ha.kone, ha.bcells, ha.kcells, hk, part1, hc]
theorem do_7 {S S' : St} {p b e : PV} {a : ActD} (ha : a.Wf) (hk : a.kind = 7) (hc : cval T 81 [p, .str a.name] S = some (.tup [b, e], S')) : cval T 19 [p, actV a] S = some (.tup [e, b], S') := by
  refine cval_ok' fn_19 rfl ?_
  simp -implicitDefEqProofs [law04_do, actV, pstep, ha.bone, ha.kone, ha.bcells, ha.kcells, hk, part1, hc]
theorem do_8 {S S' : St} {p : PV} {a : ActD} (ha : a.Wf) (hk : a.kind = 8) (hc : cval T 85 [p, .int .i64 a.n] S = some (.tup [], S')) : cval T 19 [p, actV a] S = some (.tup [.int .i64 0, .nils], S') := by
  refine cval_ok' fn_19 rfl ?_
  simp -implicitDefEqProofs [law04_do, actV, pstep, ha.bone, ha.kone, ha.bcells, ha.kcells, hk, part1, hc]
theorem do_0 {S : St} {p : PV} {a : ActD} (ha : a.Wf) (hk : a.kind < 1 ∨ 9 < a.kind) : cval T 19 [p, actV a] S = some (.tup [.int .i64 0, .nils], S) := by
  refine cval_ok' fn_19 rfl ?_
  have h1 : (a.kind == 1) = false := by rw [beq_eq_false_iff_ne]; omega
  have h2 : (a.kind == 2) = false := by rw [beq_eq_false_iff_ne]; omega
  have h3 : (a.kind == 3) = false := by rw [beq_eq_false_iff_ne]; omega
  have h4 : (a.kind == 4) = false := by rw [beq_eq_false_iff_ne]; omega
  have h5 : (a.kind == 5) = false := by rw [beq_eq_false_iff_ne]; omega
  have h6 : (a.kind == 6) = false := by rw [beq_eq_false_iff_ne]; omega
  have h7 : (a.kind == 7) = false := by rw [beq_eq_false_iff_ne]; omega
  have h8 : (a.kind == 8) = false := by rw [beq_eq_false_iff_ne]; omega
  have h9 : (a.kind == 9) = false := by rw [beq_eq_false_iff_ne]; omega
  simp -implicitDefEqProofs [law04_do, actV, pstep, ha.bone, ha.kone, ha.bcells, ha.kcells, part1, h1, h2, h3, h4, h5, h6, h7, h8, h9]

def refE (D : Dk) (a : ActD) : Int :=
  if a.kind = 1 then createE D a.name else if a.kind = 2 then appendE D a.name a.b else if a.kind = 3 then renameE D a.name a.to else if a.kind = 6 then 0 else findE D a.name

inductive DoesD (D : Dk) (a : ActD) : Int → List UInt8 → Dk → Prop where
  | refuse (hk : 1 ≤ a.kind ∧ a.kind ≤ 6) (hr : refE D a ≠ 0) : DoesD D a (refE D a) [] D
  | dark (hk : 1 ≤ a.kind ∧ a.kind ≤ 6) (hr : refE D a = 0) (hs : stepR D = 6) : DoesD D a 6 [] (stepD D)
  | create (hk : a.kind = 1) (hr : createE D a.name = 0) (hs : stepR D = 0) (F : Nat) (wv' : PV) (hF : F ∉ D.fl) : DoesD D a 0 [] { stepD (addF D F) with live := put a.name F D.live, wait := D.wait ++ [([], a.name, some F)], wv := wv' }
  | append (hk : a.kind = 2) (hr : appendE D a.name a.b = 0) (hs : stepR D = 0) (f : Nat) (v' : PV) (hf : lk a.name D.live = some f) : DoesD D a 0 [] (setF (stepD D) f v' (D.fb f ++ a.b) (D.fs f))
  | rename (hk : a.kind = 3) (hr : renameE D a.name a.to = 0) (hs : stepR D = 0) (wv' : PV) : DoesD D a 0 [] { stepD D with live := doE (a.name, a.to, none) D.live, wait := D.wait ++ [(a.name, a.to, none)], wv := wv' }
  | remove (hk : a.kind = 4) (hr : findE D a.name = 0) (hs : stepR D = 0) (wv' : PV) : DoesD D a 0 [] { stepD D with live := doE (a.name, [], none) D.live, wait := D.wait ++ [(a.name, [], none)], wv := wv' }
  | sync (hk : a.kind = 5) (hr : findE D a.name = 0) (hs : stepR D = 0) (f : Nat) (hf : lk a.name D.live = some f) : DoesD D a 0 [] (setF (stepD D) f (D.fv f) (D.fb f) (D.fb f).length)
  | syncdir (hk : a.kind = 6) (hs : stepR D = 0) (B : Nat) : DoesD D a 0 [] { stepD D with bi := B, base := D.live, wait := [], wv := .nils }
  | read (hk : a.kind = 7) : DoesD D a (readE D a.name) (readB D a.name) D
  | fuse (hk : a.kind = 8) : DoesD D a 0 [] (fuseD D a.n)
  | crash (hk : a.kind = 9) (li' : Nat) (fv' : Nat → PV) : DoesD D a 0 [] (crashD D li' fv' a.n a.kept)
  | none (hk : a.kind < 1 ∨ 9 < a.kind) : DoesD D a 0 [] D

def OwnB (o : Nat) (S S' : St) (D : Dk) (bv : PV) (b : List UInt8) : Prop :=
  ((bv = .nils ∨ bv = .emp) ∧ b = []) ∨ ∃ id, bv = .osl id 0 b.length 1 ∧ S.objs.length ≤ id ∧ S'.objs[id]? = some (ofBytes b) ∧ b ≠ [] ∧ id ≠ o ∧ ¬ OwnsO D id

theorem read_fra {S : St} {o K : Nat} {D : Dk} (h : At S o K D) (n : Nm) : At (readS D n S) o K D ∧ Fra o S (readS D n S) D D ∧ OwnB o S (readS D n S) D (readW D n S) (readB D n) := by
  rcases read_own h n with ⟨e1, e2, e3⟩ | ⟨e1, e2, e3⟩
  · rw [e3]; exact ⟨h, Fra.refl _ _ _, .inl ⟨e1, e2⟩⟩
  · rw [e2]
    have hk : ∀ (i : Nat) (c : List PV), S.objs[i]? = some c → (S.objs ++ [ofBytes (readB D n)])[i]? = some c := fun i c hc => by
      rw [List.getElem?_append_left (List.getElem?_eq_some_iff.1 hc).1]; exact hc
    refine ⟨h.grow hk (fun _ _ hc => hc), ⟨⟨Nat.le_refl _, fun k _ hk => ⟨hk, rfl⟩⟩, ⟨fun i c hc _ _ => hk i c hc, fun i _ _ hn => hn⟩⟩, .inr ⟨S.objs.length, e1, Nat.le_refl _, by simp, e3, ?_, ?_⟩⟩
    · have := (List.getElem?_eq_some_iff.1 h.obj).1; omega
    · have h1 := (List.getElem?_eq_some_iff.1 h.base).1
      have h2 := (List.getElem?_eq_some_iff.1 h.live).1
      rintro (e | e | e)
      · omega
      · omega
      · exact lt_nf h e

theorem stepR_or (D : Dk) : stepR D = 0 ∨ stepR D = 6 := stepR_cases D

theorem act_val {S : St} {o K : Nat} {D : Dk} (h : At S o K D) (hK : K ≤ 1048560) {a : ActD} (ha : a.Wf) :
    ∃ r bv b D' S', cval T 19 [.ptr o 0, actV a] S = some (.tup [.int .i64 r, bv], S') ∧ At S' o (K + 2) D' ∧ Fra o S S' D D' ∧ DoesD D a r b D' ∧ OwnB o S S' D' bv b := by
  have nn : ∀ S S' D', OwnB o S S' D' .nils [] := fun _ _ _ => .inl ⟨.inl rfl, rfl⟩
  by_cases h0 : a.kind < 1 ∨ 9 < a.kind
  · exact ⟨0, .nils, [], D, S, do_0 ha h0, h.mono (by omega), Fra.refl _ _ _, .none h0, nn _ _ _⟩
  by_cases h1 : a.kind = 1
  · have hre : refE D a = createE D a.name := by simp [refE, h1]
    by_cases he : createE D a.name = 0
    · rcases stepR_or D with hs | hs
      · obtain ⟨wv', S', hc, hA, hR⟩ := create_ok h ha.name (by omega) he hs
        exact ⟨_, .nils, [], _, S', do_1 ha h1 hc, hA, hR, .create h1 he hs _ _ (lt_nf h), nn _ _ _⟩
      · obtain ⟨S', hc, hA, hR, hi⟩ := create_dark h ha.name (by omega) he hs
        exact ⟨_, .nils, [], _, S', do_1 ha h1 hc, hA.mono (by omega), hR, .dark (by omega) (by rw [hre]; exact he) hs, nn _ _ _⟩
    · rw [← hre] at he
      exact ⟨refE D a, .nils, [], D, S, do_1 ha h1 (by rw [hre]; exact create_no h ha.name (by omega) (by rw [← hre]; exact he)), h.mono (by omega), Fra.refl _ _ _, .refuse (by omega) he, nn _ _ _⟩
  by_cases h2 : a.kind = 2
  · have hre : refE D a = appendE D a.name a.b := by simp [refE, h2]
    by_cases he : appendE D a.name a.b = 0
    · rcases stepR_or D with hs | hs
      · obtain ⟨f, hlk, _⟩ := find_some (appendE_zero he).1
        obtain ⟨v', S', hc, hA, hR⟩ := append_ok h (by omega) ha.name ha.len ha.app he hs hlk
        exact ⟨_, .nils, [], _, S', do_2 ha h2 hc, hA.mono (by omega), hR, .append h2 he hs _ _ hlk, nn _ _ _⟩
      · exact ⟨_, .nils, [], _, _, do_2 ha h2 (append_dark h (by omega) ha.name ha.len he hs), (step_val h (by omega)).2.mono (by omega), step_fra, .dark (by omega) (by rw [hre]; exact he) hs, nn _ _ _⟩
    · rw [← hre] at he
      exact ⟨refE D a, .nils, [], D, S, do_2 ha h2 (by rw [hre]; exact append_no h (by omega) ha.name ha.len (by rw [← hre]; exact he)), h.mono (by omega), Fra.refl _ _ _, .refuse (by omega) he, nn _ _ _⟩
  by_cases h3 : a.kind = 3
  · have hre : refE D a = renameE D a.name a.to := by simp [refE, h3]
    by_cases he : renameE D a.name a.to = 0
    · rcases stepR_or D with hs | hs
      · obtain ⟨wv', S', hc, hA, hR⟩ := rename_ok h ha.name ha.to (by omega) he hs
        exact ⟨_, .nils, [], _, S', do_3 ha h3 hc, hA, hR, .rename h3 he hs _, nn _ _ _⟩
      · exact ⟨_, .nils, [], _, _, do_3 ha h3 (rename_dark h ha.name ha.to (by omega) he hs), (step_val h (by omega)).2.mono (by omega), step_fra, .dark (by omega) (by rw [hre]; exact he) hs, nn _ _ _⟩
    · rw [← hre] at he
      exact ⟨refE D a, .nils, [], D, S, do_3 ha h3 (by rw [hre]; exact rename_no h ha.name ha.to (by rw [← hre]; exact he)), h.mono (by omega), Fra.refl _ _ _, .refuse (by omega) he, nn _ _ _⟩
  by_cases h4 : a.kind = 4
  · have hre : refE D a = findE D a.name := by simp [refE, h4]
    by_cases he : findE D a.name = 0
    · rcases stepR_or D with hs | hs
      · obtain ⟨wv', S', hc, hA, hR⟩ := remove_ok h ha.name (by omega) he hs
        exact ⟨_, .nils, [], _, S', do_4 ha h4 hc, hA, hR, .remove h4 he hs _, nn _ _ _⟩
      · exact ⟨_, .nils, [], _, _, do_4 ha h4 (remove_dark h ha.name (by omega) he hs), (step_val h (by omega)).2.mono (by omega), step_fra, .dark (by omega) (by rw [hre]; exact he) hs, nn _ _ _⟩
    · rw [← hre] at he
      exact ⟨refE D a, .nils, [], D, S, do_4 ha h4 (by rw [hre]; exact remove_no h ha.name (by rw [← hre]; exact he)), h.mono (by omega), Fra.refl _ _ _, .refuse (by omega) he, nn _ _ _⟩
  by_cases h5 : a.kind = 5
  · have hre : refE D a = findE D a.name := by simp [refE, h5]
    by_cases he : findE D a.name = 0
    · rcases stepR_or D with hs | hs
      · obtain ⟨f, hlk, _⟩ := find_some he
        obtain ⟨S', hc, hA, hR⟩ := sync_ok h ha.name (by omega) he hs hlk
        exact ⟨_, .nils, [], _, S', do_5 ha h5 hc, hA.mono (by omega), hR, .sync h5 he hs _ hlk, nn _ _ _⟩
      · exact ⟨_, .nils, [], _, _, do_5 ha h5 (sync_dark h ha.name (by omega) he hs), (step_val h (by omega)).2.mono (by omega), step_fra, .dark (by omega) (by rw [hre]; exact he) hs, nn _ _ _⟩
    · rw [← hre] at he
      exact ⟨refE D a, .nils, [], D, S, do_5 ha h5 (by rw [hre]; exact sync_no h ha.name (by rw [← hre]; exact he)), h.mono (by omega), Fra.refl _ _ _, .refuse (by omega) he, nn _ _ _⟩
  by_cases h6 : a.kind = 6
  · have hre : refE D a = 0 := by simp [refE, h6]
    rcases stepR_or D with hs | hs
    · obtain ⟨S', hc, hA, hR⟩ := syncdir_ok h (by omega) hs
      exact ⟨_, .nils, [], _, S', do_6 ha h6 hc, hA.mono (by omega), hR, .syncdir h6 hs _, nn _ _ _⟩
    · exact ⟨_, .nils, [], _, _, do_6 ha h6 (syncdir_no h (by omega) hs), (step_val h (by omega)).2.mono (by omega), step_fra, .dark (by omega) hre hs, nn _ _ _⟩
  by_cases h7 : a.kind = 7
  · obtain ⟨r1, r2, r3⟩ := read_fra h a.name
    exact ⟨_, _, _, _, _, do_7 ha h7 (dread_val h ha.name), r1.mono (by omega), r2, .read h7, r3⟩
  by_cases h8 : a.kind = 8
  · obtain ⟨hc, hA, hR⟩ := fuse_val h ha.n
    exact ⟨_, .nils, [], _, _, do_8 ha h8 hc, hA.mono (by omega), hR, .fuse h8, nn _ _ _⟩
  · have h9 : a.kind = 9 := by omega
    obtain ⟨li', fv', S', hc, hA, hR, hne⟩ := crash_val h (by omega) (dirs := a.n) ha.kept
    exact ⟨_, .nils, [], _, S', do_9 ha h9 hc, hA.mono (by omega), hR, .crash h9 _ _, nn _ _ _⟩
end Ps
