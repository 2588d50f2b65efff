/- Of no disk. -/
import Derived.Test.YtedmhhncckddmaaDH
namespace Ps
set_option linter.unusedSimpArgs false
set_option linter.unusedVariables false
open Go

theorem fn_80 : T.fn 80 = some (.code disk_Disk_Crash) := rfl
theorem fn_copy : T.fn 462 = some (.code disk_Disk_Copy) := rfl

theorem fin_nil1 {S : St} : finish false S S (.tup [.nilp, .int .i64 1]) = (.tup [.nilp, .int .i64 1], S) := by rw [fin_same]; rfl
theorem fin_nils1 {S : St} : finish false S S (.tup [.nils, .int .i64 1]) = (.tup [.nils, .int .i64 1], S) := by rw [fin_same]; rfl

theorem find_nil {S : St} {n : Nm} : cval T 194 [.nilp, .str n] S = some (.tup [.nilp, .int .i64 1], S) := by
  refine cval_ok' fn_194 rfl ?_
  simp -implicitDefEqProofs [disk_Disk_find, fin_nil1]
theorem create_nil {S : St} {n : Nm} : cval T 77 [.nilp, .str n] S = some (.int .i64 1, S) := by
  refine cval_ok' fn_77 rfl ?_
  simp -implicitDefEqProofs [disk_Disk_Create, find_nil, fin_int]
theorem append_nil {S : St} {n : Nm} {bv : PV} : cval T 78 [.nilp, .str n, bv] S = some (.int .i64 1, S) := by
  refine cval_ok' fn_78 rfl ?_
  simp -implicitDefEqProofs [disk_Disk_Append, find_nil, fin_int]
theorem rename_nil {S : St} {a b : Nm} : cval T 82 [.nilp, .str a, .str b] S = some (.int .i64 1, S) := by
  refine cval_ok' fn_82 rfl ?_
  simp -implicitDefEqProofs [disk_Disk_Rename, find_nil, fin_int]
theorem remove_nil {S : St} {n : Nm} : cval T 83 [.nilp, .str n] S = some (.int .i64 1, S) := by
  refine cval_ok' fn_83 rfl ?_
  simp -implicitDefEqProofs [disk_Disk_Remove, find_nil, fin_int]
theorem sync_nil {S : St} {n : Nm} : cval T 84 [.nilp, .str n] S = some (.int .i64 1, S) := by
  refine cval_ok' fn_84 rfl ?_
  simp -implicitDefEqProofs [disk_Disk_Sync, find_nil, fin_int]
theorem syncdir_nil {S : St} : cval T 79 [.nilp] S = some (.int .i64 1, S) := by
  refine cval_ok' fn_79 rfl ?_
  simp -implicitDefEqProofs [disk_Disk_SyncDir, fin_int]
theorem read_nil {S : St} {n : Nm} : cval T 81 [.nilp, .str n] S = some (.tup [.nils, .int .i64 1], S) := by
  refine cval_ok' fn_81 rfl ?_
  simp -implicitDefEqProofs [disk_Disk_Read, find_nil, fin_nils1]
theorem list_nil {S : St} : cval T 90 [.nilp] S = some (.nils, S) := by
  refine cval_ok' fn_90 rfl ?_
  simp -implicitDefEqProofs [disk_Disk_List]
  rw [fin_same]; rfl
theorem fuse_nil {S : St} {n : Int} : cval T 85 [.nilp, .int .i64 n] S = some (.tup [], S) := by
  refine cval_ok' fn_85 rfl ?_
  simp -implicitDefEqProofs [disk_Disk_Fuse]
  rw [ends_nil, fin_same]; rfl
theorem done_nil {S : St} : cval T 93 [.nilp] S = some (.int .i64 0, S) := by
  refine cval_ok' fn_93 rfl ?_
  simp -implicitDefEqProofs [disk_Disk_Done, fin_int]
theorem crash_nil {S : St} {n : Int} {v : PV} : cval T 80 [.nilp, .int .i64 n, v] S = some (.int .i64 1, S) := by
  refine cval_ok' fn_80 rfl ?_
  simp -implicitDefEqProofs [disk_Disk_Crash, fin_int]
theorem copy_nil {S : St} : cval T 462 [.nilp] S = some (.nilp, S) := by
  refine cval_ok' fn_copy rfl ?_
  simp -implicitDefEqProofs [disk_Disk_Copy]
  rw [fin_same]; rfl

/-! ### New -/
theorem fn_16 : T.fn 16 = some (.code disk_New) := rfl
def newD (r : Int) (L : Nat) : Dk := ⟨r, -1, 0, false, L, L + 1, [], [], [], .nils, [], fun _ => [], fun _ => 0, fun _ => .nils⟩

theorem new_bad {S : St} {r : Int} (h : r < 1 ∨ 4194304 < r) : cval T 16 [.int .i64 r] S = some (.tup [.nilp, .int .i64 2], S) := by
  refine cval_ok' fn_16 rfl ?_
  have fin2 : finish false S S (.tup [.nilp, .int .i64 2]) = (.tup [.nilp, .int .i64 2], S) := by rw [fin_same]; rfl
  rcases h with h | h
  · simp -implicitDefEqProofs [disk_New, h, fin2]
  · have h2 : ¬ r < 1 := by omega
    simp -implicitDefEqProofs [disk_New, h, h2, fin2]

theorem new_at {S : St} {r : Int} (h1 : 1 ≤ r) (h2 : r ≤ 4194304) :
    At ⟨S.objs ++ [[], [], dcells (newD r S.objs.length)], S.tips⟩ (S.objs.length + 2) 0 (newD r S.objs.length) where
  obj := by simp [List.getElem?_append]
  base := by simp [List.getElem?_append, newD, mcells]
  live := by simp [List.getElem?_append, newD, mcells]
  wv := .inl ⟨rfl, rfl⟩
  file := fun f hf => by cases hf
  inb := fun p hp => by cases hp
  inw := fun p hp => by cases hp
  nd := ⟨by simp only [newD]; omega, by simp only [newD]; omega, by simp only [newD]; omega, fun f hf => by cases hf⟩
  tw := fun f hf => by cases hf
  tf := fun f hf => by cases hf
  hist := .nil _
  nb := fun p hp => by cases hp
  nw := fun p hp => by cases hp
  rm := ⟨h1, h2⟩
  cnt := by simp [newD]
  dn := ⟨Int.le_refl _, Int.le_refl _⟩
  lf := ⟨by simp [newD], by simp [newD]⟩

theorem new_ok {S : St} {r : Int} (h1 : 1 ≤ r) (h2 : r ≤ 4194304) : cval T 16 [.int .i64 r] S = some (.tup [.ptr (S.objs.length + 2) 0, .int .i64 0], ⟨S.objs ++ [[], [], dcells (newD r S.objs.length)], S.tips⟩) := by
  refine cval_ok' fn_16 rfl ?_
  have a1 : ¬ r < 1 := by omega
  have a2 : ¬ 4194304 < r := by omega
  simp -implicitDefEqProofs [disk_New, a1, a2, pstep, peval, fillParts, putCells, newObj]
  obtain ⟨S1, hS1⟩ : ∃ S1 : St, S1 = ⟨S.objs ++ [[], [], dcells (newD r S.objs.length)], S.tips⟩ := ⟨_, rfl⟩
  have ho : S1.objs[S.objs.length + 2]? = some (dcells (newD r S.objs.length)) := by rw [hS1]; simp [List.getElem?_append]
  have hs : sol S1.objs S.objs.length solFuel (.tup [.ptr (S.objs.length + 2) 0, .int .i64 0]) = none := by
    have b1 : sol S1.objs S.objs.length 38 (.map S.objs.length) = none := rfl
    have b0 : sol S1.objs S.objs.length 38 (.int .i64 r) = some (.int .i64 r) := rfl
    have b2 : sol S1.objs S.objs.length 39 (.ptr (S.objs.length + 2) 0) = none := by
      rw [sol]
      have hle : S.objs.length ≤ S.objs.length + 2 := by omega
      simp only [PV.free, Bool.false_eq_true, if_false, hle, if_true, ho]
      simp [dcells, newD, mapO, b0, b1]
    show sol S1.objs S.objs.length (39 + 1) (.tup [.ptr (S.objs.length + 2) 0, .int .i64 0]) = none
    rw [sol]
    simp only [PV.free, PV.freeL, Bool.false_and, Bool.false_eq_true, if_false]
    simp only [mapO, b2]
  have hf : finish false S S1 (.tup [.ptr (S.objs.length + 2) 0, .int .i64 0]) = (.tup [.ptr (S.objs.length + 2) 0, .int .i64 0], S1) := by
    unfold finish
    simp only [Bool.false_eq_true, if_false, hs]
  rw [hS1] at hf
  exact hf

end Ps
