/- The program's functions are the pure ones: printed by program, checked by the kernel. -/
import Derived.Test.YtidloidlffjimaaCode
import Derived.Test.YtidloidlffjimaaExtM
import Derived.Test.YtidloidlffjimaaChecked
import Derived.Test.YtidloidlffjimaaShelfM
namespace Ps
open Go Go.Proofs
set_option maxRecDepth 10000
def fnL : List (Nat × Nat) := [(0, 0), (1, 1), (2, 2), (461, 3), (16, 4), (17, 5), (18, 6), (19, 7), (20, 8), (462, 9), (21, 10), (77, 11), (78, 12), (79, 13), (80, 14), (81, 15), (82, 16), (83, 17), (84, 18), (85, 19), (86, 20), (87, 21), (88, 22), (89, 23), (463, 24), (201, 25), (464, 26), (90, 27), (91, 28), (92, 29), (93, 30), (194, 31), (195, 32), (196, 33), (197, 34), (198, 35), (199, 36), (200, 37), (202, 38), (203, 39), (204, 40), (205, 41), (206, 42), (207, 43), (292, 44), (293, 45), (239, 46), (294, 47), (295, 48), (296, 49), (347, 50), (316, 51), (317, 52), (363, 53), (364, 54), (365, 55), (366, 56), (367, 57), (368, 58), (369, 59), (370, 60), (371, 61), (372, 62), (373, 63), (394, 64), (395, 65), (396, 66), (397, 67), (398, 68), (217, 69), (411, 70), (417, 71), (418, 72), (419, 73), (420, 74), (421, 75), (422, 76), (423, 77), (424, 78), (425, 79), (426, 80), (427, 81), (428, 82), (429, 83), (432, 84), (433, 85), (438, 86)]
def tyL : List (Nat × Nat) := [(0, 9), (4, 47)]
def mnL : List (Nat × String) := [(0, "gauge/regex.ends"), (1, "Kind"), (2, "Elem"), (3, "Implements"), (4, "AssignableTo"), (5, "As"), (6, "Unwrap")]
def methL : List (Nat × Nat × Nat) := []
def tabL : List (Nat × PFn) := [(461, .code law04_DiskCopies), (16, .code disk_New), (17, .code ref04_New), (18, .code law04_lives), (19, .code law04_do), (20, .code law04_done), (462, .code disk_Disk_Copy), (21, .code law04_whole), (77, .code disk_Disk_Create), (78, .code disk_Disk_Append), (79, .code disk_Disk_SyncDir), (80, .code disk_Disk_Crash), (81, .code disk_Disk_Read), (82, .code disk_Disk_Rename), (83, .code disk_Disk_Remove), (84, .code disk_Disk_Sync), (85, .code disk_Disk_Fuse), (86, .code ref04_Change), (87, .code ref04_Read), (88, .code ref04_Fuse), (89, .code ref04_Crash), (463, .code disk_Disk_Copy_1), (201, .code slices_Clone_byte), (464, .code disk_Disk_Copy_2), (90, .code disk_Disk_List), (91, .code law04_same), (92, .code ref04_List), (93, .code disk_Disk_Done), (194, .code disk_Disk_find), (195, .code disk_Disk_enter), (196, .code disk_Disk_step), (197, .exs cloneP), (198, .code disk_entry_do), (199, .exs (sortedP 294)), (200, .code maps_Keys_file), (202, .code disk_named), (203, .code ref04_Named), (204, .code ref04_Live), (205, .code ref04_At), (206, .code ref04_step), (207, .code ref04_Dir), (295, .code ref04_with), (296, .code ref04_without), (411, .code slices_order2Ordered_string)]
def T : Tbl := ⟨look tabL, methTab methL⟩
noncomputable def tie : Tie := ⟨Try.prog, T, fnTab fnL 100000, tyTab tyL, mnTab mnL⟩
theorem fok_law04_DiskCopies : chkFn tie Try.f3 law04_DiskCopies = true := by kernel_rfl
theorem fok'_law04_DiskCopies : FnOk tie 461 (.code law04_DiskCopies) := ⟨Try.f3, Try.func3, fok_law04_DiskCopies⟩
theorem fok_disk_New : chkFn tie Try.f4 disk_New = true := by kernel_rfl
theorem fok'_disk_New : FnOk tie 16 (.code disk_New) := ⟨Try.f4, Try.func4, fok_disk_New⟩
theorem fok_ref04_New : chkFn tie Try.f5 ref04_New = true := by kernel_rfl
theorem fok'_ref04_New : FnOk tie 17 (.code ref04_New) := ⟨Try.f5, Try.func5, fok_ref04_New⟩
theorem fok_law04_lives : chkFn tie Try.f6 law04_lives = true := by kernel_rfl
theorem fok'_law04_lives : FnOk tie 18 (.code law04_lives) := ⟨Try.f6, Try.func6, fok_law04_lives⟩
theorem fok_law04_do : chkFn tie Try.f7 law04_do = true := by kernel_rfl
theorem fok'_law04_do : FnOk tie 19 (.code law04_do) := ⟨Try.f7, Try.func7, fok_law04_do⟩
theorem fok_law04_done : chkFn tie Try.f8 law04_done = true := by kernel_rfl
theorem fok'_law04_done : FnOk tie 20 (.code law04_done) := ⟨Try.f8, Try.func8, fok_law04_done⟩
theorem fok_disk_Disk_Copy : chkFn tie Try.f9 disk_Disk_Copy = true := by kernel_rfl
theorem fok'_disk_Disk_Copy : FnOk tie 462 (.code disk_Disk_Copy) := ⟨Try.f9, Try.func9, fok_disk_Disk_Copy⟩
theorem fok_law04_whole : chkFn tie Try.f10 law04_whole = true := by kernel_rfl
theorem fok'_law04_whole : FnOk tie 21 (.code law04_whole) := ⟨Try.f10, Try.func10, fok_law04_whole⟩
theorem fok_disk_Disk_Create : chkFn tie Try.f11 disk_Disk_Create = true := by kernel_rfl
theorem fok'_disk_Disk_Create : FnOk tie 77 (.code disk_Disk_Create) := ⟨Try.f11, Try.func11, fok_disk_Disk_Create⟩
theorem fok_disk_Disk_Append : chkFn tie Try.f12 disk_Disk_Append = true := by kernel_rfl
theorem fok'_disk_Disk_Append : FnOk tie 78 (.code disk_Disk_Append) := ⟨Try.f12, Try.func12, fok_disk_Disk_Append⟩
theorem fok_disk_Disk_SyncDir : chkFn tie Try.f13 disk_Disk_SyncDir = true := by kernel_rfl
theorem fok'_disk_Disk_SyncDir : FnOk tie 79 (.code disk_Disk_SyncDir) := ⟨Try.f13, Try.func13, fok_disk_Disk_SyncDir⟩
theorem fok_disk_Disk_Crash : chkFn tie Try.f14 disk_Disk_Crash = true := by kernel_rfl
theorem fok'_disk_Disk_Crash : FnOk tie 80 (.code disk_Disk_Crash) := ⟨Try.f14, Try.func14, fok_disk_Disk_Crash⟩
theorem fok_disk_Disk_Read : chkFn tie Try.f15 disk_Disk_Read = true := by kernel_rfl
theorem fok'_disk_Disk_Read : FnOk tie 81 (.code disk_Disk_Read) := ⟨Try.f15, Try.func15, fok_disk_Disk_Read⟩
theorem fok_disk_Disk_Rename : chkFn tie Try.f16 disk_Disk_Rename = true := by kernel_rfl
theorem fok'_disk_Disk_Rename : FnOk tie 82 (.code disk_Disk_Rename) := ⟨Try.f16, Try.func16, fok_disk_Disk_Rename⟩
theorem fok_disk_Disk_Remove : chkFn tie Try.f17 disk_Disk_Remove = true := by kernel_rfl
theorem fok'_disk_Disk_Remove : FnOk tie 83 (.code disk_Disk_Remove) := ⟨Try.f17, Try.func17, fok_disk_Disk_Remove⟩
theorem fok_disk_Disk_Sync : chkFn tie Try.f18 disk_Disk_Sync = true := by kernel_rfl
theorem fok'_disk_Disk_Sync : FnOk tie 84 (.code disk_Disk_Sync) := ⟨Try.f18, Try.func18, fok_disk_Disk_Sync⟩
theorem fok_disk_Disk_Fuse : chkFn tie Try.f19 disk_Disk_Fuse = true := by kernel_rfl
theorem fok'_disk_Disk_Fuse : FnOk tie 85 (.code disk_Disk_Fuse) := ⟨Try.f19, Try.func19, fok_disk_Disk_Fuse⟩
theorem fok_ref04_Change : chkFn tie Try.f20 ref04_Change = true := by kernel_rfl
theorem fok'_ref04_Change : FnOk tie 86 (.code ref04_Change) := ⟨Try.f20, Try.func20, fok_ref04_Change⟩
theorem fok_ref04_Read : chkFn tie Try.f21 ref04_Read = true := by kernel_rfl
theorem fok'_ref04_Read : FnOk tie 87 (.code ref04_Read) := ⟨Try.f21, Try.func21, fok_ref04_Read⟩
theorem fok_ref04_Fuse : chkFn tie Try.f22 ref04_Fuse = true := by kernel_rfl
theorem fok'_ref04_Fuse : FnOk tie 88 (.code ref04_Fuse) := ⟨Try.f22, Try.func22, fok_ref04_Fuse⟩
theorem fok_ref04_Crash : chkFn tie Try.f23 ref04_Crash = true := by kernel_rfl
theorem fok'_ref04_Crash : FnOk tie 89 (.code ref04_Crash) := ⟨Try.f23, Try.func23, fok_ref04_Crash⟩
theorem fok_disk_Disk_Copy_1 : chkFn tie Try.f24 disk_Disk_Copy_1 = true := by kernel_rfl
theorem fok'_disk_Disk_Copy_1 : FnOk tie 463 (.code disk_Disk_Copy_1) := ⟨Try.f24, Try.func24, fok_disk_Disk_Copy_1⟩
theorem fok_slices_Clone_byte : chkFn tie Try.f25 slices_Clone_byte = true := by kernel_rfl
theorem fok'_slices_Clone_byte : FnOk tie 201 (.code slices_Clone_byte) := ⟨Try.f25, Try.func25, fok_slices_Clone_byte⟩
theorem fok_disk_Disk_Copy_2 : chkFn tie Try.f26 disk_Disk_Copy_2 = true := by kernel_rfl
theorem fok'_disk_Disk_Copy_2 : FnOk tie 464 (.code disk_Disk_Copy_2) := ⟨Try.f26, Try.func26, fok_disk_Disk_Copy_2⟩
theorem fok_disk_Disk_List : chkFn tie Try.f27 disk_Disk_List = true := by kernel_rfl
theorem fok'_disk_Disk_List : FnOk tie 90 (.code disk_Disk_List) := ⟨Try.f27, Try.func27, fok_disk_Disk_List⟩
theorem fok_law04_same : chkFn tie Try.f28 law04_same = true := by kernel_rfl
theorem fok'_law04_same : FnOk tie 91 (.code law04_same) := ⟨Try.f28, Try.func28, fok_law04_same⟩
theorem fok_ref04_List : chkFn tie Try.f29 ref04_List = true := by kernel_rfl
theorem fok'_ref04_List : FnOk tie 92 (.code ref04_List) := ⟨Try.f29, Try.func29, fok_ref04_List⟩
theorem fok_disk_Disk_Done : chkFn tie Try.f30 disk_Disk_Done = true := by kernel_rfl
theorem fok'_disk_Disk_Done : FnOk tie 93 (.code disk_Disk_Done) := ⟨Try.f30, Try.func30, fok_disk_Disk_Done⟩
theorem fok_disk_Disk_find : chkFn tie Try.f31 disk_Disk_find = true := by kernel_rfl
theorem fok'_disk_Disk_find : FnOk tie 194 (.code disk_Disk_find) := ⟨Try.f31, Try.func31, fok_disk_Disk_find⟩
theorem fok_disk_Disk_enter : chkFn tie Try.f32 disk_Disk_enter = true := by kernel_rfl
theorem fok'_disk_Disk_enter : FnOk tie 195 (.code disk_Disk_enter) := ⟨Try.f32, Try.func32, fok_disk_Disk_enter⟩
theorem fok_disk_Disk_step : chkFn tie Try.f33 disk_Disk_step = true := by kernel_rfl
theorem fok'_disk_Disk_step : FnOk tie 196 (.code disk_Disk_step) := ⟨Try.f33, Try.func33, fok_disk_Disk_step⟩
theorem fok_disk_entry_do : chkFn tie Try.f35 disk_entry_do = true := by kernel_rfl
theorem fok'_disk_entry_do : FnOk tie 198 (.code disk_entry_do) := ⟨Try.f35, Try.func35, fok_disk_entry_do⟩
theorem fok_maps_Keys_file : chkFn tie Try.f37 maps_Keys_file = true := by kernel_rfl
theorem fok'_maps_Keys_file : FnOk tie 200 (.code maps_Keys_file) := ⟨Try.f37, Try.func37, fok_maps_Keys_file⟩
theorem fok_disk_named : chkFn tie Try.f38 disk_named = true := by kernel_rfl
theorem fok'_disk_named : FnOk tie 202 (.code disk_named) := ⟨Try.f38, Try.func38, fok_disk_named⟩
theorem fok_ref04_Named : chkFn tie Try.f39 ref04_Named = true := by kernel_rfl
theorem fok'_ref04_Named : FnOk tie 203 (.code ref04_Named) := ⟨Try.f39, Try.func39, fok_ref04_Named⟩
theorem fok_ref04_Live : chkFn tie Try.f40 ref04_Live = true := by kernel_rfl
theorem fok'_ref04_Live : FnOk tie 204 (.code ref04_Live) := ⟨Try.f40, Try.func40, fok_ref04_Live⟩
theorem fok_ref04_At : chkFn tie Try.f41 ref04_At = true := by kernel_rfl
theorem fok'_ref04_At : FnOk tie 205 (.code ref04_At) := ⟨Try.f41, Try.func41, fok_ref04_At⟩
theorem fok_ref04_step : chkFn tie Try.f42 ref04_step = true := by kernel_rfl
theorem fok'_ref04_step : FnOk tie 206 (.code ref04_step) := ⟨Try.f42, Try.func42, fok_ref04_step⟩
theorem fok_ref04_Dir : chkFn tie Try.f43 ref04_Dir = true := by kernel_rfl
theorem fok'_ref04_Dir : FnOk tie 207 (.code ref04_Dir) := ⟨Try.f43, Try.func43, fok_ref04_Dir⟩
theorem fok_ref04_with : chkFn tie Try.f48 ref04_with = true := by kernel_rfl
theorem fok'_ref04_with : FnOk tie 295 (.code ref04_with) := ⟨Try.f48, Try.func48, fok_ref04_with⟩
theorem fok_ref04_without : chkFn tie Try.f49 ref04_without = true := by kernel_rfl
theorem fok'_ref04_without : FnOk tie 296 (.code ref04_without) := ⟨Try.f49, Try.func49, fok_ref04_without⟩
theorem fok_slices_order2Ordered_string : chkFn tie Try.f70 slices_order2Ordered_string = true := by kernel_rfl
theorem fok'_slices_order2Ordered_string : FnOk tie 411 (.code slices_order2Ordered_string) := ⟨Try.f70, Try.func70, fok_slices_order2Ordered_string⟩
theorem fok'_slices_Sorted_string : FnOk tie 199 (.exs (sortedP 294)) := by
 have hf : Try.prog.funcs[fnTab fnL 100000 199]? = some Try.f36 := Try.func36
 exact sortedExt (X := tie) (f := 199) (gk := 294) (fn := Try.f36) (k := 9) Try.underlying9 hf (by decide +kernel) (by kernel_rfl) (fun bx b nn D0 w h1 h2 h3 h4 => Go.Proofs.Try.sorted_keys unitR bx b nn D0 w h1 h2 h3 h4)
theorem fok'_maps_Clone_file : FnOk tie 197 (.exs cloneP) := by
 have hf : Try.prog.funcs[fnTab fnL 100000 197]? = some Try.f34 := Try.func34
 exact cloneExt (X := tie) (f := 197) (fn := Try.f34) hf (by decide +kernel) (by kernel_rfl) Go.Proofs.Try.maps_clone
theorem tieOk : TieOk tie where
 ty := tyTab_inj (by decide)
 meth := fun t m f h u w => chkMeth_ok (methTab_ok (P := Try.prog) (ty := tyTab tyL) (mn := mnTab mnL) (fnOf := fnTab fnL 100000) (l := methL) (by kernel_rfl) t m f h) _ u w
 mixed := by kernel_rfl
 fns := fun f pf h => by
  have : ∀ q ∈ tabL, FnOk tie q.1 q.2 := by
   exact List.forall_mem_cons.2 ⟨fok'_law04_DiskCopies, List.forall_mem_cons.2 ⟨fok'_disk_New, List.forall_mem_cons.2 ⟨fok'_ref04_New, List.forall_mem_cons.2 ⟨fok'_law04_lives, List.forall_mem_cons.2 ⟨fok'_law04_do, List.forall_mem_cons.2 ⟨fok'_law04_done, List.forall_mem_cons.2 ⟨fok'_disk_Disk_Copy, List.forall_mem_cons.2 ⟨fok'_law04_whole, List.forall_mem_cons.2 ⟨fok'_disk_Disk_Create, List.forall_mem_cons.2 ⟨fok'_disk_Disk_Append, List.forall_mem_cons.2 ⟨fok'_disk_Disk_SyncDir, List.forall_mem_cons.2 ⟨fok'_disk_Disk_Crash, List.forall_mem_cons.2 ⟨fok'_disk_Disk_Read, List.forall_mem_cons.2 ⟨fok'_disk_Disk_Rename, List.forall_mem_cons.2 ⟨fok'_disk_Disk_Remove, List.forall_mem_cons.2 ⟨fok'_disk_Disk_Sync, List.forall_mem_cons.2 ⟨fok'_disk_Disk_Fuse, List.forall_mem_cons.2 ⟨fok'_ref04_Change, List.forall_mem_cons.2 ⟨fok'_ref04_Read, List.forall_mem_cons.2 ⟨fok'_ref04_Fuse, List.forall_mem_cons.2 ⟨fok'_ref04_Crash, List.forall_mem_cons.2 ⟨fok'_disk_Disk_Copy_1, List.forall_mem_cons.2 ⟨fok'_slices_Clone_byte, List.forall_mem_cons.2 ⟨fok'_disk_Disk_Copy_2, List.forall_mem_cons.2 ⟨fok'_disk_Disk_List, List.forall_mem_cons.2 ⟨fok'_law04_same, List.forall_mem_cons.2 ⟨fok'_ref04_List, List.forall_mem_cons.2 ⟨fok'_disk_Disk_Done, List.forall_mem_cons.2 ⟨fok'_disk_Disk_find, List.forall_mem_cons.2 ⟨fok'_disk_Disk_enter, List.forall_mem_cons.2 ⟨fok'_disk_Disk_step, List.forall_mem_cons.2 ⟨fok'_maps_Clone_file, List.forall_mem_cons.2 ⟨fok'_disk_entry_do, List.forall_mem_cons.2 ⟨fok'_slices_Sorted_string, List.forall_mem_cons.2 ⟨fok'_maps_Keys_file, List.forall_mem_cons.2 ⟨fok'_disk_named, List.forall_mem_cons.2 ⟨fok'_ref04_Named, List.forall_mem_cons.2 ⟨fok'_ref04_Live, List.forall_mem_cons.2 ⟨fok'_ref04_At, List.forall_mem_cons.2 ⟨fok'_ref04_step, List.forall_mem_cons.2 ⟨fok'_ref04_Dir, List.forall_mem_cons.2 ⟨fok'_ref04_with, List.forall_mem_cons.2 ⟨fok'_ref04_without, List.forall_mem_cons.2 ⟨fok'_slices_order2Ordered_string, fun _ h => absurd h List.not_mem_nil⟩⟩⟩⟩⟩⟩⟩⟩⟩⟩⟩⟩⟩⟩⟩⟩⟩⟩⟩⟩⟩⟩⟩⟩⟩⟩⟩⟩⟩⟩⟩⟩⟩⟩⟩⟩⟩⟩⟩⟩⟩⟩⟩⟩
  exact this _ (look_mem h)
end Ps
