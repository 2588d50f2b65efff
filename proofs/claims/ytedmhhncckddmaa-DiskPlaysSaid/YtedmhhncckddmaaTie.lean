/- The program's functions are the pure ones: printed by program, checked by the kernel. -/
import Derived.Test.YtedmhhncckddmaaCode
import Derived.Test.YtedmhhncckddmaaExt
import Derived.Test.YtedmhhncckddmaaChecked
import Derived.Test.YtedmhhncckddmaaExtM
import Derived.Test.YtedmhhncckddmaaShelfM
namespace Ps
open Go Go.Proofs
set_option maxRecDepth 10000
def fnL : List (Nat × Nat) := [(0, 0), (1, 1), (2, 2), (472, 3), (467, 4), (469, 5), (3, 6), (471, 7), (465, 8), (461, 9), (470, 10), (16, 11), (18, 12), (77, 13), (78, 14), (84, 15), (79, 16), (82, 17), (80, 18), (81, 19), (466, 20), (85, 21), (468, 22), (90, 23), (19, 24), (91, 25), (17, 26), (20, 27), (21, 28), (93, 29), (462, 30), (194, 31), (195, 32), (196, 33), (197, 34), (202, 35), (198, 36), (199, 37), (200, 38), (201, 39), (83, 40), (86, 41), (87, 42), (88, 43), (89, 44), (92, 45), (463, 46), (464, 47), (292, 48), (293, 49), (239, 50), (294, 51), (203, 52), (204, 53), (205, 54), (206, 55), (207, 56), (347, 57), (316, 58), (317, 59), (295, 60), (296, 61), (363, 62), (364, 63), (365, 64), (366, 65), (367, 66), (368, 67), (369, 68), (370, 69), (371, 70), (372, 71), (373, 72), (394, 73), (395, 74), (396, 75), (397, 76), (398, 77), (217, 78), (411, 79), (417, 80), (418, 81), (419, 82), (420, 83), (421, 84), (422, 85), (423, 86), (424, 87), (425, 88), (426, 89), (427, 90), (428, 91), (429, 92), (432, 93), (433, 94), (438, 95)]
def tyL : List (Nat × Nat) := [(0, 9), (4, 69)]
def mnL : List (Nat × String) := [(0, "gauge/regex.ends"), (1, "Kind"), (2, "Elem"), (3, "Implements"), (4, "AssignableTo"), (5, "As"), (6, "Unwrap")]
def methL : List (Nat × Nat × Nat) := []
def tabL : List (Nat × PFn) := [(472, .code law04_DiskSwaps), (467, .code law04_DiskLasts), (469, .code law04_DiskNames), (3, .code law04_DiskPlays), (471, .code law04_DiskRefuses), (465, .code law04_DiskDark), (461, .code law04_DiskCopies), (470, .code law04_DiskNil), (16, .code disk_New), (18, .code law04_lives), (77, .code disk_Disk_Create), (78, .code disk_Disk_Append), (84, .code disk_Disk_Sync), (79, .code disk_Disk_SyncDir), (82, .code disk_Disk_Rename), (80, .code disk_Disk_Crash), (81, .code disk_Disk_Read), (466, .code law04_begun), (85, .code disk_Disk_Fuse), (468, .code law04_begins), (90, .code disk_Disk_List), (19, .code law04_do), (91, .code law04_same), (17, .code ref04_New), (20, .code law04_done), (21, .code law04_whole), (93, .code disk_Disk_Done), (462, .code disk_Disk_Copy), (194, .code disk_Disk_find), (195, .code disk_Disk_enter), (196, .code disk_Disk_step), (197, .exs cloneP), (202, .code disk_named), (198, .code disk_entry_do), (199, .exs (sortedP 294)), (200, .code maps_Keys_file), (201, .code slices_Clone_byte), (83, .code disk_Disk_Remove), (86, .code ref04_Change), (87, .code ref04_Read), (88, .code ref04_Fuse), (89, .code ref04_Crash), (92, .code ref04_List), (463, .code disk_Disk_Copy_1), (464, .code disk_Disk_Copy_2), (203, .code ref04_Named), (204, .code ref04_Live), (205, .code ref04_At), (206, .code ref04_step), (207, .code ref04_Dir), (295, .code ref04_with), (296, .code ref04_without), (411, .code slices_order2Ordered_string)]
def T : Tbl := ⟨look tabL, methTab methL⟩
noncomputable def tie : Tie := ⟨Try.prog, T, fnTab fnL 100000, tyTab tyL, mnTab mnL⟩
theorem fok_law04_DiskSwaps : chkFn tie Try.f3 law04_DiskSwaps = true := by kernel_rfl
theorem fok'_law04_DiskSwaps : FnOk tie 472 (.code law04_DiskSwaps) := ⟨Try.f3, Try.func3, fok_law04_DiskSwaps⟩
theorem fok_law04_DiskLasts : chkFn tie Try.f4 law04_DiskLasts = true := by kernel_rfl
theorem fok'_law04_DiskLasts : FnOk tie 467 (.code law04_DiskLasts) := ⟨Try.f4, Try.func4, fok_law04_DiskLasts⟩
theorem fok_law04_DiskNames : chkFn tie Try.f5 law04_DiskNames = true := by kernel_rfl
theorem fok'_law04_DiskNames : FnOk tie 469 (.code law04_DiskNames) := ⟨Try.f5, Try.func5, fok_law04_DiskNames⟩
theorem fok_law04_DiskPlays : chkFn tie Try.f6 law04_DiskPlays = true := by kernel_rfl
theorem fok'_law04_DiskPlays : FnOk tie 3 (.code law04_DiskPlays) := ⟨Try.f6, Try.func6, fok_law04_DiskPlays⟩
theorem fok_law04_DiskRefuses : chkFn tie Try.f7 law04_DiskRefuses = true := by kernel_rfl
theorem fok'_law04_DiskRefuses : FnOk tie 471 (.code law04_DiskRefuses) := ⟨Try.f7, Try.func7, fok_law04_DiskRefuses⟩
theorem fok_law04_DiskDark : chkFn tie Try.f8 law04_DiskDark = true := by kernel_rfl
theorem fok'_law04_DiskDark : FnOk tie 465 (.code law04_DiskDark) := ⟨Try.f8, Try.func8, fok_law04_DiskDark⟩
theorem fok_law04_DiskCopies : chkFn tie Try.f9 law04_DiskCopies = true := by kernel_rfl
theorem fok'_law04_DiskCopies : FnOk tie 461 (.code law04_DiskCopies) := ⟨Try.f9, Try.func9, fok_law04_DiskCopies⟩
theorem fok_law04_DiskNil : chkFn tie Try.f10 law04_DiskNil = true := by kernel_rfl
theorem fok'_law04_DiskNil : FnOk tie 470 (.code law04_DiskNil) := ⟨Try.f10, Try.func10, fok_law04_DiskNil⟩
theorem fok_disk_New : chkFn tie Try.f11 disk_New = true := by kernel_rfl
theorem fok'_disk_New : FnOk tie 16 (.code disk_New) := ⟨Try.f11, Try.func11, fok_disk_New⟩
theorem fok_law04_lives : chkFn tie Try.f12 law04_lives = true := by kernel_rfl
theorem fok'_law04_lives : FnOk tie 18 (.code law04_lives) := ⟨Try.f12, Try.func12, fok_law04_lives⟩
theorem fok_disk_Disk_Create : chkFn tie Try.f13 disk_Disk_Create = true := by kernel_rfl
theorem fok'_disk_Disk_Create : FnOk tie 77 (.code disk_Disk_Create) := ⟨Try.f13, Try.func13, fok_disk_Disk_Create⟩
theorem fok_disk_Disk_Append : chkFn tie Try.f14 disk_Disk_Append = true := by kernel_rfl
theorem fok'_disk_Disk_Append : FnOk tie 78 (.code disk_Disk_Append) := ⟨Try.f14, Try.func14, fok_disk_Disk_Append⟩
theorem fok_disk_Disk_Sync : chkFn tie Try.f15 disk_Disk_Sync = true := by kernel_rfl
theorem fok'_disk_Disk_Sync : FnOk tie 84 (.code disk_Disk_Sync) := ⟨Try.f15, Try.func15, fok_disk_Disk_Sync⟩
theorem fok_disk_Disk_SyncDir : chkFn tie Try.f16 disk_Disk_SyncDir = true := by kernel_rfl
theorem fok'_disk_Disk_SyncDir : FnOk tie 79 (.code disk_Disk_SyncDir) := ⟨Try.f16, Try.func16, fok_disk_Disk_SyncDir⟩
theorem fok_disk_Disk_Rename : chkFn tie Try.f17 disk_Disk_Rename = true := by kernel_rfl
theorem fok'_disk_Disk_Rename : FnOk tie 82 (.code disk_Disk_Rename) := ⟨Try.f17, Try.func17, fok_disk_Disk_Rename⟩
theorem fok_disk_Disk_Crash : chkFn tie Try.f18 disk_Disk_Crash = true := by kernel_rfl
theorem fok'_disk_Disk_Crash : FnOk tie 80 (.code disk_Disk_Crash) := ⟨Try.f18, Try.func18, fok_disk_Disk_Crash⟩
theorem fok_disk_Disk_Read : chkFn tie Try.f19 disk_Disk_Read = true := by kernel_rfl
theorem fok'_disk_Disk_Read : FnOk tie 81 (.code disk_Disk_Read) := ⟨Try.f19, Try.func19, fok_disk_Disk_Read⟩
theorem fok_law04_begun : chkFn tie Try.f20 law04_begun = true := by kernel_rfl
theorem fok'_law04_begun : FnOk tie 466 (.code law04_begun) := ⟨Try.f20, Try.func20, fok_law04_begun⟩
theorem fok_disk_Disk_Fuse : chkFn tie Try.f21 disk_Disk_Fuse = true := by kernel_rfl
theorem fok'_disk_Disk_Fuse : FnOk tie 85 (.code disk_Disk_Fuse) := ⟨Try.f21, Try.func21, fok_disk_Disk_Fuse⟩
theorem fok_law04_begins : chkFn tie Try.f22 law04_begins = true := by kernel_rfl
theorem fok'_law04_begins : FnOk tie 468 (.code law04_begins) := ⟨Try.f22, Try.func22, fok_law04_begins⟩
theorem fok_disk_Disk_List : chkFn tie Try.f23 disk_Disk_List = true := by kernel_rfl
theorem fok'_disk_Disk_List : FnOk tie 90 (.code disk_Disk_List) := ⟨Try.f23, Try.func23, fok_disk_Disk_List⟩
theorem fok_law04_do : chkFn tie Try.f24 law04_do = true := by kernel_rfl
theorem fok'_law04_do : FnOk tie 19 (.code law04_do) := ⟨Try.f24, Try.func24, fok_law04_do⟩
theorem fok_law04_same : chkFn tie Try.f25 law04_same = true := by kernel_rfl
theorem fok'_law04_same : FnOk tie 91 (.code law04_same) := ⟨Try.f25, Try.func25, fok_law04_same⟩
theorem fok_ref04_New : chkFn tie Try.f26 ref04_New = true := by kernel_rfl
theorem fok'_ref04_New : FnOk tie 17 (.code ref04_New) := ⟨Try.f26, Try.func26, fok_ref04_New⟩
theorem fok_law04_done : chkFn tie Try.f27 law04_done = true := by kernel_rfl
theorem fok'_law04_done : FnOk tie 20 (.code law04_done) := ⟨Try.f27, Try.func27, fok_law04_done⟩
theorem fok_law04_whole : chkFn tie Try.f28 law04_whole = true := by kernel_rfl
theorem fok'_law04_whole : FnOk tie 21 (.code law04_whole) := ⟨Try.f28, Try.func28, fok_law04_whole⟩
theorem fok_disk_Disk_Done : chkFn tie Try.f29 disk_Disk_Done = true := by kernel_rfl
theorem fok'_disk_Disk_Done : FnOk tie 93 (.code disk_Disk_Done) := ⟨Try.f29, Try.func29, fok_disk_Disk_Done⟩
theorem fok_disk_Disk_Copy : chkFn tie Try.f30 disk_Disk_Copy = true := by kernel_rfl
theorem fok'_disk_Disk_Copy : FnOk tie 462 (.code disk_Disk_Copy) := ⟨Try.f30, Try.func30, fok_disk_Disk_Copy⟩
theorem fok_disk_Disk_find : chkFn tie Try.f31 disk_Disk_find = true := by kernel_rfl
theorem fok'_disk_Disk_find : FnOk tie 194 (.code disk_Disk_find) := ⟨Try.f31, Try.func31, fok_disk_Disk_find⟩
theorem fok_disk_Disk_enter : chkFn tie Try.f32 disk_Disk_enter = true := by kernel_rfl
theorem fok'_disk_Disk_enter : FnOk tie 195 (.code disk_Disk_enter) := ⟨Try.f32, Try.func32, fok_disk_Disk_enter⟩
theorem fok_disk_Disk_step : chkFn tie Try.f33 disk_Disk_step = true := by kernel_rfl
theorem fok'_disk_Disk_step : FnOk tie 196 (.code disk_Disk_step) := ⟨Try.f33, Try.func33, fok_disk_Disk_step⟩
theorem fok_disk_named : chkFn tie Try.f35 disk_named = true := by kernel_rfl
theorem fok'_disk_named : FnOk tie 202 (.code disk_named) := ⟨Try.f35, Try.func35, fok_disk_named⟩
theorem fok_disk_entry_do : chkFn tie Try.f36 disk_entry_do = true := by kernel_rfl
theorem fok'_disk_entry_do : FnOk tie 198 (.code disk_entry_do) := ⟨Try.f36, Try.func36, fok_disk_entry_do⟩
theorem fok_maps_Keys_file : chkFn tie Try.f38 maps_Keys_file = true := by kernel_rfl
theorem fok'_maps_Keys_file : FnOk tie 200 (.code maps_Keys_file) := ⟨Try.f38, Try.func38, fok_maps_Keys_file⟩
theorem fok_slices_Clone_byte : chkFn tie Try.f39 slices_Clone_byte = true := by kernel_rfl
theorem fok'_slices_Clone_byte : FnOk tie 201 (.code slices_Clone_byte) := ⟨Try.f39, Try.func39, fok_slices_Clone_byte⟩
theorem fok_disk_Disk_Remove : chkFn tie Try.f40 disk_Disk_Remove = true := by kernel_rfl
theorem fok'_disk_Disk_Remove : FnOk tie 83 (.code disk_Disk_Remove) := ⟨Try.f40, Try.func40, fok_disk_Disk_Remove⟩
theorem fok_ref04_Change : chkFn tie Try.f41 ref04_Change = true := by kernel_rfl
theorem fok'_ref04_Change : FnOk tie 86 (.code ref04_Change) := ⟨Try.f41, Try.func41, fok_ref04_Change⟩
theorem fok_ref04_Read : chkFn tie Try.f42 ref04_Read = true := by kernel_rfl
theorem fok'_ref04_Read : FnOk tie 87 (.code ref04_Read) := ⟨Try.f42, Try.func42, fok_ref04_Read⟩
theorem fok_ref04_Fuse : chkFn tie Try.f43 ref04_Fuse = true := by kernel_rfl
theorem fok'_ref04_Fuse : FnOk tie 88 (.code ref04_Fuse) := ⟨Try.f43, Try.func43, fok_ref04_Fuse⟩
theorem fok_ref04_Crash : chkFn tie Try.f44 ref04_Crash = true := by kernel_rfl
theorem fok'_ref04_Crash : FnOk tie 89 (.code ref04_Crash) := ⟨Try.f44, Try.func44, fok_ref04_Crash⟩
theorem fok_ref04_List : chkFn tie Try.f45 ref04_List = true := by kernel_rfl
theorem fok'_ref04_List : FnOk tie 92 (.code ref04_List) := ⟨Try.f45, Try.func45, fok_ref04_List⟩
theorem fok_disk_Disk_Copy_1 : chkFn tie Try.f46 disk_Disk_Copy_1 = true := by kernel_rfl
theorem fok'_disk_Disk_Copy_1 : FnOk tie 463 (.code disk_Disk_Copy_1) := ⟨Try.f46, Try.func46, fok_disk_Disk_Copy_1⟩
theorem fok_disk_Disk_Copy_2 : chkFn tie Try.f47 disk_Disk_Copy_2 = true := by kernel_rfl
theorem fok'_disk_Disk_Copy_2 : FnOk tie 464 (.code disk_Disk_Copy_2) := ⟨Try.f47, Try.func47, fok_disk_Disk_Copy_2⟩
theorem fok_ref04_Named : chkFn tie Try.f52 ref04_Named = true := by kernel_rfl
theorem fok'_ref04_Named : FnOk tie 203 (.code ref04_Named) := ⟨Try.f52, Try.func52, fok_ref04_Named⟩
theorem fok_ref04_Live : chkFn tie Try.f53 ref04_Live = true := by kernel_rfl
theorem fok'_ref04_Live : FnOk tie 204 (.code ref04_Live) := ⟨Try.f53, Try.func53, fok_ref04_Live⟩
theorem fok_ref04_At : chkFn tie Try.f54 ref04_At = true := by kernel_rfl
theorem fok'_ref04_At : FnOk tie 205 (.code ref04_At) := ⟨Try.f54, Try.func54, fok_ref04_At⟩
theorem fok_ref04_step : chkFn tie Try.f55 ref04_step = true := by kernel_rfl
theorem fok'_ref04_step : FnOk tie 206 (.code ref04_step) := ⟨Try.f55, Try.func55, fok_ref04_step⟩
theorem fok_ref04_Dir : chkFn tie Try.f56 ref04_Dir = true := by kernel_rfl
theorem fok'_ref04_Dir : FnOk tie 207 (.code ref04_Dir) := ⟨Try.f56, Try.func56, fok_ref04_Dir⟩
theorem fok_ref04_with : chkFn tie Try.f60 ref04_with = true := by kernel_rfl
theorem fok'_ref04_with : FnOk tie 295 (.code ref04_with) := ⟨Try.f60, Try.func60, fok_ref04_with⟩
theorem fok_ref04_without : chkFn tie Try.f61 ref04_without = true := by kernel_rfl
theorem fok'_ref04_without : FnOk tie 296 (.code ref04_without) := ⟨Try.f61, Try.func61, fok_ref04_without⟩
theorem fok_slices_order2Ordered_string : chkFn tie Try.f79 slices_order2Ordered_string = true := by kernel_rfl
theorem fok'_slices_order2Ordered_string : FnOk tie 411 (.code slices_order2Ordered_string) := ⟨Try.f79, Try.func79, fok_slices_order2Ordered_string⟩
theorem fok'_slices_Sorted_string : FnOk tie 199 (.exs (sortedP 294)) := by
  have hf : Try.prog.funcs[fnTab fnL 100000 199]? = some Try.f37 := Try.func37
  exact sortedExt (X := tie) (f := 199) (gk := 294) (fn := Try.f37) (k := 9) Try.underlying9 hf (by decide +kernel) (by kernel_rfl) (fun bx b nn D0 w h1 h2 h3 h4 => Go.Proofs.Try.sorted_keys unitR bx b nn D0 w h1 h2 h3 h4)
theorem fok'_maps_Clone_file : FnOk tie 197 (.exs cloneP) := by
  have hf : Try.prog.funcs[fnTab fnL 100000 197]? = some Try.f34 := Try.func34
  exact cloneExt (X := tie) (f := 197) (fn := Try.f34) hf (by decide +kernel) (by kernel_rfl) Go.Proofs.Try.maps_clone
theorem tieOk : TieOk tie where
  ty := tyTab_inj (by decide)
  meth := fun t m f h u w => chkMeth_ok (methTab_ok (P := Try.prog) (ty := tyTab tyL) (mn := mnTab mnL) (fnOf := fnTab fnL 100000) (l := methL) (by kernel_rfl) t m f h) _ u w
  mixed := by kernel_rfl
  fns := fun f pf h => by
    have : ∀ q ∈ tabL, FnOk tie q.1 q.2 := by
      exact List.forall_mem_cons.2 ⟨fok'_law04_DiskSwaps, List.forall_mem_cons.2 ⟨fok'_law04_DiskLasts, List.forall_mem_cons.2 ⟨fok'_law04_DiskNames, List.forall_mem_cons.2 ⟨fok'_law04_DiskPlays, List.forall_mem_cons.2 ⟨fok'_law04_DiskRefuses, List.forall_mem_cons.2 ⟨fok'_law04_DiskDark, List.forall_mem_cons.2 ⟨fok'_law04_DiskCopies, List.forall_mem_cons.2 ⟨fok'_law04_DiskNil, List.forall_mem_cons.2 ⟨fok'_disk_New, List.forall_mem_cons.2 ⟨fok'_law04_lives, List.forall_mem_cons.2 ⟨fok'_disk_Disk_Create, List.forall_mem_cons.2 ⟨fok'_disk_Disk_Append, List.forall_mem_cons.2 ⟨fok'_disk_Disk_Sync, List.forall_mem_cons.2 ⟨fok'_disk_Disk_SyncDir, List.forall_mem_cons.2 ⟨fok'_disk_Disk_Rename, List.forall_mem_cons.2 ⟨fok'_disk_Disk_Crash, List.forall_mem_cons.2 ⟨fok'_disk_Disk_Read, List.forall_mem_cons.2 ⟨fok'_law04_begun, List.forall_mem_cons.2 ⟨fok'_disk_Disk_Fuse, List.forall_mem_cons.2 ⟨fok'_law04_begins, List.forall_mem_cons.2 ⟨fok'_disk_Disk_List, List.forall_mem_cons.2 ⟨fok'_law04_do, List.forall_mem_cons.2 ⟨fok'_law04_same, List.forall_mem_cons.2 ⟨fok'_ref04_New, List.forall_mem_cons.2 ⟨fok'_law04_done, List.forall_mem_cons.2 ⟨fok'_law04_whole, List.forall_mem_cons.2 ⟨fok'_disk_Disk_Done, List.forall_mem_cons.2 ⟨fok'_disk_Disk_Copy, List.forall_mem_cons.2 ⟨fok'_disk_Disk_find, List.forall_mem_cons.2 ⟨fok'_disk_Disk_enter, List.forall_mem_cons.2 ⟨fok'_disk_Disk_step, List.forall_mem_cons.2 ⟨fok'_maps_Clone_file, List.forall_mem_cons.2 ⟨fok'_disk_named, List.forall_mem_cons.2 ⟨fok'_disk_entry_do, List.forall_mem_cons.2 ⟨fok'_slices_Sorted_string, List.forall_mem_cons.2 ⟨fok'_maps_Keys_file, List.forall_mem_cons.2 ⟨fok'_slices_Clone_byte, List.forall_mem_cons.2 ⟨fok'_disk_Disk_Remove, List.forall_mem_cons.2 ⟨fok'_ref04_Change, List.forall_mem_cons.2 ⟨fok'_ref04_Read, List.forall_mem_cons.2 ⟨fok'_ref04_Fuse, List.forall_mem_cons.2 ⟨fok'_ref04_Crash, List.forall_mem_cons.2 ⟨fok'_ref04_List, List.forall_mem_cons.2 ⟨fok'_disk_Disk_Copy_1, List.forall_mem_cons.2 ⟨fok'_disk_Disk_Copy_2, List.forall_mem_cons.2 ⟨fok'_ref04_Named, List.forall_mem_cons.2 ⟨fok'_ref04_Live, List.forall_mem_cons.2 ⟨fok'_ref04_At, List.forall_mem_cons.2 ⟨fok'_ref04_step, List.forall_mem_cons.2 ⟨fok'_ref04_Dir, List.forall_mem_cons.2 ⟨fok'_ref04_with, List.forall_mem_cons.2 ⟨fok'_ref04_without, List.forall_mem_cons.2 ⟨fok'_slices_order2Ordered_string, fun _ h => absurd h List.not_mem_nil⟩⟩⟩⟩⟩⟩⟩⟩⟩⟩⟩⟩⟩⟩⟩⟩⟩⟩⟩⟩⟩⟩⟩⟩⟩⟩⟩⟩⟩⟩⟩⟩⟩⟩⟩⟩⟩⟩⟩⟩⟩⟩⟩⟩⟩⟩⟩⟩⟩⟩⟩⟩⟩
    exact this _ (look_mem h)
end Ps
