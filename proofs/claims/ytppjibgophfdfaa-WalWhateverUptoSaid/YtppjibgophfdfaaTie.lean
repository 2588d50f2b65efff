/- The program's functions are the pure ones: printed by program, checked by the kernel. -/
import Derived.Test.YtppjibgophfdfaaCode
import Derived.Test.YtppjibgophfdfaaExt
import Derived.Test.YtppjibgophfdfaaChecked
import Derived.Test.YtppjibgophfdfaaExtM
import Derived.Test.YtppjibgophfdfaaShelfM
namespace Ps
open Go Go.Proofs
set_option maxRecDepth 10000
def fnL : List (Nat × Nat) := [(0, 0), (1, 1), (2, 2), (492, 3), (488, 4), (493, 5), (491, 6), (489, 7), (149, 8), (142, 9), (254, 10), (179, 11), (183, 12), (253, 13), (143, 14), (325, 15), (57, 16), (490, 17), (148, 18), (62, 19), (78, 20), (144, 21), (146, 22), (81, 23), (61, 24), (150, 25), (80, 26), (85, 27), (107, 28), (240, 29), (29, 30), (241, 31), (242, 32), (219, 33), (109, 34), (326, 35), (327, 36), (40, 37), (275, 38), (276, 39), (98, 40), (281, 41), (282, 42), (175, 43), (26, 44), (243, 45), (31, 46), (244, 47), (245, 48), (246, 49), (374, 50), (16, 51), (256, 52), (194, 53), (196, 54), (247, 55), (248, 56), (77, 57), (79, 58), (249, 59), (250, 60), (201, 61), (84, 62), (198, 63), (199, 64), (200, 65), (197, 66), (218, 67), (108, 68), (318, 69), (220, 70), (121, 71), (154, 72), (126, 73), (329, 74), (102, 75), (110, 76), (111, 77), (399, 78), (32, 79), (400, 80), (328, 81), (202, 82), (195, 83), (319, 84), (118, 85), (90, 86), (83, 87), (320, 88), (321, 89), (322, 90), (323, 91), (82, 92), (293, 93), (239, 94), (294, 95), (292, 96), (260, 97), (216, 98), (112, 99), (113, 100), (270, 101), (221, 102), (347, 103), (316, 104), (317, 105), (342, 106), (363, 107), (364, 108), (365, 109), (366, 110), (367, 111), (368, 112), (369, 113), (370, 114), (371, 115), (372, 116), (373, 117), (394, 118), (395, 119), (396, 120), (397, 121), (398, 122), (217, 123), (411, 124), (417, 125), (418, 126), (419, 127), (420, 128), (421, 129), (422, 130), (423, 131), (424, 132), (425, 133), (426, 134), (427, 135), (428, 136), (429, 137), (432, 138), (433, 139), (93, 140), (438, 141)]
def tyL : List (Nat × Nat) := [(0, 9), (4, 103)]
def mnL : List (Nat × String) := [(0, "gauge/regex.ends"), (1, "Kind"), (2, "Elem"), (3, "Implements"), (4, "AssignableTo"), (5, "As"), (6, "Unwrap")]
def methL : List (Nat × Nat × Nat) := []
def tabL : List (Nat × PFn) := [(493, .code law11_WalWhatever), (142, .code wal_Bytes), (179, .code wal_Check), (253, .code ref11_Same), (143, .code wal_Of), (57, .code law11_lives), (490, .code law11_again), (148, .code wal_Log_Append), (62, .code wal_Log_Size), (78, .code disk_Disk_Append), (144, .code wal_Open), (146, .code ref11_SameAll), (81, .code disk_Disk_Read), (61, .code wal_Log_Len), (107, .code frame_PutUint), (240, .code wal_Bytes_1), (29, .code label_Put), (241, .code wal_zig), (242, .code posting_Put), (40, .code label_Check), (275, .code wal_checkRows), (276, .code wal_checkDelete), (175, .code ref09_Same), (26, .code ref06_Same), (243, .code wal_reader_uint), (31, .code label_Read), (244, .code wal_zag), (245, .code posting_Read), (246, .code slices_Equal_byte), (16, .code disk_New), (256, .code frame_Put), (194, .code disk_Disk_find), (196, .code disk_Disk_step), (247, .code wal_each), (248, .code wal_Open_1), (77, .code disk_Disk_Create), (79, .code disk_Disk_SyncDir), (249, .code wal_whole), (250, .code wal_anew), (201, .code slices_Clone_byte), (84, .code disk_Disk_Sync), (198, .code disk_entry_do), (199, .exs (sortedP 294)), (200, .code maps_Keys_file), (197, .exs cloneP), (218, .code frame_own), (108, .code frame_PutText), (318, .code posting_Check), (121, .code label_Name), (154, .code chunk_Check), (102, .code ref06_Compare), (110, .code frame_GetUint), (111, .code frame_GetText), (328, .code frame_sealed), (202, .code disk_named), (195, .code disk_Disk_enter), (319, .code frame_Get), (118, .code slices_Contains_string), (90, .code disk_Disk_List), (83, .code disk_Disk_Remove), (320, .code wal_anew_1), (321, .code wal_anew_2), (322, .code wal_anew_3), (323, .code wal_anew_4), (82, .code disk_Disk_Rename), (260, .code chunk_may), (216, .code ref06_text), (270, .code frame_Sum), (221, .code slices_Index_string), (342, .code frame_Sum_1)]
def T : Tbl := ⟨look tabL, methTab methL⟩
noncomputable def tie : Tie := ⟨Try.prog, T, fnTab fnL 100000, tyTab tyL, mnTab mnL⟩
theorem fok_law11_WalWhatever : chkFn tie Try.f5 law11_WalWhatever = true := by kernel_rfl
theorem fok'_law11_WalWhatever : FnOk tie 493 (.code law11_WalWhatever) := ⟨Try.f5, Try.func5, fok_law11_WalWhatever⟩
theorem fok_wal_Bytes : chkFn tie Try.f9 wal_Bytes = true := by kernel_rfl
theorem fok'_wal_Bytes : FnOk tie 142 (.code wal_Bytes) := ⟨Try.f9, Try.func9, fok_wal_Bytes⟩
theorem fok_wal_Check : chkFn tie Try.f11 wal_Check = true := by kernel_rfl
theorem fok'_wal_Check : FnOk tie 179 (.code wal_Check) := ⟨Try.f11, Try.func11, fok_wal_Check⟩
theorem fok_ref11_Same : chkFn tie Try.f13 ref11_Same = true := by kernel_rfl
theorem fok'_ref11_Same : FnOk tie 253 (.code ref11_Same) := ⟨Try.f13, Try.func13, fok_ref11_Same⟩
theorem fok_wal_Of : chkFn tie Try.f14 wal_Of = true := by kernel_rfl
theorem fok'_wal_Of : FnOk tie 143 (.code wal_Of) := ⟨Try.f14, Try.func14, fok_wal_Of⟩
theorem fok_law11_lives : chkFn tie Try.f16 law11_lives = true := by kernel_rfl
theorem fok'_law11_lives : FnOk tie 57 (.code law11_lives) := ⟨Try.f16, Try.func16, fok_law11_lives⟩
theorem fok_law11_again : chkFn tie Try.f17 law11_again = true := by kernel_rfl
theorem fok'_law11_again : FnOk tie 490 (.code law11_again) := ⟨Try.f17, Try.func17, fok_law11_again⟩
theorem fok_wal_Log_Append : chkFn tie Try.f18 wal_Log_Append = true := by kernel_rfl
theorem fok'_wal_Log_Append : FnOk tie 148 (.code wal_Log_Append) := ⟨Try.f18, Try.func18, fok_wal_Log_Append⟩
theorem fok_wal_Log_Size : chkFn tie Try.f19 wal_Log_Size = true := by kernel_rfl
theorem fok'_wal_Log_Size : FnOk tie 62 (.code wal_Log_Size) := ⟨Try.f19, Try.func19, fok_wal_Log_Size⟩
theorem fok_disk_Disk_Append : chkFn tie Try.f20 disk_Disk_Append = true := by kernel_rfl
theorem fok'_disk_Disk_Append : FnOk tie 78 (.code disk_Disk_Append) := ⟨Try.f20, Try.func20, fok_disk_Disk_Append⟩
theorem fok_wal_Open : chkFn tie Try.f21 wal_Open = true := by kernel_rfl
theorem fok'_wal_Open : FnOk tie 144 (.code wal_Open) := ⟨Try.f21, Try.func21, fok_wal_Open⟩
theorem fok_ref11_SameAll : chkFn tie Try.f22 ref11_SameAll = true := by kernel_rfl
theorem fok'_ref11_SameAll : FnOk tie 146 (.code ref11_SameAll) := ⟨Try.f22, Try.func22, fok_ref11_SameAll⟩
theorem fok_disk_Disk_Read : chkFn tie Try.f23 disk_Disk_Read = true := by kernel_rfl
theorem fok'_disk_Disk_Read : FnOk tie 81 (.code disk_Disk_Read) := ⟨Try.f23, Try.func23, fok_disk_Disk_Read⟩
theorem fok_wal_Log_Len : chkFn tie Try.f24 wal_Log_Len = true := by kernel_rfl
theorem fok'_wal_Log_Len : FnOk tie 61 (.code wal_Log_Len) := ⟨Try.f24, Try.func24, fok_wal_Log_Len⟩
theorem fok_frame_PutUint : chkFn tie Try.f28 frame_PutUint = true := by kernel_rfl
theorem fok'_frame_PutUint : FnOk tie 107 (.code frame_PutUint) := ⟨Try.f28, Try.func28, fok_frame_PutUint⟩
theorem fok_wal_Bytes_1 : chkFn tie Try.f29 wal_Bytes_1 = true := by kernel_rfl
theorem fok'_wal_Bytes_1 : FnOk tie 240 (.code wal_Bytes_1) := ⟨Try.f29, Try.func29, fok_wal_Bytes_1⟩
theorem fok_label_Put : chkFn tie Try.f30 label_Put = true := by kernel_rfl
theorem fok'_label_Put : FnOk tie 29 (.code label_Put) := ⟨Try.f30, Try.func30, fok_label_Put⟩
theorem fok_wal_zig : chkFn tie Try.f31 wal_zig = true := by kernel_rfl
theorem fok'_wal_zig : FnOk tie 241 (.code wal_zig) := ⟨Try.f31, Try.func31, fok_wal_zig⟩
theorem fok_posting_Put : chkFn tie Try.f32 posting_Put = true := by kernel_rfl
theorem fok'_posting_Put : FnOk tie 242 (.code posting_Put) := ⟨Try.f32, Try.func32, fok_posting_Put⟩
theorem fok_label_Check : chkFn tie Try.f37 label_Check = true := by kernel_rfl
theorem fok'_label_Check : FnOk tie 40 (.code label_Check) := ⟨Try.f37, Try.func37, fok_label_Check⟩
theorem fok_wal_checkRows : chkFn tie Try.f38 wal_checkRows = true := by kernel_rfl
theorem fok'_wal_checkRows : FnOk tie 275 (.code wal_checkRows) := ⟨Try.f38, Try.func38, fok_wal_checkRows⟩
theorem fok_wal_checkDelete : chkFn tie Try.f39 wal_checkDelete = true := by kernel_rfl
theorem fok'_wal_checkDelete : FnOk tie 276 (.code wal_checkDelete) := ⟨Try.f39, Try.func39, fok_wal_checkDelete⟩
theorem fok_ref09_Same : chkFn tie Try.f43 ref09_Same = true := by kernel_rfl
theorem fok'_ref09_Same : FnOk tie 175 (.code ref09_Same) := ⟨Try.f43, Try.func43, fok_ref09_Same⟩
theorem fok_ref06_Same : chkFn tie Try.f44 ref06_Same = true := by kernel_rfl
theorem fok'_ref06_Same : FnOk tie 26 (.code ref06_Same) := ⟨Try.f44, Try.func44, fok_ref06_Same⟩
theorem fok_wal_reader_uint : chkFn tie Try.f45 wal_reader_uint = true := by kernel_rfl
theorem fok'_wal_reader_uint : FnOk tie 243 (.code wal_reader_uint) := ⟨Try.f45, Try.func45, fok_wal_reader_uint⟩
theorem fok_label_Read : chkFn tie Try.f46 label_Read = true := by kernel_rfl
theorem fok'_label_Read : FnOk tie 31 (.code label_Read) := ⟨Try.f46, Try.func46, fok_label_Read⟩
theorem fok_wal_zag : chkFn tie Try.f47 wal_zag = true := by kernel_rfl
theorem fok'_wal_zag : FnOk tie 244 (.code wal_zag) := ⟨Try.f47, Try.func47, fok_wal_zag⟩
theorem fok_posting_Read : chkFn tie Try.f48 posting_Read = true := by kernel_rfl
theorem fok'_posting_Read : FnOk tie 245 (.code posting_Read) := ⟨Try.f48, Try.func48, fok_posting_Read⟩
theorem fok_slices_Equal_byte : chkFn tie Try.f49 slices_Equal_byte = true := by kernel_rfl
theorem fok'_slices_Equal_byte : FnOk tie 246 (.code slices_Equal_byte) := ⟨Try.f49, Try.func49, fok_slices_Equal_byte⟩
theorem fok_disk_New : chkFn tie Try.f51 disk_New = true := by kernel_rfl
theorem fok'_disk_New : FnOk tie 16 (.code disk_New) := ⟨Try.f51, Try.func51, fok_disk_New⟩
theorem fok_frame_Put : chkFn tie Try.f52 frame_Put = true := by kernel_rfl
theorem fok'_frame_Put : FnOk tie 256 (.code frame_Put) := ⟨Try.f52, Try.func52, fok_frame_Put⟩
theorem fok_disk_Disk_find : chkFn tie Try.f53 disk_Disk_find = true := by kernel_rfl
theorem fok'_disk_Disk_find : FnOk tie 194 (.code disk_Disk_find) := ⟨Try.f53, Try.func53, fok_disk_Disk_find⟩
theorem fok_disk_Disk_step : chkFn tie Try.f54 disk_Disk_step = true := by kernel_rfl
theorem fok'_disk_Disk_step : FnOk tie 196 (.code disk_Disk_step) := ⟨Try.f54, Try.func54, fok_disk_Disk_step⟩
theorem fok_wal_each : chkFn tie Try.f55 wal_each = true := by kernel_rfl
theorem fok'_wal_each : FnOk tie 247 (.code wal_each) := ⟨Try.f55, Try.func55, fok_wal_each⟩
theorem fok_wal_Open_1 : chkFn tie Try.f56 wal_Open_1 = true := by kernel_rfl
theorem fok'_wal_Open_1 : FnOk tie 248 (.code wal_Open_1) := ⟨Try.f56, Try.func56, fok_wal_Open_1⟩
theorem fok_disk_Disk_Create : chkFn tie Try.f57 disk_Disk_Create = true := by kernel_rfl
theorem fok'_disk_Disk_Create : FnOk tie 77 (.code disk_Disk_Create) := ⟨Try.f57, Try.func57, fok_disk_Disk_Create⟩
theorem fok_disk_Disk_SyncDir : chkFn tie Try.f58 disk_Disk_SyncDir = true := by kernel_rfl
theorem fok'_disk_Disk_SyncDir : FnOk tie 79 (.code disk_Disk_SyncDir) := ⟨Try.f58, Try.func58, fok_disk_Disk_SyncDir⟩
theorem fok_wal_whole : chkFn tie Try.f59 wal_whole = true := by kernel_rfl
theorem fok'_wal_whole : FnOk tie 249 (.code wal_whole) := ⟨Try.f59, Try.func59, fok_wal_whole⟩
theorem fok_wal_anew : chkFn tie Try.f60 wal_anew = true := by kernel_rfl
theorem fok'_wal_anew : FnOk tie 250 (.code wal_anew) := ⟨Try.f60, Try.func60, fok_wal_anew⟩
theorem fok_slices_Clone_byte : chkFn tie Try.f61 slices_Clone_byte = true := by kernel_rfl
theorem fok'_slices_Clone_byte : FnOk tie 201 (.code slices_Clone_byte) := ⟨Try.f61, Try.func61, fok_slices_Clone_byte⟩
theorem fok_disk_Disk_Sync : chkFn tie Try.f62 disk_Disk_Sync = true := by kernel_rfl
theorem fok'_disk_Disk_Sync : FnOk tie 84 (.code disk_Disk_Sync) := ⟨Try.f62, Try.func62, fok_disk_Disk_Sync⟩
theorem fok_disk_entry_do : chkFn tie Try.f63 disk_entry_do = true := by kernel_rfl
theorem fok'_disk_entry_do : FnOk tie 198 (.code disk_entry_do) := ⟨Try.f63, Try.func63, fok_disk_entry_do⟩
theorem fok_maps_Keys_file : chkFn tie Try.f65 maps_Keys_file = true := by kernel_rfl
theorem fok'_maps_Keys_file : FnOk tie 200 (.code maps_Keys_file) := ⟨Try.f65, Try.func65, fok_maps_Keys_file⟩
theorem fok_frame_own : chkFn tie Try.f67 frame_own = true := by kernel_rfl
theorem fok'_frame_own : FnOk tie 218 (.code frame_own) := ⟨Try.f67, Try.func67, fok_frame_own⟩
theorem fok_frame_PutText : chkFn tie Try.f68 frame_PutText = true := by kernel_rfl
theorem fok'_frame_PutText : FnOk tie 108 (.code frame_PutText) := ⟨Try.f68, Try.func68, fok_frame_PutText⟩
theorem fok_posting_Check : chkFn tie Try.f69 posting_Check = true := by kernel_rfl
theorem fok'_posting_Check : FnOk tie 318 (.code posting_Check) := ⟨Try.f69, Try.func69, fok_posting_Check⟩
theorem fok_label_Name : chkFn tie Try.f71 label_Name = true := by kernel_rfl
theorem fok'_label_Name : FnOk tie 121 (.code label_Name) := ⟨Try.f71, Try.func71, fok_label_Name⟩
theorem fok_chunk_Check : chkFn tie Try.f72 chunk_Check = true := by kernel_rfl
theorem fok'_chunk_Check : FnOk tie 154 (.code chunk_Check) := ⟨Try.f72, Try.func72, fok_chunk_Check⟩
theorem fok_ref06_Compare : chkFn tie Try.f75 ref06_Compare = true := by kernel_rfl
theorem fok'_ref06_Compare : FnOk tie 102 (.code ref06_Compare) := ⟨Try.f75, Try.func75, fok_ref06_Compare⟩
theorem fok_frame_GetUint : chkFn tie Try.f76 frame_GetUint = true := by kernel_rfl
theorem fok'_frame_GetUint : FnOk tie 110 (.code frame_GetUint) := ⟨Try.f76, Try.func76, fok_frame_GetUint⟩
theorem fok_frame_GetText : chkFn tie Try.f77 frame_GetText = true := by kernel_rfl
theorem fok'_frame_GetText : FnOk tie 111 (.code frame_GetText) := ⟨Try.f77, Try.func77, fok_frame_GetText⟩
theorem fok_frame_sealed : chkFn tie Try.f81 frame_sealed = true := by kernel_rfl
theorem fok'_frame_sealed : FnOk tie 328 (.code frame_sealed) := ⟨Try.f81, Try.func81, fok_frame_sealed⟩
theorem fok_disk_named : chkFn tie Try.f82 disk_named = true := by kernel_rfl
theorem fok'_disk_named : FnOk tie 202 (.code disk_named) := ⟨Try.f82, Try.func82, fok_disk_named⟩
theorem fok_disk_Disk_enter : chkFn tie Try.f83 disk_Disk_enter = true := by kernel_rfl
theorem fok'_disk_Disk_enter : FnOk tie 195 (.code disk_Disk_enter) := ⟨Try.f83, Try.func83, fok_disk_Disk_enter⟩
theorem fok_frame_Get : chkFn tie Try.f84 frame_Get = true := by kernel_rfl
theorem fok'_frame_Get : FnOk tie 319 (.code frame_Get) := ⟨Try.f84, Try.func84, fok_frame_Get⟩
theorem fok_slices_Contains_string : chkFn tie Try.f85 slices_Contains_string = true := by kernel_rfl
theorem fok'_slices_Contains_string : FnOk tie 118 (.code slices_Contains_string) := ⟨Try.f85, Try.func85, fok_slices_Contains_string⟩
theorem fok_disk_Disk_List : chkFn tie Try.f86 disk_Disk_List = true := by kernel_rfl
theorem fok'_disk_Disk_List : FnOk tie 90 (.code disk_Disk_List) := ⟨Try.f86, Try.func86, fok_disk_Disk_List⟩
theorem fok_disk_Disk_Remove : chkFn tie Try.f87 disk_Disk_Remove = true := by kernel_rfl
theorem fok'_disk_Disk_Remove : FnOk tie 83 (.code disk_Disk_Remove) := ⟨Try.f87, Try.func87, fok_disk_Disk_Remove⟩
theorem fok_wal_anew_1 : chkFn tie Try.f88 wal_anew_1 = true := by kernel_rfl
theorem fok'_wal_anew_1 : FnOk tie 320 (.code wal_anew_1) := ⟨Try.f88, Try.func88, fok_wal_anew_1⟩
theorem fok_wal_anew_2 : chkFn tie Try.f89 wal_anew_2 = true := by kernel_rfl
theorem fok'_wal_anew_2 : FnOk tie 321 (.code wal_anew_2) := ⟨Try.f89, Try.func89, fok_wal_anew_2⟩
theorem fok_wal_anew_3 : chkFn tie Try.f90 wal_anew_3 = true := by kernel_rfl
theorem fok'_wal_anew_3 : FnOk tie 322 (.code wal_anew_3) := ⟨Try.f90, Try.func90, fok_wal_anew_3⟩
theorem fok_wal_anew_4 : chkFn tie Try.f91 wal_anew_4 = true := by kernel_rfl
theorem fok'_wal_anew_4 : FnOk tie 323 (.code wal_anew_4) := ⟨Try.f91, Try.func91, fok_wal_anew_4⟩
theorem fok_disk_Disk_Rename : chkFn tie Try.f92 disk_Disk_Rename = true := by kernel_rfl
theorem fok'_disk_Disk_Rename : FnOk tie 82 (.code disk_Disk_Rename) := ⟨Try.f92, Try.func92, fok_disk_Disk_Rename⟩
theorem fok_chunk_may : chkFn tie Try.f97 chunk_may = true := by kernel_rfl
theorem fok'_chunk_may : FnOk tie 260 (.code chunk_may) := ⟨Try.f97, Try.func97, fok_chunk_may⟩
theorem fok_ref06_text : chkFn tie Try.f98 ref06_text = true := by kernel_rfl
theorem fok'_ref06_text : FnOk tie 216 (.code ref06_text) := ⟨Try.f98, Try.func98, fok_ref06_text⟩
theorem fok_frame_Sum : chkFn tie Try.f101 frame_Sum = true := by kernel_rfl
theorem fok'_frame_Sum : FnOk tie 270 (.code frame_Sum) := ⟨Try.f101, Try.func101, fok_frame_Sum⟩
theorem fok_slices_Index_string : chkFn tie Try.f102 slices_Index_string = true := by kernel_rfl
theorem fok'_slices_Index_string : FnOk tie 221 (.code slices_Index_string) := ⟨Try.f102, Try.func102, fok_slices_Index_string⟩
theorem fok_frame_Sum_1 : chkFn tie Try.f106 frame_Sum_1 = true := by kernel_rfl
theorem fok'_frame_Sum_1 : FnOk tie 342 (.code frame_Sum_1) := ⟨Try.f106, Try.func106, fok_frame_Sum_1⟩
theorem fok'_slices_Sorted_string : FnOk tie 199 (.exs (sortedP 294)) := by
  have hf : Try.prog.funcs[fnTab fnL 100000 199]? = some Try.f64 := Try.func64
  exact sortedExt (X := tie) (f := 199) (gk := 294) (fn := Try.f64) (k := 9) Try.underlying9 hf (by decide +kernel) (by kernel_rfl) (fun bx b nn D0 w h1 h2 h3 h4 => Go.Proofs.Try.sorted_keys unitR bx b nn D0 w h1 h2 h3 h4)
theorem fok'_maps_Clone_file : FnOk tie 197 (.exs cloneP) := by
  have hf : Try.prog.funcs[fnTab fnL 100000 197]? = some Try.f66 := Try.func66
  exact cloneExt (X := tie) (f := 197) (fn := Try.f66) hf (by decide +kernel) (by kernel_rfl) Go.Proofs.Try.maps_clone
theorem tieOk : TieOk tie where
  ty := tyTab_inj (by decide)
  meth := fun t m f h u w => chkMeth_ok (methTab_ok (P := Try.prog) (ty := tyTab tyL) (mn := mnTab mnL) (fnOf := fnTab fnL 100000) (l := methL) (by kernel_rfl) t m f h) _ u w
  mixed := by kernel_rfl
  fns := fun f pf h => by
    have : ∀ q ∈ tabL, FnOk tie q.1 q.2 := by
      exact List.forall_mem_cons.2 ⟨fok'_law11_WalWhatever, List.forall_mem_cons.2 ⟨fok'_wal_Bytes, List.forall_mem_cons.2 ⟨fok'_wal_Check, List.forall_mem_cons.2 ⟨fok'_ref11_Same, List.forall_mem_cons.2 ⟨fok'_wal_Of, List.forall_mem_cons.2 ⟨fok'_law11_lives, List.forall_mem_cons.2 ⟨fok'_law11_again, List.forall_mem_cons.2 ⟨fok'_wal_Log_Append, List.forall_mem_cons.2 ⟨fok'_wal_Log_Size, List.forall_mem_cons.2 ⟨fok'_disk_Disk_Append, List.forall_mem_cons.2 ⟨fok'_wal_Open, List.forall_mem_cons.2 ⟨fok'_ref11_SameAll, List.forall_mem_cons.2 ⟨fok'_disk_Disk_Read, List.forall_mem_cons.2 ⟨fok'_wal_Log_Len, List.forall_mem_cons.2 ⟨fok'_frame_PutUint, List.forall_mem_cons.2 ⟨fok'_wal_Bytes_1, List.forall_mem_cons.2 ⟨fok'_label_Put, List.forall_mem_cons.2 ⟨fok'_wal_zig, List.forall_mem_cons.2 ⟨fok'_posting_Put, List.forall_mem_cons.2 ⟨fok'_label_Check, List.forall_mem_cons.2 ⟨fok'_wal_checkRows, List.forall_mem_cons.2 ⟨fok'_wal_checkDelete, List.forall_mem_cons.2 ⟨fok'_ref09_Same, List.forall_mem_cons.2 ⟨fok'_ref06_Same, List.forall_mem_cons.2 ⟨fok'_wal_reader_uint, List.forall_mem_cons.2 ⟨fok'_label_Read, List.forall_mem_cons.2 ⟨fok'_wal_zag, List.forall_mem_cons.2 ⟨fok'_posting_Read, List.forall_mem_cons.2 ⟨fok'_slices_Equal_byte, List.forall_mem_cons.2 ⟨fok'_disk_New, List.forall_mem_cons.2 ⟨fok'_frame_Put, List.forall_mem_cons.2 ⟨fok'_disk_Disk_find, List.forall_mem_cons.2 ⟨fok'_disk_Disk_step, List.forall_mem_cons.2 ⟨fok'_wal_each, List.forall_mem_cons.2 ⟨fok'_wal_Open_1, List.forall_mem_cons.2 ⟨fok'_disk_Disk_Create, List.forall_mem_cons.2 ⟨fok'_disk_Disk_SyncDir, List.forall_mem_cons.2 ⟨fok'_wal_whole, List.forall_mem_cons.2 ⟨fok'_wal_anew, List.forall_mem_cons.2 ⟨fok'_slices_Clone_byte, List.forall_mem_cons.2 ⟨fok'_disk_Disk_Sync, List.forall_mem_cons.2 ⟨fok'_disk_entry_do, List.forall_mem_cons.2 ⟨fok'_slices_Sorted_string, List.forall_mem_cons.2 ⟨fok'_maps_Keys_file, List.forall_mem_cons.2 ⟨fok'_maps_Clone_file, List.forall_mem_cons.2 ⟨fok'_frame_own, List.forall_mem_cons.2 ⟨fok'_frame_PutText, List.forall_mem_cons.2 ⟨fok'_posting_Check, List.forall_mem_cons.2 ⟨fok'_label_Name, List.forall_mem_cons.2 ⟨fok'_chunk_Check, List.forall_mem_cons.2 ⟨fok'_ref06_Compare, List.forall_mem_cons.2 ⟨fok'_frame_GetUint, List.forall_mem_cons.2 ⟨fok'_frame_GetText, List.forall_mem_cons.2 ⟨fok'_frame_sealed, List.forall_mem_cons.2 ⟨fok'_disk_named, List.forall_mem_cons.2 ⟨fok'_disk_Disk_enter, List.forall_mem_cons.2 ⟨fok'_frame_Get, List.forall_mem_cons.2 ⟨fok'_slices_Contains_string, List.forall_mem_cons.2 ⟨fok'_disk_Disk_List, List.forall_mem_cons.2 ⟨fok'_disk_Disk_Remove, List.forall_mem_cons.2 ⟨fok'_wal_anew_1, List.forall_mem_cons.2 ⟨fok'_wal_anew_2, List.forall_mem_cons.2 ⟨fok'_wal_anew_3, List.forall_mem_cons.2 ⟨fok'_wal_anew_4, List.forall_mem_cons.2 ⟨fok'_disk_Disk_Rename, List.forall_mem_cons.2 ⟨fok'_chunk_may, List.forall_mem_cons.2 ⟨fok'_ref06_text, List.forall_mem_cons.2 ⟨fok'_frame_Sum, List.forall_mem_cons.2 ⟨fok'_slices_Index_string, List.forall_mem_cons.2 ⟨fok'_frame_Sum_1, fun _ h => absurd h List.not_mem_nil⟩⟩⟩⟩⟩⟩⟩⟩⟩⟩⟩⟩⟩⟩⟩⟩⟩⟩⟩⟩⟩⟩⟩⟩⟩⟩⟩⟩⟩⟩⟩⟩⟩⟩⟩⟩⟩⟩⟩⟩⟩⟩⟩⟩⟩⟩⟩⟩⟩⟩⟩⟩⟩⟩⟩⟩⟩⟩⟩⟩⟩⟩⟩⟩⟩⟩⟩⟩⟩⟩
    exact this _ (look_mem h)
end Ps
