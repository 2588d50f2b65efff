/- The program's functions are the pure ones: printed by program, checked by the kernel. -/
import Derived.Test.YtndfknoclbkkhaaCode
import Derived.Test.YtndfknoclbkkhaaShelf
import Derived.Test.YtndfknoclbkkhaaChecked
namespace Ps
open Go Go.Proofs
set_option maxRecDepth 10000
def fnL : List (Nat × Nat) := [(0, 0), (1, 1), (2, 2), (474, 3), (473, 4), (15, 5), (68, 6), (70, 7), (188, 8), (76, 9), (289, 10), (189, 11), (177, 12), (170, 13), (190, 14), (69, 15), (71, 16), (72, 17), (73, 18), (74, 19), (75, 20), (179, 21), (180, 22), (181, 23), (182, 24), (193, 25), (291, 26), (26, 27), (284, 28), (187, 29), (285, 30), (286, 31), (287, 32), (28, 33), (183, 34), (184, 35), (169, 36), (185, 37), (186, 38), (24, 39), (191, 40), (192, 41), (40, 42), (275, 43), (276, 44), (130, 45), (277, 46), (278, 47), (279, 48), (280, 49), (102, 50), (345, 51), (283, 52), (346, 53), (317, 54), (103, 55), (104, 56), (105, 57), (106, 58), (98, 59), (281, 60), (282, 61), (99, 62), (100, 63), (288, 64), (290, 65), (178, 66), (121, 67), (154, 68), (318, 69), (344, 70), (216, 71), (381, 72), (382, 73), (383, 74), (384, 75), (385, 76), (386, 77), (387, 78), (388, 79), (372, 80), (373, 81), (217, 82), (126, 83), (329, 84), (213, 85), (214, 86), (215, 87), (260, 88), (407, 89), (395, 90), (396, 91), (408, 92), (409, 93), (300, 94), (301, 95), (416, 96), (352, 97), (353, 98), (417, 99), (418, 100), (419, 101), (420, 102), (421, 103), (422, 104), (423, 105), (424, 106), (425, 107), (426, 108), (427, 109), (428, 110), (429, 111), (432, 112), (433, 113), (435, 114), (438, 115)]
def tyL : List (Nat × Nat) := [(0, 9), (1, 128)]
def mnL : List (Nat × String) := [(0, "gauge/regex.ends"), (1, "Kind"), (2, "Elem"), (3, "Implements"), (4, "AssignableTo"), (5, "As"), (6, "Unwrap")]
def methL : List (Nat × Nat × Nat) := []
def tabL : List (Nat × PFn) := [(473, .code law13_HeadAgain), (68, .code head_New), (70, .code head_Head_Do), (188, .code head_Head_Len), (76, .code law13_lives), (189, .code head_Head_Count), (177, .code ref05_Same), (170, .code ref12_Same), (190, .code head_Head_Series), (74, .code law13_row), (179, .code wal_Check), (180, .code head_Head_add), (181, .codeD head_Head_rows), (182, .code head_Head_remove), (193, .code head_Head_Last), (291, .code head_Head_at), (26, .code ref06_Same), (284, .code slices_DeleteFunc_Series), (187, .code head_copied), (285, .code head_Head_Series_1), (286, .code slices_SortFunc_Series), (287, .code head_Head_Series_2), (28, .code label_Compare), (24, .code label_Print), (40, .code label_Check), (275, .code wal_checkRows), (276, .code wal_checkDelete), (130, .code slices_Clone_Label), (277, .code head_Head_rows_1), (278, .code head_last), (279, .code slices_DeleteFunc_Sample), (280, .code head_Head_remove_1), (102, .code ref06_Compare), (345, .code slices_IndexFunc_Series), (283, .code slices_Clone_Sample), (346, .code slices_pdqsortCmpFunc_Series), (317, .code math_bits_Len), (103, .code slices_CompareFunc_Label), (104, .code label_Compare_1), (105, .code cmp_Or_int), (106, .code cmp_Compare_string), (99, .code label_quoted), (100, .ext joinP), (121, .code label_Name), (154, .code chunk_Check), (318, .code posting_Check), (344, .code slices_IndexFunc_Sample), (216, .code ref06_text), (381, .code slices_insertionSortCmpFunc_Series), (382, .code slices_heapSortCmpFunc_Series), (383, .code slices_breakPatternsCmpFunc_Series), (384, .code slices_choosePivotCmpFunc_Series), (385, .code slices_reverseRangeCmpFunc_Series), (386, .code slices_partialInsertionSortCmpFunc_Series), (387, .code slices_partitionEqualCmpFunc_Series), (388, .code slices_partitionCmpFunc_Series), (372, .code math_bits_Len32), (373, .code math_bits_Len64), (217, .code cmp_isNaN_string), (213, .code strings_Builder_Grow), (214, .code strings_Builder_WriteString), (215, .code strings_Builder_String), (260, .code chunk_may), (407, .code slices_siftDownCmpFunc_Series), (395, .code slices_nextPowerOfTwo), (396, .code slices_xorshift_Next), (408, .code slices_medianAdjacentCmpFunc_Series), (409, .code slices_medianCmpFunc_Series), (300, .code strings_Builder_copyCheck), (301, .code strings_Builder_grow), (416, .code slices_order2CmpFunc_Series)]
def T : Tbl := ⟨look tabL, methTab methL⟩
noncomputable def tie : Tie := ⟨Try.prog, T, fnTab fnL 100000, tyTab tyL, mnTab mnL⟩
theorem fok_law13_HeadAgain : chkFn tie Try.f4 law13_HeadAgain = true := by kernel_rfl
theorem fok'_law13_HeadAgain : FnOk tie 473 (.code law13_HeadAgain) := ⟨Try.f4, Try.func4, fok_law13_HeadAgain⟩
theorem fok_head_New : chkFn tie Try.f6 head_New = true := by kernel_rfl
theorem fok'_head_New : FnOk tie 68 (.code head_New) := ⟨Try.f6, Try.func6, fok_head_New⟩
theorem fok_head_Head_Do : chkFn tie Try.f7 head_Head_Do = true := by kernel_rfl
theorem fok'_head_Head_Do : FnOk tie 70 (.code head_Head_Do) := ⟨Try.f7, Try.func7, fok_head_Head_Do⟩
theorem fok_head_Head_Len : chkFn tie Try.f8 head_Head_Len = true := by kernel_rfl
theorem fok'_head_Head_Len : FnOk tie 188 (.code head_Head_Len) := ⟨Try.f8, Try.func8, fok_head_Head_Len⟩
theorem fok_law13_lives : chkFn tie Try.f9 law13_lives = true := by kernel_rfl
theorem fok'_law13_lives : FnOk tie 76 (.code law13_lives) := ⟨Try.f9, Try.func9, fok_law13_lives⟩
theorem fok_head_Head_Count : chkFn tie Try.f11 head_Head_Count = true := by kernel_rfl
theorem fok'_head_Head_Count : FnOk tie 189 (.code head_Head_Count) := ⟨Try.f11, Try.func11, fok_head_Head_Count⟩
theorem fok_ref05_Same : chkFn tie Try.f12 ref05_Same = true := by kernel_rfl
theorem fok'_ref05_Same : FnOk tie 177 (.code ref05_Same) := ⟨Try.f12, Try.func12, fok_ref05_Same⟩
theorem fok_ref12_Same : chkFn tie Try.f13 ref12_Same = true := by kernel_rfl
theorem fok'_ref12_Same : FnOk tie 170 (.code ref12_Same) := ⟨Try.f13, Try.func13, fok_ref12_Same⟩
theorem fok_head_Head_Series : chkFn tie Try.f14 head_Head_Series = true := by kernel_rfl
theorem fok'_head_Head_Series : FnOk tie 190 (.code head_Head_Series) := ⟨Try.f14, Try.func14, fok_head_Head_Series⟩
theorem fok_law13_row : chkFn tie Try.f19 law13_row = true := by kernel_rfl
theorem fok'_law13_row : FnOk tie 74 (.code law13_row) := ⟨Try.f19, Try.func19, fok_law13_row⟩
theorem fok_wal_Check : chkFn tie Try.f21 wal_Check = true := by kernel_rfl
theorem fok'_wal_Check : FnOk tie 179 (.code wal_Check) := ⟨Try.f21, Try.func21, fok_wal_Check⟩
theorem fok_head_Head_add : chkFn tie Try.f22 head_Head_add = true := by kernel_rfl
theorem fok'_head_Head_add : FnOk tie 180 (.code head_Head_add) := ⟨Try.f22, Try.func22, fok_head_Head_add⟩
theorem fok_head_Head_rows : chkFnD tie Try.f23 head_Head_rows = true := by kernel_rfl
theorem fok'_head_Head_rows : FnOk tie 181 (.codeD head_Head_rows) := ⟨Try.f23, Try.func23, fok_head_Head_rows⟩
theorem fok_head_Head_remove : chkFn tie Try.f24 head_Head_remove = true := by kernel_rfl
theorem fok'_head_Head_remove : FnOk tie 182 (.code head_Head_remove) := ⟨Try.f24, Try.func24, fok_head_Head_remove⟩
theorem fok_head_Head_Last : chkFn tie Try.f25 head_Head_Last = true := by kernel_rfl
theorem fok'_head_Head_Last : FnOk tie 193 (.code head_Head_Last) := ⟨Try.f25, Try.func25, fok_head_Head_Last⟩
theorem fok_head_Head_at : chkFn tie Try.f26 head_Head_at = true := by kernel_rfl
theorem fok'_head_Head_at : FnOk tie 291 (.code head_Head_at) := ⟨Try.f26, Try.func26, fok_head_Head_at⟩
theorem fok_ref06_Same : chkFn tie Try.f27 ref06_Same = true := by kernel_rfl
theorem fok'_ref06_Same : FnOk tie 26 (.code ref06_Same) := ⟨Try.f27, Try.func27, fok_ref06_Same⟩
theorem fok_slices_DeleteFunc_Series : chkFn tie Try.f28 slices_DeleteFunc_Series = true := by kernel_rfl
theorem fok'_slices_DeleteFunc_Series : FnOk tie 284 (.code slices_DeleteFunc_Series) := ⟨Try.f28, Try.func28, fok_slices_DeleteFunc_Series⟩
theorem fok_head_copied : chkFn tie Try.f29 head_copied = true := by kernel_rfl
theorem fok'_head_copied : FnOk tie 187 (.code head_copied) := ⟨Try.f29, Try.func29, fok_head_copied⟩
theorem fok_head_Head_Series_1 : chkFn tie Try.f30 head_Head_Series_1 = true := by kernel_rfl
theorem fok'_head_Head_Series_1 : FnOk tie 285 (.code head_Head_Series_1) := ⟨Try.f30, Try.func30, fok_head_Head_Series_1⟩
theorem fok_slices_SortFunc_Series : chkFn tie Try.f31 slices_SortFunc_Series = true := by kernel_rfl
theorem fok'_slices_SortFunc_Series : FnOk tie 286 (.code slices_SortFunc_Series) := ⟨Try.f31, Try.func31, fok_slices_SortFunc_Series⟩
theorem fok_head_Head_Series_2 : chkFn tie Try.f32 head_Head_Series_2 = true := by kernel_rfl
theorem fok'_head_Head_Series_2 : FnOk tie 287 (.code head_Head_Series_2) := ⟨Try.f32, Try.func32, fok_head_Head_Series_2⟩
theorem fok_label_Compare : chkFn tie Try.f33 label_Compare = true := by kernel_rfl
theorem fok'_label_Compare : FnOk tie 28 (.code label_Compare) := ⟨Try.f33, Try.func33, fok_label_Compare⟩
theorem fok_label_Print : chkFn tie Try.f39 label_Print = true := by kernel_rfl
theorem fok'_label_Print : FnOk tie 24 (.code label_Print) := ⟨Try.f39, Try.func39, fok_label_Print⟩
theorem fok_label_Check : chkFn tie Try.f42 label_Check = true := by kernel_rfl
theorem fok'_label_Check : FnOk tie 40 (.code label_Check) := ⟨Try.f42, Try.func42, fok_label_Check⟩
theorem fok_wal_checkRows : chkFn tie Try.f43 wal_checkRows = true := by kernel_rfl
theorem fok'_wal_checkRows : FnOk tie 275 (.code wal_checkRows) := ⟨Try.f43, Try.func43, fok_wal_checkRows⟩
theorem fok_wal_checkDelete : chkFn tie Try.f44 wal_checkDelete = true := by kernel_rfl
theorem fok'_wal_checkDelete : FnOk tie 276 (.code wal_checkDelete) := ⟨Try.f44, Try.func44, fok_wal_checkDelete⟩
theorem fok_slices_Clone_Label : chkFn tie Try.f45 slices_Clone_Label = true := by kernel_rfl
theorem fok'_slices_Clone_Label : FnOk tie 130 (.code slices_Clone_Label) := ⟨Try.f45, Try.func45, fok_slices_Clone_Label⟩
theorem fok_head_Head_rows_1 : chkFn tie Try.f46 head_Head_rows_1 = true := by kernel_rfl
theorem fok'_head_Head_rows_1 : FnOk tie 277 (.code head_Head_rows_1) := ⟨Try.f46, Try.func46, fok_head_Head_rows_1⟩
theorem fok_head_last : chkFn tie Try.f47 head_last = true := by kernel_rfl
theorem fok'_head_last : FnOk tie 278 (.code head_last) := ⟨Try.f47, Try.func47, fok_head_last⟩
theorem fok_slices_DeleteFunc_Sample : chkFn tie Try.f48 slices_DeleteFunc_Sample = true := by kernel_rfl
theorem fok'_slices_DeleteFunc_Sample : FnOk tie 279 (.code slices_DeleteFunc_Sample) := ⟨Try.f48, Try.func48, fok_slices_DeleteFunc_Sample⟩
theorem fok_head_Head_remove_1 : chkFn tie Try.f49 head_Head_remove_1 = true := by kernel_rfl
theorem fok'_head_Head_remove_1 : FnOk tie 280 (.code head_Head_remove_1) := ⟨Try.f49, Try.func49, fok_head_Head_remove_1⟩
theorem fok_ref06_Compare : chkFn tie Try.f50 ref06_Compare = true := by kernel_rfl
theorem fok'_ref06_Compare : FnOk tie 102 (.code ref06_Compare) := ⟨Try.f50, Try.func50, fok_ref06_Compare⟩
theorem fok_slices_IndexFunc_Series : chkFn tie Try.f51 slices_IndexFunc_Series = true := by kernel_rfl
theorem fok'_slices_IndexFunc_Series : FnOk tie 345 (.code slices_IndexFunc_Series) := ⟨Try.f51, Try.func51, fok_slices_IndexFunc_Series⟩
theorem fok_slices_Clone_Sample : chkFn tie Try.f52 slices_Clone_Sample = true := by kernel_rfl
theorem fok'_slices_Clone_Sample : FnOk tie 283 (.code slices_Clone_Sample) := ⟨Try.f52, Try.func52, fok_slices_Clone_Sample⟩
theorem fok_slices_pdqsortCmpFunc_Series : chkFn tie Try.f53 slices_pdqsortCmpFunc_Series = true := by kernel_rfl
theorem fok'_slices_pdqsortCmpFunc_Series : FnOk tie 346 (.code slices_pdqsortCmpFunc_Series) := ⟨Try.f53, Try.func53, fok_slices_pdqsortCmpFunc_Series⟩
theorem fok_math_bits_Len : chkFn tie Try.f54 math_bits_Len = true := by kernel_rfl
theorem fok'_math_bits_Len : FnOk tie 317 (.code math_bits_Len) := ⟨Try.f54, Try.func54, fok_math_bits_Len⟩
theorem fok_slices_CompareFunc_Label : chkFn tie Try.f55 slices_CompareFunc_Label = true := by kernel_rfl
theorem fok'_slices_CompareFunc_Label : FnOk tie 103 (.code slices_CompareFunc_Label) := ⟨Try.f55, Try.func55, fok_slices_CompareFunc_Label⟩
theorem fok_label_Compare_1 : chkFn tie Try.f56 label_Compare_1 = true := by kernel_rfl
theorem fok'_label_Compare_1 : FnOk tie 104 (.code label_Compare_1) := ⟨Try.f56, Try.func56, fok_label_Compare_1⟩
theorem fok_cmp_Or_int : chkFn tie Try.f57 cmp_Or_int = true := by kernel_rfl
theorem fok'_cmp_Or_int : FnOk tie 105 (.code cmp_Or_int) := ⟨Try.f57, Try.func57, fok_cmp_Or_int⟩
theorem fok_cmp_Compare_string : chkFn tie Try.f58 cmp_Compare_string = true := by kernel_rfl
theorem fok'_cmp_Compare_string : FnOk tie 106 (.code cmp_Compare_string) := ⟨Try.f58, Try.func58, fok_cmp_Compare_string⟩
theorem fok_label_quoted : chkFn tie Try.f62 label_quoted = true := by kernel_rfl
theorem fok'_label_quoted : FnOk tie 99 (.code label_quoted) := ⟨Try.f62, Try.func62, fok_label_quoted⟩
theorem fok_label_Name : chkFn tie Try.f67 label_Name = true := by kernel_rfl
theorem fok'_label_Name : FnOk tie 121 (.code label_Name) := ⟨Try.f67, Try.func67, fok_label_Name⟩
theorem fok_chunk_Check : chkFn tie Try.f68 chunk_Check = true := by kernel_rfl
theorem fok'_chunk_Check : FnOk tie 154 (.code chunk_Check) := ⟨Try.f68, Try.func68, fok_chunk_Check⟩
theorem fok_posting_Check : chkFn tie Try.f69 posting_Check = true := by kernel_rfl
theorem fok'_posting_Check : FnOk tie 318 (.code posting_Check) := ⟨Try.f69, Try.func69, fok_posting_Check⟩
theorem fok_slices_IndexFunc_Sample : chkFn tie Try.f70 slices_IndexFunc_Sample = true := by kernel_rfl
theorem fok'_slices_IndexFunc_Sample : FnOk tie 344 (.code slices_IndexFunc_Sample) := ⟨Try.f70, Try.func70, fok_slices_IndexFunc_Sample⟩
theorem fok_ref06_text : chkFn tie Try.f71 ref06_text = true := by kernel_rfl
theorem fok'_ref06_text : FnOk tie 216 (.code ref06_text) := ⟨Try.f71, Try.func71, fok_ref06_text⟩
theorem fok_slices_insertionSortCmpFunc_Series : chkFn tie Try.f72 slices_insertionSortCmpFunc_Series = true := by kernel_rfl
theorem fok'_slices_insertionSortCmpFunc_Series : FnOk tie 381 (.code slices_insertionSortCmpFunc_Series) := ⟨Try.f72, Try.func72, fok_slices_insertionSortCmpFunc_Series⟩
theorem fok_slices_heapSortCmpFunc_Series : chkFn tie Try.f73 slices_heapSortCmpFunc_Series = true := by kernel_rfl
theorem fok'_slices_heapSortCmpFunc_Series : FnOk tie 382 (.code slices_heapSortCmpFunc_Series) := ⟨Try.f73, Try.func73, fok_slices_heapSortCmpFunc_Series⟩
theorem fok_slices_breakPatternsCmpFunc_Series : chkFn tie Try.f74 slices_breakPatternsCmpFunc_Series = true := by kernel_rfl
theorem fok'_slices_breakPatternsCmpFunc_Series : FnOk tie 383 (.code slices_breakPatternsCmpFunc_Series) := ⟨Try.f74, Try.func74, fok_slices_breakPatternsCmpFunc_Series⟩
theorem fok_slices_choosePivotCmpFunc_Series : chkFn tie Try.f75 slices_choosePivotCmpFunc_Series = true := by kernel_rfl
theorem fok'_slices_choosePivotCmpFunc_Series : FnOk tie 384 (.code slices_choosePivotCmpFunc_Series) := ⟨Try.f75, Try.func75, fok_slices_choosePivotCmpFunc_Series⟩
theorem fok_slices_reverseRangeCmpFunc_Series : chkFn tie Try.f76 slices_reverseRangeCmpFunc_Series = true := by kernel_rfl
theorem fok'_slices_reverseRangeCmpFunc_Series : FnOk tie 385 (.code slices_reverseRangeCmpFunc_Series) := ⟨Try.f76, Try.func76, fok_slices_reverseRangeCmpFunc_Series⟩
theorem fok_slices_partialInsertionSortCmpFunc_Series : chkFn tie Try.f77 slices_partialInsertionSortCmpFunc_Series = true := by kernel_rfl
theorem fok'_slices_partialInsertionSortCmpFunc_Series : FnOk tie 386 (.code slices_partialInsertionSortCmpFunc_Series) := ⟨Try.f77, Try.func77, fok_slices_partialInsertionSortCmpFunc_Series⟩
theorem fok_slices_partitionEqualCmpFunc_Series : chkFn tie Try.f78 slices_partitionEqualCmpFunc_Series = true := by kernel_rfl
theorem fok'_slices_partitionEqualCmpFunc_Series : FnOk tie 387 (.code slices_partitionEqualCmpFunc_Series) := ⟨Try.f78, Try.func78, fok_slices_partitionEqualCmpFunc_Series⟩
theorem fok_slices_partitionCmpFunc_Series : chkFn tie Try.f79 slices_partitionCmpFunc_Series = true := by kernel_rfl
theorem fok'_slices_partitionCmpFunc_Series : FnOk tie 388 (.code slices_partitionCmpFunc_Series) := ⟨Try.f79, Try.func79, fok_slices_partitionCmpFunc_Series⟩
theorem fok_math_bits_Len32 : chkFn tie Try.f80 math_bits_Len32 = true := by kernel_rfl
theorem fok'_math_bits_Len32 : FnOk tie 372 (.code math_bits_Len32) := ⟨Try.f80, Try.func80, fok_math_bits_Len32⟩
theorem fok_math_bits_Len64 : chkFn tie Try.f81 math_bits_Len64 = true := by kernel_rfl
theorem fok'_math_bits_Len64 : FnOk tie 373 (.code math_bits_Len64) := ⟨Try.f81, Try.func81, fok_math_bits_Len64⟩
theorem fok_cmp_isNaN_string : chkFn tie Try.f82 cmp_isNaN_string = true := by kernel_rfl
theorem fok'_cmp_isNaN_string : FnOk tie 217 (.code cmp_isNaN_string) := ⟨Try.f82, Try.func82, fok_cmp_isNaN_string⟩
theorem fok_strings_Builder_Grow : chkFn tie Try.f85 strings_Builder_Grow = true := by kernel_rfl
theorem fok'_strings_Builder_Grow : FnOk tie 213 (.code strings_Builder_Grow) := ⟨Try.f85, Try.func85, fok_strings_Builder_Grow⟩
theorem fok_strings_Builder_WriteString : chkFn tie Try.f86 strings_Builder_WriteString = true := by kernel_rfl
theorem fok'_strings_Builder_WriteString : FnOk tie 214 (.code strings_Builder_WriteString) := ⟨Try.f86, Try.func86, fok_strings_Builder_WriteString⟩
theorem fok_strings_Builder_String : chkFn tie Try.f87 strings_Builder_String = true := by kernel_rfl
theorem fok'_strings_Builder_String : FnOk tie 215 (.code strings_Builder_String) := ⟨Try.f87, Try.func87, fok_strings_Builder_String⟩
theorem fok_chunk_may : chkFn tie Try.f88 chunk_may = true := by kernel_rfl
theorem fok'_chunk_may : FnOk tie 260 (.code chunk_may) := ⟨Try.f88, Try.func88, fok_chunk_may⟩
theorem fok_slices_siftDownCmpFunc_Series : chkFn tie Try.f89 slices_siftDownCmpFunc_Series = true := by kernel_rfl
theorem fok'_slices_siftDownCmpFunc_Series : FnOk tie 407 (.code slices_siftDownCmpFunc_Series) := ⟨Try.f89, Try.func89, fok_slices_siftDownCmpFunc_Series⟩
theorem fok_slices_nextPowerOfTwo : chkFn tie Try.f90 slices_nextPowerOfTwo = true := by kernel_rfl
theorem fok'_slices_nextPowerOfTwo : FnOk tie 395 (.code slices_nextPowerOfTwo) := ⟨Try.f90, Try.func90, fok_slices_nextPowerOfTwo⟩
theorem fok_slices_xorshift_Next : chkFn tie Try.f91 slices_xorshift_Next = true := by kernel_rfl
theorem fok'_slices_xorshift_Next : FnOk tie 396 (.code slices_xorshift_Next) := ⟨Try.f91, Try.func91, fok_slices_xorshift_Next⟩
theorem fok_slices_medianAdjacentCmpFunc_Series : chkFn tie Try.f92 slices_medianAdjacentCmpFunc_Series = true := by kernel_rfl
theorem fok'_slices_medianAdjacentCmpFunc_Series : FnOk tie 408 (.code slices_medianAdjacentCmpFunc_Series) := ⟨Try.f92, Try.func92, fok_slices_medianAdjacentCmpFunc_Series⟩
theorem fok_slices_medianCmpFunc_Series : chkFn tie Try.f93 slices_medianCmpFunc_Series = true := by kernel_rfl
theorem fok'_slices_medianCmpFunc_Series : FnOk tie 409 (.code slices_medianCmpFunc_Series) := ⟨Try.f93, Try.func93, fok_slices_medianCmpFunc_Series⟩
theorem fok_strings_Builder_copyCheck : chkFn tie Try.f94 strings_Builder_copyCheck = true := by kernel_rfl
theorem fok'_strings_Builder_copyCheck : FnOk tie 300 (.code strings_Builder_copyCheck) := ⟨Try.f94, Try.func94, fok_strings_Builder_copyCheck⟩
theorem fok_strings_Builder_grow : chkFn tie Try.f95 strings_Builder_grow = true := by kernel_rfl
theorem fok'_strings_Builder_grow : FnOk tie 301 (.code strings_Builder_grow) := ⟨Try.f95, Try.func95, fok_strings_Builder_grow⟩
theorem fok_slices_order2CmpFunc_Series : chkFn tie Try.f96 slices_order2CmpFunc_Series = true := by kernel_rfl
theorem fok'_slices_order2CmpFunc_Series : FnOk tie 416 (.code slices_order2CmpFunc_Series) := ⟨Try.f96, Try.func96, fok_slices_order2CmpFunc_Series⟩
theorem fok'_strings_Join : FnOk tie 100 (.ext joinP) := by
  have hf : Try.prog.funcs[fnTab fnL 100000 100]? = some Try.f63 := Try.func63
  exact joinExt (X := tie) (f := 100) (fn := Try.f63) hf (by decide +kernel) (by kernel_rfl) Try.strings_Join_none Try.strings_Join
theorem tieOk : TieOk tie where
  ty := tyTab_inj (by decide)
  meth := fun t m f h u w => chkMeth_ok (methTab_ok (P := Try.prog) (ty := tyTab tyL) (mn := mnTab mnL) (fnOf := fnTab fnL 100000) (l := methL) (by kernel_rfl) t m f h) _ u w
  mixed := by kernel_rfl
  fns := fun f pf h => by
    have : ∀ q ∈ tabL, FnOk tie q.1 q.2 := by
      exact List.forall_mem_cons.2 ⟨fok'_law13_HeadAgain, List.forall_mem_cons.2 ⟨fok'_head_New, List.forall_mem_cons.2 ⟨fok'_head_Head_Do, List.forall_mem_cons.2 ⟨fok'_head_Head_Len, List.forall_mem_cons.2 ⟨fok'_law13_lives, List.forall_mem_cons.2 ⟨fok'_head_Head_Count, List.forall_mem_cons.2 ⟨fok'_ref05_Same, List.forall_mem_cons.2 ⟨fok'_ref12_Same, List.forall_mem_cons.2 ⟨fok'_head_Head_Series, List.forall_mem_cons.2 ⟨fok'_law13_row, List.forall_mem_cons.2 ⟨fok'_wal_Check, List.forall_mem_cons.2 ⟨fok'_head_Head_add, List.forall_mem_cons.2 ⟨fok'_head_Head_rows, List.forall_mem_cons.2 ⟨fok'_head_Head_remove, List.forall_mem_cons.2 ⟨fok'_head_Head_Last, List.forall_mem_cons.2 ⟨fok'_head_Head_at, List.forall_mem_cons.2 ⟨fok'_ref06_Same, List.forall_mem_cons.2 ⟨fok'_slices_DeleteFunc_Series, List.forall_mem_cons.2 ⟨fok'_head_copied, List.forall_mem_cons.2 ⟨fok'_head_Head_Series_1, List.forall_mem_cons.2 ⟨fok'_slices_SortFunc_Series, List.forall_mem_cons.2 ⟨fok'_head_Head_Series_2, List.forall_mem_cons.2 ⟨fok'_label_Compare, List.forall_mem_cons.2 ⟨fok'_label_Print, List.forall_mem_cons.2 ⟨fok'_label_Check, List.forall_mem_cons.2 ⟨fok'_wal_checkRows, List.forall_mem_cons.2 ⟨fok'_wal_checkDelete, List.forall_mem_cons.2 ⟨fok'_slices_Clone_Label, List.forall_mem_cons.2 ⟨fok'_head_Head_rows_1, List.forall_mem_cons.2 ⟨fok'_head_last, List.forall_mem_cons.2 ⟨fok'_slices_DeleteFunc_Sample, List.forall_mem_cons.2 ⟨fok'_head_Head_remove_1, List.forall_mem_cons.2 ⟨fok'_ref06_Compare, List.forall_mem_cons.2 ⟨fok'_slices_IndexFunc_Series, List.forall_mem_cons.2 ⟨fok'_slices_Clone_Sample, List.forall_mem_cons.2 ⟨fok'_slices_pdqsortCmpFunc_Series, List.forall_mem_cons.2 ⟨fok'_math_bits_Len, List.forall_mem_cons.2 ⟨fok'_slices_CompareFunc_Label, List.forall_mem_cons.2 ⟨fok'_label_Compare_1, List.forall_mem_cons.2 ⟨fok'_cmp_Or_int, List.forall_mem_cons.2 ⟨fok'_cmp_Compare_string, List.forall_mem_cons.2 ⟨fok'_label_quoted, List.forall_mem_cons.2 ⟨fok'_strings_Join, List.forall_mem_cons.2 ⟨fok'_label_Name, List.forall_mem_cons.2 ⟨fok'_chunk_Check, List.forall_mem_cons.2 ⟨fok'_posting_Check, List.forall_mem_cons.2 ⟨fok'_slices_IndexFunc_Sample, List.forall_mem_cons.2 ⟨fok'_ref06_text, List.forall_mem_cons.2 ⟨fok'_slices_insertionSortCmpFunc_Series, List.forall_mem_cons.2 ⟨fok'_slices_heapSortCmpFunc_Series, List.forall_mem_cons.2 ⟨fok'_slices_breakPatternsCmpFunc_Series, List.forall_mem_cons.2 ⟨fok'_slices_choosePivotCmpFunc_Series, List.forall_mem_cons.2 ⟨fok'_slices_reverseRangeCmpFunc_Series, List.forall_mem_cons.2 ⟨fok'_slices_partialInsertionSortCmpFunc_Series, List.forall_mem_cons.2 ⟨fok'_slices_partitionEqualCmpFunc_Series, List.forall_mem_cons.2 ⟨fok'_slices_partitionCmpFunc_Series, List.forall_mem_cons.2 ⟨fok'_math_bits_Len32, List.forall_mem_cons.2 ⟨fok'_math_bits_Len64, List.forall_mem_cons.2 ⟨fok'_cmp_isNaN_string, List.forall_mem_cons.2 ⟨fok'_strings_Builder_Grow, List.forall_mem_cons.2 ⟨fok'_strings_Builder_WriteString, List.forall_mem_cons.2 ⟨fok'_strings_Builder_String, List.forall_mem_cons.2 ⟨fok'_chunk_may, List.forall_mem_cons.2 ⟨fok'_slices_siftDownCmpFunc_Series, List.forall_mem_cons.2 ⟨fok'_slices_nextPowerOfTwo, List.forall_mem_cons.2 ⟨fok'_slices_xorshift_Next, List.forall_mem_cons.2 ⟨fok'_slices_medianAdjacentCmpFunc_Series, List.forall_mem_cons.2 ⟨fok'_slices_medianCmpFunc_Series, List.forall_mem_cons.2 ⟨fok'_strings_Builder_copyCheck, List.forall_mem_cons.2 ⟨fok'_strings_Builder_grow, List.forall_mem_cons.2 ⟨fok'_slices_order2CmpFunc_Series, fun _ h => absurd h List.not_mem_nil⟩⟩⟩⟩⟩⟩⟩⟩⟩⟩⟩⟩⟩⟩⟩⟩⟩⟩⟩⟩⟩⟩⟩⟩⟩⟩⟩⟩⟩⟩⟩⟩⟩⟩⟩⟩⟩⟩⟩⟩⟩⟩⟩⟩⟩⟩⟩⟩⟩⟩⟩⟩⟩⟩⟩⟩⟩⟩⟩⟩⟩⟩⟩⟩⟩⟩⟩⟩⟩⟩⟩
    exact this _ (look_mem h)
end Ps
