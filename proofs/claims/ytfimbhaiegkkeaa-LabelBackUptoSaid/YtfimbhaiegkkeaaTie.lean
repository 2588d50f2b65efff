/- The program's functions are the pure ones: printed by program, checked by the kernel. -/
import Derived.Test.YtfimbhaiegkkeaaCode
import Derived.Test.YtfimbhaiegkkeaaGlue
import Derived.Test.YtfimbhaiegkkeaaChecked
import Derived.Test.YtfimbhaiegkkeaaExt
import Derived.Test.YtfimbhaiegkkeaaShelf
namespace Ps
open Go Go.Proofs
set_option maxRecDepth 10000
def fnL : List (Nat × Nat) := [(0, 0), (1, 1), (2, 2), (475, 3), (4, 4), (8, 5), (7, 6), (476, 7), (5, 8), (6, 9), (9, 10), (121, 11), (126, 12), (40, 13), (98, 14), (27, 15), (22, 16), (23, 17), (24, 18), (25, 19), (26, 20), (36, 21), (38, 22), (41, 23), (33, 24), (34, 25), (35, 26), (37, 27), (39, 28), (28, 29), (102, 30), (29, 31), (30, 32), (31, 33), (32, 34), (94, 35), (95, 36), (96, 37), (97, 38), (99, 39), (100, 40), (101, 41), (116, 42), (117, 43), (118, 44), (120, 45), (114, 46), (115, 47), (119, 48), (103, 49), (104, 50), (105, 51), (106, 52), (216, 53), (107, 54), (108, 55), (109, 56), (110, 57), (111, 58), (112, 59), (113, 60), (208, 61), (209, 62), (210, 63), (211, 64), (212, 65), (213, 66), (214, 67), (215, 68), (221, 69), (217, 70), (218, 71), (219, 72), (220, 73), (297, 74), (298, 75), (299, 76), (300, 77), (301, 78), (348, 79), (349, 80), (350, 81), (351, 82), (352, 83), (353, 84), (389, 85), (417, 86), (418, 87), (419, 88), (420, 89), (421, 90), (422, 91), (423, 92), (424, 93), (425, 94), (426, 95), (427, 96), (428, 97), (429, 98), (432, 99), (433, 100), (435, 101), (438, 102)]
def tyL : List (Nat × Nat) := [(0, 9), (1, 95)]
def mnL : List (Nat × String) := [(0, "gauge/regex.ends"), (1, "Kind"), (2, "Elem"), (3, "Implements"), (4, "AssignableTo"), (5, "As"), (6, "Unwrap")]
def methL : List (Nat × Nat × Nat) := []
def tabL : List (Nat × PFn) := [(351, .indexByte), (475, .code law06_LabelChecks), (4, .code law06_LabelTexts), (8, .code law06_LabelParts), (7, .code law06_LabelPicks), (476, .code law06_LabelCompares), (5, .code law06_LabelOrder), (6, .code law06_LabelBytes), (9, .code law06_LabelBack), (121, .code label_Name), (126, .code ref06_Name), (40, .code label_Check), (98, .code ref06_Check), (27, .code law06_lives), (22, .code label_Parse), (23, .code ref06_Parse), (24, .code label_Print), (25, .code ref06_Print), (26, .code ref06_Same), (36, .code label_Keep), (38, .code label_Drop), (41, .code label_Merge), (33, .code law06_own), (34, .code label_Get), (35, .code ref06_Get), (37, .code ref06_Pick), (39, .code law06_kept), (28, .code label_Compare), (102, .code ref06_Compare), (29, .code label_Put), (30, .code ref06_Put), (31, .code label_Read), (32, .code ref06_Read), (94, .code strings_CutPrefix), (95, .code strings_Cut), (96, .code label_value), (97, .code ref06_Unquoted), (99, .code label_quoted), (100, .ext joinP), (101, .code ref06_Quoted), (116, .code label_those_Label), (117, .code label_Keep_1), (118, .code slices_Contains_string), (120, .code label_Drop_1), (114, .code slices_IndexFunc_Label), (115, .code label_Get_1), (119, .code ref06_Has), (103, .code slices_CompareFunc_Label), (104, .code label_Compare_1), (105, .code cmp_Or_int), (106, .code cmp_Compare_string), (216, .code ref06_text), (107, .code frame_PutUint), (108, .code frame_PutText), (109, .code ref06_Bytes), (110, .code frame_GetUint), (111, .code frame_GetText), (112, .code ref02_GetUint), (113, .code ref02_GetText), (208, .code stringslite_CutPrefix), (209, .code stringslite_Cut), (210, .code strings_HasPrefix), (211, .code strings_IndexByte), (212, .code ref06_digit), (213, .code strings_Builder_Grow), (214, .code strings_Builder_WriteString), (215, .code strings_Builder_String), (221, .code slices_Index_string), (217, .code cmp_isNaN_string), (218, .code frame_own), (219, .code ref02_Uint), (220, .code ref02_Text), (297, .code stringslite_HasPrefix), (298, .code stringslite_Index), (299, .code stringslite_IndexByte), (300, .code strings_Builder_copyCheck), (301, .code strings_Builder_grow), (349, .code bytealg_Cutover), (350, .code bytealg_IndexRabinKarp_string), (389, .code bytealg_hashStr_string)]
def T : Tbl := ⟨look tabL, methTab methL⟩
noncomputable def tie : Tie := ⟨Try.prog, T, fnTab fnL 100000, tyTab tyL, mnTab mnL⟩
theorem fok_law06_LabelChecks : chkFn tie Try.f3 law06_LabelChecks = true := by kernel_rfl
theorem fok'_law06_LabelChecks : FnOk tie 475 (.code law06_LabelChecks) := ⟨Try.f3, Try.func3, fok_law06_LabelChecks⟩
theorem fok_law06_LabelTexts : chkFn tie Try.f4 law06_LabelTexts = true := by kernel_rfl
theorem fok'_law06_LabelTexts : FnOk tie 4 (.code law06_LabelTexts) := ⟨Try.f4, Try.func4, fok_law06_LabelTexts⟩
theorem fok_law06_LabelParts : chkFn tie Try.f5 law06_LabelParts = true := by kernel_rfl
theorem fok'_law06_LabelParts : FnOk tie 8 (.code law06_LabelParts) := ⟨Try.f5, Try.func5, fok_law06_LabelParts⟩
theorem fok_law06_LabelPicks : chkFn tie Try.f6 law06_LabelPicks = true := by kernel_rfl
theorem fok'_law06_LabelPicks : FnOk tie 7 (.code law06_LabelPicks) := ⟨Try.f6, Try.func6, fok_law06_LabelPicks⟩
theorem fok_law06_LabelCompares : chkFn tie Try.f7 law06_LabelCompares = true := by kernel_rfl
theorem fok'_law06_LabelCompares : FnOk tie 476 (.code law06_LabelCompares) := ⟨Try.f7, Try.func7, fok_law06_LabelCompares⟩
theorem fok_law06_LabelOrder : chkFn tie Try.f8 law06_LabelOrder = true := by kernel_rfl
theorem fok'_law06_LabelOrder : FnOk tie 5 (.code law06_LabelOrder) := ⟨Try.f8, Try.func8, fok_law06_LabelOrder⟩
theorem fok_law06_LabelBytes : chkFn tie Try.f9 law06_LabelBytes = true := by kernel_rfl
theorem fok'_law06_LabelBytes : FnOk tie 6 (.code law06_LabelBytes) := ⟨Try.f9, Try.func9, fok_law06_LabelBytes⟩
theorem fok_law06_LabelBack : chkFn tie Try.f10 law06_LabelBack = true := by kernel_rfl
theorem fok'_law06_LabelBack : FnOk tie 9 (.code law06_LabelBack) := ⟨Try.f10, Try.func10, fok_law06_LabelBack⟩
theorem fok_label_Name : chkFn tie Try.f11 label_Name = true := by kernel_rfl
theorem fok'_label_Name : FnOk tie 121 (.code label_Name) := ⟨Try.f11, Try.func11, fok_label_Name⟩
theorem fok_ref06_Name : chkFn tie Try.f12 ref06_Name = true := by kernel_rfl
theorem fok'_ref06_Name : FnOk tie 126 (.code ref06_Name) := ⟨Try.f12, Try.func12, fok_ref06_Name⟩
theorem fok_label_Check : chkFn tie Try.f13 label_Check = true := by kernel_rfl
theorem fok'_label_Check : FnOk tie 40 (.code label_Check) := ⟨Try.f13, Try.func13, fok_label_Check⟩
theorem fok_ref06_Check : chkFn tie Try.f14 ref06_Check = true := by kernel_rfl
theorem fok'_ref06_Check : FnOk tie 98 (.code ref06_Check) := ⟨Try.f14, Try.func14, fok_ref06_Check⟩
theorem fok_law06_lives : chkFn tie Try.f15 law06_lives = true := by kernel_rfl
theorem fok'_law06_lives : FnOk tie 27 (.code law06_lives) := ⟨Try.f15, Try.func15, fok_law06_lives⟩
theorem fok_label_Parse : chkFn tie Try.f16 label_Parse = true := by kernel_rfl
theorem fok'_label_Parse : FnOk tie 22 (.code label_Parse) := ⟨Try.f16, Try.func16, fok_label_Parse⟩
theorem fok_ref06_Parse : chkFn tie Try.f17 ref06_Parse = true := by kernel_rfl
theorem fok'_ref06_Parse : FnOk tie 23 (.code ref06_Parse) := ⟨Try.f17, Try.func17, fok_ref06_Parse⟩
theorem fok_label_Print : chkFn tie Try.f18 label_Print = true := by kernel_rfl
theorem fok'_label_Print : FnOk tie 24 (.code label_Print) := ⟨Try.f18, Try.func18, fok_label_Print⟩
theorem fok_ref06_Print : chkFn tie Try.f19 ref06_Print = true := by kernel_rfl
theorem fok'_ref06_Print : FnOk tie 25 (.code ref06_Print) := ⟨Try.f19, Try.func19, fok_ref06_Print⟩
theorem fok_ref06_Same : chkFn tie Try.f20 ref06_Same = true := by kernel_rfl
theorem fok'_ref06_Same : FnOk tie 26 (.code ref06_Same) := ⟨Try.f20, Try.func20, fok_ref06_Same⟩
theorem fok_label_Keep : chkFn tie Try.f21 label_Keep = true := by kernel_rfl
theorem fok'_label_Keep : FnOk tie 36 (.code label_Keep) := ⟨Try.f21, Try.func21, fok_label_Keep⟩
theorem fok_label_Drop : chkFn tie Try.f22 label_Drop = true := by kernel_rfl
theorem fok'_label_Drop : FnOk tie 38 (.code label_Drop) := ⟨Try.f22, Try.func22, fok_label_Drop⟩
theorem fok_label_Merge : chkFn tie Try.f23 label_Merge = true := by kernel_rfl
theorem fok'_label_Merge : FnOk tie 41 (.code label_Merge) := ⟨Try.f23, Try.func23, fok_label_Merge⟩
theorem fok_law06_own : chkFn tie Try.f24 law06_own = true := by kernel_rfl
theorem fok'_law06_own : FnOk tie 33 (.code law06_own) := ⟨Try.f24, Try.func24, fok_law06_own⟩
theorem fok_label_Get : chkFn tie Try.f25 label_Get = true := by kernel_rfl
theorem fok'_label_Get : FnOk tie 34 (.code label_Get) := ⟨Try.f25, Try.func25, fok_label_Get⟩
theorem fok_ref06_Get : chkFn tie Try.f26 ref06_Get = true := by kernel_rfl
theorem fok'_ref06_Get : FnOk tie 35 (.code ref06_Get) := ⟨Try.f26, Try.func26, fok_ref06_Get⟩
theorem fok_ref06_Pick : chkFn tie Try.f27 ref06_Pick = true := by kernel_rfl
theorem fok'_ref06_Pick : FnOk tie 37 (.code ref06_Pick) := ⟨Try.f27, Try.func27, fok_ref06_Pick⟩
theorem fok_law06_kept : chkFn tie Try.f28 law06_kept = true := by kernel_rfl
theorem fok'_law06_kept : FnOk tie 39 (.code law06_kept) := ⟨Try.f28, Try.func28, fok_law06_kept⟩
theorem fok_label_Compare : chkFn tie Try.f29 label_Compare = true := by kernel_rfl
theorem fok'_label_Compare : FnOk tie 28 (.code label_Compare) := ⟨Try.f29, Try.func29, fok_label_Compare⟩
theorem fok_ref06_Compare : chkFn tie Try.f30 ref06_Compare = true := by kernel_rfl
theorem fok'_ref06_Compare : FnOk tie 102 (.code ref06_Compare) := ⟨Try.f30, Try.func30, fok_ref06_Compare⟩
theorem fok_label_Put : chkFn tie Try.f31 label_Put = true := by kernel_rfl
theorem fok'_label_Put : FnOk tie 29 (.code label_Put) := ⟨Try.f31, Try.func31, fok_label_Put⟩
theorem fok_ref06_Put : chkFn tie Try.f32 ref06_Put = true := by kernel_rfl
theorem fok'_ref06_Put : FnOk tie 30 (.code ref06_Put) := ⟨Try.f32, Try.func32, fok_ref06_Put⟩
theorem fok_label_Read : chkFn tie Try.f33 label_Read = true := by kernel_rfl
theorem fok'_label_Read : FnOk tie 31 (.code label_Read) := ⟨Try.f33, Try.func33, fok_label_Read⟩
theorem fok_ref06_Read : chkFn tie Try.f34 ref06_Read = true := by kernel_rfl
theorem fok'_ref06_Read : FnOk tie 32 (.code ref06_Read) := ⟨Try.f34, Try.func34, fok_ref06_Read⟩
theorem fok_strings_CutPrefix : chkFn tie Try.f35 strings_CutPrefix = true := by kernel_rfl
theorem fok'_strings_CutPrefix : FnOk tie 94 (.code strings_CutPrefix) := ⟨Try.f35, Try.func35, fok_strings_CutPrefix⟩
theorem fok_strings_Cut : chkFn tie Try.f36 strings_Cut = true := by kernel_rfl
theorem fok'_strings_Cut : FnOk tie 95 (.code strings_Cut) := ⟨Try.f36, Try.func36, fok_strings_Cut⟩
theorem fok_label_value : chkFn tie Try.f37 label_value = true := by kernel_rfl
theorem fok'_label_value : FnOk tie 96 (.code label_value) := ⟨Try.f37, Try.func37, fok_label_value⟩
theorem fok_ref06_Unquoted : chkFn tie Try.f38 ref06_Unquoted = true := by kernel_rfl
theorem fok'_ref06_Unquoted : FnOk tie 97 (.code ref06_Unquoted) := ⟨Try.f38, Try.func38, fok_ref06_Unquoted⟩
theorem fok_label_quoted : chkFn tie Try.f39 label_quoted = true := by kernel_rfl
theorem fok'_label_quoted : FnOk tie 99 (.code label_quoted) := ⟨Try.f39, Try.func39, fok_label_quoted⟩
theorem fok_ref06_Quoted : chkFn tie Try.f41 ref06_Quoted = true := by kernel_rfl
theorem fok'_ref06_Quoted : FnOk tie 101 (.code ref06_Quoted) := ⟨Try.f41, Try.func41, fok_ref06_Quoted⟩
theorem fok_label_those_Label : chkFn tie Try.f42 label_those_Label = true := by kernel_rfl
theorem fok'_label_those_Label : FnOk tie 116 (.code label_those_Label) := ⟨Try.f42, Try.func42, fok_label_those_Label⟩
theorem fok_label_Keep_1 : chkFn tie Try.f43 label_Keep_1 = true := by kernel_rfl
theorem fok'_label_Keep_1 : FnOk tie 117 (.code label_Keep_1) := ⟨Try.f43, Try.func43, fok_label_Keep_1⟩
theorem fok_slices_Contains_string : chkFn tie Try.f44 slices_Contains_string = true := by kernel_rfl
theorem fok'_slices_Contains_string : FnOk tie 118 (.code slices_Contains_string) := ⟨Try.f44, Try.func44, fok_slices_Contains_string⟩
theorem fok_label_Drop_1 : chkFn tie Try.f45 label_Drop_1 = true := by kernel_rfl
theorem fok'_label_Drop_1 : FnOk tie 120 (.code label_Drop_1) := ⟨Try.f45, Try.func45, fok_label_Drop_1⟩
theorem fok_slices_IndexFunc_Label : chkFn tie Try.f46 slices_IndexFunc_Label = true := by kernel_rfl
theorem fok'_slices_IndexFunc_Label : FnOk tie 114 (.code slices_IndexFunc_Label) := ⟨Try.f46, Try.func46, fok_slices_IndexFunc_Label⟩
theorem fok_label_Get_1 : chkFn tie Try.f47 label_Get_1 = true := by kernel_rfl
theorem fok'_label_Get_1 : FnOk tie 115 (.code label_Get_1) := ⟨Try.f47, Try.func47, fok_label_Get_1⟩
theorem fok_ref06_Has : chkFn tie Try.f48 ref06_Has = true := by kernel_rfl
theorem fok'_ref06_Has : FnOk tie 119 (.code ref06_Has) := ⟨Try.f48, Try.func48, fok_ref06_Has⟩
theorem fok_slices_CompareFunc_Label : chkFn tie Try.f49 slices_CompareFunc_Label = true := by kernel_rfl
theorem fok'_slices_CompareFunc_Label : FnOk tie 103 (.code slices_CompareFunc_Label) := ⟨Try.f49, Try.func49, fok_slices_CompareFunc_Label⟩
theorem fok_label_Compare_1 : chkFn tie Try.f50 label_Compare_1 = true := by kernel_rfl
theorem fok'_label_Compare_1 : FnOk tie 104 (.code label_Compare_1) := ⟨Try.f50, Try.func50, fok_label_Compare_1⟩
theorem fok_cmp_Or_int : chkFn tie Try.f51 cmp_Or_int = true := by kernel_rfl
theorem fok'_cmp_Or_int : FnOk tie 105 (.code cmp_Or_int) := ⟨Try.f51, Try.func51, fok_cmp_Or_int⟩
theorem fok_cmp_Compare_string : chkFn tie Try.f52 cmp_Compare_string = true := by kernel_rfl
theorem fok'_cmp_Compare_string : FnOk tie 106 (.code cmp_Compare_string) := ⟨Try.f52, Try.func52, fok_cmp_Compare_string⟩
theorem fok_ref06_text : chkFn tie Try.f53 ref06_text = true := by kernel_rfl
theorem fok'_ref06_text : FnOk tie 216 (.code ref06_text) := ⟨Try.f53, Try.func53, fok_ref06_text⟩
theorem fok_frame_PutUint : chkFn tie Try.f54 frame_PutUint = true := by kernel_rfl
theorem fok'_frame_PutUint : FnOk tie 107 (.code frame_PutUint) := ⟨Try.f54, Try.func54, fok_frame_PutUint⟩
theorem fok_frame_PutText : chkFn tie Try.f55 frame_PutText = true := by kernel_rfl
theorem fok'_frame_PutText : FnOk tie 108 (.code frame_PutText) := ⟨Try.f55, Try.func55, fok_frame_PutText⟩
theorem fok_ref06_Bytes : chkFn tie Try.f56 ref06_Bytes = true := by kernel_rfl
theorem fok'_ref06_Bytes : FnOk tie 109 (.code ref06_Bytes) := ⟨Try.f56, Try.func56, fok_ref06_Bytes⟩
theorem fok_frame_GetUint : chkFn tie Try.f57 frame_GetUint = true := by kernel_rfl
theorem fok'_frame_GetUint : FnOk tie 110 (.code frame_GetUint) := ⟨Try.f57, Try.func57, fok_frame_GetUint⟩
theorem fok_frame_GetText : chkFn tie Try.f58 frame_GetText = true := by kernel_rfl
theorem fok'_frame_GetText : FnOk tie 111 (.code frame_GetText) := ⟨Try.f58, Try.func58, fok_frame_GetText⟩
theorem fok_ref02_GetUint : chkFn tie Try.f59 ref02_GetUint = true := by kernel_rfl
theorem fok'_ref02_GetUint : FnOk tie 112 (.code ref02_GetUint) := ⟨Try.f59, Try.func59, fok_ref02_GetUint⟩
theorem fok_ref02_GetText : chkFn tie Try.f60 ref02_GetText = true := by kernel_rfl
theorem fok'_ref02_GetText : FnOk tie 113 (.code ref02_GetText) := ⟨Try.f60, Try.func60, fok_ref02_GetText⟩
theorem fok_stringslite_CutPrefix : chkFn tie Try.f61 stringslite_CutPrefix = true := by kernel_rfl
theorem fok'_stringslite_CutPrefix : FnOk tie 208 (.code stringslite_CutPrefix) := ⟨Try.f61, Try.func61, fok_stringslite_CutPrefix⟩
theorem fok_stringslite_Cut : chkFn tie Try.f62 stringslite_Cut = true := by kernel_rfl
theorem fok'_stringslite_Cut : FnOk tie 209 (.code stringslite_Cut) := ⟨Try.f62, Try.func62, fok_stringslite_Cut⟩
theorem fok_strings_HasPrefix : chkFn tie Try.f63 strings_HasPrefix = true := by kernel_rfl
theorem fok'_strings_HasPrefix : FnOk tie 210 (.code strings_HasPrefix) := ⟨Try.f63, Try.func63, fok_strings_HasPrefix⟩
theorem fok_strings_IndexByte : chkFn tie Try.f64 strings_IndexByte = true := by kernel_rfl
theorem fok'_strings_IndexByte : FnOk tie 211 (.code strings_IndexByte) := ⟨Try.f64, Try.func64, fok_strings_IndexByte⟩
theorem fok_ref06_digit : chkFn tie Try.f65 ref06_digit = true := by kernel_rfl
theorem fok'_ref06_digit : FnOk tie 212 (.code ref06_digit) := ⟨Try.f65, Try.func65, fok_ref06_digit⟩
theorem fok_strings_Builder_Grow : chkFn tie Try.f66 strings_Builder_Grow = true := by kernel_rfl
theorem fok'_strings_Builder_Grow : FnOk tie 213 (.code strings_Builder_Grow) := ⟨Try.f66, Try.func66, fok_strings_Builder_Grow⟩
theorem fok_strings_Builder_WriteString : chkFn tie Try.f67 strings_Builder_WriteString = true := by kernel_rfl
theorem fok'_strings_Builder_WriteString : FnOk tie 214 (.code strings_Builder_WriteString) := ⟨Try.f67, Try.func67, fok_strings_Builder_WriteString⟩
theorem fok_strings_Builder_String : chkFn tie Try.f68 strings_Builder_String = true := by kernel_rfl
theorem fok'_strings_Builder_String : FnOk tie 215 (.code strings_Builder_String) := ⟨Try.f68, Try.func68, fok_strings_Builder_String⟩
theorem fok_slices_Index_string : chkFn tie Try.f69 slices_Index_string = true := by kernel_rfl
theorem fok'_slices_Index_string : FnOk tie 221 (.code slices_Index_string) := ⟨Try.f69, Try.func69, fok_slices_Index_string⟩
theorem fok_cmp_isNaN_string : chkFn tie Try.f70 cmp_isNaN_string = true := by kernel_rfl
theorem fok'_cmp_isNaN_string : FnOk tie 217 (.code cmp_isNaN_string) := ⟨Try.f70, Try.func70, fok_cmp_isNaN_string⟩
theorem fok_frame_own : chkFn tie Try.f71 frame_own = true := by kernel_rfl
theorem fok'_frame_own : FnOk tie 218 (.code frame_own) := ⟨Try.f71, Try.func71, fok_frame_own⟩
theorem fok_ref02_Uint : chkFn tie Try.f72 ref02_Uint = true := by kernel_rfl
theorem fok'_ref02_Uint : FnOk tie 219 (.code ref02_Uint) := ⟨Try.f72, Try.func72, fok_ref02_Uint⟩
theorem fok_ref02_Text : chkFn tie Try.f73 ref02_Text = true := by kernel_rfl
theorem fok'_ref02_Text : FnOk tie 220 (.code ref02_Text) := ⟨Try.f73, Try.func73, fok_ref02_Text⟩
theorem fok_stringslite_HasPrefix : chkFn tie Try.f74 stringslite_HasPrefix = true := by kernel_rfl
theorem fok'_stringslite_HasPrefix : FnOk tie 297 (.code stringslite_HasPrefix) := ⟨Try.f74, Try.func74, fok_stringslite_HasPrefix⟩
theorem fok_stringslite_Index : chkFn tie Try.f75 stringslite_Index = true := by kernel_rfl
theorem fok'_stringslite_Index : FnOk tie 298 (.code stringslite_Index) := ⟨Try.f75, Try.func75, fok_stringslite_Index⟩
theorem fok_stringslite_IndexByte : chkFn tie Try.f76 stringslite_IndexByte = true := by kernel_rfl
theorem fok'_stringslite_IndexByte : FnOk tie 299 (.code stringslite_IndexByte) := ⟨Try.f76, Try.func76, fok_stringslite_IndexByte⟩
theorem fok_strings_Builder_copyCheck : chkFn tie Try.f77 strings_Builder_copyCheck = true := by kernel_rfl
theorem fok'_strings_Builder_copyCheck : FnOk tie 300 (.code strings_Builder_copyCheck) := ⟨Try.f77, Try.func77, fok_strings_Builder_copyCheck⟩
theorem fok_strings_Builder_grow : chkFn tie Try.f78 strings_Builder_grow = true := by kernel_rfl
theorem fok'_strings_Builder_grow : FnOk tie 301 (.code strings_Builder_grow) := ⟨Try.f78, Try.func78, fok_strings_Builder_grow⟩
theorem fok_bytealg_Cutover : chkFn tie Try.f80 bytealg_Cutover = true := by kernel_rfl
theorem fok'_bytealg_Cutover : FnOk tie 349 (.code bytealg_Cutover) := ⟨Try.f80, Try.func80, fok_bytealg_Cutover⟩
theorem fok_bytealg_IndexRabinKarp_string : chkFn tie Try.f81 bytealg_IndexRabinKarp_string = true := by kernel_rfl
theorem fok'_bytealg_IndexRabinKarp_string : FnOk tie 350 (.code bytealg_IndexRabinKarp_string) := ⟨Try.f81, Try.func81, fok_bytealg_IndexRabinKarp_string⟩
theorem fok_bytealg_hashStr_string : chkFn tie Try.f85 bytealg_hashStr_string = true := by kernel_rfl
theorem fok'_bytealg_hashStr_string : FnOk tie 389 (.code bytealg_hashStr_string) := ⟨Try.f85, Try.func85, fok_bytealg_hashStr_string⟩
theorem fok'_strings_Join : FnOk tie 100 (.ext joinP) := by
  have hf : Try.prog.funcs[fnTab fnL 100000 100]? = some Try.f40 := Try.func40
  exact joinExt (X := tie) (f := 100) (fn := Try.f40) hf (by decide +kernel) (by kernel_rfl) Try.strings_Join_none Try.strings_Join
theorem fok_indexByte : FnOk tie 351 .indexByte := fun us w => by
  have hf : Try.prog.funcs[fnTab fnL 100000 351]? = some Try.f82 := Try.func82
  exact indexByte_run hf (by kernel_rfl) (by kernel_rfl) (by kernel_rfl) (by kernel_rfl) us w
theorem tieOk : TieOk tie where
  ty := tyTab_inj (by decide)
  meth := fun t m f h u w => chkMeth_ok (methTab_ok (P := Try.prog) (ty := tyTab tyL) (mn := mnTab mnL) (fnOf := fnTab fnL 100000) (l := methL) (by kernel_rfl) t m f h) _ u w
  mixed := by kernel_rfl
  fns := fun f pf h => by
    have : ∀ q ∈ tabL, FnOk tie q.1 q.2 := by
      exact List.forall_mem_cons.2 ⟨fok_indexByte, List.forall_mem_cons.2 ⟨fok'_law06_LabelChecks, List.forall_mem_cons.2 ⟨fok'_law06_LabelTexts, List.forall_mem_cons.2 ⟨fok'_law06_LabelParts, List.forall_mem_cons.2 ⟨fok'_law06_LabelPicks, List.forall_mem_cons.2 ⟨fok'_law06_LabelCompares, List.forall_mem_cons.2 ⟨fok'_law06_LabelOrder, List.forall_mem_cons.2 ⟨fok'_law06_LabelBytes, List.forall_mem_cons.2 ⟨fok'_law06_LabelBack, List.forall_mem_cons.2 ⟨fok'_label_Name, List.forall_mem_cons.2 ⟨fok'_ref06_Name, List.forall_mem_cons.2 ⟨fok'_label_Check, List.forall_mem_cons.2 ⟨fok'_ref06_Check, List.forall_mem_cons.2 ⟨fok'_law06_lives, List.forall_mem_cons.2 ⟨fok'_label_Parse, List.forall_mem_cons.2 ⟨fok'_ref06_Parse, List.forall_mem_cons.2 ⟨fok'_label_Print, List.forall_mem_cons.2 ⟨fok'_ref06_Print, List.forall_mem_cons.2 ⟨fok'_ref06_Same, List.forall_mem_cons.2 ⟨fok'_label_Keep, List.forall_mem_cons.2 ⟨fok'_label_Drop, List.forall_mem_cons.2 ⟨fok'_label_Merge, List.forall_mem_cons.2 ⟨fok'_law06_own, List.forall_mem_cons.2 ⟨fok'_label_Get, List.forall_mem_cons.2 ⟨fok'_ref06_Get, List.forall_mem_cons.2 ⟨fok'_ref06_Pick, List.forall_mem_cons.2 ⟨fok'_law06_kept, List.forall_mem_cons.2 ⟨fok'_label_Compare, List.forall_mem_cons.2 ⟨fok'_ref06_Compare, List.forall_mem_cons.2 ⟨fok'_label_Put, List.forall_mem_cons.2 ⟨fok'_ref06_Put, List.forall_mem_cons.2 ⟨fok'_label_Read, List.forall_mem_cons.2 ⟨fok'_ref06_Read, List.forall_mem_cons.2 ⟨fok'_strings_CutPrefix, List.forall_mem_cons.2 ⟨fok'_strings_Cut, List.forall_mem_cons.2 ⟨fok'_label_value, List.forall_mem_cons.2 ⟨fok'_ref06_Unquoted, List.forall_mem_cons.2 ⟨fok'_label_quoted, List.forall_mem_cons.2 ⟨fok'_strings_Join, List.forall_mem_cons.2 ⟨fok'_ref06_Quoted, List.forall_mem_cons.2 ⟨fok'_label_those_Label, List.forall_mem_cons.2 ⟨fok'_label_Keep_1, List.forall_mem_cons.2 ⟨fok'_slices_Contains_string, List.forall_mem_cons.2 ⟨fok'_label_Drop_1, List.forall_mem_cons.2 ⟨fok'_slices_IndexFunc_Label, List.forall_mem_cons.2 ⟨fok'_label_Get_1, List.forall_mem_cons.2 ⟨fok'_ref06_Has, List.forall_mem_cons.2 ⟨fok'_slices_CompareFunc_Label, List.forall_mem_cons.2 ⟨fok'_label_Compare_1, List.forall_mem_cons.2 ⟨fok'_cmp_Or_int, List.forall_mem_cons.2 ⟨fok'_cmp_Compare_string, List.forall_mem_cons.2 ⟨fok'_ref06_text, List.forall_mem_cons.2 ⟨fok'_frame_PutUint, List.forall_mem_cons.2 ⟨fok'_frame_PutText, List.forall_mem_cons.2 ⟨fok'_ref06_Bytes, List.forall_mem_cons.2 ⟨fok'_frame_GetUint, List.forall_mem_cons.2 ⟨fok'_frame_GetText, List.forall_mem_cons.2 ⟨fok'_ref02_GetUint, List.forall_mem_cons.2 ⟨fok'_ref02_GetText, List.forall_mem_cons.2 ⟨fok'_stringslite_CutPrefix, List.forall_mem_cons.2 ⟨fok'_stringslite_Cut, List.forall_mem_cons.2 ⟨fok'_strings_HasPrefix, List.forall_mem_cons.2 ⟨fok'_strings_IndexByte, List.forall_mem_cons.2 ⟨fok'_ref06_digit, List.forall_mem_cons.2 ⟨fok'_strings_Builder_Grow, List.forall_mem_cons.2 ⟨fok'_strings_Builder_WriteString, List.forall_mem_cons.2 ⟨fok'_strings_Builder_String, List.forall_mem_cons.2 ⟨fok'_slices_Index_string, List.forall_mem_cons.2 ⟨fok'_cmp_isNaN_string, List.forall_mem_cons.2 ⟨fok'_frame_own, List.forall_mem_cons.2 ⟨fok'_ref02_Uint, List.forall_mem_cons.2 ⟨fok'_ref02_Text, List.forall_mem_cons.2 ⟨fok'_stringslite_HasPrefix, List.forall_mem_cons.2 ⟨fok'_stringslite_Index, List.forall_mem_cons.2 ⟨fok'_stringslite_IndexByte, List.forall_mem_cons.2 ⟨fok'_strings_Builder_copyCheck, List.forall_mem_cons.2 ⟨fok'_strings_Builder_grow, List.forall_mem_cons.2 ⟨fok'_bytealg_Cutover, List.forall_mem_cons.2 ⟨fok'_bytealg_IndexRabinKarp_string, List.forall_mem_cons.2 ⟨fok'_bytealg_hashStr_string, fun _ h => absurd h List.not_mem_nil⟩⟩⟩⟩⟩⟩⟩⟩⟩⟩⟩⟩⟩⟩⟩⟩⟩⟩⟩⟩⟩⟩⟩⟩⟩⟩⟩⟩⟩⟩⟩⟩⟩⟩⟩⟩⟩⟩⟩⟩⟩⟩⟩⟩⟩⟩⟩⟩⟩⟩⟩⟩⟩⟩⟩⟩⟩⟩⟩⟩⟩⟩⟩⟩⟩⟩⟩⟩⟩⟩⟩⟩⟩⟩⟩⟩⟩⟩⟩⟩
    exact this _ (look_mem h)
end Ps
