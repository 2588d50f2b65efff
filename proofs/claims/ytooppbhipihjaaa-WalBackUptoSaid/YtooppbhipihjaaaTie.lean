/- The program's functions are the pure ones: printed by program, checked by the kernel. -/
import Derived.Test.YtooppbhipihjaaaCode
import Derived.Test.YtooppbhipihjaaaGlue
import Derived.Test.YtooppbhipihjaaaChecked
namespace Ps
open Go Go.Proofs
set_option maxRecDepth 10000
def fnL : List (Nat × Nat) := [(0, 0), (1, 1), (2, 2), (492, 3), (488, 4), (149, 5), (142, 6), (254, 7), (179, 8), (183, 9), (253, 10), (143, 11), (325, 12), (57, 13), (107, 14), (240, 15), (29, 16), (241, 17), (242, 18), (219, 19), (109, 20), (326, 21), (327, 22), (40, 23), (275, 24), (276, 25), (98, 26), (281, 27), (282, 28), (175, 29), (26, 30), (243, 31), (31, 32), (244, 33), (245, 34), (246, 35), (374, 36), (218, 37), (108, 38), (318, 39), (220, 40), (121, 41), (154, 42), (126, 43), (329, 44), (102, 45), (110, 46), (111, 47), (399, 48), (32, 49), (400, 50), (260, 51), (216, 52), (112, 53), (113, 54), (417, 55), (418, 56), (419, 57), (420, 58), (421, 59), (422, 60), (423, 61), (424, 62), (425, 63), (426, 64), (427, 65), (428, 66), (429, 67), (432, 68), (433, 69), (438, 70)]
def tyL : List (Nat × Nat) := [(0, 9)]
def mnL : List (Nat × String) := [(0, "gauge/regex.ends"), (1, "Kind"), (2, "Elem"), (3, "Implements"), (4, "AssignableTo"), (5, "As"), (6, "Unwrap")]
def methL : List (Nat × Nat × Nat) := []
def tabL : List (Nat × PFn) := [(492, .code law11_WalRecords), (488, .code law11_WalBack), (149, .code law11_own), (142, .code wal_Bytes), (254, .code ref11_Bytes), (179, .code wal_Check), (183, .code ref11_Check), (253, .code ref11_Same), (143, .code wal_Of), (325, .code ref11_Of), (57, .code law11_lives), (107, .code frame_PutUint), (240, .code wal_Bytes_1), (29, .code label_Put), (241, .code wal_zig), (242, .code posting_Put), (219, .code ref02_Uint), (109, .code ref06_Bytes), (326, .code ref11_Zig), (327, .code ref09_Bytes), (40, .code label_Check), (275, .code wal_checkRows), (276, .code wal_checkDelete), (98, .code ref06_Check), (281, .code ref11_rows), (282, .code ref09_Check), (175, .code ref09_Same), (26, .code ref06_Same), (243, .code wal_reader_uint), (31, .code label_Read), (244, .code wal_zag), (245, .code posting_Read), (246, .code slices_Equal_byte), (374, .code ref11_read), (218, .code frame_own), (108, .code frame_PutText), (318, .code posting_Check), (220, .code ref02_Text), (121, .code label_Name), (154, .code chunk_Check), (126, .code ref06_Name), (329, .code ref05_May), (102, .code ref06_Compare), (110, .code frame_GetUint), (111, .code frame_GetText), (399, .code ref11_numbers), (32, .code ref06_Read), (400, .code ref09_Read), (260, .code chunk_may), (216, .code ref06_text), (112, .code ref02_GetUint), (113, .code ref02_GetText)]
def T : Tbl := ⟨look tabL, methTab methL⟩
noncomputable def tie : Tie := ⟨Try.prog, T, fnTab fnL 100000, tyTab tyL, mnTab mnL⟩
theorem fok_law11_WalRecords : chkFn tie Try.f3 law11_WalRecords = true := by kernel_rfl
theorem fok'_law11_WalRecords : FnOk tie 492 (.code law11_WalRecords) := ⟨Try.f3, Try.func3, fok_law11_WalRecords⟩
theorem fok_law11_WalBack : chkFn tie Try.f4 law11_WalBack = true := by kernel_rfl
theorem fok'_law11_WalBack : FnOk tie 488 (.code law11_WalBack) := ⟨Try.f4, Try.func4, fok_law11_WalBack⟩
theorem fok_law11_own : chkFn tie Try.f5 law11_own = true := by kernel_rfl
theorem fok'_law11_own : FnOk tie 149 (.code law11_own) := ⟨Try.f5, Try.func5, fok_law11_own⟩
theorem fok_wal_Bytes : chkFn tie Try.f6 wal_Bytes = true := by kernel_rfl
theorem fok'_wal_Bytes : FnOk tie 142 (.code wal_Bytes) := ⟨Try.f6, Try.func6, fok_wal_Bytes⟩
theorem fok_ref11_Bytes : chkFn tie Try.f7 ref11_Bytes = true := by kernel_rfl
theorem fok'_ref11_Bytes : FnOk tie 254 (.code ref11_Bytes) := ⟨Try.f7, Try.func7, fok_ref11_Bytes⟩
theorem fok_wal_Check : chkFn tie Try.f8 wal_Check = true := by kernel_rfl
theorem fok'_wal_Check : FnOk tie 179 (.code wal_Check) := ⟨Try.f8, Try.func8, fok_wal_Check⟩
theorem fok_ref11_Check : chkFn tie Try.f9 ref11_Check = true := by kernel_rfl
theorem fok'_ref11_Check : FnOk tie 183 (.code ref11_Check) := ⟨Try.f9, Try.func9, fok_ref11_Check⟩
theorem fok_ref11_Same : chkFn tie Try.f10 ref11_Same = true := by kernel_rfl
theorem fok'_ref11_Same : FnOk tie 253 (.code ref11_Same) := ⟨Try.f10, Try.func10, fok_ref11_Same⟩
theorem fok_wal_Of : chkFn tie Try.f11 wal_Of = true := by kernel_rfl
theorem fok'_wal_Of : FnOk tie 143 (.code wal_Of) := ⟨Try.f11, Try.func11, fok_wal_Of⟩
theorem fok_ref11_Of : chkFn tie Try.f12 ref11_Of = true := by kernel_rfl
theorem fok'_ref11_Of : FnOk tie 325 (.code ref11_Of) := ⟨Try.f12, Try.func12, fok_ref11_Of⟩
theorem fok_law11_lives : chkFn tie Try.f13 law11_lives = true := by kernel_rfl
theorem fok'_law11_lives : FnOk tie 57 (.code law11_lives) := ⟨Try.f13, Try.func13, fok_law11_lives⟩
theorem fok_frame_PutUint : chkFn tie Try.f14 frame_PutUint = true := by kernel_rfl
theorem fok'_frame_PutUint : FnOk tie 107 (.code frame_PutUint) := ⟨Try.f14, Try.func14, fok_frame_PutUint⟩
theorem fok_wal_Bytes_1 : chkFn tie Try.f15 wal_Bytes_1 = true := by kernel_rfl
theorem fok'_wal_Bytes_1 : FnOk tie 240 (.code wal_Bytes_1) := ⟨Try.f15, Try.func15, fok_wal_Bytes_1⟩
theorem fok_label_Put : chkFn tie Try.f16 label_Put = true := by kernel_rfl
theorem fok'_label_Put : FnOk tie 29 (.code label_Put) := ⟨Try.f16, Try.func16, fok_label_Put⟩
theorem fok_wal_zig : chkFn tie Try.f17 wal_zig = true := by kernel_rfl
theorem fok'_wal_zig : FnOk tie 241 (.code wal_zig) := ⟨Try.f17, Try.func17, fok_wal_zig⟩
theorem fok_posting_Put : chkFn tie Try.f18 posting_Put = true := by kernel_rfl
theorem fok'_posting_Put : FnOk tie 242 (.code posting_Put) := ⟨Try.f18, Try.func18, fok_posting_Put⟩
theorem fok_ref02_Uint : chkFn tie Try.f19 ref02_Uint = true := by kernel_rfl
theorem fok'_ref02_Uint : FnOk tie 219 (.code ref02_Uint) := ⟨Try.f19, Try.func19, fok_ref02_Uint⟩
theorem fok_ref06_Bytes : chkFn tie Try.f20 ref06_Bytes = true := by kernel_rfl
theorem fok'_ref06_Bytes : FnOk tie 109 (.code ref06_Bytes) := ⟨Try.f20, Try.func20, fok_ref06_Bytes⟩
theorem fok_ref11_Zig : chkFn tie Try.f21 ref11_Zig = true := by kernel_rfl
theorem fok'_ref11_Zig : FnOk tie 326 (.code ref11_Zig) := ⟨Try.f21, Try.func21, fok_ref11_Zig⟩
theorem fok_ref09_Bytes : chkFn tie Try.f22 ref09_Bytes = true := by kernel_rfl
theorem fok'_ref09_Bytes : FnOk tie 327 (.code ref09_Bytes) := ⟨Try.f22, Try.func22, fok_ref09_Bytes⟩
theorem fok_label_Check : chkFn tie Try.f23 label_Check = true := by kernel_rfl
theorem fok'_label_Check : FnOk tie 40 (.code label_Check) := ⟨Try.f23, Try.func23, fok_label_Check⟩
theorem fok_wal_checkRows : chkFn tie Try.f24 wal_checkRows = true := by kernel_rfl
theorem fok'_wal_checkRows : FnOk tie 275 (.code wal_checkRows) := ⟨Try.f24, Try.func24, fok_wal_checkRows⟩
theorem fok_wal_checkDelete : chkFn tie Try.f25 wal_checkDelete = true := by kernel_rfl
theorem fok'_wal_checkDelete : FnOk tie 276 (.code wal_checkDelete) := ⟨Try.f25, Try.func25, fok_wal_checkDelete⟩
theorem fok_ref06_Check : chkFn tie Try.f26 ref06_Check = true := by kernel_rfl
theorem fok'_ref06_Check : FnOk tie 98 (.code ref06_Check) := ⟨Try.f26, Try.func26, fok_ref06_Check⟩
theorem fok_ref11_rows : chkFn tie Try.f27 ref11_rows = true := by kernel_rfl
theorem fok'_ref11_rows : FnOk tie 281 (.code ref11_rows) := ⟨Try.f27, Try.func27, fok_ref11_rows⟩
theorem fok_ref09_Check : chkFn tie Try.f28 ref09_Check = true := by kernel_rfl
theorem fok'_ref09_Check : FnOk tie 282 (.code ref09_Check) := ⟨Try.f28, Try.func28, fok_ref09_Check⟩
theorem fok_ref09_Same : chkFn tie Try.f29 ref09_Same = true := by kernel_rfl
theorem fok'_ref09_Same : FnOk tie 175 (.code ref09_Same) := ⟨Try.f29, Try.func29, fok_ref09_Same⟩
theorem fok_ref06_Same : chkFn tie Try.f30 ref06_Same = true := by kernel_rfl
theorem fok'_ref06_Same : FnOk tie 26 (.code ref06_Same) := ⟨Try.f30, Try.func30, fok_ref06_Same⟩
theorem fok_wal_reader_uint : chkFn tie Try.f31 wal_reader_uint = true := by kernel_rfl
theorem fok'_wal_reader_uint : FnOk tie 243 (.code wal_reader_uint) := ⟨Try.f31, Try.func31, fok_wal_reader_uint⟩
theorem fok_label_Read : chkFn tie Try.f32 label_Read = true := by kernel_rfl
theorem fok'_label_Read : FnOk tie 31 (.code label_Read) := ⟨Try.f32, Try.func32, fok_label_Read⟩
theorem fok_wal_zag : chkFn tie Try.f33 wal_zag = true := by kernel_rfl
theorem fok'_wal_zag : FnOk tie 244 (.code wal_zag) := ⟨Try.f33, Try.func33, fok_wal_zag⟩
theorem fok_posting_Read : chkFn tie Try.f34 posting_Read = true := by kernel_rfl
theorem fok'_posting_Read : FnOk tie 245 (.code posting_Read) := ⟨Try.f34, Try.func34, fok_posting_Read⟩
theorem fok_slices_Equal_byte : chkFn tie Try.f35 slices_Equal_byte = true := by kernel_rfl
theorem fok'_slices_Equal_byte : FnOk tie 246 (.code slices_Equal_byte) := ⟨Try.f35, Try.func35, fok_slices_Equal_byte⟩
theorem fok_ref11_read : chkFn tie Try.f36 ref11_read = true := by kernel_rfl
theorem fok'_ref11_read : FnOk tie 374 (.code ref11_read) := ⟨Try.f36, Try.func36, fok_ref11_read⟩
theorem fok_frame_own : chkFn tie Try.f37 frame_own = true := by kernel_rfl
theorem fok'_frame_own : FnOk tie 218 (.code frame_own) := ⟨Try.f37, Try.func37, fok_frame_own⟩
theorem fok_frame_PutText : chkFn tie Try.f38 frame_PutText = true := by kernel_rfl
theorem fok'_frame_PutText : FnOk tie 108 (.code frame_PutText) := ⟨Try.f38, Try.func38, fok_frame_PutText⟩
theorem fok_posting_Check : chkFn tie Try.f39 posting_Check = true := by kernel_rfl
theorem fok'_posting_Check : FnOk tie 318 (.code posting_Check) := ⟨Try.f39, Try.func39, fok_posting_Check⟩
theorem fok_ref02_Text : chkFn tie Try.f40 ref02_Text = true := by kernel_rfl
theorem fok'_ref02_Text : FnOk tie 220 (.code ref02_Text) := ⟨Try.f40, Try.func40, fok_ref02_Text⟩
theorem fok_label_Name : chkFn tie Try.f41 label_Name = true := by kernel_rfl
theorem fok'_label_Name : FnOk tie 121 (.code label_Name) := ⟨Try.f41, Try.func41, fok_label_Name⟩
theorem fok_chunk_Check : chkFn tie Try.f42 chunk_Check = true := by kernel_rfl
theorem fok'_chunk_Check : FnOk tie 154 (.code chunk_Check) := ⟨Try.f42, Try.func42, fok_chunk_Check⟩
theorem fok_ref06_Name : chkFn tie Try.f43 ref06_Name = true := by kernel_rfl
theorem fok'_ref06_Name : FnOk tie 126 (.code ref06_Name) := ⟨Try.f43, Try.func43, fok_ref06_Name⟩
theorem fok_ref05_May : chkFn tie Try.f44 ref05_May = true := by kernel_rfl
theorem fok'_ref05_May : FnOk tie 329 (.code ref05_May) := ⟨Try.f44, Try.func44, fok_ref05_May⟩
theorem fok_ref06_Compare : chkFn tie Try.f45 ref06_Compare = true := by kernel_rfl
theorem fok'_ref06_Compare : FnOk tie 102 (.code ref06_Compare) := ⟨Try.f45, Try.func45, fok_ref06_Compare⟩
theorem fok_frame_GetUint : chkFn tie Try.f46 frame_GetUint = true := by kernel_rfl
theorem fok'_frame_GetUint : FnOk tie 110 (.code frame_GetUint) := ⟨Try.f46, Try.func46, fok_frame_GetUint⟩
theorem fok_frame_GetText : chkFn tie Try.f47 frame_GetText = true := by kernel_rfl
theorem fok'_frame_GetText : FnOk tie 111 (.code frame_GetText) := ⟨Try.f47, Try.func47, fok_frame_GetText⟩
theorem fok_ref11_numbers : chkFn tie Try.f48 ref11_numbers = true := by kernel_rfl
theorem fok'_ref11_numbers : FnOk tie 399 (.code ref11_numbers) := ⟨Try.f48, Try.func48, fok_ref11_numbers⟩
theorem fok_ref06_Read : chkFn tie Try.f49 ref06_Read = true := by kernel_rfl
theorem fok'_ref06_Read : FnOk tie 32 (.code ref06_Read) := ⟨Try.f49, Try.func49, fok_ref06_Read⟩
theorem fok_ref09_Read : chkFn tie Try.f50 ref09_Read = true := by kernel_rfl
theorem fok'_ref09_Read : FnOk tie 400 (.code ref09_Read) := ⟨Try.f50, Try.func50, fok_ref09_Read⟩
theorem fok_chunk_may : chkFn tie Try.f51 chunk_may = true := by kernel_rfl
theorem fok'_chunk_may : FnOk tie 260 (.code chunk_may) := ⟨Try.f51, Try.func51, fok_chunk_may⟩
theorem fok_ref06_text : chkFn tie Try.f52 ref06_text = true := by kernel_rfl
theorem fok'_ref06_text : FnOk tie 216 (.code ref06_text) := ⟨Try.f52, Try.func52, fok_ref06_text⟩
theorem fok_ref02_GetUint : chkFn tie Try.f53 ref02_GetUint = true := by kernel_rfl
theorem fok'_ref02_GetUint : FnOk tie 112 (.code ref02_GetUint) := ⟨Try.f53, Try.func53, fok_ref02_GetUint⟩
theorem fok_ref02_GetText : chkFn tie Try.f54 ref02_GetText = true := by kernel_rfl
theorem fok'_ref02_GetText : FnOk tie 113 (.code ref02_GetText) := ⟨Try.f54, Try.func54, fok_ref02_GetText⟩
theorem tieOk : TieOk tie where
  ty := tyTab_inj (by decide)
  meth := fun t m f h u w => chkMeth_ok (methTab_ok (P := Try.prog) (ty := tyTab tyL) (mn := mnTab mnL) (fnOf := fnTab fnL 100000) (l := methL) (by kernel_rfl) t m f h) _ u w
  mixed := by kernel_rfl
  fns := fun f pf h => by
    have : ∀ q ∈ tabL, FnOk tie q.1 q.2 := by
      exact List.forall_mem_cons.2 ⟨fok'_law11_WalRecords, List.forall_mem_cons.2 ⟨fok'_law11_WalBack, List.forall_mem_cons.2 ⟨fok'_law11_own, List.forall_mem_cons.2 ⟨fok'_wal_Bytes, List.forall_mem_cons.2 ⟨fok'_ref11_Bytes, List.forall_mem_cons.2 ⟨fok'_wal_Check, List.forall_mem_cons.2 ⟨fok'_ref11_Check, List.forall_mem_cons.2 ⟨fok'_ref11_Same, List.forall_mem_cons.2 ⟨fok'_wal_Of, List.forall_mem_cons.2 ⟨fok'_ref11_Of, List.forall_mem_cons.2 ⟨fok'_law11_lives, List.forall_mem_cons.2 ⟨fok'_frame_PutUint, List.forall_mem_cons.2 ⟨fok'_wal_Bytes_1, List.forall_mem_cons.2 ⟨fok'_label_Put, List.forall_mem_cons.2 ⟨fok'_wal_zig, List.forall_mem_cons.2 ⟨fok'_posting_Put, List.forall_mem_cons.2 ⟨fok'_ref02_Uint, List.forall_mem_cons.2 ⟨fok'_ref06_Bytes, List.forall_mem_cons.2 ⟨fok'_ref11_Zig, List.forall_mem_cons.2 ⟨fok'_ref09_Bytes, List.forall_mem_cons.2 ⟨fok'_label_Check, List.forall_mem_cons.2 ⟨fok'_wal_checkRows, List.forall_mem_cons.2 ⟨fok'_wal_checkDelete, List.forall_mem_cons.2 ⟨fok'_ref06_Check, List.forall_mem_cons.2 ⟨fok'_ref11_rows, List.forall_mem_cons.2 ⟨fok'_ref09_Check, List.forall_mem_cons.2 ⟨fok'_ref09_Same, List.forall_mem_cons.2 ⟨fok'_ref06_Same, List.forall_mem_cons.2 ⟨fok'_wal_reader_uint, List.forall_mem_cons.2 ⟨fok'_label_Read, List.forall_mem_cons.2 ⟨fok'_wal_zag, List.forall_mem_cons.2 ⟨fok'_posting_Read, List.forall_mem_cons.2 ⟨fok'_slices_Equal_byte, List.forall_mem_cons.2 ⟨fok'_ref11_read, List.forall_mem_cons.2 ⟨fok'_frame_own, List.forall_mem_cons.2 ⟨fok'_frame_PutText, List.forall_mem_cons.2 ⟨fok'_posting_Check, List.forall_mem_cons.2 ⟨fok'_ref02_Text, List.forall_mem_cons.2 ⟨fok'_label_Name, List.forall_mem_cons.2 ⟨fok'_chunk_Check, List.forall_mem_cons.2 ⟨fok'_ref06_Name, List.forall_mem_cons.2 ⟨fok'_ref05_May, List.forall_mem_cons.2 ⟨fok'_ref06_Compare, List.forall_mem_cons.2 ⟨fok'_frame_GetUint, List.forall_mem_cons.2 ⟨fok'_frame_GetText, List.forall_mem_cons.2 ⟨fok'_ref11_numbers, List.forall_mem_cons.2 ⟨fok'_ref06_Read, List.forall_mem_cons.2 ⟨fok'_ref09_Read, List.forall_mem_cons.2 ⟨fok'_chunk_may, List.forall_mem_cons.2 ⟨fok'_ref06_text, List.forall_mem_cons.2 ⟨fok'_ref02_GetUint, List.forall_mem_cons.2 ⟨fok'_ref02_GetText, fun _ h => absurd h List.not_mem_nil⟩⟩⟩⟩⟩⟩⟩⟩⟩⟩⟩⟩⟩⟩⟩⟩⟩⟩⟩⟩⟩⟩⟩⟩⟩⟩⟩⟩⟩⟩⟩⟩⟩⟩⟩⟩⟩⟩⟩⟩⟩⟩⟩⟩⟩⟩⟩⟩⟩⟩⟩⟩
    exact this _ (look_mem h)
end Ps
