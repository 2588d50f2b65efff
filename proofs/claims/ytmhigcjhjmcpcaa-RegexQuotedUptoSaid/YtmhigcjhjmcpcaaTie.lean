/- The program's functions are the pure ones: printed by program, checked by the kernel. -/
import Derived.Test.YtmhigcjhjmcpcaaCode
import Derived.Test.YtmhigcjhjmcpcaaGlue
import Derived.Test.YtmhigcjhjmcpcaaChecked
namespace Ps
open Go Go.Proofs
set_option maxRecDepth 10000
def fnL : List (Nat × Nat) := [(0, 0), (1, 1), (2, 2), (479, 3), (10, 4), (481, 5), (487, 6), (477, 7), (480, 8), (482, 9), (125, 10), (123, 11), (44, 12), (42, 13), (43, 14), (478, 15), (483, 16), (484, 17), (122, 18), (223, 19), (224, 20), (124, 21), (390, 22), (485, 23), (222, 24), (225, 25), (305, 26), (226, 27), (227, 28), (211, 29), (486, 30), (302, 31), (303, 32), (304, 33), (306, 34), (355, 35), (307, 36), (299, 37), (354, 38), (356, 39), (357, 40), (358, 41), (351, 42), (391, 43), (392, 44), (393, 45), (410, 46), (417, 47), (418, 48), (419, 49), (420, 50), (421, 51), (422, 52), (423, 53), (424, 54), (425, 55), (426, 56), (427, 57), (428, 58), (429, 59), (432, 60), (433, 61), (439, 62), (440, 63), (452, 64), (454, 65), (453, 66), (438, 67)]
def tyL : List (Nat × Nat) := [(0, 9), (5, 62), (10, 63), (12, 64), (9, 72)]
def mnL : List (Nat × String) := [(0, "gauge/regex.ends"), (1, "Kind"), (2, "Elem"), (3, "Implements"), (4, "AssignableTo"), (5, "As"), (6, "Unwrap")]
def methL : List (Nat × Nat × Nat) := [(5, 0, 439), (10, 0, 452), (12, 0, 454), (9, 0, 453)]
def tabL : List (Nat × PFn) := [(351, .indexByte), (479, .code law07_RegexChecks), (10, .code law07_RegexFits), (481, .code law07_RegexOr), (487, .code law07_RegexThen), (477, .code law07_RegexAgain), (480, .code law07_RegexClass), (482, .code law07_RegexQuoted), (125, .code regex_Check), (123, .code ref07_Check), (44, .code law07_lives), (42, .code regex_Fits), (43, .code ref07_Fits), (478, .code law07_fits), (483, .code regex_Quote), (484, .code regex_Literal), (122, .code regex_read), (223, .code ref07_Right), (224, .code ref07_Depth), (124, .code ref07_Ends), (390, .code regex_plain), (485, .code regex_text), (222, .code regex_reader_pattern), (225, .code ref07_Cut), (305, .code ref07_class), (226, .code ref07_merge), (227, .code ref07_alternative), (211, .code strings_IndexByte), (486, .code slices_Index_bool), (302, .code regex_reader_row), (303, .code regex_reader_next), (304, .code regex_reader_take), (306, .code ref07_atom), (355, .code ref07_item), (307, .code ref07_piece), (299, .code stringslite_IndexByte), (354, .code regex_reader_atom), (356, .code ref07_Plain), (357, .code ref07_closing), (358, .code ref07_one), (391, .code regex_just), (392, .code regex_reader_class), (393, .code ref07_byteOf), (410, .code regex_reader_item), (439, .code regex_either_ends), (440, .code regex_join), (452, .code regex_row_ends), (454, .code regex_one_ends), (453, .code regex_again_ends)]
def T : Tbl := ⟨look tabL, methTab methL⟩
noncomputable def tie : Tie := ⟨Try.prog, T, fnTab fnL 100000, tyTab tyL, mnTab mnL⟩
theorem fok_law07_RegexChecks : chkFn tie Try.f3 law07_RegexChecks = true := by kernel_rfl
theorem fok'_law07_RegexChecks : FnOk tie 479 (.code law07_RegexChecks) := ⟨Try.f3, Try.func3, fok_law07_RegexChecks⟩
theorem fok_law07_RegexFits : chkFn tie Try.f4 law07_RegexFits = true := by kernel_rfl
theorem fok'_law07_RegexFits : FnOk tie 10 (.code law07_RegexFits) := ⟨Try.f4, Try.func4, fok_law07_RegexFits⟩
theorem fok_law07_RegexOr : chkFn tie Try.f5 law07_RegexOr = true := by kernel_rfl
theorem fok'_law07_RegexOr : FnOk tie 481 (.code law07_RegexOr) := ⟨Try.f5, Try.func5, fok_law07_RegexOr⟩
theorem fok_law07_RegexThen : chkFn tie Try.f6 law07_RegexThen = true := by kernel_rfl
theorem fok'_law07_RegexThen : FnOk tie 487 (.code law07_RegexThen) := ⟨Try.f6, Try.func6, fok_law07_RegexThen⟩
theorem fok_law07_RegexAgain : chkFn tie Try.f7 law07_RegexAgain = true := by kernel_rfl
theorem fok'_law07_RegexAgain : FnOk tie 477 (.code law07_RegexAgain) := ⟨Try.f7, Try.func7, fok_law07_RegexAgain⟩
theorem fok_law07_RegexClass : chkFn tie Try.f8 law07_RegexClass = true := by kernel_rfl
theorem fok'_law07_RegexClass : FnOk tie 480 (.code law07_RegexClass) := ⟨Try.f8, Try.func8, fok_law07_RegexClass⟩
theorem fok_law07_RegexQuoted : chkFn tie Try.f9 law07_RegexQuoted = true := by kernel_rfl
theorem fok'_law07_RegexQuoted : FnOk tie 482 (.code law07_RegexQuoted) := ⟨Try.f9, Try.func9, fok_law07_RegexQuoted⟩
theorem fok_regex_Check : chkFn tie Try.f10 regex_Check = true := by kernel_rfl
theorem fok'_regex_Check : FnOk tie 125 (.code regex_Check) := ⟨Try.f10, Try.func10, fok_regex_Check⟩
theorem fok_ref07_Check : chkFn tie Try.f11 ref07_Check = true := by kernel_rfl
theorem fok'_ref07_Check : FnOk tie 123 (.code ref07_Check) := ⟨Try.f11, Try.func11, fok_ref07_Check⟩
theorem fok_law07_lives : chkFn tie Try.f12 law07_lives = true := by kernel_rfl
theorem fok'_law07_lives : FnOk tie 44 (.code law07_lives) := ⟨Try.f12, Try.func12, fok_law07_lives⟩
theorem fok_regex_Fits : chkFn tie Try.f13 regex_Fits = true := by kernel_rfl
theorem fok'_regex_Fits : FnOk tie 42 (.code regex_Fits) := ⟨Try.f13, Try.func13, fok_regex_Fits⟩
theorem fok_ref07_Fits : chkFn tie Try.f14 ref07_Fits = true := by kernel_rfl
theorem fok'_ref07_Fits : FnOk tie 43 (.code ref07_Fits) := ⟨Try.f14, Try.func14, fok_ref07_Fits⟩
theorem fok_law07_fits : chkFn tie Try.f15 law07_fits = true := by kernel_rfl
theorem fok'_law07_fits : FnOk tie 478 (.code law07_fits) := ⟨Try.f15, Try.func15, fok_law07_fits⟩
theorem fok_regex_Quote : chkFn tie Try.f16 regex_Quote = true := by kernel_rfl
theorem fok'_regex_Quote : FnOk tie 483 (.code regex_Quote) := ⟨Try.f16, Try.func16, fok_regex_Quote⟩
theorem fok_regex_Literal : chkFn tie Try.f17 regex_Literal = true := by kernel_rfl
theorem fok'_regex_Literal : FnOk tie 484 (.code regex_Literal) := ⟨Try.f17, Try.func17, fok_regex_Literal⟩
theorem fok_regex_read : chkFn tie Try.f18 regex_read = true := by kernel_rfl
theorem fok'_regex_read : FnOk tie 122 (.code regex_read) := ⟨Try.f18, Try.func18, fok_regex_read⟩
theorem fok_ref07_Right : chkFn tie Try.f19 ref07_Right = true := by kernel_rfl
theorem fok'_ref07_Right : FnOk tie 223 (.code ref07_Right) := ⟨Try.f19, Try.func19, fok_ref07_Right⟩
theorem fok_ref07_Depth : chkFn tie Try.f20 ref07_Depth = true := by kernel_rfl
theorem fok'_ref07_Depth : FnOk tie 224 (.code ref07_Depth) := ⟨Try.f20, Try.func20, fok_ref07_Depth⟩
theorem fok_ref07_Ends : chkFn tie Try.f21 ref07_Ends = true := by kernel_rfl
theorem fok'_ref07_Ends : FnOk tie 124 (.code ref07_Ends) := ⟨Try.f21, Try.func21, fok_ref07_Ends⟩
theorem fok_regex_plain : chkFn tie Try.f22 regex_plain = true := by kernel_rfl
theorem fok'_regex_plain : FnOk tie 390 (.code regex_plain) := ⟨Try.f22, Try.func22, fok_regex_plain⟩
theorem fok_regex_text : chkFn tie Try.f23 regex_text = true := by kernel_rfl
theorem fok'_regex_text : FnOk tie 485 (.code regex_text) := ⟨Try.f23, Try.func23, fok_regex_text⟩
theorem fok_regex_reader_pattern : chkFn tie Try.f24 regex_reader_pattern = true := by kernel_rfl
theorem fok'_regex_reader_pattern : FnOk tie 222 (.code regex_reader_pattern) := ⟨Try.f24, Try.func24, fok_regex_reader_pattern⟩
theorem fok_ref07_Cut : chkFn tie Try.f25 ref07_Cut = true := by kernel_rfl
theorem fok'_ref07_Cut : FnOk tie 225 (.code ref07_Cut) := ⟨Try.f25, Try.func25, fok_ref07_Cut⟩
theorem fok_ref07_class : chkFn tie Try.f26 ref07_class = true := by kernel_rfl
theorem fok'_ref07_class : FnOk tie 305 (.code ref07_class) := ⟨Try.f26, Try.func26, fok_ref07_class⟩
theorem fok_ref07_merge : chkFn tie Try.f27 ref07_merge = true := by kernel_rfl
theorem fok'_ref07_merge : FnOk tie 226 (.code ref07_merge) := ⟨Try.f27, Try.func27, fok_ref07_merge⟩
theorem fok_ref07_alternative : chkFn tie Try.f28 ref07_alternative = true := by kernel_rfl
theorem fok'_ref07_alternative : FnOk tie 227 (.code ref07_alternative) := ⟨Try.f28, Try.func28, fok_ref07_alternative⟩
theorem fok_strings_IndexByte : chkFn tie Try.f29 strings_IndexByte = true := by kernel_rfl
theorem fok'_strings_IndexByte : FnOk tie 211 (.code strings_IndexByte) := ⟨Try.f29, Try.func29, fok_strings_IndexByte⟩
theorem fok_slices_Index_bool : chkFn tie Try.f30 slices_Index_bool = true := by kernel_rfl
theorem fok'_slices_Index_bool : FnOk tie 486 (.code slices_Index_bool) := ⟨Try.f30, Try.func30, fok_slices_Index_bool⟩
theorem fok_regex_reader_row : chkFn tie Try.f31 regex_reader_row = true := by kernel_rfl
theorem fok'_regex_reader_row : FnOk tie 302 (.code regex_reader_row) := ⟨Try.f31, Try.func31, fok_regex_reader_row⟩
theorem fok_regex_reader_next : chkFn tie Try.f32 regex_reader_next = true := by kernel_rfl
theorem fok'_regex_reader_next : FnOk tie 303 (.code regex_reader_next) := ⟨Try.f32, Try.func32, fok_regex_reader_next⟩
theorem fok_regex_reader_take : chkFn tie Try.f33 regex_reader_take = true := by kernel_rfl
theorem fok'_regex_reader_take : FnOk tie 304 (.code regex_reader_take) := ⟨Try.f33, Try.func33, fok_regex_reader_take⟩
theorem fok_ref07_atom : chkFn tie Try.f34 ref07_atom = true := by kernel_rfl
theorem fok'_ref07_atom : FnOk tie 306 (.code ref07_atom) := ⟨Try.f34, Try.func34, fok_ref07_atom⟩
theorem fok_ref07_item : chkFn tie Try.f35 ref07_item = true := by kernel_rfl
theorem fok'_ref07_item : FnOk tie 355 (.code ref07_item) := ⟨Try.f35, Try.func35, fok_ref07_item⟩
theorem fok_ref07_piece : chkFn tie Try.f36 ref07_piece = true := by kernel_rfl
theorem fok'_ref07_piece : FnOk tie 307 (.code ref07_piece) := ⟨Try.f36, Try.func36, fok_ref07_piece⟩
theorem fok_stringslite_IndexByte : chkFn tie Try.f37 stringslite_IndexByte = true := by kernel_rfl
theorem fok'_stringslite_IndexByte : FnOk tie 299 (.code stringslite_IndexByte) := ⟨Try.f37, Try.func37, fok_stringslite_IndexByte⟩
theorem fok_regex_reader_atom : chkFn tie Try.f38 regex_reader_atom = true := by kernel_rfl
theorem fok'_regex_reader_atom : FnOk tie 354 (.code regex_reader_atom) := ⟨Try.f38, Try.func38, fok_regex_reader_atom⟩
theorem fok_ref07_Plain : chkFn tie Try.f39 ref07_Plain = true := by kernel_rfl
theorem fok'_ref07_Plain : FnOk tie 356 (.code ref07_Plain) := ⟨Try.f39, Try.func39, fok_ref07_Plain⟩
theorem fok_ref07_closing : chkFn tie Try.f40 ref07_closing = true := by kernel_rfl
theorem fok'_ref07_closing : FnOk tie 357 (.code ref07_closing) := ⟨Try.f40, Try.func40, fok_ref07_closing⟩
theorem fok_ref07_one : chkFn tie Try.f41 ref07_one = true := by kernel_rfl
theorem fok'_ref07_one : FnOk tie 358 (.code ref07_one) := ⟨Try.f41, Try.func41, fok_ref07_one⟩
theorem fok_regex_just : chkFn tie Try.f43 regex_just = true := by kernel_rfl
theorem fok'_regex_just : FnOk tie 391 (.code regex_just) := ⟨Try.f43, Try.func43, fok_regex_just⟩
theorem fok_regex_reader_class : chkFn tie Try.f44 regex_reader_class = true := by kernel_rfl
theorem fok'_regex_reader_class : FnOk tie 392 (.code regex_reader_class) := ⟨Try.f44, Try.func44, fok_regex_reader_class⟩
theorem fok_ref07_byteOf : chkFn tie Try.f45 ref07_byteOf = true := by kernel_rfl
theorem fok'_ref07_byteOf : FnOk tie 393 (.code ref07_byteOf) := ⟨Try.f45, Try.func45, fok_ref07_byteOf⟩
theorem fok_regex_reader_item : chkFn tie Try.f46 regex_reader_item = true := by kernel_rfl
theorem fok'_regex_reader_item : FnOk tie 410 (.code regex_reader_item) := ⟨Try.f46, Try.func46, fok_regex_reader_item⟩
theorem fok_regex_either_ends : chkFn tie Try.f62 regex_either_ends = true := by kernel_rfl
theorem fok'_regex_either_ends : FnOk tie 439 (.code regex_either_ends) := ⟨Try.f62, Try.func62, fok_regex_either_ends⟩
theorem fok_regex_join : chkFn tie Try.f63 regex_join = true := by kernel_rfl
theorem fok'_regex_join : FnOk tie 440 (.code regex_join) := ⟨Try.f63, Try.func63, fok_regex_join⟩
theorem fok_regex_row_ends : chkFn tie Try.f64 regex_row_ends = true := by kernel_rfl
theorem fok'_regex_row_ends : FnOk tie 452 (.code regex_row_ends) := ⟨Try.f64, Try.func64, fok_regex_row_ends⟩
theorem fok_regex_one_ends : chkFn tie Try.f65 regex_one_ends = true := by kernel_rfl
theorem fok'_regex_one_ends : FnOk tie 454 (.code regex_one_ends) := ⟨Try.f65, Try.func65, fok_regex_one_ends⟩
theorem fok_regex_again_ends : chkFn tie Try.f66 regex_again_ends = true := by kernel_rfl
theorem fok'_regex_again_ends : FnOk tie 453 (.code regex_again_ends) := ⟨Try.f66, Try.func66, fok_regex_again_ends⟩
theorem fok_indexByte : FnOk tie 351 .indexByte := fun us w => by
  have hf : Try.prog.funcs[fnTab fnL 100000 351]? = some Try.f42 := Try.func42
  exact indexByte_run hf (by kernel_rfl) (by kernel_rfl) (by kernel_rfl) (by kernel_rfl) us w
theorem tieOk : TieOk tie where
  ty := tyTab_inj (by decide)
  meth := fun t m f h u w => chkMeth_ok (methTab_ok (P := Try.prog) (ty := tyTab tyL) (mn := mnTab mnL) (fnOf := fnTab fnL 100000) (l := methL) (by kernel_rfl) t m f h) _ u w
  mixed := by kernel_rfl
  fns := fun f pf h => by
    have : ∀ q ∈ tabL, FnOk tie q.1 q.2 := by
      exact List.forall_mem_cons.2 ⟨fok_indexByte, List.forall_mem_cons.2 ⟨fok'_law07_RegexChecks, List.forall_mem_cons.2 ⟨fok'_law07_RegexFits, List.forall_mem_cons.2 ⟨fok'_law07_RegexOr, List.forall_mem_cons.2 ⟨fok'_law07_RegexThen, List.forall_mem_cons.2 ⟨fok'_law07_RegexAgain, List.forall_mem_cons.2 ⟨fok'_law07_RegexClass, List.forall_mem_cons.2 ⟨fok'_law07_RegexQuoted, List.forall_mem_cons.2 ⟨fok'_regex_Check, List.forall_mem_cons.2 ⟨fok'_ref07_Check, List.forall_mem_cons.2 ⟨fok'_law07_lives, List.forall_mem_cons.2 ⟨fok'_regex_Fits, List.forall_mem_cons.2 ⟨fok'_ref07_Fits, List.forall_mem_cons.2 ⟨fok'_law07_fits, List.forall_mem_cons.2 ⟨fok'_regex_Quote, List.forall_mem_cons.2 ⟨fok'_regex_Literal, List.forall_mem_cons.2 ⟨fok'_regex_read, List.forall_mem_cons.2 ⟨fok'_ref07_Right, List.forall_mem_cons.2 ⟨fok'_ref07_Depth, List.forall_mem_cons.2 ⟨fok'_ref07_Ends, List.forall_mem_cons.2 ⟨fok'_regex_plain, List.forall_mem_cons.2 ⟨fok'_regex_text, List.forall_mem_cons.2 ⟨fok'_regex_reader_pattern, List.forall_mem_cons.2 ⟨fok'_ref07_Cut, List.forall_mem_cons.2 ⟨fok'_ref07_class, List.forall_mem_cons.2 ⟨fok'_ref07_merge, List.forall_mem_cons.2 ⟨fok'_ref07_alternative, List.forall_mem_cons.2 ⟨fok'_strings_IndexByte, List.forall_mem_cons.2 ⟨fok'_slices_Index_bool, List.forall_mem_cons.2 ⟨fok'_regex_reader_row, List.forall_mem_cons.2 ⟨fok'_regex_reader_next, List.forall_mem_cons.2 ⟨fok'_regex_reader_take, List.forall_mem_cons.2 ⟨fok'_ref07_atom, List.forall_mem_cons.2 ⟨fok'_ref07_item, List.forall_mem_cons.2 ⟨fok'_ref07_piece, List.forall_mem_cons.2 ⟨fok'_stringslite_IndexByte, List.forall_mem_cons.2 ⟨fok'_regex_reader_atom, List.forall_mem_cons.2 ⟨fok'_ref07_Plain, List.forall_mem_cons.2 ⟨fok'_ref07_closing, List.forall_mem_cons.2 ⟨fok'_ref07_one, List.forall_mem_cons.2 ⟨fok'_regex_just, List.forall_mem_cons.2 ⟨fok'_regex_reader_class, List.forall_mem_cons.2 ⟨fok'_ref07_byteOf, List.forall_mem_cons.2 ⟨fok'_regex_reader_item, List.forall_mem_cons.2 ⟨fok'_regex_either_ends, List.forall_mem_cons.2 ⟨fok'_regex_join, List.forall_mem_cons.2 ⟨fok'_regex_row_ends, List.forall_mem_cons.2 ⟨fok'_regex_one_ends, List.forall_mem_cons.2 ⟨fok'_regex_again_ends, fun _ h => absurd h List.not_mem_nil⟩⟩⟩⟩⟩⟩⟩⟩⟩⟩⟩⟩⟩⟩⟩⟩⟩⟩⟩⟩⟩⟩⟩⟩⟩⟩⟩⟩⟩⟩⟩⟩⟩⟩⟩⟩⟩⟩⟩⟩⟩⟩⟩⟩⟩⟩⟩⟩⟩
    exact this _ (look_mem h)
end Ps
