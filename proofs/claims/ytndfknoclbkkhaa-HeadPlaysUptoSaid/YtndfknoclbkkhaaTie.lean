/- The program's functions are the pure ones: printed by program, checked by the kernel. -/
import Derived.Test.YtndfknoclbkkhaaCode
import Derived.Test.YtndfknoclbkkhaaShelf
import Derived.Test.YtndfknoclbkkhaaChecked
namespace Ps
open Go Go.Proofs
set_option maxRecDepth 10000
def fnL : List (Nat × Nat) := [(0, 0), (1, 1), (2, 2), (474, 3), (473, 4), (15, 5), (68, 6), (70, 7), (188, 8), (76, 9), (289, 10), (189, 11), (177, 12), (170, 13), (190, 14), (69, 15), (71, 16), (72, 17), (73, 18), (74, 19), (75, 20), (179, 21), (180, 22), (181, 23), (182, 24), (193, 25), (291, 26), (26, 27), (284, 28), (187, 29), (285, 30), (286, 31), (287, 32), (28, 33), (183, 34), (184, 35), (169, 36), (185, 37), (186, 38), (24, 39), (191, 40), (192, 41), (40, 42), (275, 43), (276, 44), (130, 45), (277, 46), (278, 47), (279, 48), (280, 49), (102, 50), (345, 51), (283, 52), (346, 53), (317, 54), (103, 55), (104, 56), (105, 57), (106, 58), (98, 59), (281, 60), (282, 61), (99, 62), (100, 63), (288, 64), (290, 65), (178, 66), (121, 67), (154, 68), (318, 69), (344, 70), (216, 71), (381, 72), (382, 73), (383, 74), (384, 75), (385, 76), (386, 77), (387, 78), (388, 79), (372, 80), (373, 81), (217, 82), (126, 83), (329, 84), (213, 85), (214, 86), (215, 87), (260, 88), (407, 89), (395, 90), (396, 91), (408, 92), (409, 93), (300, 94), (301, 95), (416, 96), (352, 97), (353, 98), (417, 99), (418, 100), (419, 101), (420, 102), (421, 103), (422, 104), (423, 105), (424, 106), (425, 107), (426, 108), (427, 109), (428, 110), (429, 111), (432, 112), (433, 113), (435, 114), (438, 115)]
def tyL : List (Nat × Nat) := [(0, 9), (1, 128)]
def mnL : List (Nat × String) := [(0, "gauge/regex.ends"), (1, "Kind"), (2, "Elem"), (3, "Implements"), (4, "AssignableTo"), (5, "As"), (6, "Unwrap")]
def methL : List (Nat × Nat × Nat) := []
def tabL : List (Nat × PFn) := [(15, .code z38), (68, .code z89), (70, .code z57), (188, .code z50), (76, .code z66), (289, .code z32), (189, .code z40), (177, .code z80), (170, .code z74), (190, .code z36), (69, .code z81), (71, .code z88), (72, .code z68), (73, .code z44), (74, .code z82), (75, .code z76), (179, .code z83), (180, .code z47), (181, .codeD head_Head_rows), (182, .code z35), (193, .code z45), (291, .code z56), (26, .code z78), (284, .code z17), (187, .code z70), (285, .code z31), (286, .code z20), (287, .code z27), (28, .code z53), (183, .code z69), (184, .code z90), (169, .code z65), (185, .code z73), (186, .code z49), (24, .code z67), (191, .code z58), (192, .code z86), (40, .code z61), (275, .code z51), (276, .code z43), (130, .code z28), (277, .code z34), (278, .code z84), (279, .code z16), (280, .code z30), (102, .code z54), (345, .code z18), (283, .code z26), (346, .code z10), (317, .code z46), (103, .code z15), (104, .code z42), (105, .code z72), (106, .code z29), (98, .code z64), (281, .code z79), (282, .code z62), (99, .code z60), (100, .ext joinP), (288, .code z33), (290, .code z55), (178, .code z48), (121, .code z71), (154, .code z63), (318, .code z52), (344, .code z19), (216, .code z75), (381, .code z4), (382, .code z9), (383, .code z3), (384, .code z6), (385, .code z5), (386, .code z0), (387, .code z2), (388, .code z7), (372, .code z41), (373, .code z39), (217, .code z37), (126, .code z77), (329, .code z87), (213, .code z25), (214, .code z12), (215, .code z21), (260, .code z85), (407, .code z8), (395, .code z22), (396, .code z24), (408, .code z1), (409, .code z11), (300, .code z14), (301, .code z23), (416, .code z13)]
def T : Tbl := ⟨look tabL, methTab methL⟩
noncomputable def tie : Tie := ⟨Try.prog, T, fnTab fnL 100000, tyTab tyL, mnTab mnL⟩
theorem fok_z38 : chkFn tie Try.f5 z38 = true := by kernel_rfl
theorem fok'_z38 : FnOk tie 15 (.code z38) := ⟨Try.f5, Try.func5, fok_z38⟩
theorem fok_z89 : chkFn tie Try.f6 z89 = true := by kernel_rfl
theorem fok'_z89 : FnOk tie 68 (.code z89) := ⟨Try.f6, Try.func6, fok_z89⟩
theorem fok_z57 : chkFn tie Try.f7 z57 = true := by kernel_rfl
theorem fok'_z57 : FnOk tie 70 (.code z57) := ⟨Try.f7, Try.func7, fok_z57⟩
theorem fok_z50 : chkFn tie Try.f8 z50 = true := by kernel_rfl
theorem fok'_z50 : FnOk tie 188 (.code z50) := ⟨Try.f8, Try.func8, fok_z50⟩
theorem fok_z66 : chkFn tie Try.f9 z66 = true := by kernel_rfl
theorem fok'_z66 : FnOk tie 76 (.code z66) := ⟨Try.f9, Try.func9, fok_z66⟩
theorem fok_z32 : chkFn tie Try.f10 z32 = true := by kernel_rfl
theorem fok'_z32 : FnOk tie 289 (.code z32) := ⟨Try.f10, Try.func10, fok_z32⟩
theorem fok_z40 : chkFn tie Try.f11 z40 = true := by kernel_rfl
theorem fok'_z40 : FnOk tie 189 (.code z40) := ⟨Try.f11, Try.func11, fok_z40⟩
theorem fok_z80 : chkFn tie Try.f12 z80 = true := by kernel_rfl
theorem fok'_z80 : FnOk tie 177 (.code z80) := ⟨Try.f12, Try.func12, fok_z80⟩
theorem fok_z74 : chkFn tie Try.f13 z74 = true := by kernel_rfl
theorem fok'_z74 : FnOk tie 170 (.code z74) := ⟨Try.f13, Try.func13, fok_z74⟩
theorem fok_z36 : chkFn tie Try.f14 z36 = true := by kernel_rfl
theorem fok'_z36 : FnOk tie 190 (.code z36) := ⟨Try.f14, Try.func14, fok_z36⟩
theorem fok_z81 : chkFn tie Try.f15 z81 = true := by kernel_rfl
theorem fok'_z81 : FnOk tie 69 (.code z81) := ⟨Try.f15, Try.func15, fok_z81⟩
theorem fok_z88 : chkFn tie Try.f16 z88 = true := by kernel_rfl
theorem fok'_z88 : FnOk tie 71 (.code z88) := ⟨Try.f16, Try.func16, fok_z88⟩
theorem fok_z68 : chkFn tie Try.f17 z68 = true := by kernel_rfl
theorem fok'_z68 : FnOk tie 72 (.code z68) := ⟨Try.f17, Try.func17, fok_z68⟩
theorem fok_z44 : chkFn tie Try.f18 z44 = true := by kernel_rfl
theorem fok'_z44 : FnOk tie 73 (.code z44) := ⟨Try.f18, Try.func18, fok_z44⟩
theorem fok_z82 : chkFn tie Try.f19 z82 = true := by kernel_rfl
theorem fok'_z82 : FnOk tie 74 (.code z82) := ⟨Try.f19, Try.func19, fok_z82⟩
theorem fok_z76 : chkFn tie Try.f20 z76 = true := by kernel_rfl
theorem fok'_z76 : FnOk tie 75 (.code z76) := ⟨Try.f20, Try.func20, fok_z76⟩
theorem fok_z83 : chkFn tie Try.f21 z83 = true := by kernel_rfl
theorem fok'_z83 : FnOk tie 179 (.code z83) := ⟨Try.f21, Try.func21, fok_z83⟩
theorem fok_z47 : chkFn tie Try.f22 z47 = true := by kernel_rfl
theorem fok'_z47 : FnOk tie 180 (.code z47) := ⟨Try.f22, Try.func22, fok_z47⟩
theorem fok_head_Head_rows : chkFnD tie Try.f23 head_Head_rows = true := by kernel_rfl
theorem fok'_head_Head_rows : FnOk tie 181 (.codeD head_Head_rows) := ⟨Try.f23, Try.func23, fok_head_Head_rows⟩
theorem fok_z35 : chkFn tie Try.f24 z35 = true := by kernel_rfl
theorem fok'_z35 : FnOk tie 182 (.code z35) := ⟨Try.f24, Try.func24, fok_z35⟩
theorem fok_z45 : chkFn tie Try.f25 z45 = true := by kernel_rfl
theorem fok'_z45 : FnOk tie 193 (.code z45) := ⟨Try.f25, Try.func25, fok_z45⟩
theorem fok_z56 : chkFn tie Try.f26 z56 = true := by kernel_rfl
theorem fok'_z56 : FnOk tie 291 (.code z56) := ⟨Try.f26, Try.func26, fok_z56⟩
theorem fok_z78 : chkFn tie Try.f27 z78 = true := by kernel_rfl
theorem fok'_z78 : FnOk tie 26 (.code z78) := ⟨Try.f27, Try.func27, fok_z78⟩
theorem fok_z17 : chkFn tie Try.f28 z17 = true := by kernel_rfl
theorem fok'_z17 : FnOk tie 284 (.code z17) := ⟨Try.f28, Try.func28, fok_z17⟩
theorem fok_z70 : chkFn tie Try.f29 z70 = true := by kernel_rfl
theorem fok'_z70 : FnOk tie 187 (.code z70) := ⟨Try.f29, Try.func29, fok_z70⟩
theorem fok_z31 : chkFn tie Try.f30 z31 = true := by kernel_rfl
theorem fok'_z31 : FnOk tie 285 (.code z31) := ⟨Try.f30, Try.func30, fok_z31⟩
theorem fok_z20 : chkFn tie Try.f31 z20 = true := by kernel_rfl
theorem fok'_z20 : FnOk tie 286 (.code z20) := ⟨Try.f31, Try.func31, fok_z20⟩
theorem fok_z27 : chkFn tie Try.f32 z27 = true := by kernel_rfl
theorem fok'_z27 : FnOk tie 287 (.code z27) := ⟨Try.f32, Try.func32, fok_z27⟩
theorem fok_z53 : chkFn tie Try.f33 z53 = true := by kernel_rfl
theorem fok'_z53 : FnOk tie 28 (.code z53) := ⟨Try.f33, Try.func33, fok_z53⟩
theorem fok_z69 : chkFn tie Try.f34 z69 = true := by kernel_rfl
theorem fok'_z69 : FnOk tie 183 (.code z69) := ⟨Try.f34, Try.func34, fok_z69⟩
theorem fok_z90 : chkFn tie Try.f35 z90 = true := by kernel_rfl
theorem fok'_z90 : FnOk tie 184 (.code z90) := ⟨Try.f35, Try.func35, fok_z90⟩
theorem fok_z65 : chkFn tie Try.f36 z65 = true := by kernel_rfl
theorem fok'_z65 : FnOk tie 169 (.code z65) := ⟨Try.f36, Try.func36, fok_z65⟩
theorem fok_z73 : chkFn tie Try.f37 z73 = true := by kernel_rfl
theorem fok'_z73 : FnOk tie 185 (.code z73) := ⟨Try.f37, Try.func37, fok_z73⟩
theorem fok_z49 : chkFn tie Try.f38 z49 = true := by kernel_rfl
theorem fok'_z49 : FnOk tie 186 (.code z49) := ⟨Try.f38, Try.func38, fok_z49⟩
theorem fok_z67 : chkFn tie Try.f39 z67 = true := by kernel_rfl
theorem fok'_z67 : FnOk tie 24 (.code z67) := ⟨Try.f39, Try.func39, fok_z67⟩
theorem fok_z58 : chkFn tie Try.f40 z58 = true := by kernel_rfl
theorem fok'_z58 : FnOk tie 191 (.code z58) := ⟨Try.f40, Try.func40, fok_z58⟩
theorem fok_z86 : chkFn tie Try.f41 z86 = true := by kernel_rfl
theorem fok'_z86 : FnOk tie 192 (.code z86) := ⟨Try.f41, Try.func41, fok_z86⟩
theorem fok_z61 : chkFn tie Try.f42 z61 = true := by kernel_rfl
theorem fok'_z61 : FnOk tie 40 (.code z61) := ⟨Try.f42, Try.func42, fok_z61⟩
theorem fok_z51 : chkFn tie Try.f43 z51 = true := by kernel_rfl
theorem fok'_z51 : FnOk tie 275 (.code z51) := ⟨Try.f43, Try.func43, fok_z51⟩
theorem fok_z43 : chkFn tie Try.f44 z43 = true := by kernel_rfl
theorem fok'_z43 : FnOk tie 276 (.code z43) := ⟨Try.f44, Try.func44, fok_z43⟩
theorem fok_z28 : chkFn tie Try.f45 z28 = true := by kernel_rfl
theorem fok'_z28 : FnOk tie 130 (.code z28) := ⟨Try.f45, Try.func45, fok_z28⟩
theorem fok_z34 : chkFn tie Try.f46 z34 = true := by kernel_rfl
theorem fok'_z34 : FnOk tie 277 (.code z34) := ⟨Try.f46, Try.func46, fok_z34⟩
theorem fok_z84 : chkFn tie Try.f47 z84 = true := by kernel_rfl
theorem fok'_z84 : FnOk tie 278 (.code z84) := ⟨Try.f47, Try.func47, fok_z84⟩
theorem fok_z16 : chkFn tie Try.f48 z16 = true := by kernel_rfl
theorem fok'_z16 : FnOk tie 279 (.code z16) := ⟨Try.f48, Try.func48, fok_z16⟩
theorem fok_z30 : chkFn tie Try.f49 z30 = true := by kernel_rfl
theorem fok'_z30 : FnOk tie 280 (.code z30) := ⟨Try.f49, Try.func49, fok_z30⟩
theorem fok_z54 : chkFn tie Try.f50 z54 = true := by kernel_rfl
theorem fok'_z54 : FnOk tie 102 (.code z54) := ⟨Try.f50, Try.func50, fok_z54⟩
theorem fok_z18 : chkFn tie Try.f51 z18 = true := by kernel_rfl
theorem fok'_z18 : FnOk tie 345 (.code z18) := ⟨Try.f51, Try.func51, fok_z18⟩
theorem fok_z26 : chkFn tie Try.f52 z26 = true := by kernel_rfl
theorem fok'_z26 : FnOk tie 283 (.code z26) := ⟨Try.f52, Try.func52, fok_z26⟩
theorem fok_z10 : chkFn tie Try.f53 z10 = true := by kernel_rfl
theorem fok'_z10 : FnOk tie 346 (.code z10) := ⟨Try.f53, Try.func53, fok_z10⟩
theorem fok_z46 : chkFn tie Try.f54 z46 = true := by kernel_rfl
theorem fok'_z46 : FnOk tie 317 (.code z46) := ⟨Try.f54, Try.func54, fok_z46⟩
theorem fok_z15 : chkFn tie Try.f55 z15 = true := by kernel_rfl
theorem fok'_z15 : FnOk tie 103 (.code z15) := ⟨Try.f55, Try.func55, fok_z15⟩
theorem fok_z42 : chkFn tie Try.f56 z42 = true := by kernel_rfl
theorem fok'_z42 : FnOk tie 104 (.code z42) := ⟨Try.f56, Try.func56, fok_z42⟩
theorem fok_z72 : chkFn tie Try.f57 z72 = true := by kernel_rfl
theorem fok'_z72 : FnOk tie 105 (.code z72) := ⟨Try.f57, Try.func57, fok_z72⟩
theorem fok_z29 : chkFn tie Try.f58 z29 = true := by kernel_rfl
theorem fok'_z29 : FnOk tie 106 (.code z29) := ⟨Try.f58, Try.func58, fok_z29⟩
theorem fok_z64 : chkFn tie Try.f59 z64 = true := by kernel_rfl
theorem fok'_z64 : FnOk tie 98 (.code z64) := ⟨Try.f59, Try.func59, fok_z64⟩
theorem fok_z79 : chkFn tie Try.f60 z79 = true := by kernel_rfl
theorem fok'_z79 : FnOk tie 281 (.code z79) := ⟨Try.f60, Try.func60, fok_z79⟩
theorem fok_z62 : chkFn tie Try.f61 z62 = true := by kernel_rfl
theorem fok'_z62 : FnOk tie 282 (.code z62) := ⟨Try.f61, Try.func61, fok_z62⟩
theorem fok_z60 : chkFn tie Try.f62 z60 = true := by kernel_rfl
theorem fok'_z60 : FnOk tie 99 (.code z60) := ⟨Try.f62, Try.func62, fok_z60⟩
theorem fok_z33 : chkFn tie Try.f64 z33 = true := by kernel_rfl
theorem fok'_z33 : FnOk tie 288 (.code z33) := ⟨Try.f64, Try.func64, fok_z33⟩
theorem fok_z55 : chkFn tie Try.f65 z55 = true := by kernel_rfl
theorem fok'_z55 : FnOk tie 290 (.code z55) := ⟨Try.f65, Try.func65, fok_z55⟩
theorem fok_z48 : chkFn tie Try.f66 z48 = true := by kernel_rfl
theorem fok'_z48 : FnOk tie 178 (.code z48) := ⟨Try.f66, Try.func66, fok_z48⟩
theorem fok_z71 : chkFn tie Try.f67 z71 = true := by kernel_rfl
theorem fok'_z71 : FnOk tie 121 (.code z71) := ⟨Try.f67, Try.func67, fok_z71⟩
theorem fok_z63 : chkFn tie Try.f68 z63 = true := by kernel_rfl
theorem fok'_z63 : FnOk tie 154 (.code z63) := ⟨Try.f68, Try.func68, fok_z63⟩
theorem fok_z52 : chkFn tie Try.f69 z52 = true := by kernel_rfl
theorem fok'_z52 : FnOk tie 318 (.code z52) := ⟨Try.f69, Try.func69, fok_z52⟩
theorem fok_z19 : chkFn tie Try.f70 z19 = true := by kernel_rfl
theorem fok'_z19 : FnOk tie 344 (.code z19) := ⟨Try.f70, Try.func70, fok_z19⟩
theorem fok_z75 : chkFn tie Try.f71 z75 = true := by kernel_rfl
theorem fok'_z75 : FnOk tie 216 (.code z75) := ⟨Try.f71, Try.func71, fok_z75⟩
theorem fok_z4 : chkFn tie Try.f72 z4 = true := by kernel_rfl
theorem fok'_z4 : FnOk tie 381 (.code z4) := ⟨Try.f72, Try.func72, fok_z4⟩
theorem fok_z9 : chkFn tie Try.f73 z9 = true := by kernel_rfl
theorem fok'_z9 : FnOk tie 382 (.code z9) := ⟨Try.f73, Try.func73, fok_z9⟩
theorem fok_z3 : chkFn tie Try.f74 z3 = true := by kernel_rfl
theorem fok'_z3 : FnOk tie 383 (.code z3) := ⟨Try.f74, Try.func74, fok_z3⟩
theorem fok_z6 : chkFn tie Try.f75 z6 = true := by kernel_rfl
theorem fok'_z6 : FnOk tie 384 (.code z6) := ⟨Try.f75, Try.func75, fok_z6⟩
theorem fok_z5 : chkFn tie Try.f76 z5 = true := by kernel_rfl
theorem fok'_z5 : FnOk tie 385 (.code z5) := ⟨Try.f76, Try.func76, fok_z5⟩
theorem fok_z0 : chkFn tie Try.f77 z0 = true := by kernel_rfl
theorem fok'_z0 : FnOk tie 386 (.code z0) := ⟨Try.f77, Try.func77, fok_z0⟩
theorem fok_z2 : chkFn tie Try.f78 z2 = true := by kernel_rfl
theorem fok'_z2 : FnOk tie 387 (.code z2) := ⟨Try.f78, Try.func78, fok_z2⟩
theorem fok_z7 : chkFn tie Try.f79 z7 = true := by kernel_rfl
theorem fok'_z7 : FnOk tie 388 (.code z7) := ⟨Try.f79, Try.func79, fok_z7⟩
theorem fok_z41 : chkFn tie Try.f80 z41 = true := by kernel_rfl
theorem fok'_z41 : FnOk tie 372 (.code z41) := ⟨Try.f80, Try.func80, fok_z41⟩
theorem fok_z39 : chkFn tie Try.f81 z39 = true := by kernel_rfl
theorem fok'_z39 : FnOk tie 373 (.code z39) := ⟨Try.f81, Try.func81, fok_z39⟩
theorem fok_z37 : chkFn tie Try.f82 z37 = true := by kernel_rfl
theorem fok'_z37 : FnOk tie 217 (.code z37) := ⟨Try.f82, Try.func82, fok_z37⟩
theorem fok_z77 : chkFn tie Try.f83 z77 = true := by kernel_rfl
theorem fok'_z77 : FnOk tie 126 (.code z77) := ⟨Try.f83, Try.func83, fok_z77⟩
theorem fok_z87 : chkFn tie Try.f84 z87 = true := by kernel_rfl
theorem fok'_z87 : FnOk tie 329 (.code z87) := ⟨Try.f84, Try.func84, fok_z87⟩
theorem fok_z25 : chkFn tie Try.f85 z25 = true := by kernel_rfl
theorem fok'_z25 : FnOk tie 213 (.code z25) := ⟨Try.f85, Try.func85, fok_z25⟩
theorem fok_z12 : chkFn tie Try.f86 z12 = true := by kernel_rfl
theorem fok'_z12 : FnOk tie 214 (.code z12) := ⟨Try.f86, Try.func86, fok_z12⟩
theorem fok_z21 : chkFn tie Try.f87 z21 = true := by kernel_rfl
theorem fok'_z21 : FnOk tie 215 (.code z21) := ⟨Try.f87, Try.func87, fok_z21⟩
theorem fok_z85 : chkFn tie Try.f88 z85 = true := by kernel_rfl
theorem fok'_z85 : FnOk tie 260 (.code z85) := ⟨Try.f88, Try.func88, fok_z85⟩
theorem fok_z8 : chkFn tie Try.f89 z8 = true := by kernel_rfl
theorem fok'_z8 : FnOk tie 407 (.code z8) := ⟨Try.f89, Try.func89, fok_z8⟩
theorem fok_z22 : chkFn tie Try.f90 z22 = true := by kernel_rfl
theorem fok'_z22 : FnOk tie 395 (.code z22) := ⟨Try.f90, Try.func90, fok_z22⟩
theorem fok_z24 : chkFn tie Try.f91 z24 = true := by kernel_rfl
theorem fok'_z24 : FnOk tie 396 (.code z24) := ⟨Try.f91, Try.func91, fok_z24⟩
theorem fok_z1 : chkFn tie Try.f92 z1 = true := by kernel_rfl
theorem fok'_z1 : FnOk tie 408 (.code z1) := ⟨Try.f92, Try.func92, fok_z1⟩
theorem fok_z11 : chkFn tie Try.f93 z11 = true := by kernel_rfl
theorem fok'_z11 : FnOk tie 409 (.code z11) := ⟨Try.f93, Try.func93, fok_z11⟩
theorem fok_z14 : chkFn tie Try.f94 z14 = true := by kernel_rfl
theorem fok'_z14 : FnOk tie 300 (.code z14) := ⟨Try.f94, Try.func94, fok_z14⟩
theorem fok_z23 : chkFn tie Try.f95 z23 = true := by kernel_rfl
theorem fok'_z23 : FnOk tie 301 (.code z23) := ⟨Try.f95, Try.func95, fok_z23⟩
theorem fok_z13 : chkFn tie Try.f96 z13 = true := by kernel_rfl
theorem fok'_z13 : FnOk tie 416 (.code z13) := ⟨Try.f96, Try.func96, fok_z13⟩
theorem fok'_z59 : FnOk tie 100 (.ext joinP) := by
  have hf : Try.prog.funcs[fnTab fnL 100000 100]? = some Try.f63 := Try.func63
  exact joinExt (X := tie) (f := 100) (fn := Try.f63) hf (by decide +kernel) (by kernel_rfl) Try.strings_Join_none Try.strings_Join
theorem tieOk : TieOk tie where
  ty := tyTab_inj (by decide)
  meth := fun t m f h u w => chkMeth_ok (methTab_ok (P := Try.prog) (ty := tyTab tyL) (mn := mnTab mnL) (fnOf := fnTab fnL 100000) (l := methL) (by kernel_rfl) t m f h) _ u w
  mixed := by kernel_rfl
  fns := fun f pf h => by
    have : ∀ q ∈ tabL, FnOk tie q.1 q.2 := by
      exact List.forall_mem_cons.2 ⟨fok'_z38, List.forall_mem_cons.2 ⟨fok'_z89, List.forall_mem_cons.2 ⟨fok'_z57, List.forall_mem_cons.2 ⟨fok'_z50, List.forall_mem_cons.2 ⟨fok'_z66, List.forall_mem_cons.2 ⟨fok'_z32, List.forall_mem_cons.2 ⟨fok'_z40, List.forall_mem_cons.2 ⟨fok'_z80, List.forall_mem_cons.2 ⟨fok'_z74, List.forall_mem_cons.2 ⟨fok'_z36, List.forall_mem_cons.2 ⟨fok'_z81, List.forall_mem_cons.2 ⟨fok'_z88, List.forall_mem_cons.2 ⟨fok'_z68, List.forall_mem_cons.2 ⟨fok'_z44, List.forall_mem_cons.2 ⟨fok'_z82, List.forall_mem_cons.2 ⟨fok'_z76, List.forall_mem_cons.2 ⟨fok'_z83, List.forall_mem_cons.2 ⟨fok'_z47, List.forall_mem_cons.2 ⟨fok'_head_Head_rows, List.forall_mem_cons.2 ⟨fok'_z35, List.forall_mem_cons.2 ⟨fok'_z45, List.forall_mem_cons.2 ⟨fok'_z56, List.forall_mem_cons.2 ⟨fok'_z78, List.forall_mem_cons.2 ⟨fok'_z17, List.forall_mem_cons.2 ⟨fok'_z70, List.forall_mem_cons.2 ⟨fok'_z31, List.forall_mem_cons.2 ⟨fok'_z20, List.forall_mem_cons.2 ⟨fok'_z27, List.forall_mem_cons.2 ⟨fok'_z53, List.forall_mem_cons.2 ⟨fok'_z69, List.forall_mem_cons.2 ⟨fok'_z90, List.forall_mem_cons.2 ⟨fok'_z65, List.forall_mem_cons.2 ⟨fok'_z73, List.forall_mem_cons.2 ⟨fok'_z49, List.forall_mem_cons.2 ⟨fok'_z67, List.forall_mem_cons.2 ⟨fok'_z58, List.forall_mem_cons.2 ⟨fok'_z86, List.forall_mem_cons.2 ⟨fok'_z61, List.forall_mem_cons.2 ⟨fok'_z51, List.forall_mem_cons.2 ⟨fok'_z43, List.forall_mem_cons.2 ⟨fok'_z28, List.forall_mem_cons.2 ⟨fok'_z34, List.forall_mem_cons.2 ⟨fok'_z84, List.forall_mem_cons.2 ⟨fok'_z16, List.forall_mem_cons.2 ⟨fok'_z30, List.forall_mem_cons.2 ⟨fok'_z54, List.forall_mem_cons.2 ⟨fok'_z18, List.forall_mem_cons.2 ⟨fok'_z26, List.forall_mem_cons.2 ⟨fok'_z10, List.forall_mem_cons.2 ⟨fok'_z46, List.forall_mem_cons.2 ⟨fok'_z15, List.forall_mem_cons.2 ⟨fok'_z42, List.forall_mem_cons.2 ⟨fok'_z72, List.forall_mem_cons.2 ⟨fok'_z29, List.forall_mem_cons.2 ⟨fok'_z64, List.forall_mem_cons.2 ⟨fok'_z79, List.forall_mem_cons.2 ⟨fok'_z62, List.forall_mem_cons.2 ⟨fok'_z60, List.forall_mem_cons.2 ⟨fok'_z59, List.forall_mem_cons.2 ⟨fok'_z33, List.forall_mem_cons.2 ⟨fok'_z55, List.forall_mem_cons.2 ⟨fok'_z48, List.forall_mem_cons.2 ⟨fok'_z71, List.forall_mem_cons.2 ⟨fok'_z63, List.forall_mem_cons.2 ⟨fok'_z52, List.forall_mem_cons.2 ⟨fok'_z19, List.forall_mem_cons.2 ⟨fok'_z75, List.forall_mem_cons.2 ⟨fok'_z4, List.forall_mem_cons.2 ⟨fok'_z9, List.forall_mem_cons.2 ⟨fok'_z3, List.forall_mem_cons.2 ⟨fok'_z6, List.forall_mem_cons.2 ⟨fok'_z5, List.forall_mem_cons.2 ⟨fok'_z0, List.forall_mem_cons.2 ⟨fok'_z2, List.forall_mem_cons.2 ⟨fok'_z7, List.forall_mem_cons.2 ⟨fok'_z41, List.forall_mem_cons.2 ⟨fok'_z39, List.forall_mem_cons.2 ⟨fok'_z37, List.forall_mem_cons.2 ⟨fok'_z77, List.forall_mem_cons.2 ⟨fok'_z87, List.forall_mem_cons.2 ⟨fok'_z25, List.forall_mem_cons.2 ⟨fok'_z12, List.forall_mem_cons.2 ⟨fok'_z21, List.forall_mem_cons.2 ⟨fok'_z85, List.forall_mem_cons.2 ⟨fok'_z8, List.forall_mem_cons.2 ⟨fok'_z22, List.forall_mem_cons.2 ⟨fok'_z24, List.forall_mem_cons.2 ⟨fok'_z1, List.forall_mem_cons.2 ⟨fok'_z11, List.forall_mem_cons.2 ⟨fok'_z14, List.forall_mem_cons.2 ⟨fok'_z23, List.forall_mem_cons.2 ⟨fok'_z13, fun _ h => absurd h List.not_mem_nil⟩⟩⟩⟩⟩⟩⟩⟩⟩⟩⟩⟩⟩⟩⟩⟩⟩⟩⟩⟩⟩⟩⟩⟩⟩⟩⟩⟩⟩⟩⟩⟩⟩⟩⟩⟩⟩⟩⟩⟩⟩⟩⟩⟩⟩⟩⟩⟩⟩⟩⟩⟩⟩⟩⟩⟩⟩⟩⟩⟩⟩⟩⟩⟩⟩⟩⟩⟩⟩⟩⟩⟩⟩⟩⟩⟩⟩⟩⟩⟩⟩⟩⟩⟩⟩⟩⟩⟩⟩⟩⟩⟩
    exact this _ (look_mem h)
end Ps
