/- The program's functions are the pure ones: printed by program, checked by the kernel. -/
import Derived.Test.YtppjibgophfdfaaCode
import Derived.Test.YtppjibgophfdfaaExt
import Derived.Test.YtppjibgophfdfaaChecked
import Derived.Test.YtppjibgophfdfaaExtM
import Derived.Test.YtppjibgophfdfaaShelfM
namespace Ps
open Go Go.Proofs
set_option maxRecDepth 10000
def fnL : List (Nat × Nat) := [(0, 0), (1, 1), (2, 2), (492, 3), (488, 4), (493, 5), (491, 6), (489, 7), (149, 8), (142, 9), (254, 10), (179, 11), (183, 12), (253, 13), (143, 14), (325, 15), (57, 16), (490, 17), (148, 18), (62, 19), (78, 20), (144, 21), (146, 22), (81, 23), (61, 24), (150, 25), (80, 26), (85, 27), (107, 28), (240, 29), (29, 30), (241, 31), (242, 32), (219, 33), (109, 34), (326, 35), (327, 36), (40, 37), (275, 38), (276, 39), (98, 40), (281, 41), (282, 42), (175, 43), (26, 44), (243, 45), (31, 46), (244, 47), (245, 48), (246, 49), (374, 50), (16, 51), (256, 52), (194, 53), (196, 54), (247, 55), (248, 56), (77, 57), (79, 58), (249, 59), (250, 60), (201, 61), (84, 62), (198, 63), (199, 64), (200, 65), (197, 66), (218, 67), (108, 68), (318, 69), (220, 70), (121, 71), (154, 72), (126, 73), (329, 74), (102, 75), (110, 76), (111, 77), (399, 78), (32, 79), (400, 80), (328, 81), (202, 82), (195, 83), (319, 84), (118, 85), (90, 86), (83, 87), (320, 88), (321, 89), (322, 90), (323, 91), (82, 92), (293, 93), (239, 94), (294, 95), (292, 96), (260, 97), (216, 98), (112, 99), (113, 100), (270, 101), (221, 102), (347, 103), (316, 104), (317, 105), (342, 106), (363, 107), (364, 108), (365, 109), (366, 110), (367, 111), (368, 112), (369, 113), (370, 114), (371, 115), (372, 116), (373, 117), (394, 118), (395, 119), (396, 120), (397, 121), (398, 122), (217, 123), (411, 124), (417, 125), (418, 126), (419, 127), (420, 128), (421, 129), (422, 130), (423, 131), (424, 132), (425, 133), (426, 134), (427, 135), (428, 136), (429, 137), (432, 138), (433, 139), (93, 140), (438, 141)]
def tyL : List (Nat × Nat) := [(0, 9), (4, 103)]
def mnL : List (Nat × String) := [(0, "gauge/regex.ends"), (1, "Kind"), (2, "Elem"), (3, "Implements"), (4, "AssignableTo"), (5, "As"), (6, "Unwrap")]
def methL : List (Nat × Nat × Nat) := []
def tabL : List (Nat × PFn) := [(489, .code z23), (149, .code z57), (142, .code z62), (179, .code z58), (253, .code z55), (143, .code z72), (57, .code z39), (490, .code z43), (148, .code z20), (78, .code z6), (144, .code z67), (146, .code z26), (81, .code z17), (61, .code z40), (150, .code z34), (80, .code z12), (85, .code z19), (107, .code z25), (240, .code z38), (29, .code z59), (241, .code z71), (242, .code z41), (40, .code z42), (275, .code z30), (276, .code z10), (175, .code z51), (26, .code z48), (243, .code z14), (31, .code z52), (244, .code z70), (245, .code z35), (246, .code z3), (16, .code z66), (256, .code z61), (194, .code z21), (196, .code z16), (247, .code z69), (248, .code z54), (77, .code z9), (79, .code z4), (249, .code z63), (250, .code z68), (201, .code z5), (84, .code z15), (198, .code z24), (199, .exs (sortedP 294)), (200, .code z18), (197, .exs cloneP), (218, .code z56), (108, .code z27), (318, .code z32), (121, .code z53), (154, .code z37), (102, .code z29), (110, .code z28), (111, .code z31), (328, .code z33), (202, .code z44), (195, .code z13), (319, .code z60), (118, .code z0), (90, .code z22), (83, .code z7), (320, .code z45), (321, .code z46), (322, .code z47), (323, .code z50), (82, .code z8), (260, .code z65), (216, .code z49), (270, .code z64), (221, .code z2), (342, .code z36)]
def T : Tbl := ⟨look tabL, methTab methL⟩
noncomputable def tie : Tie := ⟨Try.prog, T, fnTab fnL 100000, tyTab tyL, mnTab mnL⟩
theorem fok_z23 : chkFn tie Try.f7 z23 = true := by kernel_rfl
theorem fok'_z23 : FnOk tie 489 (.code z23) := ⟨Try.f7, Try.func7, fok_z23⟩
theorem fok_z57 : chkFn tie Try.f8 z57 = true := by kernel_rfl
theorem fok'_z57 : FnOk tie 149 (.code z57) := ⟨Try.f8, Try.func8, fok_z57⟩
theorem fok_z62 : chkFn tie Try.f9 z62 = true := by kernel_rfl
theorem fok'_z62 : FnOk tie 142 (.code z62) := ⟨Try.f9, Try.func9, fok_z62⟩
theorem fok_z58 : chkFn tie Try.f11 z58 = true := by kernel_rfl
theorem fok'_z58 : FnOk tie 179 (.code z58) := ⟨Try.f11, Try.func11, fok_z58⟩
theorem fok_z55 : chkFn tie Try.f13 z55 = true := by kernel_rfl
theorem fok'_z55 : FnOk tie 253 (.code z55) := ⟨Try.f13, Try.func13, fok_z55⟩
theorem fok_z72 : chkFn tie Try.f14 z72 = true := by kernel_rfl
theorem fok'_z72 : FnOk tie 143 (.code z72) := ⟨Try.f14, Try.func14, fok_z72⟩
theorem fok_z39 : chkFn tie Try.f16 z39 = true := by kernel_rfl
theorem fok'_z39 : FnOk tie 57 (.code z39) := ⟨Try.f16, Try.func16, fok_z39⟩
theorem fok_z43 : chkFn tie Try.f17 z43 = true := by kernel_rfl
theorem fok'_z43 : FnOk tie 490 (.code z43) := ⟨Try.f17, Try.func17, fok_z43⟩
theorem fok_z20 : chkFn tie Try.f18 z20 = true := by kernel_rfl
theorem fok'_z20 : FnOk tie 148 (.code z20) := ⟨Try.f18, Try.func18, fok_z20⟩
theorem fok_z6 : chkFn tie Try.f20 z6 = true := by kernel_rfl
theorem fok'_z6 : FnOk tie 78 (.code z6) := ⟨Try.f20, Try.func20, fok_z6⟩
theorem fok_z67 : chkFn tie Try.f21 z67 = true := by kernel_rfl
theorem fok'_z67 : FnOk tie 144 (.code z67) := ⟨Try.f21, Try.func21, fok_z67⟩
theorem fok_z26 : chkFn tie Try.f22 z26 = true := by kernel_rfl
theorem fok'_z26 : FnOk tie 146 (.code z26) := ⟨Try.f22, Try.func22, fok_z26⟩
theorem fok_z17 : chkFn tie Try.f23 z17 = true := by kernel_rfl
theorem fok'_z17 : FnOk tie 81 (.code z17) := ⟨Try.f23, Try.func23, fok_z17⟩
theorem fok_z40 : chkFn tie Try.f24 z40 = true := by kernel_rfl
theorem fok'_z40 : FnOk tie 61 (.code z40) := ⟨Try.f24, Try.func24, fok_z40⟩
theorem fok_z34 : chkFn tie Try.f25 z34 = true := by kernel_rfl
theorem fok'_z34 : FnOk tie 150 (.code z34) := ⟨Try.f25, Try.func25, fok_z34⟩
theorem fok_z12 : chkFn tie Try.f26 z12 = true := by kernel_rfl
theorem fok'_z12 : FnOk tie 80 (.code z12) := ⟨Try.f26, Try.func26, fok_z12⟩
theorem fok_z19 : chkFn tie Try.f27 z19 = true := by kernel_rfl
theorem fok'_z19 : FnOk tie 85 (.code z19) := ⟨Try.f27, Try.func27, fok_z19⟩
theorem fok_z25 : chkFn tie Try.f28 z25 = true := by kernel_rfl
theorem fok'_z25 : FnOk tie 107 (.code z25) := ⟨Try.f28, Try.func28, fok_z25⟩
theorem fok_z38 : chkFn tie Try.f29 z38 = true := by kernel_rfl
theorem fok'_z38 : FnOk tie 240 (.code z38) := ⟨Try.f29, Try.func29, fok_z38⟩
theorem fok_z59 : chkFn tie Try.f30 z59 = true := by kernel_rfl
theorem fok'_z59 : FnOk tie 29 (.code z59) := ⟨Try.f30, Try.func30, fok_z59⟩
theorem fok_z71 : chkFn tie Try.f31 z71 = true := by kernel_rfl
theorem fok'_z71 : FnOk tie 241 (.code z71) := ⟨Try.f31, Try.func31, fok_z71⟩
theorem fok_z41 : chkFn tie Try.f32 z41 = true := by kernel_rfl
theorem fok'_z41 : FnOk tie 242 (.code z41) := ⟨Try.f32, Try.func32, fok_z41⟩
theorem fok_z42 : chkFn tie Try.f37 z42 = true := by kernel_rfl
theorem fok'_z42 : FnOk tie 40 (.code z42) := ⟨Try.f37, Try.func37, fok_z42⟩
theorem fok_z30 : chkFn tie Try.f38 z30 = true := by kernel_rfl
theorem fok'_z30 : FnOk tie 275 (.code z30) := ⟨Try.f38, Try.func38, fok_z30⟩
theorem fok_z10 : chkFn tie Try.f39 z10 = true := by kernel_rfl
theorem fok'_z10 : FnOk tie 276 (.code z10) := ⟨Try.f39, Try.func39, fok_z10⟩
theorem fok_z51 : chkFn tie Try.f43 z51 = true := by kernel_rfl
theorem fok'_z51 : FnOk tie 175 (.code z51) := ⟨Try.f43, Try.func43, fok_z51⟩
theorem fok_z48 : chkFn tie Try.f44 z48 = true := by kernel_rfl
theorem fok'_z48 : FnOk tie 26 (.code z48) := ⟨Try.f44, Try.func44, fok_z48⟩
theorem fok_z14 : chkFn tie Try.f45 z14 = true := by kernel_rfl
theorem fok'_z14 : FnOk tie 243 (.code z14) := ⟨Try.f45, Try.func45, fok_z14⟩
theorem fok_z52 : chkFn tie Try.f46 z52 = true := by kernel_rfl
theorem fok'_z52 : FnOk tie 31 (.code z52) := ⟨Try.f46, Try.func46, fok_z52⟩
theorem fok_z70 : chkFn tie Try.f47 z70 = true := by kernel_rfl
theorem fok'_z70 : FnOk tie 244 (.code z70) := ⟨Try.f47, Try.func47, fok_z70⟩
theorem fok_z35 : chkFn tie Try.f48 z35 = true := by kernel_rfl
theorem fok'_z35 : FnOk tie 245 (.code z35) := ⟨Try.f48, Try.func48, fok_z35⟩
theorem fok_z3 : chkFn tie Try.f49 z3 = true := by kernel_rfl
theorem fok'_z3 : FnOk tie 246 (.code z3) := ⟨Try.f49, Try.func49, fok_z3⟩
theorem fok_z66 : chkFn tie Try.f51 z66 = true := by kernel_rfl
theorem fok'_z66 : FnOk tie 16 (.code z66) := ⟨Try.f51, Try.func51, fok_z66⟩
theorem fok_z61 : chkFn tie Try.f52 z61 = true := by kernel_rfl
theorem fok'_z61 : FnOk tie 256 (.code z61) := ⟨Try.f52, Try.func52, fok_z61⟩
theorem fok_z21 : chkFn tie Try.f53 z21 = true := by kernel_rfl
theorem fok'_z21 : FnOk tie 194 (.code z21) := ⟨Try.f53, Try.func53, fok_z21⟩
theorem fok_z16 : chkFn tie Try.f54 z16 = true := by kernel_rfl
theorem fok'_z16 : FnOk tie 196 (.code z16) := ⟨Try.f54, Try.func54, fok_z16⟩
theorem fok_z69 : chkFn tie Try.f55 z69 = true := by kernel_rfl
theorem fok'_z69 : FnOk tie 247 (.code z69) := ⟨Try.f55, Try.func55, fok_z69⟩
theorem fok_z54 : chkFn tie Try.f56 z54 = true := by kernel_rfl
theorem fok'_z54 : FnOk tie 248 (.code z54) := ⟨Try.f56, Try.func56, fok_z54⟩
theorem fok_z9 : chkFn tie Try.f57 z9 = true := by kernel_rfl
theorem fok'_z9 : FnOk tie 77 (.code z9) := ⟨Try.f57, Try.func57, fok_z9⟩
theorem fok_z4 : chkFn tie Try.f58 z4 = true := by kernel_rfl
theorem fok'_z4 : FnOk tie 79 (.code z4) := ⟨Try.f58, Try.func58, fok_z4⟩
theorem fok_z63 : chkFn tie Try.f59 z63 = true := by kernel_rfl
theorem fok'_z63 : FnOk tie 249 (.code z63) := ⟨Try.f59, Try.func59, fok_z63⟩
theorem fok_z68 : chkFn tie Try.f60 z68 = true := by kernel_rfl
theorem fok'_z68 : FnOk tie 250 (.code z68) := ⟨Try.f60, Try.func60, fok_z68⟩
theorem fok_z5 : chkFn tie Try.f61 z5 = true := by kernel_rfl
theorem fok'_z5 : FnOk tie 201 (.code z5) := ⟨Try.f61, Try.func61, fok_z5⟩
theorem fok_z15 : chkFn tie Try.f62 z15 = true := by kernel_rfl
theorem fok'_z15 : FnOk tie 84 (.code z15) := ⟨Try.f62, Try.func62, fok_z15⟩
theorem fok_z24 : chkFn tie Try.f63 z24 = true := by kernel_rfl
theorem fok'_z24 : FnOk tie 198 (.code z24) := ⟨Try.f63, Try.func63, fok_z24⟩
theorem fok_z18 : chkFn tie Try.f65 z18 = true := by kernel_rfl
theorem fok'_z18 : FnOk tie 200 (.code z18) := ⟨Try.f65, Try.func65, fok_z18⟩
theorem fok_z56 : chkFn tie Try.f67 z56 = true := by kernel_rfl
theorem fok'_z56 : FnOk tie 218 (.code z56) := ⟨Try.f67, Try.func67, fok_z56⟩
theorem fok_z27 : chkFn tie Try.f68 z27 = true := by kernel_rfl
theorem fok'_z27 : FnOk tie 108 (.code z27) := ⟨Try.f68, Try.func68, fok_z27⟩
theorem fok_z32 : chkFn tie Try.f69 z32 = true := by kernel_rfl
theorem fok'_z32 : FnOk tie 318 (.code z32) := ⟨Try.f69, Try.func69, fok_z32⟩
theorem fok_z53 : chkFn tie Try.f71 z53 = true := by kernel_rfl
theorem fok'_z53 : FnOk tie 121 (.code z53) := ⟨Try.f71, Try.func71, fok_z53⟩
theorem fok_z37 : chkFn tie Try.f72 z37 = true := by kernel_rfl
theorem fok'_z37 : FnOk tie 154 (.code z37) := ⟨Try.f72, Try.func72, fok_z37⟩
theorem fok_z29 : chkFn tie Try.f75 z29 = true := by kernel_rfl
theorem fok'_z29 : FnOk tie 102 (.code z29) := ⟨Try.f75, Try.func75, fok_z29⟩
theorem fok_z28 : chkFn tie Try.f76 z28 = true := by kernel_rfl
theorem fok'_z28 : FnOk tie 110 (.code z28) := ⟨Try.f76, Try.func76, fok_z28⟩
theorem fok_z31 : chkFn tie Try.f77 z31 = true := by kernel_rfl
theorem fok'_z31 : FnOk tie 111 (.code z31) := ⟨Try.f77, Try.func77, fok_z31⟩
theorem fok_z33 : chkFn tie Try.f81 z33 = true := by kernel_rfl
theorem fok'_z33 : FnOk tie 328 (.code z33) := ⟨Try.f81, Try.func81, fok_z33⟩
theorem fok_z44 : chkFn tie Try.f82 z44 = true := by kernel_rfl
theorem fok'_z44 : FnOk tie 202 (.code z44) := ⟨Try.f82, Try.func82, fok_z44⟩
theorem fok_z13 : chkFn tie Try.f83 z13 = true := by kernel_rfl
theorem fok'_z13 : FnOk tie 195 (.code z13) := ⟨Try.f83, Try.func83, fok_z13⟩
theorem fok_z60 : chkFn tie Try.f84 z60 = true := by kernel_rfl
theorem fok'_z60 : FnOk tie 319 (.code z60) := ⟨Try.f84, Try.func84, fok_z60⟩
theorem fok_z0 : chkFn tie Try.f85 z0 = true := by kernel_rfl
theorem fok'_z0 : FnOk tie 118 (.code z0) := ⟨Try.f85, Try.func85, fok_z0⟩
theorem fok_z22 : chkFn tie Try.f86 z22 = true := by kernel_rfl
theorem fok'_z22 : FnOk tie 90 (.code z22) := ⟨Try.f86, Try.func86, fok_z22⟩
theorem fok_z7 : chkFn tie Try.f87 z7 = true := by kernel_rfl
theorem fok'_z7 : FnOk tie 83 (.code z7) := ⟨Try.f87, Try.func87, fok_z7⟩
theorem fok_z45 : chkFn tie Try.f88 z45 = true := by kernel_rfl
theorem fok'_z45 : FnOk tie 320 (.code z45) := ⟨Try.f88, Try.func88, fok_z45⟩
theorem fok_z46 : chkFn tie Try.f89 z46 = true := by kernel_rfl
theorem fok'_z46 : FnOk tie 321 (.code z46) := ⟨Try.f89, Try.func89, fok_z46⟩
theorem fok_z47 : chkFn tie Try.f90 z47 = true := by kernel_rfl
theorem fok'_z47 : FnOk tie 322 (.code z47) := ⟨Try.f90, Try.func90, fok_z47⟩
theorem fok_z50 : chkFn tie Try.f91 z50 = true := by kernel_rfl
theorem fok'_z50 : FnOk tie 323 (.code z50) := ⟨Try.f91, Try.func91, fok_z50⟩
theorem fok_z8 : chkFn tie Try.f92 z8 = true := by kernel_rfl
theorem fok'_z8 : FnOk tie 82 (.code z8) := ⟨Try.f92, Try.func92, fok_z8⟩
theorem fok_z65 : chkFn tie Try.f97 z65 = true := by kernel_rfl
theorem fok'_z65 : FnOk tie 260 (.code z65) := ⟨Try.f97, Try.func97, fok_z65⟩
theorem fok_z49 : chkFn tie Try.f98 z49 = true := by kernel_rfl
theorem fok'_z49 : FnOk tie 216 (.code z49) := ⟨Try.f98, Try.func98, fok_z49⟩
theorem fok_z64 : chkFn tie Try.f101 z64 = true := by kernel_rfl
theorem fok'_z64 : FnOk tie 270 (.code z64) := ⟨Try.f101, Try.func101, fok_z64⟩
theorem fok_z2 : chkFn tie Try.f102 z2 = true := by kernel_rfl
theorem fok'_z2 : FnOk tie 221 (.code z2) := ⟨Try.f102, Try.func102, fok_z2⟩
theorem fok_z36 : chkFn tie Try.f106 z36 = true := by kernel_rfl
theorem fok'_z36 : FnOk tie 342 (.code z36) := ⟨Try.f106, Try.func106, fok_z36⟩
theorem fok'_z1 : FnOk tie 199 (.exs (sortedP 294)) := by
  have hf : Try.prog.funcs[fnTab fnL 100000 199]? = some Try.f64 := Try.func64
  exact sortedExt (X := tie) (f := 199) (gk := 294) (fn := Try.f64) (k := 9) Try.underlying9 hf (by decide +kernel) (by kernel_rfl) (fun bx b nn D0 w h1 h2 h3 h4 => Go.Proofs.Try.sorted_keys unitR bx b nn D0 w h1 h2 h3 h4)
theorem fok'_z11 : FnOk tie 197 (.exs cloneP) := by
  have hf : Try.prog.funcs[fnTab fnL 100000 197]? = some Try.f66 := Try.func66
  exact cloneExt (X := tie) (f := 197) (fn := Try.f66) hf (by decide +kernel) (by kernel_rfl) Go.Proofs.Try.maps_clone
theorem tieOk : TieOk tie where
  ty := tyTab_inj (by decide)
  meth := fun t m f h u w => chkMeth_ok (methTab_ok (P := Try.prog) (ty := tyTab tyL) (mn := mnTab mnL) (fnOf := fnTab fnL 100000) (l := methL) (by kernel_rfl) t m f h) _ u w
  mixed := by kernel_rfl
  fns := fun f pf h => by
    have : ∀ q ∈ tabL, FnOk tie q.1 q.2 := by
      exact List.forall_mem_cons.2 ⟨fok'_z23, List.forall_mem_cons.2 ⟨fok'_z57, List.forall_mem_cons.2 ⟨fok'_z62, List.forall_mem_cons.2 ⟨fok'_z58, List.forall_mem_cons.2 ⟨fok'_z55, List.forall_mem_cons.2 ⟨fok'_z72, List.forall_mem_cons.2 ⟨fok'_z39, List.forall_mem_cons.2 ⟨fok'_z43, List.forall_mem_cons.2 ⟨fok'_z20, List.forall_mem_cons.2 ⟨fok'_z6, List.forall_mem_cons.2 ⟨fok'_z67, List.forall_mem_cons.2 ⟨fok'_z26, List.forall_mem_cons.2 ⟨fok'_z17, List.forall_mem_cons.2 ⟨fok'_z40, List.forall_mem_cons.2 ⟨fok'_z34, List.forall_mem_cons.2 ⟨fok'_z12, List.forall_mem_cons.2 ⟨fok'_z19, List.forall_mem_cons.2 ⟨fok'_z25, List.forall_mem_cons.2 ⟨fok'_z38, List.forall_mem_cons.2 ⟨fok'_z59, List.forall_mem_cons.2 ⟨fok'_z71, List.forall_mem_cons.2 ⟨fok'_z41, List.forall_mem_cons.2 ⟨fok'_z42, List.forall_mem_cons.2 ⟨fok'_z30, List.forall_mem_cons.2 ⟨fok'_z10, List.forall_mem_cons.2 ⟨fok'_z51, List.forall_mem_cons.2 ⟨fok'_z48, List.forall_mem_cons.2 ⟨fok'_z14, List.forall_mem_cons.2 ⟨fok'_z52, List.forall_mem_cons.2 ⟨fok'_z70, List.forall_mem_cons.2 ⟨fok'_z35, List.forall_mem_cons.2 ⟨fok'_z3, List.forall_mem_cons.2 ⟨fok'_z66, List.forall_mem_cons.2 ⟨fok'_z61, List.forall_mem_cons.2 ⟨fok'_z21, List.forall_mem_cons.2 ⟨fok'_z16, List.forall_mem_cons.2 ⟨fok'_z69, List.forall_mem_cons.2 ⟨fok'_z54, List.forall_mem_cons.2 ⟨fok'_z9, List.forall_mem_cons.2 ⟨fok'_z4, List.forall_mem_cons.2 ⟨fok'_z63, List.forall_mem_cons.2 ⟨fok'_z68, List.forall_mem_cons.2 ⟨fok'_z5, List.forall_mem_cons.2 ⟨fok'_z15, List.forall_mem_cons.2 ⟨fok'_z24, List.forall_mem_cons.2 ⟨fok'_z1, List.forall_mem_cons.2 ⟨fok'_z18, List.forall_mem_cons.2 ⟨fok'_z11, List.forall_mem_cons.2 ⟨fok'_z56, List.forall_mem_cons.2 ⟨fok'_z27, List.forall_mem_cons.2 ⟨fok'_z32, List.forall_mem_cons.2 ⟨fok'_z53, List.forall_mem_cons.2 ⟨fok'_z37, List.forall_mem_cons.2 ⟨fok'_z29, List.forall_mem_cons.2 ⟨fok'_z28, List.forall_mem_cons.2 ⟨fok'_z31, List.forall_mem_cons.2 ⟨fok'_z33, List.forall_mem_cons.2 ⟨fok'_z44, List.forall_mem_cons.2 ⟨fok'_z13, List.forall_mem_cons.2 ⟨fok'_z60, List.forall_mem_cons.2 ⟨fok'_z0, List.forall_mem_cons.2 ⟨fok'_z22, List.forall_mem_cons.2 ⟨fok'_z7, List.forall_mem_cons.2 ⟨fok'_z45, List.forall_mem_cons.2 ⟨fok'_z46, List.forall_mem_cons.2 ⟨fok'_z47, List.forall_mem_cons.2 ⟨fok'_z50, List.forall_mem_cons.2 ⟨fok'_z8, List.forall_mem_cons.2 ⟨fok'_z65, List.forall_mem_cons.2 ⟨fok'_z49, List.forall_mem_cons.2 ⟨fok'_z64, List.forall_mem_cons.2 ⟨fok'_z2, List.forall_mem_cons.2 ⟨fok'_z36, fun _ h => absurd h List.not_mem_nil⟩⟩⟩⟩⟩⟩⟩⟩⟩⟩⟩⟩⟩⟩⟩⟩⟩⟩⟩⟩⟩⟩⟩⟩⟩⟩⟩⟩⟩⟩⟩⟩⟩⟩⟩⟩⟩⟩⟩⟩⟩⟩⟩⟩⟩⟩⟩⟩⟩⟩⟩⟩⟩⟩⟩⟩⟩⟩⟩⟩⟩⟩⟩⟩⟩⟩⟩⟩⟩⟩⟩⟩⟩
    exact this _ (look_mem h)
end Ps
