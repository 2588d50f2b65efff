/- The functions' code, as the pure semantics has it: printed by program. -/
import Derived.Test.YtedmhhncckddmaaWalk
namespace Ps
open Go
set_option maxRecDepth 10000
variable (T : Tbl) (K : List Kt) (fr : Fr) (S : St)

def law04_DiskSwaps_r0 : List POper := [Q 8 (.mov ff')]
@[simp] theorem law04_DiskSwaps_r0_go : type_of% (ops_go law04_DiskSwaps_r0.eq_1 T K fr S) := ops_go law04_DiskSwaps_r0.eq_1 T K fr S
def law04_DiskSwaps_r1 : List POper := [Q 18 (.call .std 16 [(I 4194304)]),M 17 18,EX 19 0 17,EX 20 1 17,M 9 19,M 10 20]
@[simp] theorem law04_DiskSwaps_r1_go : type_of% (ops_go law04_DiskSwaps_r1.eq_1 T K fr S) := ops_go law04_DiskSwaps_r1.eq_1 T K fr S
def law04_DiskSwaps_r2 : List POper := [M 21 10,Q 22 (.arith .neq (V 21) (I 0)),M 23 22,QG (some 24) (.mov (V 9)) 23 false,QG (some 25) (.eqn false .p (V 24)) 23 false,Q 26 (.pick (V 23) tt' (V 25)),M 27 26,QG (some 28) (.mov (V 0)) 27 false,QG (some 29) (.len false (V 28)) 27 false,QG (some 30) (.mov (V 1)) 27 false,QG (some 31) (.len false (V 30)) 27 false,QG (some 32) (.arith .add (V 29) (V 31)) 27 false,QG (some 33) (.arith .gtr (V 32) (I 100000)) 27 false,Q 34 (.pick (V 27) tt' (V 33))]
@[simp] theorem law04_DiskSwaps_r2_go : type_of% (ops_go law04_DiskSwaps_r2.eq_1 T K fr S) := ops_go law04_DiskSwaps_r2.eq_1 T K fr S
def law04_DiskSwaps_r3 : List POper := [M 35 10,Q 36 (.arith .eql (V 35) (I 0)),M 37 36,QG (some 38) (.mov (V 9)) 37 true,QG (some 39) (.eqn true .p (V 38)) 37 true,Q 40 (.pick (V 37) (V 39) ff'),M 41 40,QG (some 42) (.call .pur 18 []) 41 true,Q 43 (.pick (V 41) (V 42) ff'),M 8 43]
@[simp] theorem law04_DiskSwaps_r3_go : type_of% (ops_go law04_DiskSwaps_r3.eq_1 T K fr S) := ops_go law04_DiskSwaps_r3.eq_1 T K fr S
def law04_DiskSwaps_r4 : List POper := [M 44 9,Q 45 (.call .std 77 [(V 44), (.cst (.str [111, 110, 101]))]),Q 46 (.arith .neq (V 45) (I 0)),M 47 46,QG (some 48) (.mov (V 9)) 47 false,QG (some 49) (.call .std 77 [(V 48), (.cst (.str [116, 119, 111]))]) 47 false,QG (some 50) (.arith .neq (V 49) (I 0)) 47 false,Q 51 (.pick (V 47) tt' (V 50)),M 52 51,QG (some 53) (.mov (V 9)) 52 false,QG (some 54) (.mov (V 0)) 52 false,QG (some 55) (.call .std 78 [(V 53), (.cst (.str [111, 110, 101])), (V 54)]) 52 false,QG (some 56) (.arith .neq (V 55) (I 0)) 52 false,Q 57 (.pick (V 52) tt' (V 56)),M 58 57,QG (some 59) (.mov (V 9)) 58 false,QG (some 60) (.mov (V 1)) 58 false,QG (some 61) (.call .std 78 [(V 59), (.cst (.str [116, 119, 111])), (V 60)]) 58 false,QG (some 62) (.arith .neq (V 61) (I 0)) 58 false,Q 63 (.pick (V 58) tt' (V 62)),M 64 63,QG (some 65) (.mov (V 9)) 64 false,QG (some 66) (.call .std 84 [(V 65), (.cst (.str [111, 110, 101]))]) 64 false,QG (some 67) (.arith .neq (V 66) (I 0)) 64 false,Q 68 (.pick (V 64) tt' (V 67)),M 69 68,QG (some 70) (.mov (V 9)) 69 false,QG (some 71) (.call .std 84 [(V 70), (.cst (.str [116, 119, 111]))]) 69 false,QG (some 72) (.arith .neq (V 71) (I 0)) 69 false,Q 73 (.pick (V 69) tt' (V 72)),M 74 73,QG (some 75) (.mov (V 9)) 74 false,QG (some 76) (.call .std 79 [(V 75)]) 74 false,QG (some 77) (.arith .neq (V 76) (I 0)) 74 false,Q 78 (.pick (V 74) tt' (V 77)),M 79 78,QG (some 80) (.mov (V 9)) 79 false,QG (some 81) (.call .std 82 [(V 80), (.cst (.str [116, 119, 111])), (.cst (.str [111, 110, 101]))]) 79 false,QG (some 82) (.arith .neq (V 81) (I 0)) 79 false,Q 83 (.pick (V 79) tt' (V 82))]
@[simp] theorem law04_DiskSwaps_r4_go : type_of% (ops_go law04_DiskSwaps_r4.eq_1 T K fr S) := ops_go law04_DiskSwaps_r4.eq_1 T K fr S
def law04_DiskSwaps_r5 : List POper := [Q 8 (.mov ff')]
@[simp] theorem law04_DiskSwaps_r5_go : type_of% (ops_go law04_DiskSwaps_r5.eq_1 T K fr S) := ops_go law04_DiskSwaps_r5.eq_1 T K fr S
def law04_DiskSwaps_r6 : List POper := [M 84 3,M 85 84,QG (some 86) (.mov (V 9)) 85 true,QG (some 87) (.call .std 79 [(V 86)]) 85 true,QG (some 88) (.arith .neq (V 87) (I 0)) 85 true,Q 89 (.pick (V 85) (V 88) ff')]
@[simp] theorem law04_DiskSwaps_r6_go : type_of% (ops_go law04_DiskSwaps_r6.eq_1 T K fr S) := ops_go law04_DiskSwaps_r6.eq_1 T K fr S
def law04_DiskSwaps_r7 : List POper := [Q 8 (.mov ff')]
@[simp] theorem law04_DiskSwaps_r7_go : type_of% (ops_go law04_DiskSwaps_r7.eq_1 T K fr S) := ops_go law04_DiskSwaps_r7.eq_1 T K fr S
def law04_DiskSwaps_r8 : List POper := [M 90 9,M 91 2,Q 92 (.call .std 80 [(V 90), (V 91), (.cst .nils)])]
@[simp] theorem law04_DiskSwaps_r8_go : type_of% (ops_go law04_DiskSwaps_r8.eq_1 T K fr S) := ops_go law04_DiskSwaps_r8.eq_1 T K fr S
def law04_DiskSwaps_r9 : List POper := [M 94 9,Q 95 (.call .std 81 [(V 94), (.cst (.str [111, 110, 101]))]),M 93 95,EX 96 0 93,EX 97 1 93,M 11 96,M 12 97]
@[simp] theorem law04_DiskSwaps_r9_go : type_of% (ops_go law04_DiskSwaps_r9.eq_1 T K fr S) := ops_go law04_DiskSwaps_r9.eq_1 T K fr S
def law04_DiskSwaps_r10 : List POper := [M 99 9,Q 100 (.call .std 81 [(V 99), (.cst (.str [116, 119, 111]))]),M 98 100,EX 101 0 98,EX 102 1 98,M 13 101,M 14 102]
@[simp] theorem law04_DiskSwaps_r10_go : type_of% (ops_go law04_DiskSwaps_r10.eq_1 T K fr S) := ops_go law04_DiskSwaps_r10.eq_1 T K fr S
def law04_DiskSwaps_r11 : List POper := [M 103 11,Q 104 (.toStr (V 103)),M 105 1,Q 106 (.toStr (V 105)),Q 107 (.arith .eql (V 104) (V 106)),M 108 107,QG (some 109) (.mov (V 14)) 108 true,QG (some 110) (.arith .eql (V 109) (I 9)) 108 true,Q 111 (.pick (V 108) (V 110) ff'),M 15 111]
@[simp] theorem law04_DiskSwaps_r11_go : type_of% (ops_go law04_DiskSwaps_r11.eq_1 T K fr S) := ops_go law04_DiskSwaps_r11.eq_1 T K fr S
def law04_DiskSwaps_r12 : List POper := [M 112 11,Q 113 (.toStr (V 112)),M 114 0,Q 115 (.toStr (V 114)),Q 116 (.arith .eql (V 113) (V 115)),M 117 116,QG (some 118) (.mov (V 14)) 117 true,QG (some 119) (.arith .eql (V 118) (I 0)) 117 true,Q 120 (.pick (V 117) (V 119) ff'),M 16 120]
@[simp] theorem law04_DiskSwaps_r12_go : type_of% (ops_go law04_DiskSwaps_r12.eq_1 T K fr S) := ops_go law04_DiskSwaps_r12.eq_1 T K fr S
def law04_DiskSwaps_r13 : List POper := [M 121 12,Q 122 (.arith .eql (V 121) (I 0)),M 123 122,QG (some 124) (.mov (V 15)) 123 true,QG (some 125) (.mov (V 124)) 123 true,QG (some 126) (.mov (V 3)) 125 false,QG (some 127) (.un .not (V 126)) 125 false,QG (some 128) (.mov (V 127)) 125 false,QG (some 129) (.mov (V 16)) 128 true,QG (some 130) (.pick (V 128) (V 129) ff') 125 false,QG (some 131) (.pick (V 125) tt' (V 130)) 123 true,Q 132 (.pick (V 123) (V 131) ff'),M 133 132,QG (some 134) (.call .pur 18 []) 133 true,Q 135 (.pick (V 133) (V 134) ff'),M 8 135]
@[simp] theorem law04_DiskSwaps_r13_go : type_of% (ops_go law04_DiskSwaps_r13.eq_1 T K fr S) := ops_go law04_DiskSwaps_r13.eq_1 T K fr S
def law04_DiskSwaps : PCodeFn :=
  ⟨4, [.tmp 8],
  (.seq (.region law04_DiskSwaps_r0) (.seq (.clr [(17, 21)] (.region law04_DiskSwaps_r1)) (.seq (.seq (.clr [(21, 34)] (.region law04_DiskSwaps_r2)) (.cond (V 34) (.seq (.clr [(35, 44)] (.region law04_DiskSwaps_r3)) .ret) .skip)) (.seq (.seq (.clr [(44, 83)] (.region law04_DiskSwaps_r4)) (.cond (V 83) (.seq (.region law04_DiskSwaps_r5) .ret) .skip)) (.seq (.seq (.clr [(84, 89)] (.region law04_DiskSwaps_r6)) (.cond (V 89) (.seq (.region law04_DiskSwaps_r7) .ret) .skip)) (.seq (.clr [(90, 93)] (.region law04_DiskSwaps_r8)) (.seq (.clr [(93, 98)] (.region law04_DiskSwaps_r9)) (.seq (.clr [(13, 14), (98, 103)] (.region law04_DiskSwaps_r10)) (.seq (.clr [(103, 112)] (.region law04_DiskSwaps_r11)) (.seq (.clr [(112, 121)] (.region law04_DiskSwaps_r12)) (.seq (.clr [(121, 136)] (.region law04_DiskSwaps_r13)) .ret))))))))))), false⟩

def law04_DiskLasts_r0 : List POper := [Q 10 (.mov ff')]
@[simp] theorem law04_DiskLasts_r0_go : type_of% (ops_go law04_DiskLasts_r0.eq_1 T K fr S) := ops_go law04_DiskLasts_r0.eq_1 T K fr S
def law04_DiskLasts_r1 : List POper := [M 18 0,M 19 1,Q 20 (.call .std 466 [(V 18), (V 19)]),M 11 20]
@[simp] theorem law04_DiskLasts_r1_go : type_of% (ops_go law04_DiskLasts_r1.eq_1 T K fr S) := ops_go law04_DiskLasts_r1.eq_1 T K fr S
def law04_DiskLasts_r2 : List POper := [M 21 11,Q 22 (.eqn false .p (V 21))]
@[simp] theorem law04_DiskLasts_r2_go : type_of% (ops_go law04_DiskLasts_r2.eq_1 T K fr S) := ops_go law04_DiskLasts_r2.eq_1 T K fr S
def law04_DiskLasts_r3 : List POper := [Q 23 (.call .pur 18 []),M 10 23]
@[simp] theorem law04_DiskLasts_r3_go : type_of% (ops_go law04_DiskLasts_r3.eq_1 T K fr S) := ops_go law04_DiskLasts_r3.eq_1 T K fr S
def law04_DiskLasts_r4 : List POper := [M 24 11,Q 25 (.call .std 85 [(V 24), (I (-1))])]
@[simp] theorem law04_DiskLasts_r4_go : type_of% (ops_go law04_DiskLasts_r4.eq_1 T K fr S) := ops_go law04_DiskLasts_r4.eq_1 T K fr S
def law04_DiskLasts_r5 : List POper := [M 26 11,M 27 2,Q 28 (.call .std 84 [(V 26), (V 27)]),Q 29 (.arith .neq (V 28) (I 0)),M 30 29,QG (some 31) (.mov (V 11)) 30 false,QG (some 32) (.call .std 79 [(V 31)]) 30 false,QG (some 33) (.arith .neq (V 32) (I 0)) 30 false,Q 34 (.pick (V 30) tt' (V 33))]
@[simp] theorem law04_DiskLasts_r5_go : type_of% (ops_go law04_DiskLasts_r5.eq_1 T K fr S) := ops_go law04_DiskLasts_r5.eq_1 T K fr S
def law04_DiskLasts_r6 : List POper := [Q 35 (.call .pur 18 []),M 10 35]
@[simp] theorem law04_DiskLasts_r6_go : type_of% (ops_go law04_DiskLasts_r6.eq_1 T K fr S) := ops_go law04_DiskLasts_r6.eq_1 T K fr S
def law04_DiskLasts_r7 : List POper := [M 37 11,M 38 2,Q 39 (.call .std 81 [(V 37), (V 38)]),M 36 39,EX 40 0 36,EX 41 1 36,M 12 40,M 13 41]
@[simp] theorem law04_DiskLasts_r7_go : type_of% (ops_go law04_DiskLasts_r7.eq_1 T K fr S) := ops_go law04_DiskLasts_r7.eq_1 T K fr S
def law04_DiskLasts_r8 : List POper := [M 42 13,Q 43 (.arith .neq (V 42) (I 0))]
@[simp] theorem law04_DiskLasts_r8_go : type_of% (ops_go law04_DiskLasts_r8.eq_1 T K fr S) := ops_go law04_DiskLasts_r8.eq_1 T K fr S
def law04_DiskLasts_r9 : List POper := [Q 10 (.mov ff')]
@[simp] theorem law04_DiskLasts_r9_go : type_of% (ops_go law04_DiskLasts_r9.eq_1 T K fr S) := ops_go law04_DiskLasts_r9.eq_1 T K fr S
def law04_DiskLasts_r10 : List POper := [M 44 11,M 45 2,Q 46 (.mov (.cst .und)),Q 47 (.bsl false (.int .u8 0) 4 [(0, (.cst (.int .u8 109))), (1, (.cst (.int .u8 111))), (2, (.cst (.int .u8 114))), (3, (.cst (.int .u8 101)))]),Q 48 (.call .std 78 [(V 44), (V 45), (V 47)]),Q 49 (.arith .neq (V 48) (I 0))]
@[simp] theorem law04_DiskLasts_r10_go : type_of% (ops_go law04_DiskLasts_r10.eq_1 T K fr S) := ops_go law04_DiskLasts_r10.eq_1 T K fr S
def law04_DiskLasts_r11 : List POper := [Q 50 (.call .pur 18 []),M 10 50]
@[simp] theorem law04_DiskLasts_r11_go : type_of% (ops_go law04_DiskLasts_r11.eq_1 T K fr S) := ops_go law04_DiskLasts_r11.eq_1 T K fr S
def law04_DiskLasts_r12 : List POper := [M 52 11,M 53 2,Q 54 (.call .std 81 [(V 52), (V 53)]),M 51 54,EX 55 0 51,EX 56 1 51,M 14 55,M 15 56]
@[simp] theorem law04_DiskLasts_r12_go : type_of% (ops_go law04_DiskLasts_r12.eq_1 T K fr S) := ops_go law04_DiskLasts_r12.eq_1 T K fr S
def law04_DiskLasts_r13 : List POper := [M 57 11,M 58 3,M 59 4,Q 60 (.call .std 80 [(V 57), (V 58), (V 59)]),Q 61 (.arith .neq (V 60) (I 0))]
@[simp] theorem law04_DiskLasts_r13_go : type_of% (ops_go law04_DiskLasts_r13.eq_1 T K fr S) := ops_go law04_DiskLasts_r13.eq_1 T K fr S
def law04_DiskLasts_r14 : List POper := [Q 10 (.mov ff')]
@[simp] theorem law04_DiskLasts_r14_go : type_of% (ops_go law04_DiskLasts_r14.eq_1 T K fr S) := ops_go law04_DiskLasts_r14.eq_1 T K fr S
def law04_DiskLasts_r15 : List POper := [M 63 11,M 64 2,Q 65 (.call .std 81 [(V 63), (V 64)]),M 62 65,EX 66 0 62,EX 67 1 62,M 16 66,M 17 67]
@[simp] theorem law04_DiskLasts_r15_go : type_of% (ops_go law04_DiskLasts_r15.eq_1 T K fr S) := ops_go law04_DiskLasts_r15.eq_1 T K fr S
def law04_DiskLasts_r16 : List POper := [M 68 17,Q 69 (.arith .eql (V 68) (I 0)),M 70 69,QG (some 71) (.mov (V 16)) 70 true,QG (some 72) (.mov (V 12)) 70 true,QG (some 73) (.call .std 468 [(V 71), (V 72)]) 70 true,Q 74 (.pick (V 70) (V 73) ff'),M 75 74,QG (some 76) (.mov (V 14)) 75 true,QG (some 77) (.mov (V 16)) 75 true,QG (some 78) (.call .std 468 [(V 76), (V 77)]) 75 true,Q 79 (.pick (V 75) (V 78) ff'),M 80 79,QG (some 81) (.call .pur 18 []) 80 true,Q 82 (.pick (V 80) (V 81) ff'),M 10 82]
@[simp] theorem law04_DiskLasts_r16_go : type_of% (ops_go law04_DiskLasts_r16.eq_1 T K fr S) := ops_go law04_DiskLasts_r16.eq_1 T K fr S
def law04_DiskLasts : PCodeFn :=
  ⟨5, [.tmp 10],
  (.seq (.region law04_DiskLasts_r0) (.seq (.clr [(18, 21)] (.region law04_DiskLasts_r1)) (.seq (.seq (.clr [(21, 22)] (.region law04_DiskLasts_r2)) (.cond (V 22) (.seq (.clr [(23, 24)] (.region law04_DiskLasts_r3)) .ret) .skip)) (.seq (.clr [(24, 26)] (.region law04_DiskLasts_r4)) (.seq (.seq (.clr [(26, 34)] (.region law04_DiskLasts_r5)) (.cond (V 34) (.seq (.clr [(35, 36)] (.region law04_DiskLasts_r6)) .ret) .skip)) (.seq (.clr [(36, 42)] (.region law04_DiskLasts_r7)) (.seq (.seq (.clr [(42, 43)] (.region law04_DiskLasts_r8)) (.cond (V 43) (.seq (.region law04_DiskLasts_r9) .ret) .skip)) (.seq (.seq (.clr [(44, 49)] (.region law04_DiskLasts_r10)) (.cond (V 49) (.seq (.clr [(50, 51)] (.region law04_DiskLasts_r11)) .ret) .skip)) (.seq (.clr [(15, 16), (51, 57)] (.region law04_DiskLasts_r12)) (.seq (.seq (.clr [(57, 61)] (.region law04_DiskLasts_r13)) (.cond (V 61) (.seq (.region law04_DiskLasts_r14) .ret) .skip)) (.seq (.clr [(62, 68)] (.region law04_DiskLasts_r15)) (.seq (.clr [(68, 83)] (.region law04_DiskLasts_r16)) .ret)))))))))))), false⟩

def law04_DiskNames_r0 : List POper := [Q 8 (.mov ff')]
@[simp] theorem law04_DiskNames_r0_go : type_of% (ops_go law04_DiskNames_r0.eq_1 T K fr S) := ops_go law04_DiskNames_r0.eq_1 T K fr S
def law04_DiskNames_r1 : List POper := [M 14 0,M 15 1,Q 16 (.call .std 466 [(V 14), (V 15)]),M 9 16]
@[simp] theorem law04_DiskNames_r1_go : type_of% (ops_go law04_DiskNames_r1.eq_1 T K fr S) := ops_go law04_DiskNames_r1.eq_1 T K fr S
def law04_DiskNames_r2 : List POper := [M 17 9,Q 18 (.eqn false .p (V 17)),M 19 18,QG (some 20) (.mov (V 9)) 19 false,QG (some 21) (.call .std 80 [(V 20), (I 0), (.cst .nils)]) 19 false,QG (some 22) (.arith .neq (V 21) (I 0)) 19 false,Q 23 (.pick (V 19) tt' (V 22))]
@[simp] theorem law04_DiskNames_r2_go : type_of% (ops_go law04_DiskNames_r2.eq_1 T K fr S) := ops_go law04_DiskNames_r2.eq_1 T K fr S
def law04_DiskNames_r3 : List POper := [M 24 9,Q 25 (.eqn false .p (V 24)),M 26 25,QG (some 27) (.call .pur 18 []) 26 true,Q 28 (.pick (V 26) (V 27) ff'),M 8 28]
@[simp] theorem law04_DiskNames_r3_go : type_of% (ops_go law04_DiskNames_r3.eq_1 T K fr S) := ops_go law04_DiskNames_r3.eq_1 T K fr S
def law04_DiskNames_r4 : List POper := [M 29 9,Q 30 (.call .std 90 [(V 29)]),Q 31 (.bsl false .nils 1 [(0, (V 30))]),M 10 31]
@[simp] theorem law04_DiskNames_r4_go : type_of% (ops_go law04_DiskNames_r4.eq_1 T K fr S) := ops_go law04_DiskNames_r4.eq_1 T K fr S
def law04_DiskNames_r5 : List POper := [Q 11 (.mov (I 0))]
@[simp] theorem law04_DiskNames_r5_go : type_of% (ops_go law04_DiskNames_r5.eq_1 T K fr S) := ops_go law04_DiskNames_r5.eq_1 T K fr S
def law04_DiskNames_r6 : List POper := [M 32 11,M 33 2,Q 34 (.len false (V 33)),Q 35 (.arith .lss (V 32) (V 34)),M 36 35,QG (some 37) (.mov (V 11)) 36 true,QG (some 38) (.arith .lss (V 37) (I 15)) 36 true,Q 39 (.pick (V 36) (V 38) ff')]
@[simp] theorem law04_DiskNames_r6_go : type_of% (ops_go law04_DiskNames_r6.eq_1 T K fr S) := ops_go law04_DiskNames_r6.eq_1 T K fr S
def law04_DiskNames_r8 : List POper := [M 42 2,M 43 11,Q 44 (.iaddr 6 (V 42) (V 43)),FA 45 0 44,LD 46 45,Q 47 (.arith .geq (V 46) (I 1)),M 48 47,QG (some 49) (.mov (V 2)) 48 true,QG (some 50) (.mov (V 11)) 48 true,QG (some 51) (.iaddr 6 (V 49) (V 50)) 48 true,QG (some 52) (.faddr 0 (V 51)) 48 true,QG (some 53) (.load false 1 false (V 52)) 48 true,QG (some 54) (.arith .leq (V 53) (I 5)) 48 true,Q 55 (.pick (V 48) (V 54) ff')]
@[simp] theorem law04_DiskNames_r8_go : type_of% (ops_go law04_DiskNames_r8.eq_1 T K fr S) := ops_go law04_DiskNames_r8.eq_1 T K fr S
def law04_DiskNames_r9 : List POper := [M 56 9,M 57 2,M 58 11,Q 59 (.iaddr 6 (V 57) (V 58)),Q 60 (.load true 6 false (V 59)),Q 61 (.call .std 19 [(V 56), (V 60)])]
@[simp] theorem law04_DiskNames_r9_go : type_of% (ops_go law04_DiskNames_r9.eq_1 T K fr S) := ops_go law04_DiskNames_r9.eq_1 T K fr S
def law04_DiskNames_r10 : List POper := [M 62 10,M 63 9,Q 64 (.call .std 90 [(V 63)]),Q 65 (.bsl false .nils 1 [(0, (V 64))]),Q 66 (.app 1 24 (V 62) (V 65)),M 10 66]
@[simp] theorem law04_DiskNames_r10_go : type_of% (ops_go law04_DiskNames_r10.eq_1 T K fr S) := ops_go law04_DiskNames_r10.eq_1 T K fr S
def law04_DiskNames_r7 : List POper := [M 40 11,Q 41 (.arith .add (V 40) (I 1)),M 11 41]
@[simp] theorem law04_DiskNames_r7_go : type_of% (ops_go law04_DiskNames_r7.eq_1 T K fr S) := ops_go law04_DiskNames_r7.eq_1 T K fr S
def law04_DiskNames_l0 : PCode :=
  (.seq (.seq (.clr [(32, 39)] (.region law04_DiskNames_r6)) (.cond (V 39) .skip (.exit 0))) (.seq (.block 1 (.seq (.clr [(42, 55)] (.region law04_DiskNames_r8)) (.cond (V 55) (.seq (.clr [(56, 62)] (.region law04_DiskNames_r9)) (.clr [(62, 67)] (.region law04_DiskNames_r10))) .skip))) (.clr [(40, 42)] (.region law04_DiskNames_r7))))
@[simp] theorem law04_DiskNames_l0_go : type_of% (code_go law04_DiskNames_l0.eq_1 T K fr S) := code_go law04_DiskNames_l0.eq_1 T K fr S
def law04_DiskNames_r11 : List POper := [M 67 9,M 68 3,Q 69 (.call .std 80 [(V 67), (V 68), (.cst .nils)])]
@[simp] theorem law04_DiskNames_r11_go : type_of% (ops_go law04_DiskNames_r11.eq_1 T K fr S) := ops_go law04_DiskNames_r11.eq_1 T K fr S
def law04_DiskNames_r12 : List POper := [M 70 9,Q 71 (.call .std 90 [(V 70)]),M 12 71]
@[simp] theorem law04_DiskNames_r12_go : type_of% (ops_go law04_DiskNames_r12.eq_1 T K fr S) := ops_go law04_DiskNames_r12.eq_1 T K fr S
def law04_DiskNames_r13 : List POper := [Q 13 (.mov (I 0))]
@[simp] theorem law04_DiskNames_r13_go : type_of% (ops_go law04_DiskNames_r13.eq_1 T K fr S) := ops_go law04_DiskNames_r13.eq_1 T K fr S
def law04_DiskNames_r14 : List POper := [M 72 13,M 73 10,Q 74 (.len false (V 73)),Q 75 (.arith .lss (V 72) (V 74))]
@[simp] theorem law04_DiskNames_r14_go : type_of% (ops_go law04_DiskNames_r14.eq_1 T K fr S) := ops_go law04_DiskNames_r14.eq_1 T K fr S
def law04_DiskNames_r16 : List POper := [M 78 10,M 79 13,Q 80 (.iaddr 1 (V 78) (V 79)),LD 81 80,M 82 12,Q 83 (.call .std 91 [(V 81), (V 82)])]
@[simp] theorem law04_DiskNames_r16_go : type_of% (ops_go law04_DiskNames_r16.eq_1 T K fr S) := ops_go law04_DiskNames_r16.eq_1 T K fr S
def law04_DiskNames_r17 : List POper := [Q 84 (.call .pur 18 []),M 8 84]
@[simp] theorem law04_DiskNames_r17_go : type_of% (ops_go law04_DiskNames_r17.eq_1 T K fr S) := ops_go law04_DiskNames_r17.eq_1 T K fr S
def law04_DiskNames_r15 : List POper := [M 76 13,Q 77 (.arith .add (V 76) (I 1)),M 13 77]
@[simp] theorem law04_DiskNames_r15_go : type_of% (ops_go law04_DiskNames_r15.eq_1 T K fr S) := ops_go law04_DiskNames_r15.eq_1 T K fr S
def law04_DiskNames_l1 : PCode :=
  (.seq (.seq (.clr [(72, 75)] (.region law04_DiskNames_r14)) (.cond (V 75) .skip (.exit 2))) (.seq (.block 3 (.seq (.clr [(78, 83)] (.region law04_DiskNames_r16)) (.cond (V 83) (.seq (.clr [(84, 85)] (.region law04_DiskNames_r17)) .ret) .skip))) (.clr [(76, 78)] (.region law04_DiskNames_r15))))
@[simp] theorem law04_DiskNames_l1_go : type_of% (code_go law04_DiskNames_l1.eq_1 T K fr S) := code_go law04_DiskNames_l1.eq_1 T K fr S
def law04_DiskNames_r18 : List POper := [Q 8 (.mov ff')]
@[simp] theorem law04_DiskNames_r18_go : type_of% (ops_go law04_DiskNames_r18.eq_1 T K fr S) := ops_go law04_DiskNames_r18.eq_1 T K fr S
def law04_DiskNames : PCodeFn :=
  ⟨4, [.tmp 8],
  (.seq (.region law04_DiskNames_r0) (.seq (.clr [(14, 17)] (.region law04_DiskNames_r1)) (.seq (.seq (.clr [(17, 23)] (.region law04_DiskNames_r2)) (.cond (V 23) (.seq (.clr [(24, 29)] (.region law04_DiskNames_r3)) .ret) .skip)) (.seq (.clr [(29, 32)] (.region law04_DiskNames_r4)) (.seq (.seq (.region law04_DiskNames_r5) (.block 0 (.loop law04_DiskNames_l0))) (.seq (.clr [(67, 70)] (.region law04_DiskNames_r11)) (.seq (.clr [(70, 72)] (.region law04_DiskNames_r12)) (.seq (.seq (.region law04_DiskNames_r13) (.block 2 (.loop law04_DiskNames_l1))) (.seq (.region law04_DiskNames_r18) .ret))))))))), false⟩

def law04_DiskPlays_r0 : List POper := [Q 4 (.mov ff')]
@[simp] theorem law04_DiskPlays_r0_go : type_of% (ops_go law04_DiskPlays_r0.eq_1 T K fr S) := ops_go law04_DiskPlays_r0.eq_1 T K fr S
def law04_DiskPlays_r1 : List POper := [M 17 0,Q 18 (.call .std 16 [(V 17)]),M 16 18,EX 19 0 16,EX 20 1 16,M 5 19,M 6 20]
@[simp] theorem law04_DiskPlays_r1_go : type_of% (ops_go law04_DiskPlays_r1.eq_1 T K fr S) := ops_go law04_DiskPlays_r1.eq_1 T K fr S
def law04_DiskPlays_r2 : List POper := [M 22 0,Q 23 (.call .pur 17 [(V 22)]),M 21 23,EX 24 0 21,EX 25 1 21,Q 7 (.alloc false [(.int .i64 0), .nils, .nils, .nils, (.int .i64 0), (.bool false), (.int .i64 0)]),QN (.store 7 (V 7) (V 24)),M 8 25]
@[simp] theorem law04_DiskPlays_r2_go : type_of% (ops_go law04_DiskPlays_r2.eq_1 T K fr S) := ops_go law04_DiskPlays_r2.eq_1 T K fr S
def law04_DiskPlays_r3 : List POper := [M 26 6,M 27 8,Q 28 (.arith .neq (V 26) (V 27)),M 29 28,QG (some 30) (.mov (V 8)) 29 false,QG (some 31) (.arith .neq (V 30) (I 0)) 29 false,Q 32 (.pick (V 29) tt' (V 31))]
@[simp] theorem law04_DiskPlays_r3_go : type_of% (ops_go law04_DiskPlays_r3.eq_1 T K fr S) := ops_go law04_DiskPlays_r3.eq_1 T K fr S
def law04_DiskPlays_r4 : List POper := [M 33 6,M 34 8,Q 35 (.arith .eql (V 33) (V 34)),M 36 35,QG (some 37) (.mov (V 5)) 36 true,QG (some 38) (.eqn false .p (V 37)) 36 true,Q 39 (.pick (V 36) (V 38) ff'),M 40 39,QG (some 41) (.call .pur 18 []) 40 true,Q 42 (.pick (V 40) (V 41) ff'),M 4 42]
@[simp] theorem law04_DiskPlays_r4_go : type_of% (ops_go law04_DiskPlays_r4.eq_1 T K fr S) := ops_go law04_DiskPlays_r4.eq_1 T K fr S
def law04_DiskPlays_r5 : List POper := [Q 9 (.mov (I 0))]
@[simp] theorem law04_DiskPlays_r5_go : type_of% (ops_go law04_DiskPlays_r5.eq_1 T K fr S) := ops_go law04_DiskPlays_r5.eq_1 T K fr S
def law04_DiskPlays_r6 : List POper := [M 43 9,M 44 1,Q 45 (.len false (V 44)),Q 46 (.arith .lss (V 43) (V 45)),M 47 46,QG (some 48) (.mov (V 9)) 47 true,QG (some 49) (.arith .lss (V 48) (I 60)) 47 true,Q 50 (.pick (V 47) (V 49) ff')]
@[simp] theorem law04_DiskPlays_r6_go : type_of% (ops_go law04_DiskPlays_r6.eq_1 T K fr S) := ops_go law04_DiskPlays_r6.eq_1 T K fr S
def law04_DiskPlays_r8 : List POper := [M 54 5,M 55 1,M 56 9,Q 57 (.iaddr 6 (V 55) (V 56)),Q 58 (.load true 6 false (V 57)),Q 59 (.call .std 19 [(V 54), (V 58)]),M 53 59,EX 60 0 53,EX 61 1 53,M 10 60,M 11 61]
@[simp] theorem law04_DiskPlays_r8_go : type_of% (ops_go law04_DiskPlays_r8.eq_1 T K fr S) := ops_go law04_DiskPlays_r8.eq_1 T K fr S
def law04_DiskPlays_r9 : List POper := [Q 63 (.load true 7 false (V 7)),M 64 1,M 65 9,Q 66 (.iaddr 6 (V 64) (V 65)),Q 67 (.load true 6 true (V 66)),Q 68 (.call .pur 20 [(V 63), (V 67)]),M 62 68,EX 69 0 62,EX 70 1 62,EX 71 2 62,Q 12 (.alloc false [(.int .i64 0), .nils, .nils, .nils, (.int .i64 0), (.bool false), (.int .i64 0)]),QN (.store 7 (V 12) (V 69)),M 13 70,M 14 71]
@[simp] theorem law04_DiskPlays_r9_go : type_of% (ops_go law04_DiskPlays_r9.eq_1 T K fr S) := ops_go law04_DiskPlays_r9.eq_1 T K fr S
def law04_DiskPlays_r10 : List POper := [M 72 10,M 73 13,Q 74 (.arith .neq (V 72) (V 73)),M 75 74,QG (some 76) (.mov (V 11)) 75 false,QG (some 77) (.toStrO (V 76)) 75 false,QG (some 78) (.mov (V 14)) 75 false,QG (some 79) (.toStrO (V 78)) 75 false,QG (some 80) (.arith .neq (V 77) (V 79)) 75 false,Q 81 (.pick (V 75) tt' (V 80)),M 82 81,QG (some 83) (.mov (V 5)) 82 false,QG (some 84) (.load true 7 false (V 12)) 82 false,QG (some 85) (.call .std 21 [(V 83), (V 84)]) 82 false,QG (some 86) (.un .not (V 85)) 82 false,Q 87 (.pick (V 82) tt' (V 86))]
@[simp] theorem law04_DiskPlays_r10_go : type_of% (ops_go law04_DiskPlays_r10.eq_1 T K fr S) := ops_go law04_DiskPlays_r10.eq_1 T K fr S
def law04_DiskPlays_r11 : List POper := [Q 4 (.mov ff')]
@[simp] theorem law04_DiskPlays_r11_go : type_of% (ops_go law04_DiskPlays_r11.eq_1 T K fr S) := ops_go law04_DiskPlays_r11.eq_1 T K fr S
def law04_DiskPlays_r12 : List POper := [Q 15 (.mov (I 0))]
@[simp] theorem law04_DiskPlays_r12_go : type_of% (ops_go law04_DiskPlays_r12.eq_1 T K fr S) := ops_go law04_DiskPlays_r12.eq_1 T K fr S
def law04_DiskPlays_r13 : List POper := [M 88 15,M 89 11,Q 90 (.len false (V 89)),Q 91 (.arith .lss (V 88) (V 90))]
@[simp] theorem law04_DiskPlays_r13_go : type_of% (ops_go law04_DiskPlays_r13.eq_1 T K fr S) := ops_go law04_DiskPlays_r13.eq_1 T K fr S
def law04_DiskPlays_r15 : List POper := [M 94 11,M 95 15,M 96 11,M 97 15,Q 98 (.iaddr 1 (V 96) (V 97)),LD 99 98,Q 100 (.arith .add (V 99) (.cst (.int .u8 1))),Q 101 (.iaddr 1 (V 94) (V 95)),QN (.store 1 (V 101) (V 100))]
@[simp] theorem law04_DiskPlays_r15_go : type_of% (ops_go law04_DiskPlays_r15.eq_1 T K fr S) := ops_go law04_DiskPlays_r15.eq_1 T K fr S
def law04_DiskPlays_r14 : List POper := [M 92 15,Q 93 (.arith .add (V 92) (I 1)),M 15 93]
@[simp] theorem law04_DiskPlays_r14_go : type_of% (ops_go law04_DiskPlays_r14.eq_1 T K fr S) := ops_go law04_DiskPlays_r14.eq_1 T K fr S
def law04_DiskPlays_l1 : PCode :=
  (.seq (.seq (.clr [(88, 91)] (.region law04_DiskPlays_r13)) (.cond (V 91) .skip (.exit 2))) (.seq (.block 3 (.clr [(94, 102)] (.region law04_DiskPlays_r15))) (.clr [(92, 94)] (.region law04_DiskPlays_r14))))
@[simp] theorem law04_DiskPlays_l1_go : type_of% (code_go law04_DiskPlays_l1.eq_1 T K fr S) := code_go law04_DiskPlays_l1.eq_1 T K fr S
def law04_DiskPlays_r16 : List POper := [Q 102 (.load true 7 false (V 12)),QN (.store 7 (V 7) (V 102))]
@[simp] theorem law04_DiskPlays_r16_go : type_of% (ops_go law04_DiskPlays_r16.eq_1 T K fr S) := ops_go law04_DiskPlays_r16.eq_1 T K fr S
def law04_DiskPlays_r7 : List POper := [M 51 9,Q 52 (.arith .add (V 51) (I 1)),M 9 52]
@[simp] theorem law04_DiskPlays_r7_go : type_of% (ops_go law04_DiskPlays_r7.eq_1 T K fr S) := ops_go law04_DiskPlays_r7.eq_1 T K fr S
def law04_DiskPlays_l0 : PCode :=
  (.seq (.seq (.clr [(43, 50)] (.region law04_DiskPlays_r6)) (.cond (V 50) .skip (.exit 0))) (.seq (.block 1 (.seq (.clr [(53, 62)] (.region law04_DiskPlays_r8)) (.seq (.clr [(62, 72)] (.region law04_DiskPlays_r9)) (.seq (.seq (.clr [(72, 87)] (.region law04_DiskPlays_r10)) (.cond (V 87) (.seq (.region law04_DiskPlays_r11) .ret) .skip)) (.seq (.seq (.region law04_DiskPlays_r12) (.block 2 (.loop law04_DiskPlays_l1))) (.clr [(102, 103)] (.region law04_DiskPlays_r16))))))) (.clr [(51, 53)] (.region law04_DiskPlays_r7))))
@[simp] theorem law04_DiskPlays_l0_go : type_of% (code_go law04_DiskPlays_l0.eq_1 T K fr S) := code_go law04_DiskPlays_l0.eq_1 T K fr S
def law04_DiskPlays_r17 : List POper := [M 103 5,Q 104 (.load true 7 false (V 7)),Q 105 (.call .std 21 [(V 103), (V 104)]),M 106 105,QG (some 107) (.call .pur 18 []) 106 true,Q 108 (.pick (V 106) (V 107) ff'),M 4 108]
@[simp] theorem law04_DiskPlays_r17_go : type_of% (ops_go law04_DiskPlays_r17.eq_1 T K fr S) := ops_go law04_DiskPlays_r17.eq_1 T K fr S
def law04_DiskPlays : PCodeFn :=
  ⟨2, [.tmp 4],
  (.seq (.region law04_DiskPlays_r0) (.seq (.clr [(16, 21)] (.region law04_DiskPlays_r1)) (.seq (.clr [(21, 26)] (.region law04_DiskPlays_r2)) (.seq (.seq (.clr [(26, 32)] (.region law04_DiskPlays_r3)) (.cond (V 32) (.seq (.clr [(33, 43)] (.region law04_DiskPlays_r4)) .ret) .skip)) (.seq (.seq (.region law04_DiskPlays_r5) (.block 0 (.loop law04_DiskPlays_l0))) (.seq (.clr [(103, 109)] (.region law04_DiskPlays_r17)) .ret)))))), false⟩

def law04_DiskRefuses_r0 : List POper := [Q 5 (.box true (V 2)),Q 6 (.mov ff')]
@[simp] theorem law04_DiskRefuses_r0_go : type_of% (ops_go law04_DiskRefuses_r0.eq_1 T K fr S) := ops_go law04_DiskRefuses_r0.eq_1 T K fr S
def law04_DiskRefuses_r1 : List POper := [M 19 0,M 20 1,Q 21 (.call .std 466 [(V 19), (V 20)]),M 7 21]
@[simp] theorem law04_DiskRefuses_r1_go : type_of% (ops_go law04_DiskRefuses_r1.eq_1 T K fr S) := ops_go law04_DiskRefuses_r1.eq_1 T K fr S
def law04_DiskRefuses_r2 : List POper := [M 22 7,Q 23 (.eqn false .p (V 22)),M 24 23,QG (some 25) (.faddr 0 (V 5)) 24 false,QG (some 26) (.load false 1 false (V 25)) 24 false,QG (some 27) (.arith .lss (V 26) (I 1)) 24 false,Q 28 (.pick (V 24) tt' (V 27)),M 29 28,QG (some 30) (.faddr 0 (V 5)) 29 false,QG (some 31) (.load false 1 false (V 30)) 29 false,QG (some 32) (.arith .gtr (V 31) (I 6)) 29 false,Q 33 (.pick (V 29) tt' (V 32))]
@[simp] theorem law04_DiskRefuses_r2_go : type_of% (ops_go law04_DiskRefuses_r2.eq_1 T K fr S) := ops_go law04_DiskRefuses_r2.eq_1 T K fr S
def law04_DiskRefuses_r3 : List POper := [Q 34 (.call .pur 18 []),M 6 34]
@[simp] theorem law04_DiskRefuses_r3_go : type_of% (ops_go law04_DiskRefuses_r3.eq_1 T K fr S) := ops_go law04_DiskRefuses_r3.eq_1 T K fr S
def law04_DiskRefuses_r4 : List POper := [M 35 7,Q 36 (.call .std 90 [(V 35)]),M 37 7,Q 38 (.call .std 93 [(V 37)]),M 8 36,M 9 38]
@[simp] theorem law04_DiskRefuses_r4_go : type_of% (ops_go law04_DiskRefuses_r4.eq_1 T K fr S) := ops_go law04_DiskRefuses_r4.eq_1 T K fr S
def law04_DiskRefuses_r5 : List POper := [Q 10 (.mov (.cst .nils))]
@[simp] theorem law04_DiskRefuses_r5_go : type_of% (ops_go law04_DiskRefuses_r5.eq_1 T K fr S) := ops_go law04_DiskRefuses_r5.eq_1 T K fr S
def law04_DiskRefuses_r6 : List POper := [Q 11 (.mov (I 0))]
@[simp] theorem law04_DiskRefuses_r6_go : type_of% (ops_go law04_DiskRefuses_r6.eq_1 T K fr S) := ops_go law04_DiskRefuses_r6.eq_1 T K fr S
def law04_DiskRefuses_r7 : List POper := [M 39 11,M 40 8,Q 41 (.len false (V 40)),Q 42 (.arith .lss (V 39) (V 41))]
@[simp] theorem law04_DiskRefuses_r7_go : type_of% (ops_go law04_DiskRefuses_r7.eq_1 T K fr S) := ops_go law04_DiskRefuses_r7.eq_1 T K fr S
def law04_DiskRefuses_r9 : List POper := [M 46 7,M 47 8,M 48 11,Q 49 (.iaddr 1 (V 47) (V 48)),LD 50 49,Q 51 (.call .std 81 [(V 46), (V 50)]),M 45 51,EX 52 0 45,EX 53 1 45,M 12 52,M 13 53]
@[simp] theorem law04_DiskRefuses_r9_go : type_of% (ops_go law04_DiskRefuses_r9.eq_1 T K fr S) := ops_go law04_DiskRefuses_r9.eq_1 T K fr S
def law04_DiskRefuses_r10 : List POper := [M 54 10,M 55 12,Q 56 (.bsl false .nils 1 [(0, (V 55))]),Q 57 (.app 1 24 (V 54) (V 56)),M 10 57]
@[simp] theorem law04_DiskRefuses_r10_go : type_of% (ops_go law04_DiskRefuses_r10.eq_1 T K fr S) := ops_go law04_DiskRefuses_r10.eq_1 T K fr S
def law04_DiskRefuses_r8 : List POper := [M 43 11,Q 44 (.arith .add (V 43) (I 1)),M 11 44]
@[simp] theorem law04_DiskRefuses_r8_go : type_of% (ops_go law04_DiskRefuses_r8.eq_1 T K fr S) := ops_go law04_DiskRefuses_r8.eq_1 T K fr S
def law04_DiskRefuses_l0 : PCode :=
  (.seq (.seq (.clr [(39, 42)] (.region law04_DiskRefuses_r7)) (.cond (V 42) .skip (.exit 0))) (.seq (.block 1 (.seq (.clr [(13, 14), (45, 54)] (.region law04_DiskRefuses_r9)) (.clr [(54, 58)] (.region law04_DiskRefuses_r10)))) (.clr [(43, 45)] (.region law04_DiskRefuses_r8))))
@[simp] theorem law04_DiskRefuses_l0_go : type_of% (code_go law04_DiskRefuses_l0.eq_1 T K fr S) := code_go law04_DiskRefuses_l0.eq_1 T K fr S
def law04_DiskRefuses_r11 : List POper := [M 59 7,Q 60 (.load true 6 false (V 5)),Q 61 (.call .std 19 [(V 59), (V 60)]),M 58 61,EX 62 0 58,EX 63 1 58,M 14 62,M 15 63]
@[simp] theorem law04_DiskRefuses_r11_go : type_of% (ops_go law04_DiskRefuses_r11.eq_1 T K fr S) := ops_go law04_DiskRefuses_r11.eq_1 T K fr S
def law04_DiskRefuses_r12 : List POper := [M 64 14,Q 65 (.arith .eql (V 64) (I 0))]
@[simp] theorem law04_DiskRefuses_r12_go : type_of% (ops_go law04_DiskRefuses_r12.eq_1 T K fr S) := ops_go law04_DiskRefuses_r12.eq_1 T K fr S
def law04_DiskRefuses_r13 : List POper := [M 66 7,Q 67 (.call .std 93 [(V 66)]),M 68 9,Q 69 (.arith .add (V 68) (I 1)),Q 70 (.arith .eql (V 67) (V 69)),M 71 70,QG (some 72) (.call .pur 18 []) 71 true,Q 73 (.pick (V 71) (V 72) ff'),M 6 73]
@[simp] theorem law04_DiskRefuses_r13_go : type_of% (ops_go law04_DiskRefuses_r13.eq_1 T K fr S) := ops_go law04_DiskRefuses_r13.eq_1 T K fr S
def law04_DiskRefuses_r14 : List POper := [M 74 7,Q 75 (.call .std 93 [(V 74)]),M 76 9,Q 77 (.arith .neq (V 75) (V 76))]
@[simp] theorem law04_DiskRefuses_r14_go : type_of% (ops_go law04_DiskRefuses_r14.eq_1 T K fr S) := ops_go law04_DiskRefuses_r14.eq_1 T K fr S
def law04_DiskRefuses_r15 : List POper := [Q 6 (.mov ff')]
@[simp] theorem law04_DiskRefuses_r15_go : type_of% (ops_go law04_DiskRefuses_r15.eq_1 T K fr S) := ops_go law04_DiskRefuses_r15.eq_1 T K fr S
def law04_DiskRefuses_r16 : List POper := [M 78 14,Q 79 (.arith .eql (V 78) (I 6))]
@[simp] theorem law04_DiskRefuses_r16_go : type_of% (ops_go law04_DiskRefuses_r16.eq_1 T K fr S) := ops_go law04_DiskRefuses_r16.eq_1 T K fr S
def law04_DiskRefuses_r17 : List POper := [M 80 7,Q 81 (.call .std 90 [(V 80)]),Q 82 (.len false (V 81)),Q 83 (.arith .eql (V 82) (I 0)),M 84 83,QG (some 85) (.call .pur 18 []) 84 true,Q 86 (.pick (V 84) (V 85) ff'),M 6 86]
@[simp] theorem law04_DiskRefuses_r17_go : type_of% (ops_go law04_DiskRefuses_r17.eq_1 T K fr S) := ops_go law04_DiskRefuses_r17.eq_1 T K fr S
def law04_DiskRefuses_r18 : List POper := [M 87 7,Q 88 (.call .std 90 [(V 87)]),M 89 8,Q 90 (.call .std 91 [(V 88), (V 89)]),Q 91 (.un .not (V 90))]
@[simp] theorem law04_DiskRefuses_r18_go : type_of% (ops_go law04_DiskRefuses_r18.eq_1 T K fr S) := ops_go law04_DiskRefuses_r18.eq_1 T K fr S
def law04_DiskRefuses_r19 : List POper := [Q 6 (.mov ff')]
@[simp] theorem law04_DiskRefuses_r19_go : type_of% (ops_go law04_DiskRefuses_r19.eq_1 T K fr S) := ops_go law04_DiskRefuses_r19.eq_1 T K fr S
def law04_DiskRefuses_r20 : List POper := [Q 16 (.mov (I 0))]
@[simp] theorem law04_DiskRefuses_r20_go : type_of% (ops_go law04_DiskRefuses_r20.eq_1 T K fr S) := ops_go law04_DiskRefuses_r20.eq_1 T K fr S
def law04_DiskRefuses_r21 : List POper := [M 92 16,M 93 8,Q 94 (.len false (V 93)),Q 95 (.arith .lss (V 92) (V 94))]
@[simp] theorem law04_DiskRefuses_r21_go : type_of% (ops_go law04_DiskRefuses_r21.eq_1 T K fr S) := ops_go law04_DiskRefuses_r21.eq_1 T K fr S
def law04_DiskRefuses_r23 : List POper := [M 99 7,M 100 8,M 101 16,Q 102 (.iaddr 1 (V 100) (V 101)),LD 103 102,Q 104 (.call .std 81 [(V 99), (V 103)]),M 98 104,EX 105 0 98,EX 106 1 98,M 17 105,M 18 106]
@[simp] theorem law04_DiskRefuses_r23_go : type_of% (ops_go law04_DiskRefuses_r23.eq_1 T K fr S) := ops_go law04_DiskRefuses_r23.eq_1 T K fr S
def law04_DiskRefuses_r24 : List POper := [M 107 17,Q 108 (.toStr (V 107)),M 109 10,M 110 16,Q 111 (.iaddr 1 (V 109) (V 110)),Q 112 (.load false 1 true (V 111)),Q 113 (.toStr (V 112)),Q 114 (.arith .neq (V 108) (V 113))]
@[simp] theorem law04_DiskRefuses_r24_go : type_of% (ops_go law04_DiskRefuses_r24.eq_1 T K fr S) := ops_go law04_DiskRefuses_r24.eq_1 T K fr S
def law04_DiskRefuses_r25 : List POper := [Q 6 (.mov ff')]
@[simp] theorem law04_DiskRefuses_r25_go : type_of% (ops_go law04_DiskRefuses_r25.eq_1 T K fr S) := ops_go law04_DiskRefuses_r25.eq_1 T K fr S
def law04_DiskRefuses_r22 : List POper := [M 96 16,Q 97 (.arith .add (V 96) (I 1)),M 16 97]
@[simp] theorem law04_DiskRefuses_r22_go : type_of% (ops_go law04_DiskRefuses_r22.eq_1 T K fr S) := ops_go law04_DiskRefuses_r22.eq_1 T K fr S
def law04_DiskRefuses_l1 : PCode :=
  (.seq (.seq (.clr [(92, 95)] (.region law04_DiskRefuses_r21)) (.cond (V 95) .skip (.exit 2))) (.seq (.block 3 (.seq (.clr [(18, 19), (98, 107)] (.region law04_DiskRefuses_r23)) (.seq (.clr [(107, 114)] (.region law04_DiskRefuses_r24)) (.cond (V 114) (.seq (.region law04_DiskRefuses_r25) .ret) .skip)))) (.clr [(96, 98)] (.region law04_DiskRefuses_r22))))
@[simp] theorem law04_DiskRefuses_l1_go : type_of% (code_go law04_DiskRefuses_l1.eq_1 T K fr S) := code_go law04_DiskRefuses_l1.eq_1 T K fr S
def law04_DiskRefuses_r26 : List POper := [Q 115 (.call .pur 18 []),M 6 115]
@[simp] theorem law04_DiskRefuses_r26_go : type_of% (ops_go law04_DiskRefuses_r26.eq_1 T K fr S) := ops_go law04_DiskRefuses_r26.eq_1 T K fr S
def law04_DiskRefuses : PCodeFn :=
  ⟨3, [.tmp 6],
  (.seq (.region law04_DiskRefuses_r0) (.seq (.clr [(19, 22)] (.region law04_DiskRefuses_r1)) (.seq (.seq (.clr [(22, 33)] (.region law04_DiskRefuses_r2)) (.cond (V 33) (.seq (.clr [(34, 35)] (.region law04_DiskRefuses_r3)) .ret) .skip)) (.seq (.clr [(35, 39)] (.region law04_DiskRefuses_r4)) (.seq (.region law04_DiskRefuses_r5) (.seq (.seq (.region law04_DiskRefuses_r6) (.block 0 (.loop law04_DiskRefuses_l0))) (.seq (.clr [(15, 16), (58, 64)] (.region law04_DiskRefuses_r11)) (.seq (.seq (.clr [(64, 65)] (.region law04_DiskRefuses_r12)) (.cond (V 65) (.seq (.clr [(66, 74)] (.region law04_DiskRefuses_r13)) .ret) .skip)) (.seq (.seq (.clr [(74, 77)] (.region law04_DiskRefuses_r14)) (.cond (V 77) (.seq (.region law04_DiskRefuses_r15) .ret) .skip)) (.seq (.seq (.clr [(78, 79)] (.region law04_DiskRefuses_r16)) (.cond (V 79) (.seq (.clr [(80, 87)] (.region law04_DiskRefuses_r17)) .ret) .skip)) (.seq (.seq (.clr [(87, 91)] (.region law04_DiskRefuses_r18)) (.cond (V 91) (.seq (.region law04_DiskRefuses_r19) .ret) .skip)) (.seq (.seq (.region law04_DiskRefuses_r20) (.block 2 (.loop law04_DiskRefuses_l1))) (.seq (.clr [(115, 116)] (.region law04_DiskRefuses_r26)) .ret))))))))))))), false⟩

def law04_DiskDark_r0 : List POper := [Q 6 (.mov ff')]
@[simp] theorem law04_DiskDark_r0_go : type_of% (ops_go law04_DiskDark_r0.eq_1 T K fr S) := ops_go law04_DiskDark_r0.eq_1 T K fr S
def law04_DiskDark_r1 : List POper := [M 12 0,M 13 1,Q 14 (.call .std 466 [(V 12), (V 13)]),M 7 14]
@[simp] theorem law04_DiskDark_r1_go : type_of% (ops_go law04_DiskDark_r1.eq_1 T K fr S) := ops_go law04_DiskDark_r1.eq_1 T K fr S
def law04_DiskDark_r2 : List POper := [M 15 7,Q 16 (.eqn false .p (V 15))]
@[simp] theorem law04_DiskDark_r2_go : type_of% (ops_go law04_DiskDark_r2.eq_1 T K fr S) := ops_go law04_DiskDark_r2.eq_1 T K fr S
def law04_DiskDark_r3 : List POper := [Q 17 (.call .pur 18 []),M 6 17]
@[simp] theorem law04_DiskDark_r3_go : type_of% (ops_go law04_DiskDark_r3.eq_1 T K fr S) := ops_go law04_DiskDark_r3.eq_1 T K fr S
def law04_DiskDark_r4 : List POper := [M 18 7,Q 19 (.call .std 85 [(V 18), (I 0)])]
@[simp] theorem law04_DiskDark_r4_go : type_of% (ops_go law04_DiskDark_r4.eq_1 T K fr S) := ops_go law04_DiskDark_r4.eq_1 T K fr S
def law04_DiskDark_r5 : List POper := [M 20 7,Q 21 (.call .std 79 [(V 20)]),Q 22 (.arith .neq (V 21) (I 6))]
@[simp] theorem law04_DiskDark_r5_go : type_of% (ops_go law04_DiskDark_r5.eq_1 T K fr S) := ops_go law04_DiskDark_r5.eq_1 T K fr S
def law04_DiskDark_r6 : List POper := [Q 6 (.mov ff')]
@[simp] theorem law04_DiskDark_r6_go : type_of% (ops_go law04_DiskDark_r6.eq_1 T K fr S) := ops_go law04_DiskDark_r6.eq_1 T K fr S
def law04_DiskDark_r7 : List POper := [M 23 7,Q 24 (.call .std 93 [(V 23)]),M 8 24]
@[simp] theorem law04_DiskDark_r7_go : type_of% (ops_go law04_DiskDark_r7.eq_1 T K fr S) := ops_go law04_DiskDark_r7.eq_1 T K fr S
def law04_DiskDark_r8 : List POper := [Q 9 (.mov (I 0))]
@[simp] theorem law04_DiskDark_r8_go : type_of% (ops_go law04_DiskDark_r8.eq_1 T K fr S) := ops_go law04_DiskDark_r8.eq_1 T K fr S
def law04_DiskDark_r9 : List POper := [M 25 9,M 26 2,Q 27 (.len false (V 26)),Q 28 (.arith .lss (V 25) (V 27)),M 29 28,QG (some 30) (.mov (V 9)) 29 true,QG (some 31) (.arith .lss (V 30) (I 15)) 29 true,Q 32 (.pick (V 29) (V 31) ff')]
@[simp] theorem law04_DiskDark_r9_go : type_of% (ops_go law04_DiskDark_r9.eq_1 T K fr S) := ops_go law04_DiskDark_r9.eq_1 T K fr S
def law04_DiskDark_r11 : List POper := [M 35 2,M 36 9,Q 37 (.iaddr 6 (V 35) (V 36)),FA 38 0 37,LD 39 38,Q 40 (.arith .geq (V 39) (I 1)),M 41 40,QG (some 42) (.mov (V 2)) 41 true,QG (some 43) (.mov (V 9)) 41 true,QG (some 44) (.iaddr 6 (V 42) (V 43)) 41 true,QG (some 45) (.faddr 0 (V 44)) 41 true,QG (some 46) (.load false 1 false (V 45)) 41 true,QG (some 47) (.arith .leq (V 46) (I 7)) 41 true,Q 48 (.pick (V 41) (V 47) ff')]
@[simp] theorem law04_DiskDark_r11_go : type_of% (ops_go law04_DiskDark_r11.eq_1 T K fr S) := ops_go law04_DiskDark_r11.eq_1 T K fr S
def law04_DiskDark_r12 : List POper := [M 50 7,M 51 2,M 52 9,Q 53 (.iaddr 6 (V 51) (V 52)),Q 54 (.load true 6 false (V 53)),Q 55 (.call .std 19 [(V 50), (V 54)]),M 49 55,EX 56 0 49,EX 57 1 49,M 10 56,M 11 57]
@[simp] theorem law04_DiskDark_r12_go : type_of% (ops_go law04_DiskDark_r12.eq_1 T K fr S) := ops_go law04_DiskDark_r12.eq_1 T K fr S
def law04_DiskDark_r13 : List POper := [M 58 10,Q 59 (.arith .eql (V 58) (I 0)),M 60 59,QG (some 61) (.mov (V 11)) 60 false,QG (some 62) (.len false (V 61)) 60 false,QG (some 63) (.arith .gtr (V 62) (I 0)) 60 false,Q 64 (.pick (V 60) tt' (V 63))]
@[simp] theorem law04_DiskDark_r13_go : type_of% (ops_go law04_DiskDark_r13.eq_1 T K fr S) := ops_go law04_DiskDark_r13.eq_1 T K fr S
def law04_DiskDark_r14 : List POper := [Q 6 (.mov ff')]
@[simp] theorem law04_DiskDark_r14_go : type_of% (ops_go law04_DiskDark_r14.eq_1 T K fr S) := ops_go law04_DiskDark_r14.eq_1 T K fr S
def law04_DiskDark_r10 : List POper := [M 33 9,Q 34 (.arith .add (V 33) (I 1)),M 9 34]
@[simp] theorem law04_DiskDark_r10_go : type_of% (ops_go law04_DiskDark_r10.eq_1 T K fr S) := ops_go law04_DiskDark_r10.eq_1 T K fr S
def law04_DiskDark_l0 : PCode :=
  (.seq (.seq (.clr [(25, 32)] (.region law04_DiskDark_r9)) (.cond (V 32) .skip (.exit 0))) (.seq (.block 1 (.seq (.clr [(35, 48)] (.region law04_DiskDark_r11)) (.cond (V 48) (.seq (.clr [(49, 58)] (.region law04_DiskDark_r12)) (.seq (.clr [(58, 64)] (.region law04_DiskDark_r13)) (.cond (V 64) (.seq (.region law04_DiskDark_r14) .ret) .skip))) .skip))) (.clr [(33, 35)] (.region law04_DiskDark_r10))))
@[simp] theorem law04_DiskDark_l0_go : type_of% (code_go law04_DiskDark_l0.eq_1 T K fr S) := code_go law04_DiskDark_l0.eq_1 T K fr S
def law04_DiskDark_r15 : List POper := [M 65 7,Q 66 (.call .std 93 [(V 65)]),M 67 8,Q 68 (.arith .neq (V 66) (V 67)),M 69 68,QG (some 70) (.mov (V 7)) 69 false,QG (some 71) (.call .std 90 [(V 70)]) 69 false,QG (some 72) (.len false (V 71)) 69 false,QG (some 73) (.arith .neq (V 72) (I 0)) 69 false,Q 74 (.pick (V 69) tt' (V 73))]
@[simp] theorem law04_DiskDark_r15_go : type_of% (ops_go law04_DiskDark_r15.eq_1 T K fr S) := ops_go law04_DiskDark_r15.eq_1 T K fr S
def law04_DiskDark_r16 : List POper := [Q 6 (.mov ff')]
@[simp] theorem law04_DiskDark_r16_go : type_of% (ops_go law04_DiskDark_r16.eq_1 T K fr S) := ops_go law04_DiskDark_r16.eq_1 T K fr S
def law04_DiskDark_r17 : List POper := [M 75 7,Q 76 (.call .std 80 [(V 75), (I 0), (.cst .nils)])]
@[simp] theorem law04_DiskDark_r17_go : type_of% (ops_go law04_DiskDark_r17.eq_1 T K fr S) := ops_go law04_DiskDark_r17.eq_1 T K fr S
def law04_DiskDark_r18 : List POper := [M 77 7,Q 78 (.call .std 79 [(V 77)]),Q 79 (.arith .eql (V 78) (I 0)),M 80 79,QG (some 81) (.mov (V 7)) 80 true,QG (some 82) (.call .std 93 [(V 81)]) 80 true,QG (some 83) (.mov (V 8)) 80 true,QG (some 84) (.arith .add (V 83) (I 1)) 80 true,QG (some 85) (.arith .eql (V 82) (V 84)) 80 true,Q 86 (.pick (V 80) (V 85) ff'),M 87 86,QG (some 88) (.call .pur 18 []) 87 true,Q 89 (.pick (V 87) (V 88) ff'),M 6 89]
@[simp] theorem law04_DiskDark_r18_go : type_of% (ops_go law04_DiskDark_r18.eq_1 T K fr S) := ops_go law04_DiskDark_r18.eq_1 T K fr S
def law04_DiskDark : PCodeFn :=
  ⟨3, [.tmp 6],
  (.seq (.region law04_DiskDark_r0) (.seq (.clr [(12, 15)] (.region law04_DiskDark_r1)) (.seq (.seq (.clr [(15, 16)] (.region law04_DiskDark_r2)) (.cond (V 16) (.seq (.clr [(17, 18)] (.region law04_DiskDark_r3)) .ret) .skip)) (.seq (.clr [(18, 20)] (.region law04_DiskDark_r4)) (.seq (.seq (.clr [(20, 22)] (.region law04_DiskDark_r5)) (.cond (V 22) (.seq (.region law04_DiskDark_r6) .ret) .skip)) (.seq (.clr [(23, 25)] (.region law04_DiskDark_r7)) (.seq (.seq (.region law04_DiskDark_r8) (.block 0 (.loop law04_DiskDark_l0))) (.seq (.seq (.clr [(65, 74)] (.region law04_DiskDark_r15)) (.cond (V 74) (.seq (.region law04_DiskDark_r16) .ret) .skip)) (.seq (.clr [(75, 77)] (.region law04_DiskDark_r17)) (.seq (.clr [(77, 90)] (.region law04_DiskDark_r18)) .ret)))))))))), false⟩

def law04_DiskCopies_r0 : List POper := [Q 6 (.mov ff')]
@[simp] theorem law04_DiskCopies_r0_go : type_of% (ops_go law04_DiskCopies_r0.eq_1 T K fr S) := ops_go law04_DiskCopies_r0.eq_1 T K fr S
def law04_DiskCopies_r1 : List POper := [M 16 0,Q 17 (.call .std 16 [(V 16)]),M 15 17,EX 18 0 15,EX 19 1 15,M 7 18,M 8 19]
@[simp] theorem law04_DiskCopies_r1_go : type_of% (ops_go law04_DiskCopies_r1.eq_1 T K fr S) := ops_go law04_DiskCopies_r1.eq_1 T K fr S
def law04_DiskCopies_r2 : List POper := [M 21 0,Q 22 (.call .pur 17 [(V 21)]),M 20 22,EX 23 0 20,EX 24 1 20,Q 9 (.alloc false [(.int .i64 0), .nils, .nils, .nils, (.int .i64 0), (.bool false), (.int .i64 0)]),QN (.store 7 (V 9) (V 23)),M 10 24]
@[simp] theorem law04_DiskCopies_r2_go : type_of% (ops_go law04_DiskCopies_r2.eq_1 T K fr S) := ops_go law04_DiskCopies_r2.eq_1 T K fr S
def law04_DiskCopies_r3 : List POper := [M 25 8,Q 26 (.arith .neq (V 25) (I 0)),M 27 26,QG (some 28) (.mov (V 10)) 27 false,QG (some 29) (.arith .neq (V 28) (I 0)) 27 false,Q 30 (.pick (V 27) tt' (V 29))]
@[simp] theorem law04_DiskCopies_r3_go : type_of% (ops_go law04_DiskCopies_r3.eq_1 T K fr S) := ops_go law04_DiskCopies_r3.eq_1 T K fr S
def law04_DiskCopies_r4 : List POper := [M 31 8,M 32 10,Q 33 (.arith .eql (V 31) (V 32)),M 34 33,QG (some 35) (.call .pur 18 []) 34 true,Q 36 (.pick (V 34) (V 35) ff'),M 6 36]
@[simp] theorem law04_DiskCopies_r4_go : type_of% (ops_go law04_DiskCopies_r4.eq_1 T K fr S) := ops_go law04_DiskCopies_r4.eq_1 T K fr S
def law04_DiskCopies_r5 : List POper := [Q 11 (.mov (I 0))]
@[simp] theorem law04_DiskCopies_r5_go : type_of% (ops_go law04_DiskCopies_r5.eq_1 T K fr S) := ops_go law04_DiskCopies_r5.eq_1 T K fr S
def law04_DiskCopies_r6 : List POper := [M 37 11,M 38 1,Q 39 (.len false (V 38)),Q 40 (.arith .lss (V 37) (V 39)),M 41 40,QG (some 42) (.mov (V 11)) 41 true,QG (some 43) (.arith .lss (V 42) (I 30)) 41 true,Q 44 (.pick (V 41) (V 43) ff')]
@[simp] theorem law04_DiskCopies_r6_go : type_of% (ops_go law04_DiskCopies_r6.eq_1 T K fr S) := ops_go law04_DiskCopies_r6.eq_1 T K fr S
def law04_DiskCopies_r8 : List POper := [M 47 7,M 48 1,M 49 11,Q 50 (.iaddr 6 (V 48) (V 49)),Q 51 (.load true 6 false (V 50)),Q 52 (.call .std 19 [(V 47), (V 51)])]
@[simp] theorem law04_DiskCopies_r8_go : type_of% (ops_go law04_DiskCopies_r8.eq_1 T K fr S) := ops_go law04_DiskCopies_r8.eq_1 T K fr S
def law04_DiskCopies_r9 : List POper := [Q 54 (.load true 7 false (V 9)),M 55 1,M 56 11,Q 57 (.iaddr 6 (V 55) (V 56)),Q 58 (.load true 6 true (V 57)),Q 59 (.call .std 20 [(V 54), (V 58)]),M 53 59,EX 60 0 53,EX 61 1 53,EX 62 2 53,QN (.store 7 (V 9) (V 60))]
@[simp] theorem law04_DiskCopies_r9_go : type_of% (ops_go law04_DiskCopies_r9.eq_1 T K fr S) := ops_go law04_DiskCopies_r9.eq_1 T K fr S
def law04_DiskCopies_r7 : List POper := [M 45 11,Q 46 (.arith .add (V 45) (I 1)),M 11 46]
@[simp] theorem law04_DiskCopies_r7_go : type_of% (ops_go law04_DiskCopies_r7.eq_1 T K fr S) := ops_go law04_DiskCopies_r7.eq_1 T K fr S
def law04_DiskCopies_l0 : PCode :=
  (.seq (.seq (.clr [(37, 44)] (.region law04_DiskCopies_r6)) (.cond (V 44) .skip (.exit 0))) (.seq (.block 1 (.seq (.clr [(47, 53)] (.region law04_DiskCopies_r8)) (.clr [(53, 63)] (.region law04_DiskCopies_r9)))) (.clr [(45, 47)] (.region law04_DiskCopies_r7))))
@[simp] theorem law04_DiskCopies_l0_go : type_of% (code_go law04_DiskCopies_l0.eq_1 T K fr S) := code_go law04_DiskCopies_l0.eq_1 T K fr S
def law04_DiskCopies_r10 : List POper := [M 63 7,Q 64 (.call .std 462 [(V 63)]),M 12 64]
@[simp] theorem law04_DiskCopies_r10_go : type_of% (ops_go law04_DiskCopies_r10.eq_1 T K fr S) := ops_go law04_DiskCopies_r10.eq_1 T K fr S
def law04_DiskCopies_r11 : List POper := [M 65 12,Q 66 (.eqn false .p (V 65))]
@[simp] theorem law04_DiskCopies_r11_go : type_of% (ops_go law04_DiskCopies_r11.eq_1 T K fr S) := ops_go law04_DiskCopies_r11.eq_1 T K fr S
def law04_DiskCopies_r12 : List POper := [Q 6 (.mov ff')]
@[simp] theorem law04_DiskCopies_r12_go : type_of% (ops_go law04_DiskCopies_r12.eq_1 T K fr S) := ops_go law04_DiskCopies_r12.eq_1 T K fr S
def law04_DiskCopies_r13 : List POper := [Q 67 (.load true 7 false (V 9)),Q 13 (.alloc false [(.int .i64 0), .nils, .nils, .nils, (.int .i64 0), (.bool false), (.int .i64 0)]),QN (.store 7 (V 13) (V 67))]
@[simp] theorem law04_DiskCopies_r13_go : type_of% (ops_go law04_DiskCopies_r13.eq_1 T K fr S) := ops_go law04_DiskCopies_r13.eq_1 T K fr S
def law04_DiskCopies_r14 : List POper := [Q 14 (.mov (I 0))]
@[simp] theorem law04_DiskCopies_r14_go : type_of% (ops_go law04_DiskCopies_r14.eq_1 T K fr S) := ops_go law04_DiskCopies_r14.eq_1 T K fr S
def law04_DiskCopies_r15 : List POper := [M 68 14,M 69 2,Q 70 (.len false (V 69)),Q 71 (.arith .lss (V 68) (V 70)),M 72 71,QG (some 73) (.mov (V 14)) 72 true,QG (some 74) (.arith .lss (V 73) (I 15)) 72 true,Q 75 (.pick (V 72) (V 74) ff')]
@[simp] theorem law04_DiskCopies_r15_go : type_of% (ops_go law04_DiskCopies_r15.eq_1 T K fr S) := ops_go law04_DiskCopies_r15.eq_1 T K fr S
def law04_DiskCopies_r17 : List POper := [M 78 12,M 79 2,M 80 14,Q 81 (.iaddr 6 (V 79) (V 80)),Q 82 (.load true 6 false (V 81)),Q 83 (.call .std 19 [(V 78), (V 82)])]
@[simp] theorem law04_DiskCopies_r17_go : type_of% (ops_go law04_DiskCopies_r17.eq_1 T K fr S) := ops_go law04_DiskCopies_r17.eq_1 T K fr S
def law04_DiskCopies_r18 : List POper := [Q 85 (.load true 7 false (V 13)),M 86 2,M 87 14,Q 88 (.iaddr 6 (V 86) (V 87)),Q 89 (.load true 6 true (V 88)),Q 90 (.call .std 20 [(V 85), (V 89)]),M 84 90,EX 91 0 84,EX 92 1 84,EX 93 2 84,QN (.store 7 (V 13) (V 91))]
@[simp] theorem law04_DiskCopies_r18_go : type_of% (ops_go law04_DiskCopies_r18.eq_1 T K fr S) := ops_go law04_DiskCopies_r18.eq_1 T K fr S
def law04_DiskCopies_r16 : List POper := [M 76 14,Q 77 (.arith .add (V 76) (I 1)),M 14 77]
@[simp] theorem law04_DiskCopies_r16_go : type_of% (ops_go law04_DiskCopies_r16.eq_1 T K fr S) := ops_go law04_DiskCopies_r16.eq_1 T K fr S
def law04_DiskCopies_l1 : PCode :=
  (.seq (.seq (.clr [(68, 75)] (.region law04_DiskCopies_r15)) (.cond (V 75) .skip (.exit 2))) (.seq (.block 3 (.seq (.clr [(78, 84)] (.region law04_DiskCopies_r17)) (.clr [(84, 94)] (.region law04_DiskCopies_r18)))) (.clr [(76, 78)] (.region law04_DiskCopies_r16))))
@[simp] theorem law04_DiskCopies_l1_go : type_of% (code_go law04_DiskCopies_l1.eq_1 T K fr S) := code_go law04_DiskCopies_l1.eq_1 T K fr S
def law04_DiskCopies_r19 : List POper := [M 94 7,Q 95 (.load true 7 false (V 9)),Q 96 (.call .std 21 [(V 94), (V 95)]),M 97 96,QG (some 98) (.mov (V 12)) 97 true,QG (some 99) (.load true 7 false (V 13)) 97 true,QG (some 100) (.call .std 21 [(V 98), (V 99)]) 97 true,Q 101 (.pick (V 97) (V 100) ff'),M 102 101,QG (some 103) (.call .pur 18 []) 102 true,Q 104 (.pick (V 102) (V 103) ff'),M 6 104]
@[simp] theorem law04_DiskCopies_r19_go : type_of% (ops_go law04_DiskCopies_r19.eq_1 T K fr S) := ops_go law04_DiskCopies_r19.eq_1 T K fr S
def law04_DiskCopies : PCodeFn :=
  ⟨3, [.tmp 6],
  (.seq (.region law04_DiskCopies_r0) (.seq (.clr [(15, 20)] (.region law04_DiskCopies_r1)) (.seq (.clr [(20, 25)] (.region law04_DiskCopies_r2)) (.seq (.seq (.clr [(25, 30)] (.region law04_DiskCopies_r3)) (.cond (V 30) (.seq (.clr [(31, 37)] (.region law04_DiskCopies_r4)) .ret) .skip)) (.seq (.seq (.region law04_DiskCopies_r5) (.block 0 (.loop law04_DiskCopies_l0))) (.seq (.clr [(63, 65)] (.region law04_DiskCopies_r10)) (.seq (.seq (.clr [(65, 66)] (.region law04_DiskCopies_r11)) (.cond (V 66) (.seq (.region law04_DiskCopies_r12) .ret) .skip)) (.seq (.clr [(67, 68)] (.region law04_DiskCopies_r13)) (.seq (.seq (.region law04_DiskCopies_r14) (.block 2 (.loop law04_DiskCopies_l1))) (.seq (.clr [(94, 105)] (.region law04_DiskCopies_r19)) .ret)))))))))), false⟩

def law04_DiskNil_r0 : List POper := [Q 1 (.box true (V 0)),Q 2 (.mov ff')]
@[simp] theorem law04_DiskNil_r0_go : type_of% (ops_go law04_DiskNil_r0.eq_1 T K fr S) := ops_go law04_DiskNil_r0.eq_1 T K fr S
def law04_DiskNil_r1 : List POper := [Q 3 (.mov (.cst .nilp))]
@[simp] theorem law04_DiskNil_r1_go : type_of% (ops_go law04_DiskNil_r1.eq_1 T K fr S) := ops_go law04_DiskNil_r1.eq_1 T K fr S
def law04_DiskNil_r2 : List POper := [M 8 3,Q 9 (.load true 6 false (V 1)),Q 10 (.call .std 19 [(V 8), (V 9)]),M 7 10,EX 11 0 7,EX 12 1 7,M 4 11,M 5 12]
@[simp] theorem law04_DiskNil_r2_go : type_of% (ops_go law04_DiskNil_r2.eq_1 T K fr S) := ops_go law04_DiskNil_r2.eq_1 T K fr S
def law04_DiskNil_r3 : List POper := [M 13 3,FA 14 4 1,LD 15 14,Q 16 (.call .std 85 [(V 13), (V 15)])]
@[simp] theorem law04_DiskNil_r3_go : type_of% (ops_go law04_DiskNil_r3.eq_1 T K fr S) := ops_go law04_DiskNil_r3.eq_1 T K fr S
def law04_DiskNil_r4 : List POper := [FA 17 0 1,LD 18 17,Q 19 (.arith .geq (V 18) (I 1)),M 20 19,QG (some 21) (.faddr 0 (V 1)) 20 true,QG (some 22) (.load false 1 false (V 21)) 20 true,QG (some 23) (.arith .leq (V 22) (I 7)) 20 true,Q 24 (.pick (V 20) (V 23) ff'),M 25 24,QG (some 26) (.faddr 0 (V 1)) 25 false,QG (some 27) (.load false 1 false (V 26)) 25 false,QG (some 28) (.arith .eql (V 27) (I 9)) 25 false,Q 29 (.pick (V 25) tt' (V 28)),M 6 29]
@[simp] theorem law04_DiskNil_r4_go : type_of% (ops_go law04_DiskNil_r4.eq_1 T K fr S) := ops_go law04_DiskNil_r4.eq_1 T K fr S
def law04_DiskNil_r5 : List POper := [M 30 4,Q 31 (.arith .eql (V 30) (I 1)),M 32 6,Q 33 (.eqb false (V 31) (V 32)),M 34 33,QG (some 35) (.mov (V 5)) 34 true,QG (some 36) (.len false (V 35)) 34 true,QG (some 37) (.arith .eql (V 36) (I 0)) 34 true,Q 38 (.pick (V 34) (V 37) ff'),M 39 38,QG (some 40) (.mov (V 3)) 39 true,QG (some 41) (.call .std 90 [(V 40)]) 39 true,QG (some 42) (.len false (V 41)) 39 true,QG (some 43) (.arith .eql (V 42) (I 0)) 39 true,Q 44 (.pick (V 39) (V 43) ff'),M 45 44,QG (some 46) (.mov (V 3)) 45 true,QG (some 47) (.call .std 93 [(V 46)]) 45 true,QG (some 48) (.arith .eql (V 47) (I 0)) 45 true,Q 49 (.pick (V 45) (V 48) ff'),M 50 49,QG (some 51) (.mov (V 3)) 50 true,QG (some 52) (.call .std 462 [(V 51)]) 50 true,QG (some 53) (.eqn false .p (V 52)) 50 true,Q 54 (.pick (V 50) (V 53) ff'),M 55 54,QG (some 56) (.call .pur 18 []) 55 true,Q 57 (.pick (V 55) (V 56) ff'),M 2 57]
@[simp] theorem law04_DiskNil_r5_go : type_of% (ops_go law04_DiskNil_r5.eq_1 T K fr S) := ops_go law04_DiskNil_r5.eq_1 T K fr S
def law04_DiskNil : PCodeFn :=
  ⟨1, [.tmp 2],
  (.seq (.region law04_DiskNil_r0) (.seq (.region law04_DiskNil_r1) (.seq (.clr [(7, 13)] (.region law04_DiskNil_r2)) (.seq (.clr [(13, 17)] (.region law04_DiskNil_r3)) (.seq (.clr [(17, 30)] (.region law04_DiskNil_r4)) (.seq (.clr [(30, 58)] (.region law04_DiskNil_r5)) .ret)))))), false⟩

def disk_New_r0 : List POper := [Q 2 (.mov (.cst .nilp)),Q 3 (.mov (I 0))]
@[simp] theorem disk_New_r0_go : type_of% (ops_go disk_New_r0.eq_1 T K fr S) := ops_go disk_New_r0.eq_1 T K fr S
def disk_New_r1 : List POper := [M 4 0,Q 5 (.arith .lss (V 4) (I 1)),M 6 5,QG (some 7) (.mov (V 0)) 6 false,QG (some 8) (.arith .gtr (V 7) (I 4194304)) 6 false,Q 9 (.pick (V 6) tt' (V 8))]
@[simp] theorem disk_New_r1_go : type_of% (ops_go disk_New_r1.eq_1 T K fr S) := ops_go disk_New_r1.eq_1 T K fr S
def disk_New_r2 : List POper := [Q 2 (.mov (.cst .nilp)),Q 3 (.mov (I 2))]
@[simp] theorem disk_New_r2_go : type_of% (ops_go disk_New_r2.eq_1 T K fr S) := ops_go disk_New_r2.eq_1 T K fr S
def disk_New_r3 : List POper := [M 10 0,Q 11 (.mkm),Q 12 (.mkm),Q 13 (.build [(.int .i64 0), .nilm, .nilm, .nils, (.int .i64 0), (.int .i64 0), (.bool false)] [(0, 1, (V 10)), (1, 1, (V 11)), (2, 1, (V 12)), (4, 1, (I (-1)))]),Q 14 (.box false (V 13)),M 2 14,Q 3 (.mov (I 0))]
@[simp] theorem disk_New_r3_go : type_of% (ops_go disk_New_r3.eq_1 T K fr S) := ops_go disk_New_r3.eq_1 T K fr S
def disk_New : PCodeFn :=
  ⟨1, [.tmp 2, .tmp 3],
  (.seq (.region disk_New_r0) (.seq (.seq (.clr [(4, 9)] (.region disk_New_r1)) (.cond (V 9) (.seq (.region disk_New_r2) .ret) .skip)) (.seq (.clr [(10, 15)] (.region disk_New_r3)) .ret))), false⟩

def law04_lives_r0 : List POper := [Q 0 (.mov ff')]
@[simp] theorem law04_lives_r0_go : type_of% (ops_go law04_lives_r0.eq_1 T K fr S) := ops_go law04_lives_r0.eq_1 T K fr S
def law04_lives_r1 : List POper := [Q 10 (.call .std 16 [(I 10)]),M 9 10,EX 11 0 9,EX 12 1 9,M 1 11,M 2 12]
@[simp] theorem law04_lives_r1_go : type_of% (ops_go law04_lives_r1.eq_1 T K fr S) := ops_go law04_lives_r1.eq_1 T K fr S
def law04_lives_r2 : List POper := [M 13 2,Q 14 (.arith .neq (V 13) (I 0)),M 15 14,QG (some 16) (.mov (V 1)) 15 false,QG (some 17) (.eqn false .p (V 16)) 15 false,Q 18 (.pick (V 15) tt' (V 17))]
@[simp] theorem law04_lives_r2_go : type_of% (ops_go law04_lives_r2.eq_1 T K fr S) := ops_go law04_lives_r2.eq_1 T K fr S
def law04_lives_r3 : List POper := [Q 0 (.mov ff')]
@[simp] theorem law04_lives_r3_go : type_of% (ops_go law04_lives_r3.eq_1 T K fr S) := ops_go law04_lives_r3.eq_1 T K fr S
def law04_lives_r4 : List POper := [M 19 1,Q 20 (.call .std 77 [(V 19), (.cst (.str [97]))]),M 3 20]
@[simp] theorem law04_lives_r4_go : type_of% (ops_go law04_lives_r4.eq_1 T K fr S) := ops_go law04_lives_r4.eq_1 T K fr S
def law04_lives_r5 : List POper := [M 21 1,Q 22 (.mov (.cst .und)),Q 23 (.bsl false (.int .u8 0) 5 [(0, (.cst (.int .u8 104))), (1, (.cst (.int .u8 101))), (2, (.cst (.int .u8 108))), (3, (.cst (.int .u8 108))), (4, (.cst (.int .u8 111)))]),Q 24 (.call .std 78 [(V 21), (.cst (.str [97])), (V 23)]),M 4 24]
@[simp] theorem law04_lives_r5_go : type_of% (ops_go law04_lives_r5.eq_1 T K fr S) := ops_go law04_lives_r5.eq_1 T K fr S
def law04_lives_r6 : List POper := [M 25 1,Q 26 (.call .std 79 [(V 25)]),M 5 26]
@[simp] theorem law04_lives_r6_go : type_of% (ops_go law04_lives_r6.eq_1 T K fr S) := ops_go law04_lives_r6.eq_1 T K fr S
def law04_lives_r7 : List POper := [M 27 1,Q 28 (.bsl false (.int .i64 0) 1 [(0, (I 2))]),Q 29 (.call .std 80 [(V 27), (I 0), (V 28)]),M 6 29]
@[simp] theorem law04_lives_r7_go : type_of% (ops_go law04_lives_r7.eq_1 T K fr S) := ops_go law04_lives_r7.eq_1 T K fr S
def law04_lives_r8 : List POper := [M 31 1,Q 32 (.call .std 81 [(V 31), (.cst (.str [97]))]),M 30 32,EX 33 0 30,EX 34 1 30,M 7 33,M 8 34]
@[simp] theorem law04_lives_r8_go : type_of% (ops_go law04_lives_r8.eq_1 T K fr S) := ops_go law04_lives_r8.eq_1 T K fr S
def law04_lives_r9 : List POper := [M 35 3,Q 36 (.arith .eql (V 35) (I 0)),M 37 36,QG (some 38) (.mov (V 4)) 37 true,QG (some 39) (.arith .eql (V 38) (I 0)) 37 true,Q 40 (.pick (V 37) (V 39) ff'),M 41 40,QG (some 42) (.mov (V 5)) 41 true,QG (some 43) (.arith .eql (V 42) (I 0)) 41 true,Q 44 (.pick (V 41) (V 43) ff'),M 45 44,QG (some 46) (.mov (V 6)) 45 true,QG (some 47) (.arith .eql (V 46) (I 0)) 45 true,Q 48 (.pick (V 45) (V 47) ff'),M 49 48,QG (some 50) (.mov (V 7)) 49 true,QG (some 51) (.toStrO (V 50)) 49 true,QG (some 52) (.arith .eql (V 51) (.cst (.str [104, 101]))) 49 true,Q 53 (.pick (V 49) (V 52) ff'),M 54 53,QG (some 55) (.mov (V 8)) 54 true,QG (some 56) (.arith .eql (V 55) (I 0)) 54 true,Q 57 (.pick (V 54) (V 56) ff'),M 58 57,Q 59 (.pick (V 58) tt' ff'),M 60 59,Q 61 (.pick (V 60) tt' ff'),M 62 61,Q 63 (.pick (V 62) tt' ff'),M 64 63,Q 65 (.pick (V 64) tt' ff'),M 0 65]
@[simp] theorem law04_lives_r9_go : type_of% (ops_go law04_lives_r9.eq_1 T K fr S) := ops_go law04_lives_r9.eq_1 T K fr S
def law04_lives : PCodeFn :=
  ⟨0, [.tmp 0],
  (.seq (.region law04_lives_r0) (.seq (.clr [(9, 13)] (.region law04_lives_r1)) (.seq (.seq (.clr [(13, 18)] (.region law04_lives_r2)) (.cond (V 18) (.seq (.region law04_lives_r3) .ret) .skip)) (.seq (.clr [(19, 21)] (.region law04_lives_r4)) (.seq (.clr [(21, 25)] (.region law04_lives_r5)) (.seq (.clr [(25, 27)] (.region law04_lives_r6)) (.seq (.clr [(27, 30)] (.region law04_lives_r7)) (.seq (.clr [(30, 35)] (.region law04_lives_r8)) (.seq (.clr [(35, 66)] (.region law04_lives_r9)) .ret))))))))), false⟩

def disk_Disk_Create_r0 : List POper := [Q 4 (.mov (I 0))]
@[simp] theorem disk_Disk_Create_r0_go : type_of% (ops_go disk_Disk_Create_r0.eq_1 T K fr S) := ops_go disk_Disk_Create_r0.eq_1 T K fr S
def disk_Disk_Create_r1 : List POper := [M 8 0,M 9 1,Q 10 (.call .std 194 [(V 8), (V 9)]),M 7 10,EX 11 0 7,EX 12 1 7,M 5 11,M 6 12]
@[simp] theorem disk_Disk_Create_r1_go : type_of% (ops_go disk_Disk_Create_r1.eq_1 T K fr S) := ops_go disk_Disk_Create_r1.eq_1 T K fr S
def disk_Disk_Create_r2 : List POper := [M 14 6,Q 15 (.arith .eql (V 14) (I 0)),M 13 15]
@[simp] theorem disk_Disk_Create_r2_go : type_of% (ops_go disk_Disk_Create_r2.eq_1 T K fr S) := ops_go disk_Disk_Create_r2.eq_1 T K fr S
def disk_Disk_Create_r3 : List POper := [Q 4 (.mov (I 10))]
@[simp] theorem disk_Disk_Create_r3_go : type_of% (ops_go disk_Disk_Create_r3.eq_1 T K fr S) := ops_go disk_Disk_Create_r3.eq_1 T K fr S
def disk_Disk_Create_r4 : List POper := [M 17 6,Q 18 (.arith .neq (V 17) (I 9)),M 16 18]
@[simp] theorem disk_Disk_Create_r4_go : type_of% (ops_go disk_Disk_Create_r4.eq_1 T K fr S) := ops_go disk_Disk_Create_r4.eq_1 T K fr S
def disk_Disk_Create_r5 : List POper := [M 19 6,M 4 19]
@[simp] theorem disk_Disk_Create_r5_go : type_of% (ops_go disk_Disk_Create_r5.eq_1 T K fr S) := ops_go disk_Disk_Create_r5.eq_1 T K fr S
def disk_Disk_Create_r6 : List POper := [M 21 0,NK' 22 21,FA 23 2 22,LD 24 23,Q 25 (.mlen (V 24)),Q 26 (.arith .geq (V 25) (I 64)),M 20 26]
@[simp] theorem disk_Disk_Create_r6_go : type_of% (ops_go disk_Disk_Create_r6.eq_1 T K fr S) := ops_go disk_Disk_Create_r6.eq_1 T K fr S
def disk_Disk_Create_r7 : List POper := [Q 4 (.mov (I 7))]
@[simp] theorem disk_Disk_Create_r7_go : type_of% (ops_go disk_Disk_Create_r7.eq_1 T K fr S) := ops_go disk_Disk_Create_r7.eq_1 T K fr S
def disk_Disk_Create_r8 : List POper := [M 27 0,M 28 1,Q 29 (.build [.nils, (.int .i64 0)] []),Q 30 (.box false (V 29)),Q 31 (.build [(.str []), (.str []), .nilp] [(1, 1, (V 28)), (2, 1, (V 30))]),Q 32 (.call .std 195 [(V 27), (V 31)]),M 4 32]
@[simp] theorem disk_Disk_Create_r8_go : type_of% (ops_go disk_Disk_Create_r8.eq_1 T K fr S) := ops_go disk_Disk_Create_r8.eq_1 T K fr S
def disk_Disk_Create : PCodeFn :=
  ⟨2, [.tmp 4],
  (.seq (.region disk_Disk_Create_r0) (.seq (.clr [(5, 6), (7, 13)] (.region disk_Disk_Create_r1)) (.seq (.block 0 (.seq (.clr [(14, 16)] (.region disk_Disk_Create_r2)) (.cond (V 13) (.seq (.region disk_Disk_Create_r3) .ret) (.seq (.clr [(17, 19)] (.region disk_Disk_Create_r4)) (.cond (V 16) (.seq (.clr [(19, 20)] (.region disk_Disk_Create_r5)) .ret) (.seq (.clr [(21, 27)] (.region disk_Disk_Create_r6)) (.cond (V 20) (.seq (.region disk_Disk_Create_r7) .ret) .skip))))))) (.seq (.clr [(27, 33)] (.region disk_Disk_Create_r8)) .ret)))), false⟩

def disk_Disk_Append_r0 : List POper := [Q 6 (.mov (I 0))]
@[simp] theorem disk_Disk_Append_r0_go : type_of% (ops_go disk_Disk_Append_r0.eq_1 T K fr S) := ops_go disk_Disk_Append_r0.eq_1 T K fr S
def disk_Disk_Append_r1 : List POper := [M 14 0,M 15 1,Q 16 (.call .std 194 [(V 14), (V 15)]),M 13 16,EX 17 0 13,EX 18 1 13,M 7 17,M 8 18]
@[simp] theorem disk_Disk_Append_r1_go : type_of% (ops_go disk_Disk_Append_r1.eq_1 T K fr S) := ops_go disk_Disk_Append_r1.eq_1 T K fr S
def disk_Disk_Append_r2 : List POper := [M 19 8,Q 20 (.arith .neq (V 19) (I 0))]
@[simp] theorem disk_Disk_Append_r2_go : type_of% (ops_go disk_Disk_Append_r2.eq_1 T K fr S) := ops_go disk_Disk_Append_r2.eq_1 T K fr S
def disk_Disk_Append_r3 : List POper := [M 21 8,M 6 21]
@[simp] theorem disk_Disk_Append_r3_go : type_of% (ops_go disk_Disk_Append_r3.eq_1 T K fr S) := ops_go disk_Disk_Append_r3.eq_1 T K fr S
def disk_Disk_Append_r4 : List POper := [M 22 0,NK' 23 22,FA 24 0 23,LD 25 24,M 9 25]
@[simp] theorem disk_Disk_Append_r4_go : type_of% (ops_go disk_Disk_Append_r4.eq_1 T K fr S) := ops_go disk_Disk_Append_r4.eq_1 T K fr S
def disk_Disk_Append_r5 : List POper := [M 26 0,NK' 27 26,FA 28 2 27,LD 29 28]
@[simp] theorem disk_Disk_Append_r5_go : type_of% (ops_go disk_Disk_Append_r5.eq_1 T K fr S) := ops_go disk_Disk_Append_r5.eq_1 T K fr S
def disk_Disk_Append_r7 : List POper := [EX 34 1 33,M 11 34]
@[simp] theorem disk_Disk_Append_r7_go : type_of% (ops_go disk_Disk_Append_r7.eq_1 T K fr S) := ops_go disk_Disk_Append_r7.eq_1 T K fr S
def disk_Disk_Append_r8 : List POper := [M 35 9,M 36 11,NK' 37 36,FA 38 0 37,LD 39 38,Q 40 (.len false (V 39)),Q 41 (.arith .sub (V 35) (V 40)),M 9 41]
@[simp] theorem disk_Disk_Append_r8_go : type_of% (ops_go disk_Disk_Append_r8.eq_1 T K fr S) := ops_go disk_Disk_Append_r8.eq_1 T K fr S
def disk_Disk_Append_r9 : List POper := [M 42 2,Q 43 (.len false (V 42)),M 44 9,Q 45 (.arith .gtr (V 43) (V 44))]
@[simp] theorem disk_Disk_Append_r9_go : type_of% (ops_go disk_Disk_Append_r9.eq_1 T K fr S) := ops_go disk_Disk_Append_r9.eq_1 T K fr S
def disk_Disk_Append_r10 : List POper := [Q 6 (.mov (I 7))]
@[simp] theorem disk_Disk_Append_r10_go : type_of% (ops_go disk_Disk_Append_r10.eq_1 T K fr S) := ops_go disk_Disk_Append_r10.eq_1 T K fr S
def disk_Disk_Append_r11 : List POper := [M 46 0,Q 47 (.call .std 196 [(V 46)]),M 12 47]
@[simp] theorem disk_Disk_Append_r11_go : type_of% (ops_go disk_Disk_Append_r11.eq_1 T K fr S) := ops_go disk_Disk_Append_r11.eq_1 T K fr S
def disk_Disk_Append_r12 : List POper := [M 48 12,Q 49 (.arith .neq (V 48) (I 0))]
@[simp] theorem disk_Disk_Append_r12_go : type_of% (ops_go disk_Disk_Append_r12.eq_1 T K fr S) := ops_go disk_Disk_Append_r12.eq_1 T K fr S
def disk_Disk_Append_r13 : List POper := [M 50 12,M 6 50]
@[simp] theorem disk_Disk_Append_r13_go : type_of% (ops_go disk_Disk_Append_r13.eq_1 T K fr S) := ops_go disk_Disk_Append_r13.eq_1 T K fr S
def disk_Disk_Append_r14 : List POper := [M 51 7,M 52 7,NK' 53 52,FA 54 0 53,LD 55 54,M 56 2,Q 57 (.app 1 1 (V 55) (V 56)),NK' 58 51,FA 59 0 58,QN (.store 1 (V 59) (V 57))]
@[simp] theorem disk_Disk_Append_r14_go : type_of% (ops_go disk_Disk_Append_r14.eq_1 T K fr S) := ops_go disk_Disk_Append_r14.eq_1 T K fr S
def disk_Disk_Append_r15 : List POper := [Q 6 (.mov (I 0))]
@[simp] theorem disk_Disk_Append_r15_go : type_of% (ops_go disk_Disk_Append_r15.eq_1 T K fr S) := ops_go disk_Disk_Append_r15.eq_1 T K fr S
def disk_Disk_Append : PCodeFn :=
  ⟨3, [.tmp 6],
  (.seq (.region disk_Disk_Append_r0) (.seq (.clr [(13, 19)] (.region disk_Disk_Append_r1)) (.seq (.seq (.clr [(19, 20)] (.region disk_Disk_Append_r2)) (.cond (V 20) (.seq (.clr [(21, 22)] (.region disk_Disk_Append_r3)) .ret) .skip)) (.seq (.clr [(22, 26)] (.region disk_Disk_Append_r4)) (.seq (.rng disk_Disk_Append_r5 (.tmp 29) 33 disk_Disk_Append_r7 [(11, 12), (26, 42)] (.region disk_Disk_Append_r8)) (.seq (.seq (.clr [(42, 45)] (.region disk_Disk_Append_r9)) (.cond (V 45) (.seq (.region disk_Disk_Append_r10) .ret) .skip)) (.seq (.seq (.clr [(46, 48)] (.region disk_Disk_Append_r11)) (.seq (.clr [(48, 49)] (.region disk_Disk_Append_r12)) (.cond (V 49) (.seq (.clr [(50, 51)] (.region disk_Disk_Append_r13)) .ret) .skip))) (.seq (.clr [(51, 60)] (.region disk_Disk_Append_r14)) (.seq (.region disk_Disk_Append_r15) .ret))))))))), false⟩

def disk_Disk_Sync_r0 : List POper := [Q 4 (.mov (I 0))]
@[simp] theorem disk_Disk_Sync_r0_go : type_of% (ops_go disk_Disk_Sync_r0.eq_1 T K fr S) := ops_go disk_Disk_Sync_r0.eq_1 T K fr S
def disk_Disk_Sync_r1 : List POper := [M 9 0,M 10 1,Q 11 (.call .std 194 [(V 9), (V 10)]),M 8 11,EX 12 0 8,EX 13 1 8,M 5 12,M 6 13]
@[simp] theorem disk_Disk_Sync_r1_go : type_of% (ops_go disk_Disk_Sync_r1.eq_1 T K fr S) := ops_go disk_Disk_Sync_r1.eq_1 T K fr S
def disk_Disk_Sync_r2 : List POper := [M 14 6,Q 15 (.arith .neq (V 14) (I 0))]
@[simp] theorem disk_Disk_Sync_r2_go : type_of% (ops_go disk_Disk_Sync_r2.eq_1 T K fr S) := ops_go disk_Disk_Sync_r2.eq_1 T K fr S
def disk_Disk_Sync_r3 : List POper := [M 16 6,M 4 16]
@[simp] theorem disk_Disk_Sync_r3_go : type_of% (ops_go disk_Disk_Sync_r3.eq_1 T K fr S) := ops_go disk_Disk_Sync_r3.eq_1 T K fr S
def disk_Disk_Sync_r4 : List POper := [M 17 0,Q 18 (.call .std 196 [(V 17)]),M 7 18]
@[simp] theorem disk_Disk_Sync_r4_go : type_of% (ops_go disk_Disk_Sync_r4.eq_1 T K fr S) := ops_go disk_Disk_Sync_r4.eq_1 T K fr S
def disk_Disk_Sync_r5 : List POper := [M 19 7,Q 20 (.arith .neq (V 19) (I 0))]
@[simp] theorem disk_Disk_Sync_r5_go : type_of% (ops_go disk_Disk_Sync_r5.eq_1 T K fr S) := ops_go disk_Disk_Sync_r5.eq_1 T K fr S
def disk_Disk_Sync_r6 : List POper := [M 21 7,M 4 21]
@[simp] theorem disk_Disk_Sync_r6_go : type_of% (ops_go disk_Disk_Sync_r6.eq_1 T K fr S) := ops_go disk_Disk_Sync_r6.eq_1 T K fr S
def disk_Disk_Sync_r7 : List POper := [M 22 5,M 23 5,NK' 24 23,FA 25 0 24,LD 26 25,Q 27 (.len false (V 26)),NK' 28 22,FA 29 1 28,QN (.store 1 (V 29) (V 27))]
@[simp] theorem disk_Disk_Sync_r7_go : type_of% (ops_go disk_Disk_Sync_r7.eq_1 T K fr S) := ops_go disk_Disk_Sync_r7.eq_1 T K fr S
def disk_Disk_Sync_r8 : List POper := [Q 4 (.mov (I 0))]
@[simp] theorem disk_Disk_Sync_r8_go : type_of% (ops_go disk_Disk_Sync_r8.eq_1 T K fr S) := ops_go disk_Disk_Sync_r8.eq_1 T K fr S
def disk_Disk_Sync : PCodeFn :=
  ⟨2, [.tmp 4],
  (.seq (.region disk_Disk_Sync_r0) (.seq (.clr [(8, 14)] (.region disk_Disk_Sync_r1)) (.seq (.seq (.clr [(14, 15)] (.region disk_Disk_Sync_r2)) (.cond (V 15) (.seq (.clr [(16, 17)] (.region disk_Disk_Sync_r3)) .ret) .skip)) (.seq (.seq (.clr [(17, 19)] (.region disk_Disk_Sync_r4)) (.seq (.clr [(19, 20)] (.region disk_Disk_Sync_r5)) (.cond (V 20) (.seq (.clr [(21, 22)] (.region disk_Disk_Sync_r6)) .ret) .skip))) (.seq (.clr [(22, 30)] (.region disk_Disk_Sync_r7)) (.seq (.region disk_Disk_Sync_r8) .ret)))))), false⟩

def disk_Disk_SyncDir_r0 : List POper := [Q 2 (.mov (I 0))]
@[simp] theorem disk_Disk_SyncDir_r0_go : type_of% (ops_go disk_Disk_SyncDir_r0.eq_1 T K fr S) := ops_go disk_Disk_SyncDir_r0.eq_1 T K fr S
def disk_Disk_SyncDir_r1 : List POper := [M 4 0,Q 5 (.eqn false .p (V 4)),M 6 5,QG (some 7) (.mov (V 0)) 6 false,QG (some 8) (.nilck (V 7)) 6 false,QG (some 9) (.faddr 2 (V 8)) 6 false,QG (some 10) (.load false 1 false (V 9)) 6 false,QG (some 11) (.eqn false .m (V 10)) 6 false,Q 12 (.pick (V 6) tt' (V 11))]
@[simp] theorem disk_Disk_SyncDir_r1_go : type_of% (ops_go disk_Disk_SyncDir_r1.eq_1 T K fr S) := ops_go disk_Disk_SyncDir_r1.eq_1 T K fr S
def disk_Disk_SyncDir_r2 : List POper := [Q 2 (.mov (I 1))]
@[simp] theorem disk_Disk_SyncDir_r2_go : type_of% (ops_go disk_Disk_SyncDir_r2.eq_1 T K fr S) := ops_go disk_Disk_SyncDir_r2.eq_1 T K fr S
def disk_Disk_SyncDir_r3 : List POper := [M 13 0,Q 14 (.call .std 196 [(V 13)]),M 3 14]
@[simp] theorem disk_Disk_SyncDir_r3_go : type_of% (ops_go disk_Disk_SyncDir_r3.eq_1 T K fr S) := ops_go disk_Disk_SyncDir_r3.eq_1 T K fr S
def disk_Disk_SyncDir_r4 : List POper := [M 15 3,Q 16 (.arith .neq (V 15) (I 0))]
@[simp] theorem disk_Disk_SyncDir_r4_go : type_of% (ops_go disk_Disk_SyncDir_r4.eq_1 T K fr S) := ops_go disk_Disk_SyncDir_r4.eq_1 T K fr S
def disk_Disk_SyncDir_r5 : List POper := [M 17 3,M 2 17]
@[simp] theorem disk_Disk_SyncDir_r5_go : type_of% (ops_go disk_Disk_SyncDir_r5.eq_1 T K fr S) := ops_go disk_Disk_SyncDir_r5.eq_1 T K fr S
def disk_Disk_SyncDir_r6 : List POper := [M 18 0,M 19 0,M 20 0,NK' 21 20,FA 22 2 21,LD 23 22,Q 24 (.call .std 197 [(V 23)]),NK' 25 18,FA 26 1 25,QN (.store 1 (V 26) (V 24)),NK' 27 19,FA 28 3 27,QN (.store 1 (V 28) (.cst .nils))]
@[simp] theorem disk_Disk_SyncDir_r6_go : type_of% (ops_go disk_Disk_SyncDir_r6.eq_1 T K fr S) := ops_go disk_Disk_SyncDir_r6.eq_1 T K fr S
def disk_Disk_SyncDir_r7 : List POper := [Q 2 (.mov (I 0))]
@[simp] theorem disk_Disk_SyncDir_r7_go : type_of% (ops_go disk_Disk_SyncDir_r7.eq_1 T K fr S) := ops_go disk_Disk_SyncDir_r7.eq_1 T K fr S
def disk_Disk_SyncDir : PCodeFn :=
  ⟨1, [.tmp 2],
  (.seq (.region disk_Disk_SyncDir_r0) (.seq (.seq (.clr [(4, 12)] (.region disk_Disk_SyncDir_r1)) (.cond (V 12) (.seq (.region disk_Disk_SyncDir_r2) .ret) .skip)) (.seq (.seq (.clr [(13, 15)] (.region disk_Disk_SyncDir_r3)) (.seq (.clr [(15, 16)] (.region disk_Disk_SyncDir_r4)) (.cond (V 16) (.seq (.clr [(17, 18)] (.region disk_Disk_SyncDir_r5)) .ret) .skip))) (.seq (.clr [(18, 29)] (.region disk_Disk_SyncDir_r6)) (.seq (.region disk_Disk_SyncDir_r7) .ret))))), false⟩

def disk_Disk_Rename_r0 : List POper := [Q 6 (.mov (I 0))]
@[simp] theorem disk_Disk_Rename_r0_go : type_of% (ops_go disk_Disk_Rename_r0.eq_1 T K fr S) := ops_go disk_Disk_Rename_r0.eq_1 T K fr S
def disk_Disk_Rename_r1 : List POper := [M 10 0,M 11 1,Q 12 (.call .std 194 [(V 10), (V 11)]),M 9 12,EX 13 0 9,EX 14 1 9,M 7 13,M 8 14]
@[simp] theorem disk_Disk_Rename_r1_go : type_of% (ops_go disk_Disk_Rename_r1.eq_1 T K fr S) := ops_go disk_Disk_Rename_r1.eq_1 T K fr S
def disk_Disk_Rename_r2 : List POper := [M 15 8,Q 16 (.arith .neq (V 15) (I 0)),M 17 16,QG (some 18) (.mov (V 8)) 17 true,QG (some 19) (.arith .neq (V 18) (I 9)) 17 true,Q 20 (.pick (V 17) (V 19) ff')]
@[simp] theorem disk_Disk_Rename_r2_go : type_of% (ops_go disk_Disk_Rename_r2.eq_1 T K fr S) := ops_go disk_Disk_Rename_r2.eq_1 T K fr S
def disk_Disk_Rename_r3 : List POper := [M 21 8,M 6 21]
@[simp] theorem disk_Disk_Rename_r3_go : type_of% (ops_go disk_Disk_Rename_r3.eq_1 T K fr S) := ops_go disk_Disk_Rename_r3.eq_1 T K fr S
def disk_Disk_Rename_r4 : List POper := [M 22 2,Q 23 (.call .pur 202 [(V 22)]),Q 24 (.un .not (V 23))]
@[simp] theorem disk_Disk_Rename_r4_go : type_of% (ops_go disk_Disk_Rename_r4.eq_1 T K fr S) := ops_go disk_Disk_Rename_r4.eq_1 T K fr S
def disk_Disk_Rename_r5 : List POper := [Q 6 (.mov (I 8))]
@[simp] theorem disk_Disk_Rename_r5_go : type_of% (ops_go disk_Disk_Rename_r5.eq_1 T K fr S) := ops_go disk_Disk_Rename_r5.eq_1 T K fr S
def disk_Disk_Rename_r6 : List POper := [M 25 8,Q 26 (.arith .neq (V 25) (I 0))]
@[simp] theorem disk_Disk_Rename_r6_go : type_of% (ops_go disk_Disk_Rename_r6.eq_1 T K fr S) := ops_go disk_Disk_Rename_r6.eq_1 T K fr S
def disk_Disk_Rename_r7 : List POper := [M 27 8,M 6 27]
@[simp] theorem disk_Disk_Rename_r7_go : type_of% (ops_go disk_Disk_Rename_r7.eq_1 T K fr S) := ops_go disk_Disk_Rename_r7.eq_1 T K fr S
def disk_Disk_Rename_r8 : List POper := [M 28 0,M 29 1,M 30 2,Q 31 (.build [(.str []), (.str []), .nilp] [(0, 1, (V 29)), (1, 1, (V 30))]),Q 32 (.call .std 195 [(V 28), (V 31)]),M 6 32]
@[simp] theorem disk_Disk_Rename_r8_go : type_of% (ops_go disk_Disk_Rename_r8.eq_1 T K fr S) := ops_go disk_Disk_Rename_r8.eq_1 T K fr S
def disk_Disk_Rename : PCodeFn :=
  ⟨3, [.tmp 6],
  (.seq (.region disk_Disk_Rename_r0) (.seq (.clr [(7, 8), (9, 15)] (.region disk_Disk_Rename_r1)) (.seq (.seq (.clr [(15, 20)] (.region disk_Disk_Rename_r2)) (.cond (V 20) (.seq (.clr [(21, 22)] (.region disk_Disk_Rename_r3)) .ret) .skip)) (.seq (.seq (.clr [(22, 24)] (.region disk_Disk_Rename_r4)) (.cond (V 24) (.seq (.region disk_Disk_Rename_r5) .ret) .skip)) (.seq (.seq (.clr [(25, 26)] (.region disk_Disk_Rename_r6)) (.cond (V 26) (.seq (.clr [(27, 28)] (.region disk_Disk_Rename_r7)) .ret) .skip)) (.seq (.clr [(28, 33)] (.region disk_Disk_Rename_r8)) .ret)))))), false⟩

def disk_Disk_Crash_r0 : List POper := [Q 6 (.mov (I 0))]
@[simp] theorem disk_Disk_Crash_r0_go : type_of% (ops_go disk_Disk_Crash_r0.eq_1 T K fr S) := ops_go disk_Disk_Crash_r0.eq_1 T K fr S
def disk_Disk_Crash_r1 : List POper := [M 13 0,Q 14 (.eqn false .p (V 13)),M 15 14,QG (some 16) (.mov (V 0)) 15 false,QG (some 17) (.nilck (V 16)) 15 false,QG (some 18) (.faddr 2 (V 17)) 15 false,QG (some 19) (.load false 1 false (V 18)) 15 false,QG (some 20) (.eqn false .m (V 19)) 15 false,Q 21 (.pick (V 15) tt' (V 20))]
@[simp] theorem disk_Disk_Crash_r1_go : type_of% (ops_go disk_Disk_Crash_r1.eq_1 T K fr S) := ops_go disk_Disk_Crash_r1.eq_1 T K fr S
def disk_Disk_Crash_r2 : List POper := [Q 6 (.mov (I 1))]
@[simp] theorem disk_Disk_Crash_r2_go : type_of% (ops_go disk_Disk_Crash_r2.eq_1 T K fr S) := ops_go disk_Disk_Crash_r2.eq_1 T K fr S
def disk_Disk_Crash_r3 : List POper := [M 22 0,NK' 23 22,FA 24 3 23,LD 25 24,M 26 1,Q 27 (.toInt .u64 (V 26)),M 28 0,NK' 29 28,FA 30 3 29,LD 31 30,Q 32 (.len false (V 31)),Q 33 (.arith .add (V 32) (I 1)),Q 34 (.toInt .u64 (V 33)),Q 35 (.arith .rem (V 27) (V 34)),Q 36 (.slc 3 none (some (V 35)) (V 25)),Q 37 (.len false (V 36)),Q 38 (.mov (I 0))]
@[simp] theorem disk_Disk_Crash_r3_go : type_of% (ops_go disk_Disk_Crash_r3.eq_1 T K fr S) := ops_go disk_Disk_Crash_r3.eq_1 T K fr S
def disk_Disk_Crash_r4 : List POper := [Q 39 (.arith .lss (V 38) (V 37))]
@[simp] theorem disk_Disk_Crash_r4_go : type_of% (ops_go disk_Disk_Crash_r4.eq_1 T K fr S) := ops_go disk_Disk_Crash_r4.eq_1 T K fr S
def disk_Disk_Crash_r5 : List POper := [Q 40 (.iaddr 3 (V 36) (V 38)),Q 41 (.load true 3 false (V 40)),Q 8 (.alloc false [(.str []), (.str []), .nilp]),QN (.store 3 (V 8) (V 41))]
@[simp] theorem disk_Disk_Crash_r5_go : type_of% (ops_go disk_Disk_Crash_r5.eq_1 T K fr S) := ops_go disk_Disk_Crash_r5.eq_1 T K fr S
def disk_Disk_Crash_r6 : List POper := [Q 42 (.load true 3 false (V 8)),M 43 0,NK' 44 43,FA 45 1 44,LD 46 45,Q 47 (.call .std 198 [(V 42), (V 46)])]
@[simp] theorem disk_Disk_Crash_r6_go : type_of% (ops_go disk_Disk_Crash_r6.eq_1 T K fr S) := ops_go disk_Disk_Crash_r6.eq_1 T K fr S
def disk_Disk_Crash_r7 : List POper := [Q 48 (.arith .add (V 38) (I 1)),M 38 48]
@[simp] theorem disk_Disk_Crash_r7_go : type_of% (ops_go disk_Disk_Crash_r7.eq_1 T K fr S) := ops_go disk_Disk_Crash_r7.eq_1 T K fr S
def disk_Disk_Crash_l0 : PCode :=
  (.seq (.region disk_Disk_Crash_r4) (.seq (.cond (V 39) .skip (.exit 0)) (.seq (.block 1 (.seq (.clr [(40, 42)] (.region disk_Disk_Crash_r5)) (.clr [(42, 48)] (.region disk_Disk_Crash_r6)))) (.clr [(48, 49)] (.region disk_Disk_Crash_r7)))))
@[simp] theorem disk_Disk_Crash_l0_go : type_of% (code_go disk_Disk_Crash_l0.eq_1 T K fr S) := code_go disk_Disk_Crash_l0.eq_1 T K fr S
def disk_Disk_Crash_r8 : List POper := [M 49 0,NK' 50 49,FA 51 1 50,LD 52 51,Q 53 (.call .std 200 [(V 52)]),Q 54 (.call .std 199 [(V 53)]),Q 55 (.len false (V 54)),Q 56 (.mov (I 0))]
@[simp] theorem disk_Disk_Crash_r8_go : type_of% (ops_go disk_Disk_Crash_r8.eq_1 T K fr S) := ops_go disk_Disk_Crash_r8.eq_1 T K fr S
def disk_Disk_Crash_r9 : List POper := [Q 57 (.arith .lss (V 56) (V 55))]
@[simp] theorem disk_Disk_Crash_r9_go : type_of% (ops_go disk_Disk_Crash_r9.eq_1 T K fr S) := ops_go disk_Disk_Crash_r9.eq_1 T K fr S
def disk_Disk_Crash_r10 : List POper := [M 58 56,Q 59 (.iaddr 1 (V 54) (V 56)),LD 60 59,M 9 58,M 10 60]
@[simp] theorem disk_Disk_Crash_r10_go : type_of% (ops_go disk_Disk_Crash_r10.eq_1 T K fr S) := ops_go disk_Disk_Crash_r10.eq_1 T K fr S
def disk_Disk_Crash_r11 : List POper := [M 61 0,NK' 62 61,FA 63 1 62,LD 64 63,M 65 10,Q 66 (.mlk true false .nilp (V 64) (V 65)),M 11 66]
@[simp] theorem disk_Disk_Crash_r11_go : type_of% (ops_go disk_Disk_Crash_r11.eq_1 T K fr S) := ops_go disk_Disk_Crash_r11.eq_1 T K fr S
def disk_Disk_Crash_r12 : List POper := [M 67 11,NK' 68 67,FA 69 1 68,LD 70 69,M 12 70]
@[simp] theorem disk_Disk_Crash_r12_go : type_of% (ops_go disk_Disk_Crash_r12.eq_1 T K fr S) := ops_go disk_Disk_Crash_r12.eq_1 T K fr S
def disk_Disk_Crash_r13 : List POper := [M 71 9,M 72 2,Q 73 (.len false (V 72)),Q 74 (.arith .lss (V 71) (V 73))]
@[simp] theorem disk_Disk_Crash_r13_go : type_of% (ops_go disk_Disk_Crash_r13.eq_1 T K fr S) := ops_go disk_Disk_Crash_r13.eq_1 T K fr S
def disk_Disk_Crash_r14 : List POper := [M 75 12,M 76 2,M 77 9,Q 78 (.iaddr 1 (V 76) (V 77)),Q 79 (.load false 1 true (V 78)),Q 80 (.toInt .u64 (V 79)),M 81 11,NK' 82 81,FA 83 0 82,LD 84 83,Q 85 (.len false (V 84)),M 86 11,NK' 87 86,FA 88 1 87,LD 89 88,Q 90 (.arith .sub (V 85) (V 89)),Q 91 (.arith .add (V 90) (I 1)),Q 92 (.toInt .u64 (V 91)),Q 93 (.arith .rem (V 80) (V 92)),Q 94 (.toInt .i64 (V 93)),Q 95 (.arith .add (V 75) (V 94)),M 12 95]
@[simp] theorem disk_Disk_Crash_r14_go : type_of% (ops_go disk_Disk_Crash_r14.eq_1 T K fr S) := ops_go disk_Disk_Crash_r14.eq_1 T K fr S
def disk_Disk_Crash_r15 : List POper := [M 96 11,M 97 11,M 98 11,NK' 99 98,FA 100 0 99,LD 101 100,M 102 12,M 103 12,Q 104 (.slc3 1 none (V 102) (V 103) (V 101)),M 105 12,NK' 106 96,FA 107 0 106,QN (.store 1 (V 107) (V 104)),NK' 108 97,FA 109 1 108,QN (.store 1 (V 109) (V 105))]
@[simp] theorem disk_Disk_Crash_r15_go : type_of% (ops_go disk_Disk_Crash_r15.eq_1 T K fr S) := ops_go disk_Disk_Crash_r15.eq_1 T K fr S
def disk_Disk_Crash_r16 : List POper := [Q 110 (.arith .add (V 56) (I 1)),M 56 110]
@[simp] theorem disk_Disk_Crash_r16_go : type_of% (ops_go disk_Disk_Crash_r16.eq_1 T K fr S) := ops_go disk_Disk_Crash_r16.eq_1 T K fr S
def disk_Disk_Crash_l1 : PCode :=
  (.seq (.region disk_Disk_Crash_r9) (.seq (.cond (V 57) .skip (.exit 2)) (.seq (.block 3 (.seq (.clr [(58, 61)] (.region disk_Disk_Crash_r10)) (.seq (.clr [(61, 67)] (.region disk_Disk_Crash_r11)) (.seq (.clr [(67, 71)] (.region disk_Disk_Crash_r12)) (.seq (.seq (.clr [(71, 74)] (.region disk_Disk_Crash_r13)) (.cond (V 74) (.clr [(75, 96)] (.region disk_Disk_Crash_r14)) .skip)) (.clr [(96, 110)] (.region disk_Disk_Crash_r15))))))) (.clr [(110, 111)] (.region disk_Disk_Crash_r16)))))
@[simp] theorem disk_Disk_Crash_l1_go : type_of% (code_go disk_Disk_Crash_l1.eq_1 T K fr S) := code_go disk_Disk_Crash_l1.eq_1 T K fr S
def disk_Disk_Crash_r17 : List POper := [M 111 0,M 112 0,M 113 0,M 114 0,M 115 0,NK' 116 115,FA 117 1 116,LD 118 117,Q 119 (.call .std 197 [(V 118)]),NK' 120 111,FA 121 2 120,QN (.store 1 (V 121) (V 119)),NK' 122 112,FA 123 3 122,QN (.store 1 (V 123) (.cst .nils)),NK' 124 113,FA 125 4 124,QN (.store 1 (V 125) (I (-1))),NK' 126 114,FA 127 6 126,QN (.store 1 (V 127) ff')]
@[simp] theorem disk_Disk_Crash_r17_go : type_of% (ops_go disk_Disk_Crash_r17.eq_1 T K fr S) := ops_go disk_Disk_Crash_r17.eq_1 T K fr S
def disk_Disk_Crash_r18 : List POper := [Q 6 (.mov (I 0))]
@[simp] theorem disk_Disk_Crash_r18_go : type_of% (ops_go disk_Disk_Crash_r18.eq_1 T K fr S) := ops_go disk_Disk_Crash_r18.eq_1 T K fr S
def disk_Disk_Crash : PCodeFn :=
  ⟨3, [.tmp 6],
  (.seq (.region disk_Disk_Crash_r0) (.seq (.seq (.clr [(13, 21)] (.region disk_Disk_Crash_r1)) (.cond (V 21) (.seq (.region disk_Disk_Crash_r2) .ret) .skip)) (.seq (.seq (.clr [(22, 36)] (.region disk_Disk_Crash_r3)) (.block 0 (.loop disk_Disk_Crash_l0))) (.seq (.seq (.clr [(49, 54)] (.region disk_Disk_Crash_r8)) (.block 2 (.loop disk_Disk_Crash_l1))) (.seq (.clr [(111, 128)] (.region disk_Disk_Crash_r17)) (.seq (.region disk_Disk_Crash_r18) .ret)))))), false⟩

def disk_Disk_Read_r0 : List POper := [Q 4 (.mov (.cst .nils)),Q 5 (.mov (I 0))]
@[simp] theorem disk_Disk_Read_r0_go : type_of% (ops_go disk_Disk_Read_r0.eq_1 T K fr S) := ops_go disk_Disk_Read_r0.eq_1 T K fr S
def disk_Disk_Read_r1 : List POper := [M 9 0,M 10 1,Q 11 (.call .std 194 [(V 9), (V 10)]),M 8 11,EX 12 0 8,EX 13 1 8,M 6 12,M 7 13]
@[simp] theorem disk_Disk_Read_r1_go : type_of% (ops_go disk_Disk_Read_r1.eq_1 T K fr S) := ops_go disk_Disk_Read_r1.eq_1 T K fr S
def disk_Disk_Read_r2 : List POper := [M 14 7,Q 15 (.arith .neq (V 14) (I 0))]
@[simp] theorem disk_Disk_Read_r2_go : type_of% (ops_go disk_Disk_Read_r2.eq_1 T K fr S) := ops_go disk_Disk_Read_r2.eq_1 T K fr S
def disk_Disk_Read_r3 : List POper := [M 16 7,Q 4 (.mov (.cst .nils)),M 5 16]
@[simp] theorem disk_Disk_Read_r3_go : type_of% (ops_go disk_Disk_Read_r3.eq_1 T K fr S) := ops_go disk_Disk_Read_r3.eq_1 T K fr S
def disk_Disk_Read_r4 : List POper := [M 17 0,NK' 18 17,FA 19 6 18,LD 20 19]
@[simp] theorem disk_Disk_Read_r4_go : type_of% (ops_go disk_Disk_Read_r4.eq_1 T K fr S) := ops_go disk_Disk_Read_r4.eq_1 T K fr S
def disk_Disk_Read_r5 : List POper := [Q 4 (.mov (.cst .nils)),Q 5 (.mov (I 6))]
@[simp] theorem disk_Disk_Read_r5_go : type_of% (ops_go disk_Disk_Read_r5.eq_1 T K fr S) := ops_go disk_Disk_Read_r5.eq_1 T K fr S
def disk_Disk_Read_r6 : List POper := [M 21 6,NK' 22 21,FA 23 0 22,LD 24 23,Q 25 (.call .std 201 [(V 24)]),M 4 25,Q 5 (.mov (I 0))]
@[simp] theorem disk_Disk_Read_r6_go : type_of% (ops_go disk_Disk_Read_r6.eq_1 T K fr S) := ops_go disk_Disk_Read_r6.eq_1 T K fr S
def disk_Disk_Read : PCodeFn :=
  ⟨2, [.tmp 4, .tmp 5],
  (.seq (.region disk_Disk_Read_r0) (.seq (.clr [(8, 14)] (.region disk_Disk_Read_r1)) (.seq (.seq (.clr [(14, 15)] (.region disk_Disk_Read_r2)) (.cond (V 15) (.seq (.clr [(16, 17)] (.region disk_Disk_Read_r3)) .ret) .skip)) (.seq (.seq (.clr [(17, 20)] (.region disk_Disk_Read_r4)) (.cond (V 20) (.seq (.region disk_Disk_Read_r5) .ret) .skip)) (.seq (.clr [(21, 26)] (.region disk_Disk_Read_r6)) .ret))))), true⟩

def law04_begun_r0 : List POper := [Q 4 (.mov (.cst .nilp))]
@[simp] theorem law04_begun_r0_go : type_of% (ops_go law04_begun_r0.eq_1 T K fr S) := ops_go law04_begun_r0.eq_1 T K fr S
def law04_begun_r1 : List POper := [M 9 0,Q 10 (.call .std 16 [(V 9)]),M 8 10,EX 11 0 8,EX 12 1 8,M 5 11,M 6 12]
@[simp] theorem law04_begun_r1_go : type_of% (ops_go law04_begun_r1.eq_1 T K fr S) := ops_go law04_begun_r1.eq_1 T K fr S
def law04_begun_r2 : List POper := [Q 7 (.mov (I 0))]
@[simp] theorem law04_begun_r2_go : type_of% (ops_go law04_begun_r2.eq_1 T K fr S) := ops_go law04_begun_r2.eq_1 T K fr S
def law04_begun_r3 : List POper := [M 13 7,M 14 1,Q 15 (.len false (V 14)),Q 16 (.arith .lss (V 13) (V 15)),M 17 16,QG (some 18) (.mov (V 7)) 17 true,QG (some 19) (.arith .lss (V 18) (I 40)) 17 true,Q 20 (.pick (V 17) (V 19) ff'),M 21 20,QG (some 22) (.mov (V 5)) 21 true,QG (some 23) (.eqn true .p (V 22)) 21 true,Q 24 (.pick (V 21) (V 23) ff')]
@[simp] theorem law04_begun_r3_go : type_of% (ops_go law04_begun_r3.eq_1 T K fr S) := ops_go law04_begun_r3.eq_1 T K fr S
def law04_begun_r5 : List POper := [M 27 5,M 28 1,M 29 7,Q 30 (.iaddr 6 (V 28) (V 29)),Q 31 (.load true 6 false (V 30)),Q 32 (.call .std 19 [(V 27), (V 31)])]
@[simp] theorem law04_begun_r5_go : type_of% (ops_go law04_begun_r5.eq_1 T K fr S) := ops_go law04_begun_r5.eq_1 T K fr S
def law04_begun_r4 : List POper := [M 25 7,Q 26 (.arith .add (V 25) (I 1)),M 7 26]
@[simp] theorem law04_begun_r4_go : type_of% (ops_go law04_begun_r4.eq_1 T K fr S) := ops_go law04_begun_r4.eq_1 T K fr S
def law04_begun_l0 : PCode :=
  (.seq (.seq (.clr [(13, 24)] (.region law04_begun_r3)) (.cond (V 24) .skip (.exit 0))) (.seq (.block 1 (.clr [(27, 33)] (.region law04_begun_r5))) (.clr [(25, 27)] (.region law04_begun_r4))))
@[simp] theorem law04_begun_l0_go : type_of% (code_go law04_begun_l0.eq_1 T K fr S) := code_go law04_begun_l0.eq_1 T K fr S
def law04_begun_r6 : List POper := [M 33 5,M 4 33]
@[simp] theorem law04_begun_r6_go : type_of% (ops_go law04_begun_r6.eq_1 T K fr S) := ops_go law04_begun_r6.eq_1 T K fr S
def law04_begun : PCodeFn :=
  ⟨2, [.tmp 4],
  (.seq (.region law04_begun_r0) (.seq (.clr [(6, 7), (8, 13)] (.region law04_begun_r1)) (.seq (.seq (.region law04_begun_r2) (.block 0 (.loop law04_begun_l0))) (.seq (.clr [(33, 34)] (.region law04_begun_r6)) .ret)))), false⟩

def disk_Disk_Fuse_r0 : List POper := [M 4 0,Q 5 (.eqn true .p (V 4)),M 6 5,QG (some 7) (.mov (V 0)) 6 true,QG (some 8) (.nilck (V 7)) 6 true,QG (some 9) (.faddr 2 (V 8)) 6 true,QG (some 10) (.load false 1 false (V 9)) 6 true,QG (some 11) (.eqn true .m (V 10)) 6 true,Q 12 (.pick (V 6) (V 11) ff')]
@[simp] theorem disk_Disk_Fuse_r0_go : type_of% (ops_go disk_Disk_Fuse_r0.eq_1 T K fr S) := ops_go disk_Disk_Fuse_r0.eq_1 T K fr S
def disk_Disk_Fuse_r1 : List POper := [M 13 0,M 14 1,Q 15 (.mnmx true (V 14) (I (-1))),NK' 16 13,FA 17 4 16,QN (.store 1 (V 17) (V 15))]
@[simp] theorem disk_Disk_Fuse_r1_go : type_of% (ops_go disk_Disk_Fuse_r1.eq_1 T K fr S) := ops_go disk_Disk_Fuse_r1.eq_1 T K fr S
def disk_Disk_Fuse : PCodeFn :=
  ⟨2, [],
  (.seq (.clr [(4, 12)] (.region disk_Disk_Fuse_r0)) (.cond (V 12) (.clr [(13, 18)] (.region disk_Disk_Fuse_r1)) .skip)), false⟩

def law04_begins_r0 : List POper := [Q 4 (.mov ff')]
@[simp] theorem law04_begins_r0_go : type_of% (ops_go law04_begins_r0.eq_1 T K fr S) := ops_go law04_begins_r0.eq_1 T K fr S
def law04_begins_r1 : List POper := [M 5 0,Q 6 (.len false (V 5)),M 7 1,Q 8 (.len false (V 7)),Q 9 (.arith .geq (V 6) (V 8)),M 10 9,QG (some 11) (.mov (V 0)) 10 true,QG (some 12) (.mov (V 1)) 10 true,QG (some 13) (.len false (V 12)) 10 true,QG (some 14) (.slc 1 none (some (V 13)) (V 11)) 10 true,QG (some 15) (.toStr (V 14)) 10 true,QG (some 16) (.mov (V 1)) 10 true,QG (some 17) (.toStr (V 16)) 10 true,QG (some 18) (.arith .eql (V 15) (V 17)) 10 true,Q 19 (.pick (V 10) (V 18) ff'),M 4 19]
@[simp] theorem law04_begins_r1_go : type_of% (ops_go law04_begins_r1.eq_1 T K fr S) := ops_go law04_begins_r1.eq_1 T K fr S
def law04_begins : PCodeFn :=
  ⟨2, [.tmp 4],
  (.seq (.region law04_begins_r0) (.seq (.clr [(5, 20)] (.region law04_begins_r1)) .ret)), false⟩

def disk_Disk_List_r0 : List POper := [Q 2 (.mov (.cst .nils))]
@[simp] theorem disk_Disk_List_r0_go : type_of% (ops_go disk_Disk_List_r0.eq_1 T K fr S) := ops_go disk_Disk_List_r0.eq_1 T K fr S
def disk_Disk_List_r1 : List POper := [M 3 0,Q 4 (.eqn false .p (V 3)),M 5 4,QG (some 6) (.mov (V 0)) 5 false,QG (some 7) (.nilck (V 6)) 5 false,QG (some 8) (.faddr 2 (V 7)) 5 false,QG (some 9) (.load false 1 false (V 8)) 5 false,QG (some 10) (.eqn false .m (V 9)) 5 false,Q 11 (.pick (V 5) tt' (V 10)),M 12 11,QG (some 13) (.mov (V 0)) 12 false,QG (some 14) (.nilck (V 13)) 12 false,QG (some 15) (.faddr 6 (V 14)) 12 false,QG (some 16) (.load false 1 false (V 15)) 12 false,Q 17 (.pick (V 12) tt' (V 16))]
@[simp] theorem disk_Disk_List_r1_go : type_of% (ops_go disk_Disk_List_r1.eq_1 T K fr S) := ops_go disk_Disk_List_r1.eq_1 T K fr S
def disk_Disk_List_r2 : List POper := [Q 2 (.mov (.cst .nils))]
@[simp] theorem disk_Disk_List_r2_go : type_of% (ops_go disk_Disk_List_r2.eq_1 T K fr S) := ops_go disk_Disk_List_r2.eq_1 T K fr S
def disk_Disk_List_r3 : List POper := [M 18 0,NK' 19 18,FA 20 2 19,LD 21 20,Q 22 (.call .std 200 [(V 21)]),Q 23 (.call .std 199 [(V 22)]),M 2 23]
@[simp] theorem disk_Disk_List_r3_go : type_of% (ops_go disk_Disk_List_r3.eq_1 T K fr S) := ops_go disk_Disk_List_r3.eq_1 T K fr S
def disk_Disk_List : PCodeFn :=
  ⟨1, [.tmp 2],
  (.seq (.region disk_Disk_List_r0) (.seq (.seq (.clr [(3, 17)] (.region disk_Disk_List_r1)) (.cond (V 17) (.seq (.region disk_Disk_List_r2) .ret) .skip)) (.seq (.clr [(18, 24)] (.region disk_Disk_List_r3)) .ret))), false⟩

def law04_do_r0 : List POper := [Q 3 (.box true (V 1)),Q 4 (.mov (I 0)),Q 5 (.mov (.cst .nils))]
@[simp] theorem law04_do_r0_go : type_of% (ops_go law04_do_r0.eq_1 T K fr S) := ops_go law04_do_r0.eq_1 T K fr S
def law04_do_r1 : List POper := [FA 8 0 3,LD 9 8]
@[simp] theorem law04_do_r1_go : type_of% (ops_go law04_do_r1.eq_1 T K fr S) := ops_go law04_do_r1.eq_1 T K fr S
def law04_do_r2 : List POper := [Q 11 (.arith .eql (V 9) (I 1)),M 10 11]
@[simp] theorem law04_do_r2_go : type_of% (ops_go law04_do_r2.eq_1 T K fr S) := ops_go law04_do_r2.eq_1 T K fr S
def law04_do_r3 : List POper := [M 12 0,FA 13 1 3,LD 14 13,Q 15 (.call .std 77 [(V 12), (V 14)]),M 4 15,Q 5 (.mov (.cst .nils))]
@[simp] theorem law04_do_r3_go : type_of% (ops_go law04_do_r3.eq_1 T K fr S) := ops_go law04_do_r3.eq_1 T K fr S
def law04_do_r4 : List POper := [Q 17 (.arith .eql (V 9) (I 2)),M 16 17]
@[simp] theorem law04_do_r4_go : type_of% (ops_go law04_do_r4.eq_1 T K fr S) := ops_go law04_do_r4.eq_1 T K fr S
def law04_do_r5 : List POper := [M 18 0,FA 19 1 3,LD 20 19,FA 21 3 3,LD 22 21,Q 23 (.call .std 78 [(V 18), (V 20), (V 22)]),M 4 23,Q 5 (.mov (.cst .nils))]
@[simp] theorem law04_do_r5_go : type_of% (ops_go law04_do_r5.eq_1 T K fr S) := ops_go law04_do_r5.eq_1 T K fr S
def law04_do_r6 : List POper := [Q 25 (.arith .eql (V 9) (I 3)),M 24 25]
@[simp] theorem law04_do_r6_go : type_of% (ops_go law04_do_r6.eq_1 T K fr S) := ops_go law04_do_r6.eq_1 T K fr S
def law04_do_r7 : List POper := [M 26 0,FA 27 1 3,LD 28 27,FA 29 2 3,LD 30 29,Q 31 (.call .std 82 [(V 26), (V 28), (V 30)]),M 4 31,Q 5 (.mov (.cst .nils))]
@[simp] theorem law04_do_r7_go : type_of% (ops_go law04_do_r7.eq_1 T K fr S) := ops_go law04_do_r7.eq_1 T K fr S
def law04_do_r8 : List POper := [Q 33 (.arith .eql (V 9) (I 4)),M 32 33]
@[simp] theorem law04_do_r8_go : type_of% (ops_go law04_do_r8.eq_1 T K fr S) := ops_go law04_do_r8.eq_1 T K fr S
def law04_do_r9 : List POper := [M 34 0,FA 35 1 3,LD 36 35,Q 37 (.call .std 83 [(V 34), (V 36)]),M 4 37,Q 5 (.mov (.cst .nils))]
@[simp] theorem law04_do_r9_go : type_of% (ops_go law04_do_r9.eq_1 T K fr S) := ops_go law04_do_r9.eq_1 T K fr S
def law04_do_r10 : List POper := [Q 39 (.arith .eql (V 9) (I 5)),M 38 39]
@[simp] theorem law04_do_r10_go : type_of% (ops_go law04_do_r10.eq_1 T K fr S) := ops_go law04_do_r10.eq_1 T K fr S
def law04_do_r11 : List POper := [M 40 0,FA 41 1 3,LD 42 41,Q 43 (.call .std 84 [(V 40), (V 42)]),M 4 43,Q 5 (.mov (.cst .nils))]
@[simp] theorem law04_do_r11_go : type_of% (ops_go law04_do_r11.eq_1 T K fr S) := ops_go law04_do_r11.eq_1 T K fr S
def law04_do_r12 : List POper := [Q 45 (.arith .eql (V 9) (I 6)),M 44 45]
@[simp] theorem law04_do_r12_go : type_of% (ops_go law04_do_r12.eq_1 T K fr S) := ops_go law04_do_r12.eq_1 T K fr S
def law04_do_r13 : List POper := [M 46 0,Q 47 (.call .std 79 [(V 46)]),M 4 47,Q 5 (.mov (.cst .nils))]
@[simp] theorem law04_do_r13_go : type_of% (ops_go law04_do_r13.eq_1 T K fr S) := ops_go law04_do_r13.eq_1 T K fr S
def law04_do_r14 : List POper := [Q 49 (.arith .eql (V 9) (I 7)),M 48 49]
@[simp] theorem law04_do_r14_go : type_of% (ops_go law04_do_r14.eq_1 T K fr S) := ops_go law04_do_r14.eq_1 T K fr S
def law04_do_r15 : List POper := [M 51 0,FA 52 1 3,LD 53 52,Q 54 (.call .std 81 [(V 51), (V 53)]),M 50 54,EX 55 0 50,EX 56 1 50,M 6 55,M 7 56]
@[simp] theorem law04_do_r15_go : type_of% (ops_go law04_do_r15.eq_1 T K fr S) := ops_go law04_do_r15.eq_1 T K fr S
def law04_do_r16 : List POper := [M 57 7,M 58 6,M 4 57,M 5 58]
@[simp] theorem law04_do_r16_go : type_of% (ops_go law04_do_r16.eq_1 T K fr S) := ops_go law04_do_r16.eq_1 T K fr S
def law04_do_r17 : List POper := [Q 60 (.arith .eql (V 9) (I 8)),M 59 60]
@[simp] theorem law04_do_r17_go : type_of% (ops_go law04_do_r17.eq_1 T K fr S) := ops_go law04_do_r17.eq_1 T K fr S
def law04_do_r18 : List POper := [M 61 0,FA 62 4 3,LD 63 62,Q 64 (.call .std 85 [(V 61), (V 63)])]
@[simp] theorem law04_do_r18_go : type_of% (ops_go law04_do_r18.eq_1 T K fr S) := ops_go law04_do_r18.eq_1 T K fr S
def law04_do_r19 : List POper := [Q 66 (.arith .eql (V 9) (I 9)),M 65 66]
@[simp] theorem law04_do_r19_go : type_of% (ops_go law04_do_r19.eq_1 T K fr S) := ops_go law04_do_r19.eq_1 T K fr S
def law04_do_r20 : List POper := [M 67 0,FA 68 4 3,LD 69 68,FA 70 5 3,LD 71 70,Q 72 (.call .std 80 [(V 67), (V 69), (V 71)]),M 4 72,Q 5 (.mov (.cst .nils))]
@[simp] theorem law04_do_r20_go : type_of% (ops_go law04_do_r20.eq_1 T K fr S) := ops_go law04_do_r20.eq_1 T K fr S
def law04_do_r21 : List POper := [Q 4 (.mov (I 0)),Q 5 (.mov (.cst .nils))]
@[simp] theorem law04_do_r21_go : type_of% (ops_go law04_do_r21.eq_1 T K fr S) := ops_go law04_do_r21.eq_1 T K fr S
def law04_do : PCodeFn :=
  ⟨2, [.tmp 4, .tmp 5],
  (.seq (.region law04_do_r0) (.seq (.seq (.clr [(8, 9)] (.region law04_do_r1)) (.block 0 (.seq (.clr [(11, 12)] (.region law04_do_r2)) (.cond (V 10) (.seq (.clr [(12, 16)] (.region law04_do_r3)) .ret) (.seq (.clr [(17, 18)] (.region law04_do_r4)) (.cond (V 16) (.seq (.clr [(18, 24)] (.region law04_do_r5)) .ret) (.seq (.clr [(25, 26)] (.region law04_do_r6)) (.cond (V 24) (.seq (.clr [(26, 32)] (.region law04_do_r7)) .ret) (.seq (.clr [(33, 34)] (.region law04_do_r8)) (.cond (V 32) (.seq (.clr [(34, 38)] (.region law04_do_r9)) .ret) (.seq (.clr [(39, 40)] (.region law04_do_r10)) (.cond (V 38) (.seq (.clr [(40, 44)] (.region law04_do_r11)) .ret) (.seq (.clr [(45, 46)] (.region law04_do_r12)) (.cond (V 44) (.seq (.clr [(46, 48)] (.region law04_do_r13)) .ret) (.seq (.clr [(49, 50)] (.region law04_do_r14)) (.cond (V 48) (.seq (.clr [(50, 57)] (.region law04_do_r15)) (.seq (.clr [(57, 59)] (.region law04_do_r16)) .ret)) (.seq (.clr [(60, 61)] (.region law04_do_r17)) (.cond (V 59) (.clr [(61, 65)] (.region law04_do_r18)) (.seq (.clr [(66, 67)] (.region law04_do_r19)) (.cond (V 65) (.seq (.clr [(67, 73)] (.region law04_do_r20)) .ret) .skip)))))))))))))))))))) (.seq (.region law04_do_r21) .ret))), true⟩

def law04_same_r0 : List POper := [Q 4 (.mov ff')]
@[simp] theorem law04_same_r0_go : type_of% (ops_go law04_same_r0.eq_1 T K fr S) := ops_go law04_same_r0.eq_1 T K fr S
def law04_same_r1 : List POper := [M 6 0,Q 7 (.len false (V 6)),M 8 1,Q 9 (.len false (V 8)),Q 10 (.arith .neq (V 7) (V 9))]
@[simp] theorem law04_same_r1_go : type_of% (ops_go law04_same_r1.eq_1 T K fr S) := ops_go law04_same_r1.eq_1 T K fr S
def law04_same_r2 : List POper := [Q 4 (.mov ff')]
@[simp] theorem law04_same_r2_go : type_of% (ops_go law04_same_r2.eq_1 T K fr S) := ops_go law04_same_r2.eq_1 T K fr S
def law04_same_r3 : List POper := [Q 5 (.mov (I 0))]
@[simp] theorem law04_same_r3_go : type_of% (ops_go law04_same_r3.eq_1 T K fr S) := ops_go law04_same_r3.eq_1 T K fr S
def law04_same_r4 : List POper := [M 11 5,M 12 0,Q 13 (.len false (V 12)),Q 14 (.arith .lss (V 11) (V 13))]
@[simp] theorem law04_same_r4_go : type_of% (ops_go law04_same_r4.eq_1 T K fr S) := ops_go law04_same_r4.eq_1 T K fr S
def law04_same_r6 : List POper := [M 17 0,M 18 5,Q 19 (.iaddr 1 (V 17) (V 18)),Q 20 (.load false 1 true (V 19)),M 21 1,M 22 5,Q 23 (.iaddr 1 (V 21) (V 22)),Q 24 (.load false 1 true (V 23)),Q 25 (.arith .neq (V 20) (V 24))]
@[simp] theorem law04_same_r6_go : type_of% (ops_go law04_same_r6.eq_1 T K fr S) := ops_go law04_same_r6.eq_1 T K fr S
def law04_same_r7 : List POper := [Q 4 (.mov ff')]
@[simp] theorem law04_same_r7_go : type_of% (ops_go law04_same_r7.eq_1 T K fr S) := ops_go law04_same_r7.eq_1 T K fr S
def law04_same_r5 : List POper := [M 15 5,Q 16 (.arith .add (V 15) (I 1)),M 5 16]
@[simp] theorem law04_same_r5_go : type_of% (ops_go law04_same_r5.eq_1 T K fr S) := ops_go law04_same_r5.eq_1 T K fr S
def law04_same_l0 : PCode :=
  (.seq (.seq (.clr [(11, 14)] (.region law04_same_r4)) (.cond (V 14) .skip (.exit 0))) (.seq (.block 1 (.seq (.clr [(17, 25)] (.region law04_same_r6)) (.cond (V 25) (.seq (.region law04_same_r7) .ret) .skip))) (.clr [(15, 17)] (.region law04_same_r5))))
@[simp] theorem law04_same_l0_go : type_of% (code_go law04_same_l0.eq_1 T K fr S) := code_go law04_same_l0.eq_1 T K fr S
def law04_same_r8 : List POper := [Q 4 (.mov tt')]
@[simp] theorem law04_same_r8_go : type_of% (ops_go law04_same_r8.eq_1 T K fr S) := ops_go law04_same_r8.eq_1 T K fr S
def law04_same : PCodeFn :=
  ⟨2, [.tmp 4],
  (.seq (.region law04_same_r0) (.seq (.seq (.clr [(6, 10)] (.region law04_same_r1)) (.cond (V 10) (.seq (.region law04_same_r2) .ret) .skip)) (.seq (.seq (.region law04_same_r3) (.block 0 (.loop law04_same_l0))) (.seq (.region law04_same_r8) .ret)))), false⟩

def ref04_New_r0 : List POper := [Q 2 (.alloc false [(.int .i64 0), .nils, .nils, .nils, (.int .i64 0), (.bool false), (.int .i64 0)]),Q 3 (.mov (I 0))]
@[simp] theorem ref04_New_r0_go : type_of% (ops_go ref04_New_r0.eq_1 T K fr S) := ops_go ref04_New_r0.eq_1 T K fr S
def ref04_New_r1 : List POper := [M 4 0,Q 5 (.arith .lss (V 4) (I 1)),M 6 5,QG (some 7) (.mov (V 0)) 6 false,QG (some 8) (.arith .gtr (V 7) (I 4194304)) 6 false,Q 9 (.pick (V 6) tt' (V 8))]
@[simp] theorem ref04_New_r1_go : type_of% (ops_go ref04_New_r1.eq_1 T K fr S) := ops_go ref04_New_r1.eq_1 T K fr S
def ref04_New_r2 : List POper := [Q 10 (.build [(.int .i64 0), .nils, .nils, .nils, (.int .i64 0), (.bool false), (.int .i64 0)] []),QN (.store 7 (V 2) (V 10)),Q 3 (.mov (I 2))]
@[simp] theorem ref04_New_r2_go : type_of% (ops_go ref04_New_r2.eq_1 T K fr S) := ops_go ref04_New_r2.eq_1 T K fr S
def ref04_New_r3 : List POper := [M 11 0,Q 12 (.build [(.int .i64 0), .nils, .nils, .nils, (.int .i64 0), (.bool false), (.int .i64 0)] [(0, 1, (V 11)), (4, 1, (I (-1)))]),QN (.store 7 (V 2) (V 12)),Q 3 (.mov (I 0))]
@[simp] theorem ref04_New_r3_go : type_of% (ops_go ref04_New_r3.eq_1 T K fr S) := ops_go ref04_New_r3.eq_1 T K fr S
def ref04_New : PCodeFn :=
  ⟨1, [.cell 2 true 7, .tmp 3],
  (.seq (.region ref04_New_r0) (.seq (.seq (.clr [(4, 9)] (.region ref04_New_r1)) (.cond (V 9) (.seq (.clr [(10, 11)] (.region ref04_New_r2)) .ret) .skip)) (.seq (.clr [(11, 13)] (.region ref04_New_r3)) .ret))), false⟩

def law04_done_r0 : List POper := [Q 2 (.box true (V 0)),Q 3 (.box true (V 1)),Q 4 (.alloc false [(.int .i64 0), .nils, .nils, .nils, (.int .i64 0), (.bool false), (.int .i64 0)]),Q 5 (.mov (I 0)),Q 6 (.mov (.cst .nils))]
@[simp] theorem law04_done_r0_go : type_of% (ops_go law04_done_r0.eq_1 T K fr S) := ops_go law04_done_r0.eq_1 T K fr S
def law04_done_r1 : List POper := [FA 11 0 3,LD 12 11,Q 13 (.arith .geq (V 12) (I 1)),M 14 13,QG (some 15) (.faddr 0 (V 3)) 14 true,QG (some 16) (.load false 1 false (V 15)) 14 true,QG (some 17) (.arith .leq (V 16) (I 6)) 14 true,Q 18 (.pick (V 14) (V 17) ff')]
@[simp] theorem law04_done_r1_go : type_of% (ops_go law04_done_r1.eq_1 T K fr S) := ops_go law04_done_r1.eq_1 T K fr S
def law04_done_r2 : List POper := [Q 20 (.load true 7 false (V 2)),FA 21 0 3,LD 22 21,FA 23 1 3,LD 24 23,FA 25 2 3,LD 26 25,FA 27 3 3,LD 28 27,Q 29 (.call .std 86 [(V 20), (V 22), (V 24), (V 26), (V 28)]),M 19 29,EX 30 0 19,EX 31 1 19,Q 7 (.alloc false [(.int .i64 0), .nils, .nils, .nils, (.int .i64 0), (.bool false), (.int .i64 0)]),QN (.store 7 (V 7) (V 30)),M 8 31]
@[simp] theorem law04_done_r2_go : type_of% (ops_go law04_done_r2.eq_1 T K fr S) := ops_go law04_done_r2.eq_1 T K fr S
def law04_done_r3 : List POper := [Q 32 (.load true 7 false (V 7)),M 33 8,QN (.store 7 (V 4) (V 32)),M 5 33,Q 6 (.mov (.cst .nils))]
@[simp] theorem law04_done_r3_go : type_of% (ops_go law04_done_r3.eq_1 T K fr S) := ops_go law04_done_r3.eq_1 T K fr S
def law04_done_r4 : List POper := [FA 34 0 3,LD 35 34]
@[simp] theorem law04_done_r4_go : type_of% (ops_go law04_done_r4.eq_1 T K fr S) := ops_go law04_done_r4.eq_1 T K fr S
def law04_done_r5 : List POper := [Q 37 (.arith .eql (V 35) (I 7)),M 36 37]
@[simp] theorem law04_done_r5_go : type_of% (ops_go law04_done_r5.eq_1 T K fr S) := ops_go law04_done_r5.eq_1 T K fr S
def law04_done_r6 : List POper := [Q 39 (.load true 7 false (V 2)),FA 40 1 3,LD 41 40,Q 42 (.call .std 87 [(V 39), (V 41)]),M 38 42,EX 43 0 38,EX 44 1 38,M 9 43,M 10 44]
@[simp] theorem law04_done_r6_go : type_of% (ops_go law04_done_r6.eq_1 T K fr S) := ops_go law04_done_r6.eq_1 T K fr S
def law04_done_r7 : List POper := [Q 45 (.load true 7 false (V 2)),M 46 10,M 47 9,QN (.store 7 (V 4) (V 45)),M 5 46,M 6 47]
@[simp] theorem law04_done_r7_go : type_of% (ops_go law04_done_r7.eq_1 T K fr S) := ops_go law04_done_r7.eq_1 T K fr S
def law04_done_r8 : List POper := [Q 49 (.arith .eql (V 35) (I 8)),M 48 49]
@[simp] theorem law04_done_r8_go : type_of% (ops_go law04_done_r8.eq_1 T K fr S) := ops_go law04_done_r8.eq_1 T K fr S
def law04_done_r9 : List POper := [Q 50 (.load true 7 false (V 2)),FA 51 4 3,LD 52 51,Q 53 (.call .std 88 [(V 50), (V 52)]),QN (.store 7 (V 4) (V 53)),Q 5 (.mov (I 0)),Q 6 (.mov (.cst .nils))]
@[simp] theorem law04_done_r9_go : type_of% (ops_go law04_done_r9.eq_1 T K fr S) := ops_go law04_done_r9.eq_1 T K fr S
def law04_done_r10 : List POper := [Q 55 (.arith .eql (V 35) (I 9)),M 54 55]
@[simp] theorem law04_done_r10_go : type_of% (ops_go law04_done_r10.eq_1 T K fr S) := ops_go law04_done_r10.eq_1 T K fr S
def law04_done_r11 : List POper := [Q 56 (.load true 7 false (V 2)),FA 57 4 3,LD 58 57,FA 59 5 3,LD 60 59,Q 61 (.call .std 89 [(V 56), (V 58), (V 60)]),QN (.store 7 (V 4) (V 61)),Q 5 (.mov (I 0)),Q 6 (.mov (.cst .nils))]
@[simp] theorem law04_done_r11_go : type_of% (ops_go law04_done_r11.eq_1 T K fr S) := ops_go law04_done_r11.eq_1 T K fr S
def law04_done_r12 : List POper := [Q 62 (.load true 7 false (V 2)),QN (.store 7 (V 4) (V 62)),Q 5 (.mov (I 0)),Q 6 (.mov (.cst .nils))]
@[simp] theorem law04_done_r12_go : type_of% (ops_go law04_done_r12.eq_1 T K fr S) := ops_go law04_done_r12.eq_1 T K fr S
def law04_done : PCodeFn :=
  ⟨2, [.cell 4 true 7, .tmp 5, .tmp 6],
  (.seq (.region law04_done_r0) (.seq (.seq (.clr [(11, 18)] (.region law04_done_r1)) (.cond (V 18) (.seq (.clr [(19, 32)] (.region law04_done_r2)) (.seq (.clr [(32, 34)] (.region law04_done_r3)) .ret)) .skip)) (.seq (.seq (.clr [(34, 35)] (.region law04_done_r4)) (.block 0 (.seq (.clr [(37, 38)] (.region law04_done_r5)) (.cond (V 36) (.seq (.clr [(38, 45)] (.region law04_done_r6)) (.seq (.clr [(45, 48)] (.region law04_done_r7)) .ret)) (.seq (.clr [(49, 50)] (.region law04_done_r8)) (.cond (V 48) (.seq (.clr [(50, 54)] (.region law04_done_r9)) .ret) (.seq (.clr [(55, 56)] (.region law04_done_r10)) (.cond (V 54) (.seq (.clr [(56, 62)] (.region law04_done_r11)) .ret) .skip)))))))) (.seq (.clr [(62, 63)] (.region law04_done_r12)) .ret)))), false⟩

def law04_whole_r0 : List POper := [Q 3 (.box true (V 1)),Q 4 (.mov ff')]
@[simp] theorem law04_whole_r0_go : type_of% (ops_go law04_whole_r0.eq_1 T K fr S) := ops_go law04_whole_r0.eq_1 T K fr S
def law04_whole_r1 : List POper := [M 11 0,Q 12 (.call .std 90 [(V 11)]),M 5 12]
@[simp] theorem law04_whole_r1_go : type_of% (ops_go law04_whole_r1.eq_1 T K fr S) := ops_go law04_whole_r1.eq_1 T K fr S
def law04_whole_r2 : List POper := [M 13 5,Q 14 (.load true 7 true (V 3)),Q 15 (.call .std 92 [(V 14)]),Q 16 (.call .std 91 [(V 13), (V 15)]),Q 17 (.un .not (V 16)),M 18 17,QG (some 19) (.mov (V 0)) 18 false,QG (some 20) (.call .std 93 [(V 19)]) 18 false,QG (some 21) (.faddr 6 (V 3)) 18 false,QG (some 22) (.load false 1 true (V 21)) 18 false,QG (some 23) (.arith .neq (V 20) (V 22)) 18 false,Q 24 (.pick (V 18) tt' (V 23))]
@[simp] theorem law04_whole_r2_go : type_of% (ops_go law04_whole_r2.eq_1 T K fr S) := ops_go law04_whole_r2.eq_1 T K fr S
def law04_whole_r3 : List POper := [Q 4 (.mov ff')]
@[simp] theorem law04_whole_r3_go : type_of% (ops_go law04_whole_r3.eq_1 T K fr S) := ops_go law04_whole_r3.eq_1 T K fr S
def law04_whole_r4 : List POper := [Q 6 (.mov (I 0))]
@[simp] theorem law04_whole_r4_go : type_of% (ops_go law04_whole_r4.eq_1 T K fr S) := ops_go law04_whole_r4.eq_1 T K fr S
def law04_whole_r5 : List POper := [M 25 6,M 26 5,Q 27 (.len false (V 26)),Q 28 (.arith .lss (V 25) (V 27))]
@[simp] theorem law04_whole_r5_go : type_of% (ops_go law04_whole_r5.eq_1 T K fr S) := ops_go law04_whole_r5.eq_1 T K fr S
def law04_whole_r7 : List POper := [M 32 0,M 33 5,M 34 6,Q 35 (.iaddr 1 (V 33) (V 34)),LD 36 35,Q 37 (.call .std 81 [(V 32), (V 36)]),M 31 37,EX 38 0 31,EX 39 1 31,M 7 38,M 8 39]
@[simp] theorem law04_whole_r7_go : type_of% (ops_go law04_whole_r7.eq_1 T K fr S) := ops_go law04_whole_r7.eq_1 T K fr S
def law04_whole_r8 : List POper := [Q 41 (.load true 7 true (V 3)),M 42 5,M 43 6,Q 44 (.iaddr 1 (V 42) (V 43)),Q 45 (.load false 1 true (V 44)),Q 46 (.call .std 87 [(V 41), (V 45)]),M 40 46,EX 47 0 40,EX 48 1 40,M 9 47,M 10 48]
@[simp] theorem law04_whole_r8_go : type_of% (ops_go law04_whole_r8.eq_1 T K fr S) := ops_go law04_whole_r8.eq_1 T K fr S
def law04_whole_r9 : List POper := [M 49 7,Q 50 (.toStrO (V 49)),M 51 9,Q 52 (.toStrO (V 51)),Q 53 (.arith .neq (V 50) (V 52)),M 54 53,QG (some 55) (.mov (V 8)) 54 false,QG (some 56) (.mov (V 10)) 54 false,QG (some 57) (.arith .neq (V 55) (V 56)) 54 false,Q 58 (.pick (V 54) tt' (V 57))]
@[simp] theorem law04_whole_r9_go : type_of% (ops_go law04_whole_r9.eq_1 T K fr S) := ops_go law04_whole_r9.eq_1 T K fr S
def law04_whole_r10 : List POper := [Q 4 (.mov ff')]
@[simp] theorem law04_whole_r10_go : type_of% (ops_go law04_whole_r10.eq_1 T K fr S) := ops_go law04_whole_r10.eq_1 T K fr S
def law04_whole_r6 : List POper := [M 29 6,Q 30 (.arith .add (V 29) (I 1)),M 6 30]
@[simp] theorem law04_whole_r6_go : type_of% (ops_go law04_whole_r6.eq_1 T K fr S) := ops_go law04_whole_r6.eq_1 T K fr S
def law04_whole_l0 : PCode :=
  (.seq (.seq (.clr [(25, 28)] (.region law04_whole_r5)) (.cond (V 28) .skip (.exit 0))) (.seq (.block 1 (.seq (.clr [(31, 40)] (.region law04_whole_r7)) (.seq (.clr [(40, 49)] (.region law04_whole_r8)) (.seq (.clr [(49, 58)] (.region law04_whole_r9)) (.cond (V 58) (.seq (.region law04_whole_r10) .ret) .skip))))) (.clr [(29, 31)] (.region law04_whole_r6))))
@[simp] theorem law04_whole_l0_go : type_of% (code_go law04_whole_l0.eq_1 T K fr S) := code_go law04_whole_l0.eq_1 T K fr S
def law04_whole_r11 : List POper := [Q 4 (.mov tt')]
@[simp] theorem law04_whole_r11_go : type_of% (ops_go law04_whole_r11.eq_1 T K fr S) := ops_go law04_whole_r11.eq_1 T K fr S
def law04_whole : PCodeFn :=
  ⟨2, [.tmp 4],
  (.seq (.region law04_whole_r0) (.seq (.clr [(11, 13)] (.region law04_whole_r1)) (.seq (.seq (.clr [(13, 24)] (.region law04_whole_r2)) (.cond (V 24) (.seq (.region law04_whole_r3) .ret) .skip)) (.seq (.seq (.region law04_whole_r4) (.block 0 (.loop law04_whole_l0))) (.seq (.region law04_whole_r11) .ret))))), false⟩

def disk_Disk_Done_r0 : List POper := [Q 2 (.mov (I 0))]
@[simp] theorem disk_Disk_Done_r0_go : type_of% (ops_go disk_Disk_Done_r0.eq_1 T K fr S) := ops_go disk_Disk_Done_r0.eq_1 T K fr S
def disk_Disk_Done_r1 : List POper := [M 3 0,Q 4 (.eqn false .p (V 3))]
@[simp] theorem disk_Disk_Done_r1_go : type_of% (ops_go disk_Disk_Done_r1.eq_1 T K fr S) := ops_go disk_Disk_Done_r1.eq_1 T K fr S
def disk_Disk_Done_r2 : List POper := [Q 2 (.mov (I 0))]
@[simp] theorem disk_Disk_Done_r2_go : type_of% (ops_go disk_Disk_Done_r2.eq_1 T K fr S) := ops_go disk_Disk_Done_r2.eq_1 T K fr S
def disk_Disk_Done_r3 : List POper := [M 5 0,NK' 6 5,FA 7 5 6,LD 8 7,M 2 8]
@[simp] theorem disk_Disk_Done_r3_go : type_of% (ops_go disk_Disk_Done_r3.eq_1 T K fr S) := ops_go disk_Disk_Done_r3.eq_1 T K fr S
def disk_Disk_Done : PCodeFn :=
  ⟨1, [.tmp 2],
  (.seq (.region disk_Disk_Done_r0) (.seq (.seq (.clr [(3, 4)] (.region disk_Disk_Done_r1)) (.cond (V 4) (.seq (.region disk_Disk_Done_r2) .ret) .skip)) (.seq (.clr [(5, 9)] (.region disk_Disk_Done_r3)) .ret))), false⟩

def disk_Disk_Copy_r0 : List POper := [Q 2 (.mov (.cst .nilp))]
@[simp] theorem disk_Disk_Copy_r0_go : type_of% (ops_go disk_Disk_Copy_r0.eq_1 T K fr S) := ops_go disk_Disk_Copy_r0.eq_1 T K fr S
def disk_Disk_Copy_r1 : List POper := [M 9 0,Q 10 (.eqn false .p (V 9)),M 11 10,QG (some 12) (.mov (V 0)) 11 false,QG (some 13) (.nilck (V 12)) 11 false,QG (some 14) (.faddr 2 (V 13)) 11 false,QG (some 15) (.load false 1 false (V 14)) 11 false,QG (some 16) (.eqn false .m (V 15)) 11 false,Q 17 (.pick (V 11) tt' (V 16))]
@[simp] theorem disk_Disk_Copy_r1_go : type_of% (ops_go disk_Disk_Copy_r1.eq_1 T K fr S) := ops_go disk_Disk_Copy_r1.eq_1 T K fr S
def disk_Disk_Copy_r2 : List POper := [Q 2 (.mov (.cst .nilp))]
@[simp] theorem disk_Disk_Copy_r2_go : type_of% (ops_go disk_Disk_Copy_r2.eq_1 T K fr S) := ops_go disk_Disk_Copy_r2.eq_1 T K fr S
def disk_Disk_Copy_r3 : List POper := [Q 18 (.mkm),Q 3 (.alloc false [.nilm]),QN (.store 1 (V 3) (V 18))]
@[simp] theorem disk_Disk_Copy_r3_go : type_of% (ops_go disk_Disk_Copy_r3.eq_1 T K fr S) := ops_go disk_Disk_Copy_r3.eq_1 T K fr S
def disk_Disk_Copy_r4 : List POper := [Q 19 (.mkfn 463 [(V 3)]),Q 4 (.alloc false [.nilf]),QN (.store 1 (V 4) (V 19))]
@[simp] theorem disk_Disk_Copy_r4_go : type_of% (ops_go disk_Disk_Copy_r4.eq_1 T K fr S) := ops_go disk_Disk_Copy_r4.eq_1 T K fr S
def disk_Disk_Copy_r5 : List POper := [Q 20 (.mkfn 464 [(V 4)]),M 5 20]
@[simp] theorem disk_Disk_Copy_r5_go : type_of% (ops_go disk_Disk_Copy_r5.eq_1 T K fr S) := ops_go disk_Disk_Copy_r5.eq_1 T K fr S
def disk_Disk_Copy_r6 : List POper := [M 21 0,NK' 22 21,Q 23 (.load true 7 false (V 22)),Q 6 (.alloc false [(.int .i64 0), .nilm, .nilm, .nils, (.int .i64 0), (.int .i64 0), (.bool false)]),QN (.store 7 (V 6) (V 23))]
@[simp] theorem disk_Disk_Copy_r6_go : type_of% (ops_go disk_Disk_Copy_r6.eq_1 T K fr S) := ops_go disk_Disk_Copy_r6.eq_1 T K fr S
def disk_Disk_Copy_r7 : List POper := [M 24 5,M 25 0,NK' 26 25,FA 27 1 26,LD 28 27,Q 29 (.callv .pur (V 24) [(V 28)]),M 30 5,M 31 0,NK' 32 31,FA 33 2 32,LD 34 33,Q 35 (.callv .std (V 30) [(V 34)]),FA 36 1 6,QN (.store 1 (V 36) (V 29)),FA 37 2 6,QN (.store 1 (V 37) (V 35)),FA 38 3 6,QN (.store 1 (V 38) (.cst .nils))]
@[simp] theorem disk_Disk_Copy_r7_go : type_of% (ops_go disk_Disk_Copy_r7.eq_1 T K fr S) := ops_go disk_Disk_Copy_r7.eq_1 T K fr S
def disk_Disk_Copy_r8 : List POper := [M 39 0,NK' 40 39,FA 41 3 40,LD 42 41,Q 43 (.len false (V 42)),Q 44 (.mov (I 0))]
@[simp] theorem disk_Disk_Copy_r8_go : type_of% (ops_go disk_Disk_Copy_r8.eq_1 T K fr S) := ops_go disk_Disk_Copy_r8.eq_1 T K fr S
def disk_Disk_Copy_r9 : List POper := [Q 45 (.arith .lss (V 44) (V 43))]
@[simp] theorem disk_Disk_Copy_r9_go : type_of% (ops_go disk_Disk_Copy_r9.eq_1 T K fr S) := ops_go disk_Disk_Copy_r9.eq_1 T K fr S
def disk_Disk_Copy_r10 : List POper := [Q 46 (.iaddr 3 (V 42) (V 44)),Q 47 (.load true 3 false (V 46)),Q 8 (.alloc false [(.str []), (.str []), .nilp]),QN (.store 3 (V 8) (V 47))]
@[simp] theorem disk_Disk_Copy_r10_go : type_of% (ops_go disk_Disk_Copy_r10.eq_1 T K fr S) := ops_go disk_Disk_Copy_r10.eq_1 T K fr S
def disk_Disk_Copy_r11 : List POper := [LD 48 4,FA 49 2 8,LD 50 49,Q 51 (.callv .std (V 48) [(V 50)]),FA 52 2 8,QN (.store 1 (V 52) (V 51))]
@[simp] theorem disk_Disk_Copy_r11_go : type_of% (ops_go disk_Disk_Copy_r11.eq_1 T K fr S) := ops_go disk_Disk_Copy_r11.eq_1 T K fr S
def disk_Disk_Copy_r12 : List POper := [FA 53 3 6,LD 54 53,Q 55 (.load true 3 false (V 8)),Q 56 (.bsl false (.agg [(.str []), (.str []), .nilp]) 1 [(0, (V 55))]),Q 57 (.app 3 40 (V 54) (V 56)),FA 58 3 6,QN (.store 1 (V 58) (V 57))]
@[simp] theorem disk_Disk_Copy_r12_go : type_of% (ops_go disk_Disk_Copy_r12.eq_1 T K fr S) := ops_go disk_Disk_Copy_r12.eq_1 T K fr S
def disk_Disk_Copy_r13 : List POper := [Q 59 (.arith .add (V 44) (I 1)),M 44 59]
@[simp] theorem disk_Disk_Copy_r13_go : type_of% (ops_go disk_Disk_Copy_r13.eq_1 T K fr S) := ops_go disk_Disk_Copy_r13.eq_1 T K fr S
def disk_Disk_Copy_l0 : PCode :=
  (.seq (.region disk_Disk_Copy_r9) (.seq (.cond (V 45) .skip (.exit 0)) (.seq (.block 1 (.seq (.clr [(46, 48)] (.region disk_Disk_Copy_r10)) (.seq (.clr [(48, 53)] (.region disk_Disk_Copy_r11)) (.clr [(53, 59)] (.region disk_Disk_Copy_r12))))) (.clr [(59, 60)] (.region disk_Disk_Copy_r13)))))
@[simp] theorem disk_Disk_Copy_l0_go : type_of% (code_go disk_Disk_Copy_l0.eq_1 T K fr S) := code_go disk_Disk_Copy_l0.eq_1 T K fr S
def disk_Disk_Copy_r14 : List POper := [M 2 6]
@[simp] theorem disk_Disk_Copy_r14_go : type_of% (ops_go disk_Disk_Copy_r14.eq_1 T K fr S) := ops_go disk_Disk_Copy_r14.eq_1 T K fr S
def disk_Disk_Copy : PCodeFn :=
  ⟨1, [.tmp 2],
  (.seq (.region disk_Disk_Copy_r0) (.seq (.seq (.clr [(9, 17)] (.region disk_Disk_Copy_r1)) (.cond (V 17) (.seq (.region disk_Disk_Copy_r2) .ret) .skip)) (.seq (.clr [(18, 19)] (.region disk_Disk_Copy_r3)) (.seq (.clr [(19, 20)] (.region disk_Disk_Copy_r4)) (.seq (.clr [(20, 21)] (.region disk_Disk_Copy_r5)) (.seq (.clr [(21, 24)] (.region disk_Disk_Copy_r6)) (.seq (.clr [(24, 39)] (.region disk_Disk_Copy_r7)) (.seq (.seq (.clr [(39, 42)] (.region disk_Disk_Copy_r8)) (.block 0 (.loop disk_Disk_Copy_l0))) (.seq (.region disk_Disk_Copy_r14) .ret))))))))), false⟩

def disk_Disk_find_r0 : List POper := [Q 4 (.mov (.cst .nilp)),Q 5 (.mov (I 0))]
@[simp] theorem disk_Disk_find_r0_go : type_of% (ops_go disk_Disk_find_r0.eq_1 T K fr S) := ops_go disk_Disk_find_r0.eq_1 T K fr S
def disk_Disk_find_r1 : List POper := [M 7 0,Q 8 (.eqn false .p (V 7)),M 9 8,QG (some 10) (.mov (V 0)) 9 false,QG (some 11) (.nilck (V 10)) 9 false,QG (some 12) (.faddr 2 (V 11)) 9 false,QG (some 13) (.load false 1 false (V 12)) 9 false,QG (some 14) (.eqn false .m (V 13)) 9 false,Q 15 (.pick (V 9) tt' (V 14)),M 6 15]
@[simp] theorem disk_Disk_find_r1_go : type_of% (ops_go disk_Disk_find_r1.eq_1 T K fr S) := ops_go disk_Disk_find_r1.eq_1 T K fr S
def disk_Disk_find_r2 : List POper := [Q 4 (.mov (.cst .nilp)),Q 5 (.mov (I 1))]
@[simp] theorem disk_Disk_find_r2_go : type_of% (ops_go disk_Disk_find_r2.eq_1 T K fr S) := ops_go disk_Disk_find_r2.eq_1 T K fr S
def disk_Disk_find_r3 : List POper := [M 17 1,Q 18 (.call .pur 202 [(V 17)]),Q 19 (.un .not (V 18)),M 16 19]
@[simp] theorem disk_Disk_find_r3_go : type_of% (ops_go disk_Disk_find_r3.eq_1 T K fr S) := ops_go disk_Disk_find_r3.eq_1 T K fr S
def disk_Disk_find_r4 : List POper := [Q 4 (.mov (.cst .nilp)),Q 5 (.mov (I 8))]
@[simp] theorem disk_Disk_find_r4_go : type_of% (ops_go disk_Disk_find_r4.eq_1 T K fr S) := ops_go disk_Disk_find_r4.eq_1 T K fr S
def disk_Disk_find_r5 : List POper := [M 21 0,NK' 22 21,FA 23 2 22,LD 24 23,M 25 1,Q 26 (.mlk true false .nilp (V 24) (V 25)),Q 27 (.eqn false .p (V 26)),M 20 27]
@[simp] theorem disk_Disk_find_r5_go : type_of% (ops_go disk_Disk_find_r5.eq_1 T K fr S) := ops_go disk_Disk_find_r5.eq_1 T K fr S
def disk_Disk_find_r6 : List POper := [Q 4 (.mov (.cst .nilp)),Q 5 (.mov (I 9))]
@[simp] theorem disk_Disk_find_r6_go : type_of% (ops_go disk_Disk_find_r6.eq_1 T K fr S) := ops_go disk_Disk_find_r6.eq_1 T K fr S
def disk_Disk_find_r7 : List POper := [M 28 0,NK' 29 28,FA 30 2 29,LD 31 30,M 32 1,Q 33 (.mlk true false .nilp (V 31) (V 32)),M 4 33,Q 5 (.mov (I 0))]
@[simp] theorem disk_Disk_find_r7_go : type_of% (ops_go disk_Disk_find_r7.eq_1 T K fr S) := ops_go disk_Disk_find_r7.eq_1 T K fr S
def disk_Disk_find : PCodeFn :=
  ⟨2, [.tmp 4, .tmp 5],
  (.seq (.region disk_Disk_find_r0) (.seq (.block 0 (.seq (.clr [(7, 16)] (.region disk_Disk_find_r1)) (.cond (V 6) (.seq (.region disk_Disk_find_r2) .ret) (.seq (.clr [(17, 20)] (.region disk_Disk_find_r3)) (.cond (V 16) (.seq (.region disk_Disk_find_r4) .ret) (.seq (.clr [(21, 28)] (.region disk_Disk_find_r5)) (.cond (V 20) (.seq (.region disk_Disk_find_r6) .ret) .skip))))))) (.seq (.clr [(28, 34)] (.region disk_Disk_find_r7)) .ret))), false⟩

def disk_Disk_enter_r0 : List POper := [Q 3 (.box true (V 1)),Q 4 (.mov (I 0))]
@[simp] theorem disk_Disk_enter_r0_go : type_of% (ops_go disk_Disk_enter_r0.eq_1 T K fr S) := ops_go disk_Disk_enter_r0.eq_1 T K fr S
def disk_Disk_enter_r1 : List POper := [M 6 0,Q 7 (.call .std 196 [(V 6)]),M 5 7]
@[simp] theorem disk_Disk_enter_r1_go : type_of% (ops_go disk_Disk_enter_r1.eq_1 T K fr S) := ops_go disk_Disk_enter_r1.eq_1 T K fr S
def disk_Disk_enter_r2 : List POper := [M 8 5,Q 9 (.arith .neq (V 8) (I 0))]
@[simp] theorem disk_Disk_enter_r2_go : type_of% (ops_go disk_Disk_enter_r2.eq_1 T K fr S) := ops_go disk_Disk_enter_r2.eq_1 T K fr S
def disk_Disk_enter_r3 : List POper := [M 10 5,M 4 10]
@[simp] theorem disk_Disk_enter_r3_go : type_of% (ops_go disk_Disk_enter_r3.eq_1 T K fr S) := ops_go disk_Disk_enter_r3.eq_1 T K fr S
def disk_Disk_enter_r4 : List POper := [Q 11 (.load true 3 true (V 3)),M 12 0,NK' 13 12,FA 14 2 13,LD 15 14,Q 16 (.call .std 198 [(V 11), (V 15)])]
@[simp] theorem disk_Disk_enter_r4_go : type_of% (ops_go disk_Disk_enter_r4.eq_1 T K fr S) := ops_go disk_Disk_enter_r4.eq_1 T K fr S
def disk_Disk_enter_r5 : List POper := [M 17 0,M 18 0,NK' 19 18,FA 20 3 19,LD 21 20,Q 22 (.load true 3 true (V 3)),Q 23 (.bsl false (.agg [(.str []), (.str []), .nilp]) 1 [(0, (V 22))]),Q 24 (.app 3 40 (V 21) (V 23)),NK' 25 17,FA 26 3 25,QN (.store 1 (V 26) (V 24))]
@[simp] theorem disk_Disk_enter_r5_go : type_of% (ops_go disk_Disk_enter_r5.eq_1 T K fr S) := ops_go disk_Disk_enter_r5.eq_1 T K fr S
def disk_Disk_enter_r6 : List POper := [Q 4 (.mov (I 0))]
@[simp] theorem disk_Disk_enter_r6_go : type_of% (ops_go disk_Disk_enter_r6.eq_1 T K fr S) := ops_go disk_Disk_enter_r6.eq_1 T K fr S
def disk_Disk_enter : PCodeFn :=
  ⟨2, [.tmp 4],
  (.seq (.region disk_Disk_enter_r0) (.seq (.seq (.clr [(6, 8)] (.region disk_Disk_enter_r1)) (.seq (.clr [(8, 9)] (.region disk_Disk_enter_r2)) (.cond (V 9) (.seq (.clr [(10, 11)] (.region disk_Disk_enter_r3)) .ret) .skip))) (.seq (.clr [(11, 17)] (.region disk_Disk_enter_r4)) (.seq (.clr [(17, 27)] (.region disk_Disk_enter_r5)) (.seq (.region disk_Disk_enter_r6) .ret))))), false⟩

def disk_Disk_step_r0 : List POper := [Q 2 (.mov (I 0))]
@[simp] theorem disk_Disk_step_r0_go : type_of% (ops_go disk_Disk_step_r0.eq_1 T K fr S) := ops_go disk_Disk_step_r0.eq_1 T K fr S
def disk_Disk_step_r1 : List POper := [M 3 0,NK' 4 3,FA 5 4 4,LD 6 5,Q 7 (.arith .eql (V 6) (I 0))]
@[simp] theorem disk_Disk_step_r1_go : type_of% (ops_go disk_Disk_step_r1.eq_1 T K fr S) := ops_go disk_Disk_step_r1.eq_1 T K fr S
def disk_Disk_step_r2 : List POper := [M 8 0,NK' 9 8,FA 10 6 9,QN (.store 1 (V 10) tt')]
@[simp] theorem disk_Disk_step_r2_go : type_of% (ops_go disk_Disk_step_r2.eq_1 T K fr S) := ops_go disk_Disk_step_r2.eq_1 T K fr S
def disk_Disk_step_r3 : List POper := [M 11 0,NK' 12 11,FA 13 6 12,LD 14 13]
@[simp] theorem disk_Disk_step_r3_go : type_of% (ops_go disk_Disk_step_r3.eq_1 T K fr S) := ops_go disk_Disk_step_r3.eq_1 T K fr S
def disk_Disk_step_r4 : List POper := [Q 2 (.mov (I 6))]
@[simp] theorem disk_Disk_step_r4_go : type_of% (ops_go disk_Disk_step_r4.eq_1 T K fr S) := ops_go disk_Disk_step_r4.eq_1 T K fr S
def disk_Disk_step_r5 : List POper := [M 15 0,NK' 16 15,FA 17 4 16,LD 18 17,Q 19 (.arith .gtr (V 18) (I 0))]
@[simp] theorem disk_Disk_step_r5_go : type_of% (ops_go disk_Disk_step_r5.eq_1 T K fr S) := ops_go disk_Disk_step_r5.eq_1 T K fr S
def disk_Disk_step_r6 : List POper := [M 20 0,NK' 21 20,FA 22 4 21,LD 23 22,Q 24 (.arith .sub (V 23) (I 1)),NK' 25 20,FA 26 4 25,QN (.store 1 (V 26) (V 24))]
@[simp] theorem disk_Disk_step_r6_go : type_of% (ops_go disk_Disk_step_r6.eq_1 T K fr S) := ops_go disk_Disk_step_r6.eq_1 T K fr S
def disk_Disk_step_r7 : List POper := [M 27 0,NK' 28 27,FA 29 5 28,LD 30 29,Q 31 (.arith .add (V 30) (I 1)),NK' 32 27,FA 33 5 32,QN (.store 1 (V 33) (V 31))]
@[simp] theorem disk_Disk_step_r7_go : type_of% (ops_go disk_Disk_step_r7.eq_1 T K fr S) := ops_go disk_Disk_step_r7.eq_1 T K fr S
def disk_Disk_step_r8 : List POper := [Q 2 (.mov (I 0))]
@[simp] theorem disk_Disk_step_r8_go : type_of% (ops_go disk_Disk_step_r8.eq_1 T K fr S) := ops_go disk_Disk_step_r8.eq_1 T K fr S
def disk_Disk_step : PCodeFn :=
  ⟨1, [.tmp 2],
  (.seq (.region disk_Disk_step_r0) (.seq (.seq (.clr [(3, 7)] (.region disk_Disk_step_r1)) (.cond (V 7) (.clr [(8, 11)] (.region disk_Disk_step_r2)) .skip)) (.seq (.seq (.clr [(11, 14)] (.region disk_Disk_step_r3)) (.cond (V 14) (.seq (.region disk_Disk_step_r4) .ret) .skip)) (.seq (.seq (.clr [(15, 19)] (.region disk_Disk_step_r5)) (.cond (V 19) (.clr [(20, 27)] (.region disk_Disk_step_r6)) .skip)) (.seq (.clr [(27, 34)] (.region disk_Disk_step_r7)) (.seq (.region disk_Disk_step_r8) .ret)))))), false⟩

def maps_Clone_file_r0 : List POper := [Q 2 (.mov (.cst .nilm))]
@[simp] theorem maps_Clone_file_r0_go : type_of% (ops_go maps_Clone_file_r0.eq_1 T K fr S) := ops_go maps_Clone_file_r0.eq_1 T K fr S
def maps_Clone_file_r1 : List POper := [M 3 0,Q 4 (.eqn false .m (V 3))]
@[simp] theorem maps_Clone_file_r1_go : type_of% (ops_go maps_Clone_file_r1.eq_1 T K fr S) := ops_go maps_Clone_file_r1.eq_1 T K fr S
def maps_Clone_file_r2 : List POper := [Q 2 (.mov (.cst .nilm))]
@[simp] theorem maps_Clone_file_r2_go : type_of% (ops_go maps_Clone_file_r2.eq_1 T K fr S) := ops_go maps_Clone_file_r2.eq_1 T K fr S
def maps_Clone_file_r3 : List POper := [M 5 0,Q 6 (.mkif 4 (V 5)),Q 7 (.call .std 292 [(V 6)]),Q 8 (.assert 4 false .nilm (V 7)),M 2 8]
@[simp] theorem maps_Clone_file_r3_go : type_of% (ops_go maps_Clone_file_r3.eq_1 T K fr S) := ops_go maps_Clone_file_r3.eq_1 T K fr S
def maps_Clone_file : PCodeFn :=
  ⟨1, [.tmp 2],
  (.seq (.region maps_Clone_file_r0) (.seq (.seq (.clr [(3, 4)] (.region maps_Clone_file_r1)) (.cond (V 4) (.seq (.region maps_Clone_file_r2) .ret) .skip)) (.seq (.clr [(5, 9)] (.region maps_Clone_file_r3)) .ret))), false⟩

def disk_named_r0 : List POper := [Q 2 (.mov ff')]
@[simp] theorem disk_named_r0_go : type_of% (ops_go disk_named_r0.eq_1 T K fr S) := ops_go disk_named_r0.eq_1 T K fr S
def disk_named_r1 : List POper := [M 5 0,Q 6 (.len true (V 5)),Q 7 (.mov (I 0))]
@[simp] theorem disk_named_r1_go : type_of% (ops_go disk_named_r1.eq_1 T K fr S) := ops_go disk_named_r1.eq_1 T K fr S
def disk_named_r2 : List POper := [Q 8 (.arith .lss (V 7) (V 6))]
@[simp] theorem disk_named_r2_go : type_of% (ops_go disk_named_r2.eq_1 T K fr S) := ops_go disk_named_r2.eq_1 T K fr S
def disk_named_r3 : List POper := [M 9 7,M 3 9]
@[simp] theorem disk_named_r3_go : type_of% (ops_go disk_named_r3.eq_1 T K fr S) := ops_go disk_named_r3.eq_1 T K fr S
def disk_named_r4 : List POper := [M 10 0,M 11 3,Q 12 (.idxs (V 10) (V 11)),M 4 12]
@[simp] theorem disk_named_r4_go : type_of% (ops_go disk_named_r4.eq_1 T K fr S) := ops_go disk_named_r4.eq_1 T K fr S
def disk_named_r5 : List POper := [M 13 4,Q 14 (.arith .geq (V 13) (.cst (.int .u8 97))),M 15 14,QG (some 16) (.mov (V 4)) 15 true,QG (some 17) (.arith .leq (V 16) (.cst (.int .u8 122))) 15 true,Q 18 (.pick (V 15) (V 17) ff'),M 19 18,QG (some 20) (.mov (V 4)) 19 false,QG (some 21) (.arith .geq (V 20) (.cst (.int .u8 48))) 19 false,QG (some 22) (.mov (V 21)) 19 false,QG (some 23) (.mov (V 4)) 22 true,QG (some 24) (.arith .leq (V 23) (.cst (.int .u8 57))) 22 true,QG (some 25) (.pick (V 22) (V 24) ff') 19 false,Q 26 (.pick (V 19) tt' (V 25)),M 27 26,QG (some 28) (.mov (V 4)) 27 false,QG (some 29) (.arith .eql (V 28) (.cst (.int .u8 46))) 27 false,Q 30 (.pick (V 27) tt' (V 29)),M 31 30,QG (some 32) (.mov (V 4)) 31 false,QG (some 33) (.arith .eql (V 32) (.cst (.int .u8 45))) 31 false,Q 34 (.pick (V 31) tt' (V 33)),Q 35 (.un .not (V 34))]
@[simp] theorem disk_named_r5_go : type_of% (ops_go disk_named_r5.eq_1 T K fr S) := ops_go disk_named_r5.eq_1 T K fr S
def disk_named_r6 : List POper := [Q 2 (.mov ff')]
@[simp] theorem disk_named_r6_go : type_of% (ops_go disk_named_r6.eq_1 T K fr S) := ops_go disk_named_r6.eq_1 T K fr S
def disk_named_r7 : List POper := [Q 36 (.arith .add (V 7) (I 1)),M 7 36]
@[simp] theorem disk_named_r7_go : type_of% (ops_go disk_named_r7.eq_1 T K fr S) := ops_go disk_named_r7.eq_1 T K fr S
def disk_named_l0 : PCode :=
  (.seq (.region disk_named_r2) (.seq (.cond (V 8) .skip (.exit 0)) (.seq (.block 1 (.seq (.clr [(9, 10)] (.region disk_named_r3)) (.seq (.clr [(10, 13)] (.region disk_named_r4)) (.seq (.clr [(13, 35)] (.region disk_named_r5)) (.cond (V 35) (.seq (.region disk_named_r6) .ret) .skip))))) (.clr [(36, 37)] (.region disk_named_r7)))))
@[simp] theorem disk_named_l0_go : type_of% (code_go disk_named_l0.eq_1 T K fr S) := code_go disk_named_l0.eq_1 T K fr S
def disk_named_r8 : List POper := [M 37 0,Q 38 (.arith .neq (V 37) (.cst (.str []))),M 39 38,QG (some 40) (.mov (V 0)) 39 true,QG (some 41) (.len true (V 40)) 39 true,QG (some 42) (.arith .leq (V 41) (I 24)) 39 true,Q 43 (.pick (V 39) (V 42) ff'),M 2 43]
@[simp] theorem disk_named_r8_go : type_of% (ops_go disk_named_r8.eq_1 T K fr S) := ops_go disk_named_r8.eq_1 T K fr S
def disk_named : PCodeFn :=
  ⟨1, [.tmp 2],
  (.seq (.region disk_named_r0) (.seq (.seq (.clr [(5, 6)] (.region disk_named_r1)) (.block 0 (.loop disk_named_l0))) (.seq (.clr [(37, 44)] (.region disk_named_r8)) .ret))), false⟩

def disk_entry_do_r0 : List POper := [Q 2 (.box true (V 0))]
@[simp] theorem disk_entry_do_r0_go : type_of% (ops_go disk_entry_do_r0.eq_1 T K fr S) := ops_go disk_entry_do_r0.eq_1 T K fr S
def disk_entry_do_r1 : List POper := [FA 5 2 2,LD 6 5,M 4 6]
@[simp] theorem disk_entry_do_r1_go : type_of% (ops_go disk_entry_do_r1.eq_1 T K fr S) := ops_go disk_entry_do_r1.eq_1 T K fr S
def disk_entry_do_r2 : List POper := [M 7 4,Q 8 (.eqn false .p (V 7))]
@[simp] theorem disk_entry_do_r2_go : type_of% (ops_go disk_entry_do_r2.eq_1 T K fr S) := ops_go disk_entry_do_r2.eq_1 T K fr S
def disk_entry_do_r3 : List POper := [M 9 1,FA 10 0 2,LD 11 10,Q 12 (.mlk true false .nilp (V 9) (V 11)),M 4 12]
@[simp] theorem disk_entry_do_r3_go : type_of% (ops_go disk_entry_do_r3.eq_1 T K fr S) := ops_go disk_entry_do_r3.eq_1 T K fr S
def disk_entry_do_r4 : List POper := [M 13 1,FA 14 0 2,LD 15 14,QN (.mdel true (V 13) (V 15))]
@[simp] theorem disk_entry_do_r4_go : type_of% (ops_go disk_entry_do_r4.eq_1 T K fr S) := ops_go disk_entry_do_r4.eq_1 T K fr S
def disk_entry_do_r5 : List POper := [FA 16 1 2,LD 17 16,Q 18 (.arith .neq (V 17) (.cst (.str [])))]
@[simp] theorem disk_entry_do_r5_go : type_of% (ops_go disk_entry_do_r5.eq_1 T K fr S) := ops_go disk_entry_do_r5.eq_1 T K fr S
def disk_entry_do_r6 : List POper := [M 19 1,FA 20 1 2,LD 21 20,M 22 4,QN (.mset true (V 19) (V 21) (V 22))]
@[simp] theorem disk_entry_do_r6_go : type_of% (ops_go disk_entry_do_r6.eq_1 T K fr S) := ops_go disk_entry_do_r6.eq_1 T K fr S
def disk_entry_do : PCodeFn :=
  ⟨2, [],
  (.seq (.region disk_entry_do_r0) (.seq (.clr [(5, 7)] (.region disk_entry_do_r1)) (.seq (.seq (.clr [(7, 8)] (.region disk_entry_do_r2)) (.cond (V 8) (.seq (.clr [(9, 13)] (.region disk_entry_do_r3)) (.clr [(13, 16)] (.region disk_entry_do_r4))) .skip)) (.seq (.clr [(16, 18)] (.region disk_entry_do_r5)) (.cond (V 18) (.clr [(19, 23)] (.region disk_entry_do_r6)) .skip))))), false⟩

def slices_Sorted_string_r0 : List POper := [Q 2 (.mov (.cst .nils))]
@[simp] theorem slices_Sorted_string_r0_go : type_of% (ops_go slices_Sorted_string_r0.eq_1 T K fr S) := ops_go slices_Sorted_string_r0.eq_1 T K fr S
def slices_Sorted_string_r1 : List POper := [M 4 0,Q 5 (.call .std 293 [(V 4)]),M 3 5]
@[simp] theorem slices_Sorted_string_r1_go : type_of% (ops_go slices_Sorted_string_r1.eq_1 T K fr S) := ops_go slices_Sorted_string_r1.eq_1 T K fr S
def slices_Sorted_string_r2 : List POper := [M 6 3,Q 7 (.call .std 239 [(V 6)])]
@[simp] theorem slices_Sorted_string_r2_go : type_of% (ops_go slices_Sorted_string_r2.eq_1 T K fr S) := ops_go slices_Sorted_string_r2.eq_1 T K fr S
def slices_Sorted_string_r3 : List POper := [M 8 3,M 2 8]
@[simp] theorem slices_Sorted_string_r3_go : type_of% (ops_go slices_Sorted_string_r3.eq_1 T K fr S) := ops_go slices_Sorted_string_r3.eq_1 T K fr S
def slices_Sorted_string : PCodeFn :=
  ⟨1, [.tmp 2],
  (.seq (.region slices_Sorted_string_r0) (.seq (.clr [(4, 6)] (.region slices_Sorted_string_r1)) (.seq (.clr [(6, 8)] (.region slices_Sorted_string_r2)) (.seq (.clr [(8, 9)] (.region slices_Sorted_string_r3)) .ret)))), false⟩

def maps_Keys_file_r0 : List POper := [Q 1 (.box false (V 0)),Q 2 (.mov (.cst .nilf))]
@[simp] theorem maps_Keys_file_r0_go : type_of% (ops_go maps_Keys_file_r0.eq_1 T K fr S) := ops_go maps_Keys_file_r0.eq_1 T K fr S
def maps_Keys_file_r1 : List POper := [Q 3 (.mkfn 294 [(V 1)]),M 2 3]
@[simp] theorem maps_Keys_file_r1_go : type_of% (ops_go maps_Keys_file_r1.eq_1 T K fr S) := ops_go maps_Keys_file_r1.eq_1 T K fr S
def maps_Keys_file : PCodeFn :=
  ⟨1, [.tmp 2],
  (.seq (.region maps_Keys_file_r0) (.seq (.clr [(3, 4)] (.region maps_Keys_file_r1)) .ret)), false⟩

def slices_Clone_byte_r0 : List POper := [Q 2 (.mov (.cst .nils))]
@[simp] theorem slices_Clone_byte_r0_go : type_of% (ops_go slices_Clone_byte_r0.eq_1 T K fr S) := ops_go slices_Clone_byte_r0.eq_1 T K fr S
def slices_Clone_byte_r1 : List POper := [M 3 0,Q 4 (.eqn false .s (V 3))]
@[simp] theorem slices_Clone_byte_r1_go : type_of% (ops_go slices_Clone_byte_r1.eq_1 T K fr S) := ops_go slices_Clone_byte_r1.eq_1 T K fr S
def slices_Clone_byte_r2 : List POper := [Q 2 (.mov (.cst .nils))]
@[simp] theorem slices_Clone_byte_r2_go : type_of% (ops_go slices_Clone_byte_r2.eq_1 T K fr S) := ops_go slices_Clone_byte_r2.eq_1 T K fr S
def slices_Clone_byte_r3 : List POper := [Q 5 (.emp0),M 6 0,Q 7 (.gapp 1 1 (V 5) (V 6)),M 2 7]
@[simp] theorem slices_Clone_byte_r3_go : type_of% (ops_go slices_Clone_byte_r3.eq_1 T K fr S) := ops_go slices_Clone_byte_r3.eq_1 T K fr S
def slices_Clone_byte : PCodeFn :=
  ⟨1, [.tmp 2],
  (.seq (.region slices_Clone_byte_r0) (.seq (.seq (.clr [(3, 4)] (.region slices_Clone_byte_r1)) (.cond (V 4) (.seq (.region slices_Clone_byte_r2) .ret) .skip)) (.seq (.clr [(5, 8)] (.region slices_Clone_byte_r3)) .ret))), true⟩

def disk_Disk_Remove_r0 : List POper := [Q 4 (.mov (I 0))]
@[simp] theorem disk_Disk_Remove_r0_go : type_of% (ops_go disk_Disk_Remove_r0.eq_1 T K fr S) := ops_go disk_Disk_Remove_r0.eq_1 T K fr S
def disk_Disk_Remove_r1 : List POper := [M 8 0,M 9 1,Q 10 (.call .std 194 [(V 8), (V 9)]),M 7 10,EX 11 0 7,EX 12 1 7,M 5 11,M 6 12]
@[simp] theorem disk_Disk_Remove_r1_go : type_of% (ops_go disk_Disk_Remove_r1.eq_1 T K fr S) := ops_go disk_Disk_Remove_r1.eq_1 T K fr S
def disk_Disk_Remove_r2 : List POper := [M 13 6,Q 14 (.arith .neq (V 13) (I 0))]
@[simp] theorem disk_Disk_Remove_r2_go : type_of% (ops_go disk_Disk_Remove_r2.eq_1 T K fr S) := ops_go disk_Disk_Remove_r2.eq_1 T K fr S
def disk_Disk_Remove_r3 : List POper := [M 15 6,M 4 15]
@[simp] theorem disk_Disk_Remove_r3_go : type_of% (ops_go disk_Disk_Remove_r3.eq_1 T K fr S) := ops_go disk_Disk_Remove_r3.eq_1 T K fr S
def disk_Disk_Remove_r4 : List POper := [M 16 0,M 17 1,Q 18 (.build [(.str []), (.str []), .nilp] [(0, 1, (V 17))]),Q 19 (.call .std 195 [(V 16), (V 18)]),M 4 19]
@[simp] theorem disk_Disk_Remove_r4_go : type_of% (ops_go disk_Disk_Remove_r4.eq_1 T K fr S) := ops_go disk_Disk_Remove_r4.eq_1 T K fr S
def disk_Disk_Remove : PCodeFn :=
  ⟨2, [.tmp 4],
  (.seq (.region disk_Disk_Remove_r0) (.seq (.seq (.clr [(5, 6), (7, 13)] (.region disk_Disk_Remove_r1)) (.seq (.clr [(13, 14)] (.region disk_Disk_Remove_r2)) (.cond (V 14) (.seq (.clr [(15, 16)] (.region disk_Disk_Remove_r3)) .ret) .skip))) (.seq (.clr [(16, 20)] (.region disk_Disk_Remove_r4)) .ret))), false⟩

end Ps
