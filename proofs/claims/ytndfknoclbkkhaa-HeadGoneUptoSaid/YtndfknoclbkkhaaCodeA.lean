/- The functions' code, as the pure semantics has it: printed by program. -/
import Derived.Test.YtndfknoclbkkhaaWalk
namespace Ps
open Go
set_option maxRecDepth 10000
variable (T : Tbl) (K : List Kt) (fr : Fr) (S : St)

def law13_HeadGone_r0 : List POper := [Q 8 (.mov ff')]
@[simp] theorem law13_HeadGone_r0_go : type_of% (ops_go law13_HeadGone_r0.eq_1 T K fr S) := ops_go law13_HeadGone_r0.eq_1 T K fr S
def law13_HeadGone_r1 : List POper := [Q 21 (.call .std 68 []),M 9 21]
@[simp] theorem law13_HeadGone_r1_go : type_of% (ops_go law13_HeadGone_r1.eq_1 T K fr S) := ops_go law13_HeadGone_r1.eq_1 T K fr S
def law13_HeadGone_r2 : List POper := [M 22 9,Q 23 (.eqn false .p (V 22))]
@[simp] theorem law13_HeadGone_r2_go : type_of% (ops_go law13_HeadGone_r2.eq_1 T K fr S) := ops_go law13_HeadGone_r2.eq_1 T K fr S
def law13_HeadGone_r3 : List POper := [Q 8 (.mov ff')]
@[simp] theorem law13_HeadGone_r3_go : type_of% (ops_go law13_HeadGone_r3.eq_1 T K fr S) := ops_go law13_HeadGone_r3.eq_1 T K fr S
def law13_HeadGone_r4 : List POper := [Q 10 (.mov (I 0))]
@[simp] theorem law13_HeadGone_r4_go : type_of% (ops_go law13_HeadGone_r4.eq_1 T K fr S) := ops_go law13_HeadGone_r4.eq_1 T K fr S
def law13_HeadGone_r5 : List POper := [M 24 10,M 25 0,Q 26 (.len false (V 25)),Q 27 (.arith .lss (V 24) (V 26)),M 28 27,QG (some 29) (.mov (V 10)) 28 true,QG (some 30) (.arith .lss (V 29) (I 60)) 28 true,Q 31 (.pick (V 28) (V 30) ff')]
@[simp] theorem law13_HeadGone_r5_go : type_of% (ops_go law13_HeadGone_r5.eq_1 T K fr S) := ops_go law13_HeadGone_r5.eq_1 T K fr S
def law13_HeadGone_r7 : List POper := [M 34 9,M 35 0,M 36 10,Q 37 (.iaddr 6 (V 35) (V 36)),Q 38 (.load true 6 false (V 37)),Q 39 (.call .std 70 [(V 34), (V 38)])]
@[simp] theorem law13_HeadGone_r7_go : type_of% (ops_go law13_HeadGone_r7.eq_1 T K fr S) := ops_go law13_HeadGone_r7.eq_1 T K fr S
def law13_HeadGone_r6 : List POper := [M 32 10,Q 33 (.arith .add (V 32) (I 1)),M 10 33]
@[simp] theorem law13_HeadGone_r6_go : type_of% (ops_go law13_HeadGone_r6.eq_1 T K fr S) := ops_go law13_HeadGone_r6.eq_1 T K fr S
def law13_HeadGone_l0 : PCode :=
  (.seq (.seq (.clr [(24, 31)] (.region law13_HeadGone_r5)) (.cond (V 31) .skip (.exit 0))) (.seq (.block 1 (.clr [(34, 40)] (.region law13_HeadGone_r7))) (.clr [(32, 34)] (.region law13_HeadGone_r6))))
@[simp] theorem law13_HeadGone_l0_go : type_of% (code_go law13_HeadGone_l0.eq_1 T K fr S) := code_go law13_HeadGone_l0.eq_1 T K fr S
def law13_HeadGone_r8 : List POper := [M 40 2,Q 41 (.arith .lss (V 40) (I 0)),M 42 41,QG (some 43) (.mov (V 3)) 42 false,QG (some 44) (.arith .gtr (V 43) (I 1099511627776)) 42 false,Q 45 (.pick (V 42) tt' (V 44)),M 46 45,QG (some 47) (.mov (V 2)) 46 false,QG (some 48) (.mov (V 3)) 46 false,QG (some 49) (.arith .gtr (V 47) (V 48)) 46 false,Q 50 (.pick (V 46) tt' (V 49)),M 51 50,QG (some 52) (.mov (V 1)) 51 false,QG (some 53) (.arith .lss (V 52) (I 0)) 51 false,Q 54 (.pick (V 51) tt' (V 53)),M 55 54,QG (some 56) (.mov (V 1)) 55 false,QG (some 57) (.mov (V 9)) 55 false,QG (some 58) (.call .std 188 [(V 57)]) 55 false,QG (some 59) (.arith .geq (V 56) (V 58)) 55 false,Q 60 (.pick (V 55) tt' (V 59))]
@[simp] theorem law13_HeadGone_r8_go : type_of% (ops_go law13_HeadGone_r8.eq_1 T K fr S) := ops_go law13_HeadGone_r8.eq_1 T K fr S
def law13_HeadGone_r9 : List POper := [Q 61 (.call .pur 76 []),M 8 61]
@[simp] theorem law13_HeadGone_r9_go : type_of% (ops_go law13_HeadGone_r9.eq_1 T K fr S) := ops_go law13_HeadGone_r9.eq_1 T K fr S
def law13_HeadGone_r10 : List POper := [M 63 9,M 64 1,M 65 2,Q 66 (.arith .sub (V 65) (I 1)),Q 67 (.call .std 289 [(V 63), (V 64), (I 0), (V 66)]),M 62 67,EX 68 0 62,EX 69 1 62,M 11 68,M 12 69]
@[simp] theorem law13_HeadGone_r10_go : type_of% (ops_go law13_HeadGone_r10.eq_1 T K fr S) := ops_go law13_HeadGone_r10.eq_1 T K fr S
def law13_HeadGone_r11 : List POper := [M 71 9,M 72 1,M 73 3,Q 74 (.arith .add (V 73) (I 1)),Q 75 (.call .std 289 [(V 71), (V 72), (V 74), (I 1099511627776)]),M 70 75,EX 76 0 70,EX 77 1 70,M 13 76,M 14 77]
@[simp] theorem law13_HeadGone_r11_go : type_of% (ops_go law13_HeadGone_r11.eq_1 T K fr S) := ops_go law13_HeadGone_r11.eq_1 T K fr S
def law13_HeadGone_r12 : List POper := [M 78 1,Q 79 (.bsl false (.int .i64 0) 1 [(0, (V 78))]),M 80 2,M 81 3,Q 82 (.build [(.int .i64 0), .nils, .nils, .nils, (.int .i64 0), (.int .i64 0)] [(0, 1, (I 3)), (3, 1, (V 79)), (4, 1, (V 80)), (5, 1, (V 81))]),Q 15 (.alloc false [(.int .i64 0), .nils, .nils, .nils, (.int .i64 0), (.int .i64 0)]),QN (.store 6 (V 15) (V 82))]
@[simp] theorem law13_HeadGone_r12_go : type_of% (ops_go law13_HeadGone_r12.eq_1 T K fr S) := ops_go law13_HeadGone_r12.eq_1 T K fr S
def law13_HeadGone_r13 : List POper := [M 83 12,Q 84 (.arith .neq (V 83) (I 0)),M 85 84,QG (some 86) (.mov (V 14)) 85 false,QG (some 87) (.arith .neq (V 86) (I 0)) 85 false,Q 88 (.pick (V 85) tt' (V 87)),M 89 88,QG (some 90) (.mov (V 9)) 89 false,QG (some 91) (.load true 6 false (V 15)) 89 false,QG (some 92) (.call .std 70 [(V 90), (V 91)]) 89 false,QG (some 93) (.arith .neq (V 92) (I 0)) 89 false,Q 94 (.pick (V 89) tt' (V 93))]
@[simp] theorem law13_HeadGone_r13_go : type_of% (ops_go law13_HeadGone_r13.eq_1 T K fr S) := ops_go law13_HeadGone_r13.eq_1 T K fr S
def law13_HeadGone_r14 : List POper := [Q 8 (.mov ff')]
@[simp] theorem law13_HeadGone_r14_go : type_of% (ops_go law13_HeadGone_r14.eq_1 T K fr S) := ops_go law13_HeadGone_r14.eq_1 T K fr S
def law13_HeadGone_r15 : List POper := [M 96 9,M 97 1,Q 98 (.call .std 289 [(V 96), (V 97), (I 0), (I 1099511627776)]),M 95 98,EX 99 0 95,EX 100 1 95,M 16 99,M 17 100]
@[simp] theorem law13_HeadGone_r15_go : type_of% (ops_go law13_HeadGone_r15.eq_1 T K fr S) := ops_go law13_HeadGone_r15.eq_1 T K fr S
def law13_HeadGone_r16 : List POper := [M 102 9,M 103 1,M 104 2,M 105 3,Q 106 (.call .std 289 [(V 102), (V 103), (V 104), (V 105)]),M 101 106,EX 107 0 101,EX 108 1 101,M 18 107,M 19 108]
@[simp] theorem law13_HeadGone_r16_go : type_of% (ops_go law13_HeadGone_r16.eq_1 T K fr S) := ops_go law13_HeadGone_r16.eq_1 T K fr S
def law13_HeadGone_r17 : List POper := [M 109 9,Q 110 (.call .std 189 [(V 109)]),M 20 110]
@[simp] theorem law13_HeadGone_r17_go : type_of% (ops_go law13_HeadGone_r17.eq_1 T K fr S) := ops_go law13_HeadGone_r17.eq_1 T K fr S
def law13_HeadGone_r18 : List POper := [M 111 17,Q 112 (.arith .eql (V 111) (I 0)),M 113 112,QG (some 114) (.mov (V 19)) 113 true,QG (some 115) (.arith .eql (V 114) (I 0)) 113 true,Q 116 (.pick (V 113) (V 115) ff'),M 117 116,QG (some 118) (.mov (V 18)) 117 true,QG (some 119) (.len false (V 118)) 117 true,QG (some 120) (.arith .eql (V 119) (I 0)) 117 true,Q 121 (.pick (V 117) (V 120) ff'),M 122 121,QG (some 123) (.mov (V 16)) 122 true,QG (some 124) (.bsl false (.agg [(.int .i64 0), (.int .i64 0)]) 0 []) 122 true,QG (some 125) (.mov (V 11)) 122 true,QG (some 126) (.app 2 16 (V 124) (V 125)) 122 true,QG (some 127) (.mov (V 13)) 122 true,QG (some 128) (.app 2 16 (V 126) (V 127)) 122 true,QG (some 129) (.call .std 177 [(V 123), (V 128)]) 122 true,Q 130 (.pick (V 122) (V 129) ff'),M 131 130,QG (some 132) (.mov (V 9)) 131 true,QG (some 133) (.load true 6 false (V 15)) 131 true,QG (some 134) (.call .std 70 [(V 132), (V 133)]) 131 true,QG (some 135) (.arith .eql (V 134) (I 0)) 131 true,Q 136 (.pick (V 131) (V 135) ff'),M 137 136,QG (some 138) (.mov (V 9)) 137 true,QG (some 139) (.call .std 189 [(V 138)]) 137 true,QG (some 140) (.mov (V 20)) 137 true,QG (some 141) (.arith .eql (V 139) (V 140)) 137 true,Q 142 (.pick (V 137) (V 141) ff'),M 143 142,QG (some 144) (.call .pur 76 []) 143 true,Q 145 (.pick (V 143) (V 144) ff'),M 8 145]
@[simp] theorem law13_HeadGone_r18_go : type_of% (ops_go law13_HeadGone_r18.eq_1 T K fr S) := ops_go law13_HeadGone_r18.eq_1 T K fr S
def law13_HeadGone : PCodeFn :=
  ⟨4, [.tmp 8],
  (.seq (.region law13_HeadGone_r0) (.seq (.clr [(21, 22)] (.region law13_HeadGone_r1)) (.seq (.seq (.clr [(22, 23)] (.region law13_HeadGone_r2)) (.cond (V 23) (.seq (.region law13_HeadGone_r3) .ret) .skip)) (.seq (.seq (.region law13_HeadGone_r4) (.block 0 (.loop law13_HeadGone_l0))) (.seq (.seq (.clr [(40, 60)] (.region law13_HeadGone_r8)) (.cond (V 60) (.seq (.clr [(61, 62)] (.region law13_HeadGone_r9)) .ret) .skip)) (.seq (.clr [(62, 70)] (.region law13_HeadGone_r10)) (.seq (.clr [(70, 78)] (.region law13_HeadGone_r11)) (.seq (.clr [(78, 83)] (.region law13_HeadGone_r12)) (.seq (.seq (.clr [(83, 94)] (.region law13_HeadGone_r13)) (.cond (V 94) (.seq (.region law13_HeadGone_r14) .ret) .skip)) (.seq (.clr [(95, 101)] (.region law13_HeadGone_r15)) (.seq (.clr [(101, 109)] (.region law13_HeadGone_r16)) (.seq (.clr [(109, 111)] (.region law13_HeadGone_r17)) (.seq (.clr [(111, 146)] (.region law13_HeadGone_r18)) .ret))))))))))))), false⟩

def law13_HeadAgain_r0 : List POper := [Q 2 (.mov ff')]
@[simp] theorem law13_HeadAgain_r0_go : type_of% (ops_go law13_HeadAgain_r0.eq_1 T K fr S) := ops_go law13_HeadAgain_r0.eq_1 T K fr S
def law13_HeadAgain_r1 : List POper := [Q 6 (.call .std 68 []),Q 7 (.call .std 68 []),M 3 6,M 4 7]
@[simp] theorem law13_HeadAgain_r1_go : type_of% (ops_go law13_HeadAgain_r1.eq_1 T K fr S) := ops_go law13_HeadAgain_r1.eq_1 T K fr S
def law13_HeadAgain_r2 : List POper := [M 8 3,Q 9 (.eqn false .p (V 8)),M 10 9,QG (some 11) (.mov (V 4)) 10 false,QG (some 12) (.eqn false .p (V 11)) 10 false,Q 13 (.pick (V 10) tt' (V 12))]
@[simp] theorem law13_HeadAgain_r2_go : type_of% (ops_go law13_HeadAgain_r2.eq_1 T K fr S) := ops_go law13_HeadAgain_r2.eq_1 T K fr S
def law13_HeadAgain_r3 : List POper := [Q 2 (.mov ff')]
@[simp] theorem law13_HeadAgain_r3_go : type_of% (ops_go law13_HeadAgain_r3.eq_1 T K fr S) := ops_go law13_HeadAgain_r3.eq_1 T K fr S
def law13_HeadAgain_r4 : List POper := [Q 5 (.mov (I 0))]
@[simp] theorem law13_HeadAgain_r4_go : type_of% (ops_go law13_HeadAgain_r4.eq_1 T K fr S) := ops_go law13_HeadAgain_r4.eq_1 T K fr S
def law13_HeadAgain_r5 : List POper := [M 14 5,M 15 0,Q 16 (.len false (V 15)),Q 17 (.arith .lss (V 14) (V 16)),M 18 17,QG (some 19) (.mov (V 5)) 18 true,QG (some 20) (.arith .lss (V 19) (I 60)) 18 true,Q 21 (.pick (V 18) (V 20) ff')]
@[simp] theorem law13_HeadAgain_r5_go : type_of% (ops_go law13_HeadAgain_r5.eq_1 T K fr S) := ops_go law13_HeadAgain_r5.eq_1 T K fr S
def law13_HeadAgain_r7 : List POper := [M 24 3,M 25 0,M 26 5,Q 27 (.iaddr 6 (V 25) (V 26)),Q 28 (.load true 6 false (V 27)),Q 29 (.call .std 70 [(V 24), (V 28)]),Q 30 (.arith .eql (V 29) (I 0)),M 31 30,QG (some 32) (.mov (V 4)) 31 true,QG (some 33) (.mov (V 0)) 31 true,QG (some 34) (.mov (V 5)) 31 true,QG (some 35) (.iaddr 6 (V 33) (V 34)) 31 true,QG (some 36) (.load true 6 false (V 35)) 31 true,QG (some 37) (.call .std 70 [(V 32), (V 36)]) 31 true,QG (some 38) (.arith .neq (V 37) (I 0)) 31 true,Q 39 (.pick (V 31) (V 38) ff')]
@[simp] theorem law13_HeadAgain_r7_go : type_of% (ops_go law13_HeadAgain_r7.eq_1 T K fr S) := ops_go law13_HeadAgain_r7.eq_1 T K fr S
def law13_HeadAgain_r8 : List POper := [Q 2 (.mov ff')]
@[simp] theorem law13_HeadAgain_r8_go : type_of% (ops_go law13_HeadAgain_r8.eq_1 T K fr S) := ops_go law13_HeadAgain_r8.eq_1 T K fr S
def law13_HeadAgain_r6 : List POper := [M 22 5,Q 23 (.arith .add (V 22) (I 1)),M 5 23]
@[simp] theorem law13_HeadAgain_r6_go : type_of% (ops_go law13_HeadAgain_r6.eq_1 T K fr S) := ops_go law13_HeadAgain_r6.eq_1 T K fr S
def law13_HeadAgain_l0 : PCode :=
  (.seq (.seq (.clr [(14, 21)] (.region law13_HeadAgain_r5)) (.cond (V 21) .skip (.exit 0))) (.seq (.block 1 (.seq (.clr [(24, 39)] (.region law13_HeadAgain_r7)) (.cond (V 39) (.seq (.region law13_HeadAgain_r8) .ret) .skip))) (.clr [(22, 24)] (.region law13_HeadAgain_r6))))
@[simp] theorem law13_HeadAgain_l0_go : type_of% (code_go law13_HeadAgain_l0.eq_1 T K fr S) := code_go law13_HeadAgain_l0.eq_1 T K fr S
def law13_HeadAgain_r9 : List POper := [M 40 3,Q 41 (.call .std 188 [(V 40)]),M 42 4,Q 43 (.call .std 188 [(V 42)]),Q 44 (.arith .eql (V 41) (V 43)),M 45 44,QG (some 46) (.mov (V 3)) 45 true,QG (some 47) (.call .std 189 [(V 46)]) 45 true,QG (some 48) (.mov (V 4)) 45 true,QG (some 49) (.call .std 189 [(V 48)]) 45 true,QG (some 50) (.arith .eql (V 47) (V 49)) 45 true,Q 51 (.pick (V 45) (V 50) ff'),M 52 51,QG (some 53) (.mov (V 3)) 52 true,QG (some 54) (.call .std 190 [(V 53)]) 52 true,QG (some 55) (.mov (V 4)) 52 true,QG (some 56) (.call .std 190 [(V 55)]) 52 true,QG (some 57) (.call .std 170 [(V 54), (V 56)]) 52 true,Q 58 (.pick (V 52) (V 57) ff'),M 59 58,QG (some 60) (.call .pur 76 []) 59 true,Q 61 (.pick (V 59) (V 60) ff'),M 2 61]
@[simp] theorem law13_HeadAgain_r9_go : type_of% (ops_go law13_HeadAgain_r9.eq_1 T K fr S) := ops_go law13_HeadAgain_r9.eq_1 T K fr S
def law13_HeadAgain : PCodeFn :=
  ⟨1, [.tmp 2],
  (.seq (.region law13_HeadAgain_r0) (.seq (.clr [(6, 8)] (.region law13_HeadAgain_r1)) (.seq (.seq (.clr [(8, 13)] (.region law13_HeadAgain_r2)) (.cond (V 13) (.seq (.region law13_HeadAgain_r3) .ret) .skip)) (.seq (.seq (.region law13_HeadAgain_r4) (.block 0 (.loop law13_HeadAgain_l0))) (.seq (.clr [(40, 62)] (.region law13_HeadAgain_r9)) .ret))))), false⟩

def law13_HeadPlays_r0 : List POper := [Q 6 (.mov ff')]
@[simp] theorem law13_HeadPlays_r0_go : type_of% (ops_go law13_HeadPlays_r0.eq_1 T K fr S) := ops_go law13_HeadPlays_r0.eq_1 T K fr S
def law13_HeadPlays_r1 : List POper := [Q 15 (.call .std 68 []),M 7 15]
@[simp] theorem law13_HeadPlays_r1_go : type_of% (ops_go law13_HeadPlays_r1.eq_1 T K fr S) := ops_go law13_HeadPlays_r1.eq_1 T K fr S
def law13_HeadPlays_r2 : List POper := [M 16 7,Q 17 (.eqn false .p (V 16))]
@[simp] theorem law13_HeadPlays_r2_go : type_of% (ops_go law13_HeadPlays_r2.eq_1 T K fr S) := ops_go law13_HeadPlays_r2.eq_1 T K fr S
def law13_HeadPlays_r3 : List POper := [Q 6 (.mov ff')]
@[simp] theorem law13_HeadPlays_r3_go : type_of% (ops_go law13_HeadPlays_r3.eq_1 T K fr S) := ops_go law13_HeadPlays_r3.eq_1 T K fr S
def law13_HeadPlays_r4 : List POper := [Q 8 (.mov (.cst .nils))]
@[simp] theorem law13_HeadPlays_r4_go : type_of% (ops_go law13_HeadPlays_r4.eq_1 T K fr S) := ops_go law13_HeadPlays_r4.eq_1 T K fr S
def law13_HeadPlays_r5 : List POper := [Q 9 (.mov (I 0))]
@[simp] theorem law13_HeadPlays_r5_go : type_of% (ops_go law13_HeadPlays_r5.eq_1 T K fr S) := ops_go law13_HeadPlays_r5.eq_1 T K fr S
def law13_HeadPlays_r6 : List POper := [M 18 9,M 19 0,Q 20 (.len false (V 19)),Q 21 (.arith .lss (V 18) (V 20)),M 22 21,QG (some 23) (.mov (V 9)) 22 true,QG (some 24) (.arith .lss (V 23) (I 60)) 22 true,Q 25 (.pick (V 22) (V 24) ff')]
@[simp] theorem law13_HeadPlays_r6_go : type_of% (ops_go law13_HeadPlays_r6.eq_1 T K fr S) := ops_go law13_HeadPlays_r6.eq_1 T K fr S
def law13_HeadPlays_r8 : List POper := [M 28 0,M 29 9,Q 30 (.iaddr 6 (V 28) (V 29)),Q 31 (.load true 6 false (V 30)),Q 32 (.call .std 69 [(V 31)]),Q 10 (.alloc false [(.int .i64 0), .nils, .nils, .nils, (.int .i64 0), (.int .i64 0)]),QN (.store 6 (V 10) (V 32))]
@[simp] theorem law13_HeadPlays_r8_go : type_of% (ops_go law13_HeadPlays_r8.eq_1 T K fr S) := ops_go law13_HeadPlays_r8.eq_1 T K fr S
def law13_HeadPlays_r9 : List POper := [M 33 7,Q 34 (.load true 6 false (V 10)),Q 35 (.call .std 70 [(V 33), (V 34)]),M 11 35]
@[simp] theorem law13_HeadPlays_r9_go : type_of% (ops_go law13_HeadPlays_r9.eq_1 T K fr S) := ops_go law13_HeadPlays_r9.eq_1 T K fr S
def law13_HeadPlays_r10 : List POper := [M 37 8,M 38 0,M 39 9,Q 40 (.iaddr 6 (V 38) (V 39)),Q 41 (.load true 6 false (V 40)),Q 42 (.call .std 71 [(V 37), (V 41)]),M 36 42,EX 43 0 36,EX 44 1 36,M 12 43,M 13 44]
@[simp] theorem law13_HeadPlays_r10_go : type_of% (ops_go law13_HeadPlays_r10.eq_1 T K fr S) := ops_go law13_HeadPlays_r10.eq_1 T K fr S
def law13_HeadPlays_r11 : List POper := [Q 45 (.load true 6 false (V 10)),Q 46 (.call .std 72 [(V 45)])]
@[simp] theorem law13_HeadPlays_r11_go : type_of% (ops_go law13_HeadPlays_r11.eq_1 T K fr S) := ops_go law13_HeadPlays_r11.eq_1 T K fr S
def law13_HeadPlays_r12 : List POper := [M 47 11,M 48 13,Q 49 (.arith .neq (V 47) (V 48))]
@[simp] theorem law13_HeadPlays_r12_go : type_of% (ops_go law13_HeadPlays_r12.eq_1 T K fr S) := ops_go law13_HeadPlays_r12.eq_1 T K fr S
def law13_HeadPlays_r13 : List POper := [Q 6 (.mov ff')]
@[simp] theorem law13_HeadPlays_r13_go : type_of% (ops_go law13_HeadPlays_r13.eq_1 T K fr S) := ops_go law13_HeadPlays_r13.eq_1 T K fr S
def law13_HeadPlays_r14 : List POper := [M 50 12,M 8 50]
@[simp] theorem law13_HeadPlays_r14_go : type_of% (ops_go law13_HeadPlays_r14.eq_1 T K fr S) := ops_go law13_HeadPlays_r14.eq_1 T K fr S
def law13_HeadPlays_r15 : List POper := [M 51 9,Q 52 (.arith .rem (V 51) (I 8)),Q 53 (.arith .eql (V 52) (I 3))]
@[simp] theorem law13_HeadPlays_r15_go : type_of% (ops_go law13_HeadPlays_r15.eq_1 T K fr S) := ops_go law13_HeadPlays_r15.eq_1 T K fr S
def law13_HeadPlays_r16 : List POper := [M 54 7,Q 55 (.call .std 73 [(V 54)]),M 14 55]
@[simp] theorem law13_HeadPlays_r16_go : type_of% (ops_go law13_HeadPlays_r16.eq_1 T K fr S) := ops_go law13_HeadPlays_r16.eq_1 T K fr S
def law13_HeadPlays_r17 : List POper := [M 56 14,Q 57 (.eqn false .p (V 56))]
@[simp] theorem law13_HeadPlays_r17_go : type_of% (ops_go law13_HeadPlays_r17.eq_1 T K fr S) := ops_go law13_HeadPlays_r17.eq_1 T K fr S
def law13_HeadPlays_r18 : List POper := [Q 6 (.mov ff')]
@[simp] theorem law13_HeadPlays_r18_go : type_of% (ops_go law13_HeadPlays_r18.eq_1 T K fr S) := ops_go law13_HeadPlays_r18.eq_1 T K fr S
def law13_HeadPlays_r19 : List POper := [M 58 7,Q 59 (.bsl false (.int .i64 0) 1 [(0, (I 0))]),Q 60 (.build [(.int .i64 0), .nils, .nils, .nils, (.int .i64 0), (.int .i64 0)] [(0, 1, (I 3)), (3, 1, (V 59)), (4, 1, (I 0)), (5, 1, (I 1099511627776))]),Q 61 (.call .std 70 [(V 58), (V 60)])]
@[simp] theorem law13_HeadPlays_r19_go : type_of% (ops_go law13_HeadPlays_r19.eq_1 T K fr S) := ops_go law13_HeadPlays_r19.eq_1 T K fr S
def law13_HeadPlays_r20 : List POper := [M 62 7,Q 63 (.call .pur 74 [(I 0), (I 1099511627776), (I 3)]),Q 64 (.call .std 70 [(V 62), (V 63)])]
@[simp] theorem law13_HeadPlays_r20_go : type_of% (ops_go law13_HeadPlays_r20.eq_1 T K fr S) := ops_go law13_HeadPlays_r20.eq_1 T K fr S
def law13_HeadPlays_r21 : List POper := [M 65 14,M 7 65]
@[simp] theorem law13_HeadPlays_r21_go : type_of% (ops_go law13_HeadPlays_r21.eq_1 T K fr S) := ops_go law13_HeadPlays_r21.eq_1 T K fr S
def law13_HeadPlays_r7 : List POper := [M 26 9,Q 27 (.arith .add (V 26) (I 1)),M 9 27]
@[simp] theorem law13_HeadPlays_r7_go : type_of% (ops_go law13_HeadPlays_r7.eq_1 T K fr S) := ops_go law13_HeadPlays_r7.eq_1 T K fr S
def law13_HeadPlays_l0 : PCode :=
  (.seq (.seq (.clr [(18, 25)] (.region law13_HeadPlays_r6)) (.cond (V 25) .skip (.exit 0))) (.seq (.block 1 (.seq (.clr [(28, 33)] (.region law13_HeadPlays_r8)) (.seq (.clr [(33, 36)] (.region law13_HeadPlays_r9)) (.seq (.clr [(36, 45)] (.region law13_HeadPlays_r10)) (.seq (.clr [(45, 47)] (.region law13_HeadPlays_r11)) (.seq (.seq (.clr [(47, 49)] (.region law13_HeadPlays_r12)) (.cond (V 49) (.seq (.region law13_HeadPlays_r13) .ret) .skip)) (.seq (.clr [(50, 51)] (.region law13_HeadPlays_r14)) (.seq (.clr [(51, 53)] (.region law13_HeadPlays_r15)) (.cond (V 53) (.seq (.clr [(54, 56)] (.region law13_HeadPlays_r16)) (.seq (.seq (.clr [(56, 57)] (.region law13_HeadPlays_r17)) (.cond (V 57) (.seq (.region law13_HeadPlays_r18) .ret) .skip)) (.seq (.clr [(58, 62)] (.region law13_HeadPlays_r19)) (.seq (.clr [(62, 65)] (.region law13_HeadPlays_r20)) (.clr [(65, 66)] (.region law13_HeadPlays_r21)))))) .skip))))))))) (.clr [(26, 28)] (.region law13_HeadPlays_r7))))
@[simp] theorem law13_HeadPlays_l0_go : type_of% (code_go law13_HeadPlays_l0.eq_1 T K fr S) := code_go law13_HeadPlays_l0.eq_1 T K fr S
def law13_HeadPlays_r22 : List POper := [M 66 7,M 67 8,M 68 1,M 69 2,Q 70 (.call .std 75 [(V 66), (V 67), (V 68), (V 69)]),M 71 70,QG (some 72) (.call .pur 76 []) 71 true,Q 73 (.pick (V 71) (V 72) ff'),M 6 73]
@[simp] theorem law13_HeadPlays_r22_go : type_of% (ops_go law13_HeadPlays_r22.eq_1 T K fr S) := ops_go law13_HeadPlays_r22.eq_1 T K fr S
def law13_HeadPlays : PCodeFn :=
  ⟨3, [.tmp 6],
  (.seq (.region law13_HeadPlays_r0) (.seq (.clr [(15, 16)] (.region law13_HeadPlays_r1)) (.seq (.seq (.clr [(16, 17)] (.region law13_HeadPlays_r2)) (.cond (V 17) (.seq (.region law13_HeadPlays_r3) .ret) .skip)) (.seq (.region law13_HeadPlays_r4) (.seq (.seq (.region law13_HeadPlays_r5) (.block 0 (.loop law13_HeadPlays_l0))) (.seq (.clr [(66, 74)] (.region law13_HeadPlays_r22)) .ret)))))), false⟩

def head_New_r0 : List POper := [Q 0 (.mov (.cst .nilp))]
@[simp] theorem head_New_r0_go : type_of% (ops_go head_New_r0.eq_1 T K fr S) := ops_go head_New_r0.eq_1 T K fr S
def head_New_r1 : List POper := [Q 1 (.mkm),Q 2 (.build [.nils, .nilm, (.int .i64 0)] [(1, 1, (V 1))]),Q 3 (.box false (V 2)),M 0 3]
@[simp] theorem head_New_r1_go : type_of% (ops_go head_New_r1.eq_1 T K fr S) := ops_go head_New_r1.eq_1 T K fr S
def head_New : PCodeFn :=
  ⟨0, [.tmp 0],
  (.seq (.region head_New_r0) (.seq (.clr [(1, 4)] (.region head_New_r1)) .ret)), false⟩

def head_Head_Do_r0 : List POper := [Q 3 (.box true (V 1)),Q 4 (.mov (I 0))]
@[simp] theorem head_Head_Do_r0_go : type_of% (ops_go head_Head_Do_r0.eq_1 T K fr S) := ops_go head_Head_Do_r0.eq_1 T K fr S
def head_Head_Do_r1 : List POper := [M 6 0,Q 7 (.eqn false .p (V 6))]
@[simp] theorem head_Head_Do_r1_go : type_of% (ops_go head_Head_Do_r1.eq_1 T K fr S) := ops_go head_Head_Do_r1.eq_1 T K fr S
def head_Head_Do_r2 : List POper := [Q 4 (.mov (I 1))]
@[simp] theorem head_Head_Do_r2_go : type_of% (ops_go head_Head_Do_r2.eq_1 T K fr S) := ops_go head_Head_Do_r2.eq_1 T K fr S
def head_Head_Do_r3 : List POper := [Q 8 (.load true 6 false (V 3)),Q 9 (.call .std 179 [(V 8)]),M 5 9]
@[simp] theorem head_Head_Do_r3_go : type_of% (ops_go head_Head_Do_r3.eq_1 T K fr S) := ops_go head_Head_Do_r3.eq_1 T K fr S
def head_Head_Do_r4 : List POper := [M 10 5,Q 11 (.arith .neq (V 10) (I 0))]
@[simp] theorem head_Head_Do_r4_go : type_of% (ops_go head_Head_Do_r4.eq_1 T K fr S) := ops_go head_Head_Do_r4.eq_1 T K fr S
def head_Head_Do_r5 : List POper := [M 12 5,M 4 12]
@[simp] theorem head_Head_Do_r5_go : type_of% (ops_go head_Head_Do_r5.eq_1 T K fr S) := ops_go head_Head_Do_r5.eq_1 T K fr S
def head_Head_Do_r6 : List POper := [FA 13 0 3,LD 14 13]
@[simp] theorem head_Head_Do_r6_go : type_of% (ops_go head_Head_Do_r6.eq_1 T K fr S) := ops_go head_Head_Do_r6.eq_1 T K fr S
def head_Head_Do_r7 : List POper := [Q 16 (.arith .eql (V 14) (I 1)),M 15 16]
@[simp] theorem head_Head_Do_r7_go : type_of% (ops_go head_Head_Do_r7.eq_1 T K fr S) := ops_go head_Head_Do_r7.eq_1 T K fr S
def head_Head_Do_r8 : List POper := [M 17 0,FA 18 1 3,LD 19 18,Q 20 (.call .std 180 [(V 17), (V 19)]),M 4 20]
@[simp] theorem head_Head_Do_r8_go : type_of% (ops_go head_Head_Do_r8.eq_1 T K fr S) := ops_go head_Head_Do_r8.eq_1 T K fr S
def head_Head_Do_r9 : List POper := [Q 22 (.arith .eql (V 14) (I 2)),M 21 22]
@[simp] theorem head_Head_Do_r9_go : type_of% (ops_go head_Head_Do_r9.eq_1 T K fr S) := ops_go head_Head_Do_r9.eq_1 T K fr S
def head_Head_Do_r10 : List POper := [M 23 0,FA 24 2 3,LD 25 24,Q 26 (.call .std 181 [(V 23), (V 25)]),M 4 26]
@[simp] theorem head_Head_Do_r10_go : type_of% (ops_go head_Head_Do_r10.eq_1 T K fr S) := ops_go head_Head_Do_r10.eq_1 T K fr S
def head_Head_Do_r11 : List POper := [M 27 0,Q 28 (.load true 6 false (V 3)),Q 29 (.call .std 182 [(V 27), (V 28)]),M 4 29]
@[simp] theorem head_Head_Do_r11_go : type_of% (ops_go head_Head_Do_r11.eq_1 T K fr S) := ops_go head_Head_Do_r11.eq_1 T K fr S
def head_Head_Do : PCodeFn :=
  ⟨2, [.tmp 4],
  (.seq (.region head_Head_Do_r0) (.seq (.seq (.clr [(6, 7)] (.region head_Head_Do_r1)) (.cond (V 7) (.seq (.region head_Head_Do_r2) .ret) .skip)) (.seq (.seq (.clr [(8, 10)] (.region head_Head_Do_r3)) (.seq (.clr [(10, 11)] (.region head_Head_Do_r4)) (.cond (V 11) (.seq (.clr [(12, 13)] (.region head_Head_Do_r5)) .ret) .skip))) (.seq (.seq (.clr [(13, 14)] (.region head_Head_Do_r6)) (.block 0 (.seq (.clr [(16, 17)] (.region head_Head_Do_r7)) (.cond (V 15) (.seq (.clr [(17, 21)] (.region head_Head_Do_r8)) .ret) (.seq (.clr [(22, 23)] (.region head_Head_Do_r9)) (.cond (V 21) (.seq (.clr [(23, 27)] (.region head_Head_Do_r10)) .ret) .skip)))))) (.seq (.clr [(27, 30)] (.region head_Head_Do_r11)) .ret))))), true⟩

def head_Head_Len_r0 : List POper := [Q 2 (.mov (I 0))]
@[simp] theorem head_Head_Len_r0_go : type_of% (ops_go head_Head_Len_r0.eq_1 T K fr S) := ops_go head_Head_Len_r0.eq_1 T K fr S
def head_Head_Len_r1 : List POper := [M 3 0,Q 4 (.eqn false .p (V 3))]
@[simp] theorem head_Head_Len_r1_go : type_of% (ops_go head_Head_Len_r1.eq_1 T K fr S) := ops_go head_Head_Len_r1.eq_1 T K fr S
def head_Head_Len_r2 : List POper := [Q 2 (.mov (I 0))]
@[simp] theorem head_Head_Len_r2_go : type_of% (ops_go head_Head_Len_r2.eq_1 T K fr S) := ops_go head_Head_Len_r2.eq_1 T K fr S
def head_Head_Len_r3 : List POper := [M 5 0,NK' 6 5,FA 7 0 6,LD 8 7,Q 9 (.len false (V 8)),M 2 9]
@[simp] theorem head_Head_Len_r3_go : type_of% (ops_go head_Head_Len_r3.eq_1 T K fr S) := ops_go head_Head_Len_r3.eq_1 T K fr S
def head_Head_Len : PCodeFn :=
  ⟨1, [.tmp 2],
  (.seq (.region head_Head_Len_r0) (.seq (.seq (.clr [(3, 4)] (.region head_Head_Len_r1)) (.cond (V 4) (.seq (.region head_Head_Len_r2) .ret) .skip)) (.seq (.clr [(5, 10)] (.region head_Head_Len_r3)) .ret))), false⟩

def law13_lives_r0 : List POper := [Q 0 (.mov ff')]
@[simp] theorem law13_lives_r0_go : type_of% (ops_go law13_lives_r0.eq_1 T K fr S) := ops_go law13_lives_r0.eq_1 T K fr S
def law13_lives_r1 : List POper := [Q 10 (.call .std 68 []),M 1 10]
@[simp] theorem law13_lives_r1_go : type_of% (ops_go law13_lives_r1.eq_1 T K fr S) := ops_go law13_lives_r1.eq_1 T K fr S
def law13_lives_r2 : List POper := [M 11 1,Q 12 (.eqn false .p (V 11))]
@[simp] theorem law13_lives_r2_go : type_of% (ops_go law13_lives_r2.eq_1 T K fr S) := ops_go law13_lives_r2.eq_1 T K fr S
def law13_lives_r3 : List POper := [Q 0 (.mov ff')]
@[simp] theorem law13_lives_r3_go : type_of% (ops_go law13_lives_r3.eq_1 T K fr S) := ops_go law13_lives_r3.eq_1 T K fr S
def law13_lives_r4 : List POper := [Q 13 (.build [(.str []), (.str [])] [(0, 1, (.cst (.str [97]))), (1, 1, (.cst (.str [120])))]),Q 14 (.bsl false (.agg [(.str []), (.str [])]) 1 [(0, (V 13))]),Q 15 (.build [(.int .i64 0), .nils, .nils, .nils, (.int .i64 0), (.int .i64 0)] [(0, 1, (I 1)), (1, 1, (V 14))]),Q 2 (.alloc false [(.int .i64 0), .nils, .nils, .nils, (.int .i64 0), (.int .i64 0)]),QN (.store 6 (V 2) (V 15))]
@[simp] theorem law13_lives_r4_go : type_of% (ops_go law13_lives_r4.eq_1 T K fr S) := ops_go law13_lives_r4.eq_1 T K fr S
def law13_lives_r5 : List POper := [M 16 1,Q 17 (.load true 6 false (V 2)),Q 18 (.callb 2 70 [(V 16), (V 17)]),M 19 1,Q 20 (.loadb 2 true 6 (V 2)),Q 21 (.call .std 70 [(V 19), (V 20)]),M 22 1,Q 23 (.call .pur 74 [(I 0), (I 10), (I 1)]),Q 24 (.call .std 70 [(V 22), (V 23)]),M 3 18,M 4 21,M 5 24]
@[simp] theorem law13_lives_r5_go : type_of% (ops_go law13_lives_r5.eq_1 T K fr S) := ops_go law13_lives_r5.eq_1 T K fr S
def law13_lives_r6 : List POper := [M 25 1,Q 26 (.call .pur 74 [(I 0), (I 10), (I 2)]),Q 27 (.call .std 70 [(V 25), (V 26)]),M 28 1,Q 29 (.bsl false (.int .i64 0) 1 [(0, (I 0))]),Q 30 (.build [(.int .i64 0), .nils, .nils, .nils, (.int .i64 0), (.int .i64 0)] [(0, 1, (I 3)), (3, 1, (V 29)), (4, 1, (I 10)), (5, 1, (I 10))]),Q 31 (.call .std 70 [(V 28), (V 30)]),M 6 27,M 7 31]
@[simp] theorem law13_lives_r6_go : type_of% (ops_go law13_lives_r6.eq_1 T K fr S) := ops_go law13_lives_r6.eq_1 T K fr S
def law13_lives_r7 : List POper := [M 33 1,Q 34 (.call .std 193 [(V 33), (I 0)]),M 32 34,EX 35 0 32,EX 36 1 32,M 8 35,M 9 36]
@[simp] theorem law13_lives_r7_go : type_of% (ops_go law13_lives_r7.eq_1 T K fr S) := ops_go law13_lives_r7.eq_1 T K fr S
def law13_lives_r8 : List POper := [M 37 3,Q 38 (.arith .eql (V 37) (I 0)),M 39 38,QG (some 40) (.mov (V 4)) 39 true,QG (some 41) (.arith .eql (V 40) (I 10)) 39 true,Q 42 (.pick (V 39) (V 41) ff'),M 43 42,QG (some 44) (.mov (V 5)) 43 true,QG (some 45) (.arith .eql (V 44) (I 0)) 43 true,Q 46 (.pick (V 43) (V 45) ff'),M 47 46,QG (some 48) (.mov (V 6)) 47 true,QG (some 49) (.arith .eql (V 48) (I 13)) 47 true,Q 50 (.pick (V 47) (V 49) ff'),M 51 50,QG (some 52) (.mov (V 7)) 51 true,QG (some 53) (.arith .eql (V 52) (I 0)) 51 true,Q 54 (.pick (V 51) (V 53) ff'),M 55 54,QG (some 56) (.mov (V 8)) 55 true,QG (some 57) (.arith .eql (V 56) (I (-1))) 55 true,Q 58 (.pick (V 55) (V 57) ff'),M 59 58,QG (some 60) (.mov (V 9)) 59 true,QG (some 61) (.arith .eql (V 60) (I 0)) 59 true,Q 62 (.pick (V 59) (V 61) ff'),M 63 62,QG (some 64) (.mov (V 1)) 63 true,QG (some 65) (.call .std 188 [(V 64)]) 63 true,QG (some 66) (.arith .eql (V 65) (I 1)) 63 true,Q 67 (.pick (V 63) (V 66) ff'),M 68 67,QG (some 69) (.mov (V 1)) 68 true,QG (some 70) (.call .std 189 [(V 69)]) 68 true,QG (some 71) (.arith .eql (V 70) (I 0)) 68 true,Q 72 (.pick (V 68) (V 71) ff'),M 73 72,QG (some 74) (.mov (V 1)) 73 true,QG (some 75) (.call .pur 74 [(I 0), (I 5), (I 1)]) 73 true,QG (some 76) (.call .std 70 [(V 74), (V 75)]) 73 true,QG (some 77) (.arith .eql (V 76) (I 0)) 73 true,Q 78 (.pick (V 73) (V 77) ff'),M 0 78]
@[simp] theorem law13_lives_r8_go : type_of% (ops_go law13_lives_r8.eq_1 T K fr S) := ops_go law13_lives_r8.eq_1 T K fr S
def law13_lives : PCodeFn :=
  ⟨0, [.tmp 0],
  (.seq (.region law13_lives_r0) (.seq (.clr [(10, 11)] (.region law13_lives_r1)) (.seq (.seq (.clr [(11, 12)] (.region law13_lives_r2)) (.cond (V 12) (.seq (.region law13_lives_r3) .ret) .skip)) (.seq (.clr [(13, 16)] (.region law13_lives_r4)) (.seq (.clr [(16, 25)] (.region law13_lives_r5)) (.seq (.clr [(25, 32)] (.region law13_lives_r6)) (.seq (.clr [(32, 37)] (.region law13_lives_r7)) (.seq (.clr [(37, 79)] (.region law13_lives_r8)) .ret)))))))), false⟩

def head_Head_Select_r0 : List POper := [Q 8 (.mov (.cst .nils)),Q 9 (.mov (I 0))]
@[simp] theorem head_Head_Select_r0_go : type_of% (ops_go head_Head_Select_r0.eq_1 T K fr S) := ops_go head_Head_Select_r0.eq_1 T K fr S
def head_Head_Select_r1 : List POper := [M 16 0,M 17 1,Q 18 (.call .std 291 [(V 16), (V 17)]),M 15 18,EX 19 0 15,EX 20 1 15,Q 10 (.alloc false [.nils, .nils]),QN (.store 2 (V 10) (V 19)),M 11 20]
@[simp] theorem head_Head_Select_r1_go : type_of% (ops_go head_Head_Select_r1.eq_1 T K fr S) := ops_go head_Head_Select_r1.eq_1 T K fr S
def head_Head_Select_r2 : List POper := [M 21 11,Q 22 (.arith .neq (V 21) (I 0))]
@[simp] theorem head_Head_Select_r2_go : type_of% (ops_go head_Head_Select_r2.eq_1 T K fr S) := ops_go head_Head_Select_r2.eq_1 T K fr S
def head_Head_Select_r3 : List POper := [M 23 11,Q 8 (.mov (.cst .nils)),M 9 23]
@[simp] theorem head_Head_Select_r3_go : type_of% (ops_go head_Head_Select_r3.eq_1 T K fr S) := ops_go head_Head_Select_r3.eq_1 T K fr S
def head_Head_Select_r4 : List POper := [Q 12 (.mov (.cst .nils))]
@[simp] theorem head_Head_Select_r4_go : type_of% (ops_go head_Head_Select_r4.eq_1 T K fr S) := ops_go head_Head_Select_r4.eq_1 T K fr S
def head_Head_Select_r5 : List POper := [FA 24 1 10,LD 25 24,Q 26 (.len false (V 25)),Q 27 (.mov (I 0))]
@[simp] theorem head_Head_Select_r5_go : type_of% (ops_go head_Head_Select_r5.eq_1 T K fr S) := ops_go head_Head_Select_r5.eq_1 T K fr S
def head_Head_Select_r6 : List POper := [Q 28 (.arith .lss (V 27) (V 26))]
@[simp] theorem head_Head_Select_r6_go : type_of% (ops_go head_Head_Select_r6.eq_1 T K fr S) := ops_go head_Head_Select_r6.eq_1 T K fr S
def head_Head_Select_r7 : List POper := [Q 29 (.iaddr 2 (V 25) (V 27)),Q 30 (.load true 2 false (V 29)),Q 14 (.alloc false [(.int .i64 0), (.int .i64 0)]),QN (.store 2 (V 14) (V 30))]
@[simp] theorem head_Head_Select_r7_go : type_of% (ops_go head_Head_Select_r7.eq_1 T K fr S) := ops_go head_Head_Select_r7.eq_1 T K fr S
def head_Head_Select_r8 : List POper := [FA 31 0 14,LD 32 31,M 33 2,Q 34 (.arith .geq (V 32) (V 33)),M 35 34,QG (some 36) (.faddr 0 (V 14)) 35 true,QG (some 37) (.load false 1 false (V 36)) 35 true,QG (some 38) (.mov (V 3)) 35 true,QG (some 39) (.arith .leq (V 37) (V 38)) 35 true,Q 40 (.pick (V 35) (V 39) ff')]
@[simp] theorem head_Head_Select_r8_go : type_of% (ops_go head_Head_Select_r8.eq_1 T K fr S) := ops_go head_Head_Select_r8.eq_1 T K fr S
def head_Head_Select_r9 : List POper := [M 41 12,Q 42 (.load true 2 false (V 14)),Q 43 (.bsl false (.agg [(.int .i64 0), (.int .i64 0)]) 1 [(0, (V 42))]),Q 44 (.app 2 16 (V 41) (V 43)),M 12 44]
@[simp] theorem head_Head_Select_r9_go : type_of% (ops_go head_Head_Select_r9.eq_1 T K fr S) := ops_go head_Head_Select_r9.eq_1 T K fr S
def head_Head_Select_r10 : List POper := [Q 45 (.arith .add (V 27) (I 1)),M 27 45]
@[simp] theorem head_Head_Select_r10_go : type_of% (ops_go head_Head_Select_r10.eq_1 T K fr S) := ops_go head_Head_Select_r10.eq_1 T K fr S
def head_Head_Select_l0 : PCode :=
  (.seq (.region head_Head_Select_r6) (.seq (.cond (V 28) .skip (.exit 0)) (.seq (.block 1 (.seq (.clr [(29, 31)] (.region head_Head_Select_r7)) (.seq (.clr [(31, 40)] (.region head_Head_Select_r8)) (.cond (V 40) (.clr [(41, 45)] (.region head_Head_Select_r9)) .skip)))) (.clr [(45, 46)] (.region head_Head_Select_r10)))))
@[simp] theorem head_Head_Select_l0_go : type_of% (code_go head_Head_Select_l0.eq_1 T K fr S) := code_go head_Head_Select_l0.eq_1 T K fr S
def head_Head_Select_r11 : List POper := [M 46 12,M 8 46,Q 9 (.mov (I 0))]
@[simp] theorem head_Head_Select_r11_go : type_of% (ops_go head_Head_Select_r11.eq_1 T K fr S) := ops_go head_Head_Select_r11.eq_1 T K fr S
def head_Head_Select : PCodeFn :=
  ⟨4, [.tmp 8, .tmp 9],
  (.seq (.region head_Head_Select_r0) (.seq (.clr [(15, 21)] (.region head_Head_Select_r1)) (.seq (.seq (.clr [(21, 22)] (.region head_Head_Select_r2)) (.cond (V 22) (.seq (.clr [(23, 24)] (.region head_Head_Select_r3)) .ret) .skip)) (.seq (.region head_Head_Select_r4) (.seq (.seq (.clr [(24, 25)] (.region head_Head_Select_r5)) (.block 0 (.loop head_Head_Select_l0))) (.seq (.clr [(46, 47)] (.region head_Head_Select_r11)) .ret)))))), false⟩

def head_Head_Count_r0 : List POper := [Q 2 (.mov (I 0))]
@[simp] theorem head_Head_Count_r0_go : type_of% (ops_go head_Head_Count_r0.eq_1 T K fr S) := ops_go head_Head_Count_r0.eq_1 T K fr S
def head_Head_Count_r1 : List POper := [M 3 0,Q 4 (.eqn false .p (V 3))]
@[simp] theorem head_Head_Count_r1_go : type_of% (ops_go head_Head_Count_r1.eq_1 T K fr S) := ops_go head_Head_Count_r1.eq_1 T K fr S
def head_Head_Count_r2 : List POper := [Q 2 (.mov (I 0))]
@[simp] theorem head_Head_Count_r2_go : type_of% (ops_go head_Head_Count_r2.eq_1 T K fr S) := ops_go head_Head_Count_r2.eq_1 T K fr S
def head_Head_Count_r3 : List POper := [M 5 0,NK' 6 5,FA 7 2 6,LD 8 7,M 2 8]
@[simp] theorem head_Head_Count_r3_go : type_of% (ops_go head_Head_Count_r3.eq_1 T K fr S) := ops_go head_Head_Count_r3.eq_1 T K fr S
def head_Head_Count : PCodeFn :=
  ⟨1, [.tmp 2],
  (.seq (.region head_Head_Count_r0) (.seq (.seq (.clr [(3, 4)] (.region head_Head_Count_r1)) (.cond (V 4) (.seq (.region head_Head_Count_r2) .ret) .skip)) (.seq (.clr [(5, 9)] (.region head_Head_Count_r3)) .ret))), false⟩

def ref05_Same_r0 : List POper := [Q 4 (.mov ff')]
@[simp] theorem ref05_Same_r0_go : type_of% (ops_go ref05_Same_r0.eq_1 T K fr S) := ops_go ref05_Same_r0.eq_1 T K fr S
def ref05_Same_r1 : List POper := [M 6 0,Q 7 (.len false (V 6)),M 8 1,Q 9 (.len false (V 8)),Q 10 (.arith .neq (V 7) (V 9))]
@[simp] theorem ref05_Same_r1_go : type_of% (ops_go ref05_Same_r1.eq_1 T K fr S) := ops_go ref05_Same_r1.eq_1 T K fr S
def ref05_Same_r2 : List POper := [Q 4 (.mov ff')]
@[simp] theorem ref05_Same_r2_go : type_of% (ops_go ref05_Same_r2.eq_1 T K fr S) := ops_go ref05_Same_r2.eq_1 T K fr S
def ref05_Same_r3 : List POper := [Q 5 (.mov (I 0))]
@[simp] theorem ref05_Same_r3_go : type_of% (ops_go ref05_Same_r3.eq_1 T K fr S) := ops_go ref05_Same_r3.eq_1 T K fr S
def ref05_Same_r4 : List POper := [M 11 5,M 12 0,Q 13 (.len false (V 12)),Q 14 (.arith .lss (V 11) (V 13))]
@[simp] theorem ref05_Same_r4_go : type_of% (ops_go ref05_Same_r4.eq_1 T K fr S) := ops_go ref05_Same_r4.eq_1 T K fr S
def ref05_Same_r6 : List POper := [M 17 0,M 18 5,Q 19 (.iaddr 2 (V 17) (V 18)),Q 20 (.load true 2 true (V 19)),M 21 1,M 22 5,Q 23 (.iaddr 2 (V 21) (V 22)),Q 24 (.load true 2 true (V 23)),Q 25 (.eqs true 2 (V 20) (V 24))]
@[simp] theorem ref05_Same_r6_go : type_of% (ops_go ref05_Same_r6.eq_1 T K fr S) := ops_go ref05_Same_r6.eq_1 T K fr S
def ref05_Same_r7 : List POper := [Q 4 (.mov ff')]
@[simp] theorem ref05_Same_r7_go : type_of% (ops_go ref05_Same_r7.eq_1 T K fr S) := ops_go ref05_Same_r7.eq_1 T K fr S
def ref05_Same_r5 : List POper := [M 15 5,Q 16 (.arith .add (V 15) (I 1)),M 5 16]
@[simp] theorem ref05_Same_r5_go : type_of% (ops_go ref05_Same_r5.eq_1 T K fr S) := ops_go ref05_Same_r5.eq_1 T K fr S
def ref05_Same_l0 : PCode :=
  (.seq (.seq (.clr [(11, 14)] (.region ref05_Same_r4)) (.cond (V 14) .skip (.exit 0))) (.seq (.block 1 (.seq (.clr [(17, 25)] (.region ref05_Same_r6)) (.cond (V 25) (.seq (.region ref05_Same_r7) .ret) .skip))) (.clr [(15, 17)] (.region ref05_Same_r5))))
@[simp] theorem ref05_Same_l0_go : type_of% (code_go ref05_Same_l0.eq_1 T K fr S) := code_go ref05_Same_l0.eq_1 T K fr S
def ref05_Same_r8 : List POper := [Q 4 (.mov tt')]
@[simp] theorem ref05_Same_r8_go : type_of% (ops_go ref05_Same_r8.eq_1 T K fr S) := ops_go ref05_Same_r8.eq_1 T K fr S
def ref05_Same : PCodeFn :=
  ⟨2, [.tmp 4],
  (.seq (.region ref05_Same_r0) (.seq (.seq (.clr [(6, 10)] (.region ref05_Same_r1)) (.cond (V 10) (.seq (.region ref05_Same_r2) .ret) .skip)) (.seq (.seq (.region ref05_Same_r3) (.block 0 (.loop ref05_Same_l0))) (.seq (.region ref05_Same_r8) .ret)))), false⟩

def ref12_Same_r0 : List POper := [Q 4 (.mov ff')]
@[simp] theorem ref12_Same_r0_go : type_of% (ops_go ref12_Same_r0.eq_1 T K fr S) := ops_go ref12_Same_r0.eq_1 T K fr S
def ref12_Same_r1 : List POper := [M 6 0,Q 7 (.len false (V 6)),M 8 1,Q 9 (.len false (V 8)),Q 10 (.arith .neq (V 7) (V 9))]
@[simp] theorem ref12_Same_r1_go : type_of% (ops_go ref12_Same_r1.eq_1 T K fr S) := ops_go ref12_Same_r1.eq_1 T K fr S
def ref12_Same_r2 : List POper := [Q 4 (.mov ff')]
@[simp] theorem ref12_Same_r2_go : type_of% (ops_go ref12_Same_r2.eq_1 T K fr S) := ops_go ref12_Same_r2.eq_1 T K fr S
def ref12_Same_r3 : List POper := [Q 5 (.mov (I 0))]
@[simp] theorem ref12_Same_r3_go : type_of% (ops_go ref12_Same_r3.eq_1 T K fr S) := ops_go ref12_Same_r3.eq_1 T K fr S
def ref12_Same_r4 : List POper := [M 11 5,M 12 0,Q 13 (.len false (V 12)),Q 14 (.arith .lss (V 11) (V 13))]
@[simp] theorem ref12_Same_r4_go : type_of% (ops_go ref12_Same_r4.eq_1 T K fr S) := ops_go ref12_Same_r4.eq_1 T K fr S
def ref12_Same_r6 : List POper := [M 17 0,M 18 5,Q 19 (.iaddr 2 (V 17) (V 18)),FA 20 0 19,Q 21 (.load false 1 true (V 20)),M 22 1,M 23 5,Q 24 (.iaddr 2 (V 22) (V 23)),FA 25 0 24,Q 26 (.load false 1 true (V 25)),Q 27 (.call .std 26 [(V 21), (V 26)]),Q 28 (.un .not (V 27)),M 29 28,QG (some 30) (.mov (V 0)) 29 false,QG (some 31) (.mov (V 5)) 29 false,QG (some 32) (.iaddr 2 (V 30) (V 31)) 29 false,QG (some 33) (.faddr 1 (V 32)) 29 false,QG (some 34) (.load false 1 true (V 33)) 29 false,QG (some 35) (.mov (V 1)) 29 false,QG (some 36) (.mov (V 5)) 29 false,QG (some 37) (.iaddr 2 (V 35) (V 36)) 29 false,QG (some 38) (.faddr 1 (V 37)) 29 false,QG (some 39) (.load false 1 true (V 38)) 29 false,QG (some 40) (.call .std 177 [(V 34), (V 39)]) 29 false,QG (some 41) (.un .not (V 40)) 29 false,Q 42 (.pick (V 29) tt' (V 41))]
@[simp] theorem ref12_Same_r6_go : type_of% (ops_go ref12_Same_r6.eq_1 T K fr S) := ops_go ref12_Same_r6.eq_1 T K fr S
def ref12_Same_r7 : List POper := [Q 4 (.mov ff')]
@[simp] theorem ref12_Same_r7_go : type_of% (ops_go ref12_Same_r7.eq_1 T K fr S) := ops_go ref12_Same_r7.eq_1 T K fr S
def ref12_Same_r5 : List POper := [M 15 5,Q 16 (.arith .add (V 15) (I 1)),M 5 16]
@[simp] theorem ref12_Same_r5_go : type_of% (ops_go ref12_Same_r5.eq_1 T K fr S) := ops_go ref12_Same_r5.eq_1 T K fr S
def ref12_Same_l0 : PCode :=
  (.seq (.seq (.clr [(11, 14)] (.region ref12_Same_r4)) (.cond (V 14) .skip (.exit 0))) (.seq (.block 1 (.seq (.clr [(17, 42)] (.region ref12_Same_r6)) (.cond (V 42) (.seq (.region ref12_Same_r7) .ret) .skip))) (.clr [(15, 17)] (.region ref12_Same_r5))))
@[simp] theorem ref12_Same_l0_go : type_of% (code_go ref12_Same_l0.eq_1 T K fr S) := code_go ref12_Same_l0.eq_1 T K fr S
def ref12_Same_r8 : List POper := [Q 4 (.mov tt')]
@[simp] theorem ref12_Same_r8_go : type_of% (ops_go ref12_Same_r8.eq_1 T K fr S) := ops_go ref12_Same_r8.eq_1 T K fr S
def ref12_Same : PCodeFn :=
  ⟨2, [.tmp 4],
  (.seq (.region ref12_Same_r0) (.seq (.seq (.clr [(6, 10)] (.region ref12_Same_r1)) (.cond (V 10) (.seq (.region ref12_Same_r2) .ret) .skip)) (.seq (.seq (.region ref12_Same_r3) (.block 0 (.loop ref12_Same_l0))) (.seq (.region ref12_Same_r8) .ret)))), false⟩

def head_Head_Series_r0 : List POper := [Q 2 (.mov (.cst .nils))]
@[simp] theorem head_Head_Series_r0_go : type_of% (ops_go head_Head_Series_r0.eq_1 T K fr S) := ops_go head_Head_Series_r0.eq_1 T K fr S
def head_Head_Series_r1 : List POper := [M 4 0,Q 5 (.eqn false .p (V 4))]
@[simp] theorem head_Head_Series_r1_go : type_of% (ops_go head_Head_Series_r1.eq_1 T K fr S) := ops_go head_Head_Series_r1.eq_1 T K fr S
def head_Head_Series_r2 : List POper := [Q 2 (.mov (.cst .nils))]
@[simp] theorem head_Head_Series_r2_go : type_of% (ops_go head_Head_Series_r2.eq_1 T K fr S) := ops_go head_Head_Series_r2.eq_1 T K fr S
def head_Head_Series_r3 : List POper := [M 6 0,NK' 7 6,FA 8 0 7,LD 9 8,Q 10 (.call .std 187 [(V 9)]),Q 11 (.call .std 284 [(V 10), (.cst (.fn 285 []))]),M 3 11]
@[simp] theorem head_Head_Series_r3_go : type_of% (ops_go head_Head_Series_r3.eq_1 T K fr S) := ops_go head_Head_Series_r3.eq_1 T K fr S
def head_Head_Series_r4 : List POper := [M 12 3,Q 13 (.call .std 286 [(V 12), (.cst (.fn 287 []))])]
@[simp] theorem head_Head_Series_r4_go : type_of% (ops_go head_Head_Series_r4.eq_1 T K fr S) := ops_go head_Head_Series_r4.eq_1 T K fr S
def head_Head_Series_r5 : List POper := [M 14 3,M 2 14]
@[simp] theorem head_Head_Series_r5_go : type_of% (ops_go head_Head_Series_r5.eq_1 T K fr S) := ops_go head_Head_Series_r5.eq_1 T K fr S
def head_Head_Series : PCodeFn :=
  ⟨1, [.tmp 2],
  (.seq (.region head_Head_Series_r0) (.seq (.seq (.clr [(4, 5)] (.region head_Head_Series_r1)) (.cond (V 5) (.seq (.region head_Head_Series_r2) .ret) .skip)) (.seq (.clr [(6, 12)] (.region head_Head_Series_r3)) (.seq (.clr [(12, 14)] (.region head_Head_Series_r4)) (.seq (.clr [(14, 15)] (.region head_Head_Series_r5)) .ret))))), false⟩

def law13_own_r0 : List POper := [Q 1 (.box false (V 0)),Q 2 (.alloc false [(.int .i64 0), .nils, .nils, .nils, (.int .i64 0), (.int .i64 0)])]
@[simp] theorem law13_own_r0_go : type_of% (ops_go law13_own_r0.eq_1 T K fr S) := ops_go law13_own_r0.eq_1 T K fr S
def law13_own_r1 : List POper := [Q 3 (.bsl false (.agg [(.str []), (.str [])]) 0 []),FA 4 1 1,LD 5 4,Q 6 (.app 2 32 (V 3) (V 5)),FA 7 1 1,QN (.store 1 (V 7) (V 6))]
@[simp] theorem law13_own_r1_go : type_of% (ops_go law13_own_r1.eq_1 T K fr S) := ops_go law13_own_r1.eq_1 T K fr S
def law13_own_r2 : List POper := [Q 8 (.bsl false (.agg [(.int .i64 0), (.int .i64 0), (.int .i64 0)]) 0 []),FA 9 2 1,LD 10 9,Q 11 (.app 3 24 (V 8) (V 10)),FA 12 2 1,QN (.store 1 (V 12) (V 11))]
@[simp] theorem law13_own_r2_go : type_of% (ops_go law13_own_r2.eq_1 T K fr S) := ops_go law13_own_r2.eq_1 T K fr S
def law13_own_r3 : List POper := [Q 13 (.bsl false (.int .i64 0) 0 []),FA 14 3 1,LD 15 14,Q 16 (.app 1 8 (V 13) (V 15)),FA 17 3 1,QN (.store 1 (V 17) (V 16))]
@[simp] theorem law13_own_r3_go : type_of% (ops_go law13_own_r3.eq_1 T K fr S) := ops_go law13_own_r3.eq_1 T K fr S
def law13_own_r4 : List POper := [Q 18 (.load true 6 false (V 1)),QN (.store 6 (V 2) (V 18))]
@[simp] theorem law13_own_r4_go : type_of% (ops_go law13_own_r4.eq_1 T K fr S) := ops_go law13_own_r4.eq_1 T K fr S
def law13_own : PCodeFn :=
  ⟨1, [.cell 2 true 6],
  (.seq (.region law13_own_r0) (.seq (.clr [(3, 8)] (.region law13_own_r1)) (.seq (.clr [(8, 13)] (.region law13_own_r2)) (.seq (.clr [(13, 18)] (.region law13_own_r3)) (.seq (.clr [(18, 19)] (.region law13_own_r4)) .ret))))), false⟩

def ref13_Do_r0 : List POper := [Q 3 (.box true (V 1)),Q 4 (.mov (.cst .nils)),Q 5 (.mov (I 0))]
@[simp] theorem ref13_Do_r0_go : type_of% (ops_go ref13_Do_r0.eq_1 T K fr S) := ops_go ref13_Do_r0.eq_1 T K fr S
def ref13_Do_r1 : List POper := [Q 12 (.load true 6 false (V 3)),Q 13 (.call .std 183 [(V 12)]),M 6 13]
@[simp] theorem ref13_Do_r1_go : type_of% (ops_go ref13_Do_r1.eq_1 T K fr S) := ops_go ref13_Do_r1.eq_1 T K fr S
def ref13_Do_r2 : List POper := [M 14 6,Q 15 (.arith .neq (V 14) (I 0))]
@[simp] theorem ref13_Do_r2_go : type_of% (ops_go ref13_Do_r2.eq_1 T K fr S) := ops_go ref13_Do_r2.eq_1 T K fr S
def ref13_Do_r3 : List POper := [M 16 0,M 17 6,M 4 16,M 5 17]
@[simp] theorem ref13_Do_r3_go : type_of% (ops_go ref13_Do_r3.eq_1 T K fr S) := ops_go ref13_Do_r3.eq_1 T K fr S
def ref13_Do_r4 : List POper := [Q 18 (.bsl false (.agg [.nils, .nils]) 0 []),M 19 0,Q 20 (.app 2 48 (V 18) (V 19)),M 7 20]
@[simp] theorem ref13_Do_r4_go : type_of% (ops_go ref13_Do_r4.eq_1 T K fr S) := ops_go ref13_Do_r4.eq_1 T K fr S
def ref13_Do_r5 : List POper := [FA 21 0 3,LD 22 21]
@[simp] theorem ref13_Do_r5_go : type_of% (ops_go ref13_Do_r5.eq_1 T K fr S) := ops_go ref13_Do_r5.eq_1 T K fr S
def ref13_Do_r6 : List POper := [Q 24 (.arith .eql (V 22) (I 1)),M 23 24]
@[simp] theorem ref13_Do_r6_go : type_of% (ops_go ref13_Do_r6.eq_1 T K fr S) := ops_go ref13_Do_r6.eq_1 T K fr S
def ref13_Do_r7 : List POper := [M 25 0,FA 26 1 3,LD 27 26,Q 28 (.call .std 184 [(V 25), (V 27)]),Q 29 (.arith .geq (V 28) (I 0))]
@[simp] theorem ref13_Do_r7_go : type_of% (ops_go ref13_Do_r7.eq_1 T K fr S) := ops_go ref13_Do_r7.eq_1 T K fr S
def ref13_Do_r8 : List POper := [M 30 0,M 4 30,Q 5 (.mov (I 10))]
@[simp] theorem ref13_Do_r8_go : type_of% (ops_go ref13_Do_r8.eq_1 T K fr S) := ops_go ref13_Do_r8.eq_1 T K fr S
def ref13_Do_r9 : List POper := [M 31 0,Q 32 (.len false (V 31)),Q 33 (.arith .geq (V 32) (I 256))]
@[simp] theorem ref13_Do_r9_go : type_of% (ops_go ref13_Do_r9.eq_1 T K fr S) := ops_go ref13_Do_r9.eq_1 T K fr S
def ref13_Do_r10 : List POper := [M 34 0,M 4 34,Q 5 (.mov (I 3))]
@[simp] theorem ref13_Do_r10_go : type_of% (ops_go ref13_Do_r10.eq_1 T K fr S) := ops_go ref13_Do_r10.eq_1 T K fr S
def ref13_Do_r11 : List POper := [M 35 7,Q 36 (.bsl false (.agg [(.str []), (.str [])]) 0 []),FA 37 1 3,LD 38 37,Q 39 (.app 2 32 (V 36) (V 38)),Q 40 (.build [.nils, .nils] [(0, 1, (V 39))]),Q 41 (.bsl false (.agg [.nils, .nils]) 1 [(0, (V 40))]),Q 42 (.app 2 48 (V 35) (V 41)),M 4 42,Q 5 (.mov (I 0))]
@[simp] theorem ref13_Do_r11_go : type_of% (ops_go ref13_Do_r11.eq_1 T K fr S) := ops_go ref13_Do_r11.eq_1 T K fr S
def ref13_Do_r12 : List POper := [Q 44 (.arith .eql (V 22) (I 2)),M 43 44]
@[simp] theorem ref13_Do_r12_go : type_of% (ops_go ref13_Do_r12.eq_1 T K fr S) := ops_go ref13_Do_r12.eq_1 T K fr S
def ref13_Do_r13 : List POper := [M 45 0,Q 46 (.call .std 169 [(V 45)]),M 8 46]
@[simp] theorem ref13_Do_r13_go : type_of% (ops_go ref13_Do_r13.eq_1 T K fr S) := ops_go ref13_Do_r13.eq_1 T K fr S
def ref13_Do_r14 : List POper := [Q 9 (.mov (I 0))]
@[simp] theorem ref13_Do_r14_go : type_of% (ops_go ref13_Do_r14.eq_1 T K fr S) := ops_go ref13_Do_r14.eq_1 T K fr S
def ref13_Do_r15 : List POper := [M 47 9,FA 48 2 3,LD 49 48,Q 50 (.len false (V 49)),Q 51 (.arith .lss (V 47) (V 50))]
@[simp] theorem ref13_Do_r15_go : type_of% (ops_go ref13_Do_r15.eq_1 T K fr S) := ops_go ref13_Do_r15.eq_1 T K fr S
def ref13_Do_r17 : List POper := [FA 54 2 3,LD 55 54,M 56 9,Q 57 (.iaddr 3 (V 55) (V 56)),Q 58 (.load true 3 false (V 57)),Q 10 (.alloc false [(.int .i64 0), (.int .i64 0), (.int .i64 0)]),QN (.store 3 (V 10) (V 58))]
@[simp] theorem ref13_Do_r17_go : type_of% (ops_go ref13_Do_r17.eq_1 T K fr S) := ops_go ref13_Do_r17.eq_1 T K fr S
def ref13_Do_r18 : List POper := [FA 59 0 10,LD 60 59,M 61 0,Q 62 (.len false (V 61)),Q 63 (.arith .geq (V 60) (V 62))]
@[simp] theorem ref13_Do_r18_go : type_of% (ops_go ref13_Do_r18.eq_1 T K fr S) := ops_go ref13_Do_r18.eq_1 T K fr S
def ref13_Do_r19 : List POper := [M 64 0,M 4 64,Q 5 (.mov (I 9))]
@[simp] theorem ref13_Do_r19_go : type_of% (ops_go ref13_Do_r19.eq_1 T K fr S) := ops_go ref13_Do_r19.eq_1 T K fr S
def ref13_Do_r20 : List POper := [M 65 8,Q 66 (.arith .geq (V 65) (I 65536))]
@[simp] theorem ref13_Do_r20_go : type_of% (ops_go ref13_Do_r20.eq_1 T K fr S) := ops_go ref13_Do_r20.eq_1 T K fr S
def ref13_Do_r21 : List POper := [M 67 0,M 4 67,Q 5 (.mov (I 3))]
@[simp] theorem ref13_Do_r21_go : type_of% (ops_go ref13_Do_r21.eq_1 T K fr S) := ops_go ref13_Do_r21.eq_1 T K fr S
def ref13_Do_r22 : List POper := [FA 68 1 10,FA 69 0 68,LD 70 69,M 71 7,FA 72 0 10,LD 73 72,Q 74 (.iaddr 2 (V 71) (V 73)),Q 75 (.load true 2 true (V 74)),Q 76 (.call .keep 185 [(V 75)]),Q 77 (.arith .leq (V 70) (V 76))]
@[simp] theorem ref13_Do_r22_go : type_of% (ops_go ref13_Do_r22.eq_1 T K fr S) := ops_go ref13_Do_r22.eq_1 T K fr S
def ref13_Do_r23 : List POper := [M 78 0,M 4 78,Q 5 (.mov (I 13))]
@[simp] theorem ref13_Do_r23_go : type_of% (ops_go ref13_Do_r23.eq_1 T K fr S) := ops_go ref13_Do_r23.eq_1 T K fr S
def ref13_Do_r25 : List POper := [M 96 8,Q 97 (.arith .add (V 96) (I 1)),M 8 97]
@[simp] theorem ref13_Do_r25_go : type_of% (ops_go ref13_Do_r25.eq_1 T K fr S) := ops_go ref13_Do_r25.eq_1 T K fr S
def ref13_Do_r16 : List POper := [M 52 9,Q 53 (.arith .add (V 52) (I 1)),M 9 53]
@[simp] theorem ref13_Do_r16_go : type_of% (ops_go ref13_Do_r16.eq_1 T K fr S) := ops_go ref13_Do_r16.eq_1 T K fr S
def ref13_Do_l0 : PCode :=
  (.seq (.seq (.clr [(47, 51)] (.region ref13_Do_r15)) (.cond (V 51) .skip (.exit 1))) (.seq (.block 2 (.seq (.clr [(54, 59)] (.region ref13_Do_r17)) (.seq (.seq (.clr [(59, 63)] (.region ref13_Do_r18)) (.cond (V 63) (.seq (.clr [(64, 65)] (.region ref13_Do_r19)) .ret) .skip)) (.seq (.seq (.clr [(65, 66)] (.region ref13_Do_r20)) (.cond (V 66) (.seq (.clr [(67, 68)] (.region ref13_Do_r21)) .ret) .skip)) (.seq (.seq (.clr [(68, 77)] (.region ref13_Do_r22)) (.cond (V 77) (.seq (.clr [(78, 79)] (.region ref13_Do_r23)) .ret) .skip)) (.seq .bad (.clr [(96, 98)] (.region ref13_Do_r25)))))))) (.clr [(52, 54)] (.region ref13_Do_r16))))
@[simp] theorem ref13_Do_l0_go : type_of% (code_go ref13_Do_l0.eq_1 T K fr S) := code_go ref13_Do_l0.eq_1 T K fr S
def ref13_Do_r26 : List POper := [M 98 7,M 4 98,Q 5 (.mov (I 0))]
@[simp] theorem ref13_Do_r26_go : type_of% (ops_go ref13_Do_r26.eq_1 T K fr S) := ops_go ref13_Do_r26.eq_1 T K fr S
def ref13_Do_r27 : List POper := [Q 11 (.mov (I 0))]
@[simp] theorem ref13_Do_r27_go : type_of% (ops_go ref13_Do_r27.eq_1 T K fr S) := ops_go ref13_Do_r27.eq_1 T K fr S
def ref13_Do_r28 : List POper := [M 99 11,FA 100 3 3,LD 101 100,Q 102 (.len false (V 101)),Q 103 (.arith .lss (V 99) (V 102))]
@[simp] theorem ref13_Do_r28_go : type_of% (ops_go ref13_Do_r28.eq_1 T K fr S) := ops_go ref13_Do_r28.eq_1 T K fr S
def ref13_Do_r30 : List POper := [FA 106 3 3,LD 107 106,M 108 11,Q 109 (.iaddr 1 (V 107) (V 108)),LD 110 109,M 111 0,Q 112 (.len false (V 111)),Q 113 (.arith .geq (V 110) (V 112))]
@[simp] theorem ref13_Do_r30_go : type_of% (ops_go ref13_Do_r30.eq_1 T K fr S) := ops_go ref13_Do_r30.eq_1 T K fr S
def ref13_Do_r31 : List POper := [M 114 0,M 4 114,Q 5 (.mov (I 9))]
@[simp] theorem ref13_Do_r31_go : type_of% (ops_go ref13_Do_r31.eq_1 T K fr S) := ops_go ref13_Do_r31.eq_1 T K fr S
def ref13_Do_r32 : List POper := [M 115 7,FA 116 3 3,Q 117 (.load false 1 true (V 116)),M 118 11,Q 119 (.iaddr 1 (V 117) (V 118)),Q 120 (.load false 1 true (V 119)),M 121 7,FA 122 3 3,Q 123 (.load false 1 true (V 122)),M 124 11,Q 125 (.iaddr 1 (V 123) (V 124)),Q 126 (.load false 1 true (V 125)),Q 127 (.iaddr 2 (V 121) (V 126)),FA 128 1 127,Q 129 (.load false 1 true (V 128)),FA 130 4 3,Q 131 (.load false 1 true (V 130)),FA 132 5 3,Q 133 (.load false 1 true (V 132)),Q 134 (.call .std 186 [(V 129), (V 131), (V 133)]),Q 135 (.iaddr 2 (V 115) (V 120)),FA 136 1 135,QN (.store 1 (V 136) (V 134))]
@[simp] theorem ref13_Do_r32_go : type_of% (ops_go ref13_Do_r32.eq_1 T K fr S) := ops_go ref13_Do_r32.eq_1 T K fr S
def ref13_Do_r29 : List POper := [M 104 11,Q 105 (.arith .add (V 104) (I 1)),M 11 105]
@[simp] theorem ref13_Do_r29_go : type_of% (ops_go ref13_Do_r29.eq_1 T K fr S) := ops_go ref13_Do_r29.eq_1 T K fr S
def ref13_Do_l1 : PCode :=
  (.seq (.seq (.clr [(99, 103)] (.region ref13_Do_r28)) (.cond (V 103) .skip (.exit 3))) (.seq (.block 4 (.seq (.seq (.clr [(106, 113)] (.region ref13_Do_r30)) (.cond (V 113) (.seq (.clr [(114, 115)] (.region ref13_Do_r31)) .ret) .skip)) (.clr [(115, 137)] (.region ref13_Do_r32)))) (.clr [(104, 106)] (.region ref13_Do_r29))))
@[simp] theorem ref13_Do_l1_go : type_of% (code_go ref13_Do_l1.eq_1 T K fr S) := code_go ref13_Do_l1.eq_1 T K fr S
def ref13_Do_r33 : List POper := [M 137 7,M 4 137,Q 5 (.mov (I 0))]
@[simp] theorem ref13_Do_r33_go : type_of% (ops_go ref13_Do_r33.eq_1 T K fr S) := ops_go ref13_Do_r33.eq_1 T K fr S
def ref13_Do : PCodeFn :=
  ⟨2, [.tmp 4, .tmp 5],
  (.seq (.region ref13_Do_r0) (.seq (.seq (.clr [(12, 14)] (.region ref13_Do_r1)) (.seq (.clr [(14, 15)] (.region ref13_Do_r2)) (.cond (V 15) (.seq (.clr [(16, 18)] (.region ref13_Do_r3)) .ret) .skip))) (.seq (.clr [(18, 21)] (.region ref13_Do_r4)) (.seq (.seq (.clr [(21, 22)] (.region ref13_Do_r5)) (.block 0 (.seq (.clr [(24, 25)] (.region ref13_Do_r6)) (.cond (V 23) (.seq (.seq (.clr [(25, 29)] (.region ref13_Do_r7)) (.cond (V 29) (.seq (.clr [(30, 31)] (.region ref13_Do_r8)) .ret) .skip)) (.seq (.seq (.clr [(31, 33)] (.region ref13_Do_r9)) (.cond (V 33) (.seq (.clr [(34, 35)] (.region ref13_Do_r10)) .ret) .skip)) (.seq (.clr [(35, 43)] (.region ref13_Do_r11)) .ret))) (.seq (.clr [(44, 45)] (.region ref13_Do_r12)) (.cond (V 43) (.seq (.clr [(45, 47)] (.region ref13_Do_r13)) (.seq (.seq (.region ref13_Do_r14) (.block 1 (.loop ref13_Do_l0))) (.seq (.clr [(98, 99)] (.region ref13_Do_r26)) .ret))) .skip)))))) (.seq (.seq (.region ref13_Do_r27) (.block 3 (.loop ref13_Do_l1))) (.seq (.clr [(137, 138)] (.region ref13_Do_r33)) .ret)))))), false⟩

def law13_spoil_r0 : List POper := [Q 1 (.box true (V 0))]
@[simp] theorem law13_spoil_r0_go : type_of% (ops_go law13_spoil_r0.eq_1 T K fr S) := ops_go law13_spoil_r0.eq_1 T K fr S
def law13_spoil_r1 : List POper := [Q 2 (.mov (I 0))]
@[simp] theorem law13_spoil_r1_go : type_of% (ops_go law13_spoil_r1.eq_1 T K fr S) := ops_go law13_spoil_r1.eq_1 T K fr S
def law13_spoil_r2 : List POper := [M 4 2,FA 5 1 1,LD 6 5,Q 7 (.len false (V 6)),Q 8 (.arith .lss (V 4) (V 7))]
@[simp] theorem law13_spoil_r2_go : type_of% (ops_go law13_spoil_r2.eq_1 T K fr S) := ops_go law13_spoil_r2.eq_1 T K fr S
def law13_spoil_r4 : List POper := [FA 11 1 1,LD 12 11,M 13 2,Q 14 (.build [(.str []), (.str [])] [(0, 1, (.cst (.str [122, 122]))), (1, 1, (.cst (.str [115, 112, 111, 105, 108, 116])))]),Q 15 (.iaddr 2 (V 12) (V 13)),QN (.store 2 (V 15) (V 14))]
@[simp] theorem law13_spoil_r4_go : type_of% (ops_go law13_spoil_r4.eq_1 T K fr S) := ops_go law13_spoil_r4.eq_1 T K fr S
def law13_spoil_r3 : List POper := [M 9 2,Q 10 (.arith .add (V 9) (I 1)),M 2 10]
@[simp] theorem law13_spoil_r3_go : type_of% (ops_go law13_spoil_r3.eq_1 T K fr S) := ops_go law13_spoil_r3.eq_1 T K fr S
def law13_spoil_l0 : PCode :=
  (.seq (.seq (.clr [(4, 8)] (.region law13_spoil_r2)) (.cond (V 8) .skip (.exit 0))) (.seq (.block 1 (.clr [(11, 16)] (.region law13_spoil_r4))) (.clr [(9, 11)] (.region law13_spoil_r3))))
@[simp] theorem law13_spoil_l0_go : type_of% (code_go law13_spoil_l0.eq_1 T K fr S) := code_go law13_spoil_l0.eq_1 T K fr S
def law13_spoil_r5 : List POper := [Q 3 (.mov (I 0))]
@[simp] theorem law13_spoil_r5_go : type_of% (ops_go law13_spoil_r5.eq_1 T K fr S) := ops_go law13_spoil_r5.eq_1 T K fr S
def law13_spoil_r6 : List POper := [M 16 3,FA 17 2 1,LD 18 17,Q 19 (.len false (V 18)),Q 20 (.arith .lss (V 16) (V 19))]
@[simp] theorem law13_spoil_r6_go : type_of% (ops_go law13_spoil_r6.eq_1 T K fr S) := ops_go law13_spoil_r6.eq_1 T K fr S
def law13_spoil_r8 : List POper := [FA 23 2 1,LD 24 23,M 25 3,Q 26 (.build [(.int .i64 0), (.int .i64 0)] [(0, 1, (I 9)), (1, 1, (I 9))]),Q 27 (.build [(.int .i64 0), (.int .i64 0), (.int .i64 0)] [(0, 1, (I 9)), (1, 2, (V 26))]),Q 28 (.iaddr 3 (V 24) (V 25)),QN (.store 3 (V 28) (V 27))]
@[simp] theorem law13_spoil_r8_go : type_of% (ops_go law13_spoil_r8.eq_1 T K fr S) := ops_go law13_spoil_r8.eq_1 T K fr S
def law13_spoil_r7 : List POper := [M 21 3,Q 22 (.arith .add (V 21) (I 1)),M 3 22]
@[simp] theorem law13_spoil_r7_go : type_of% (ops_go law13_spoil_r7.eq_1 T K fr S) := ops_go law13_spoil_r7.eq_1 T K fr S
def law13_spoil_l1 : PCode :=
  (.seq (.seq (.clr [(16, 20)] (.region law13_spoil_r6)) (.cond (V 20) .skip (.exit 2))) (.seq (.block 3 (.clr [(23, 29)] (.region law13_spoil_r8))) (.clr [(21, 23)] (.region law13_spoil_r7))))
@[simp] theorem law13_spoil_l1_go : type_of% (code_go law13_spoil_l1.eq_1 T K fr S) := code_go law13_spoil_l1.eq_1 T K fr S
def law13_spoil : PCodeFn :=
  ⟨1, [],
  (.seq (.region law13_spoil_r0) (.seq (.seq (.region law13_spoil_r1) (.block 0 (.loop law13_spoil_l0))) (.seq (.region law13_spoil_r5) (.block 2 (.loop law13_spoil_l1))))), false⟩

def head_Head_Copy_r0 : List POper := [Q 2 (.mov (.cst .nilp))]
@[simp] theorem head_Head_Copy_r0_go : type_of% (ops_go head_Head_Copy_r0.eq_1 T K fr S) := ops_go head_Head_Copy_r0.eq_1 T K fr S
def head_Head_Copy_r1 : List POper := [M 6 0,Q 7 (.eqn false .p (V 6))]
@[simp] theorem head_Head_Copy_r1_go : type_of% (ops_go head_Head_Copy_r1.eq_1 T K fr S) := ops_go head_Head_Copy_r1.eq_1 T K fr S
def head_Head_Copy_r2 : List POper := [Q 2 (.mov (.cst .nilp))]
@[simp] theorem head_Head_Copy_r2_go : type_of% (ops_go head_Head_Copy_r2.eq_1 T K fr S) := ops_go head_Head_Copy_r2.eq_1 T K fr S
def head_Head_Copy_r3 : List POper := [Q 8 (.call .std 68 []),M 3 8]
@[simp] theorem head_Head_Copy_r3_go : type_of% (ops_go head_Head_Copy_r3.eq_1 T K fr S) := ops_go head_Head_Copy_r3.eq_1 T K fr S
def head_Head_Copy_r4 : List POper := [M 9 0,NK' 10 9,FA 11 0 10,LD 12 11,Q 13 (.call .std 187 [(V 12)]),Q 14 (.len false (V 13)),Q 15 (.mov (I 0))]
@[simp] theorem head_Head_Copy_r4_go : type_of% (ops_go head_Head_Copy_r4.eq_1 T K fr S) := ops_go head_Head_Copy_r4.eq_1 T K fr S
def head_Head_Copy_r5 : List POper := [Q 16 (.arith .lss (V 15) (V 14))]
@[simp] theorem head_Head_Copy_r5_go : type_of% (ops_go head_Head_Copy_r5.eq_1 T K fr S) := ops_go head_Head_Copy_r5.eq_1 T K fr S
def head_Head_Copy_r6 : List POper := [Q 17 (.iaddr 2 (V 13) (V 15)),Q 18 (.load true 2 false (V 17)),Q 5 (.alloc false [.nils, .nils]),QN (.store 2 (V 5) (V 18))]
@[simp] theorem head_Head_Copy_r6_go : type_of% (ops_go head_Head_Copy_r6.eq_1 T K fr S) := ops_go head_Head_Copy_r6.eq_1 T K fr S
def head_Head_Copy_r7 : List POper := [M 19 3,NK' 20 19,FA 21 1 20,LD 22 21,FA 23 0 5,LD 24 23,Q 25 (.call .pur 24 [(V 24)]),M 26 3,NK' 27 26,FA 28 0 27,LD 29 28,Q 30 (.len false (V 29)),QN (.mset true (V 22) (V 25) (V 30))]
@[simp] theorem head_Head_Copy_r7_go : type_of% (ops_go head_Head_Copy_r7.eq_1 T K fr S) := ops_go head_Head_Copy_r7.eq_1 T K fr S
def head_Head_Copy_r8 : List POper := [M 31 3,M 32 3,NK' 33 32,FA 34 0 33,LD 35 34,Q 36 (.load true 2 false (V 5)),Q 37 (.bsl false (.agg [.nils, .nils]) 1 [(0, (V 36))]),Q 38 (.app 2 48 (V 35) (V 37)),NK' 39 31,FA 40 0 39,QN (.store 1 (V 40) (V 38))]
@[simp] theorem head_Head_Copy_r8_go : type_of% (ops_go head_Head_Copy_r8.eq_1 T K fr S) := ops_go head_Head_Copy_r8.eq_1 T K fr S
def head_Head_Copy_r9 : List POper := [M 41 3,NK' 42 41,FA 43 2 42,LD 44 43,FA 45 1 5,LD 46 45,Q 47 (.len false (V 46)),Q 48 (.arith .add (V 44) (V 47)),NK' 49 41,FA 50 2 49,QN (.store 1 (V 50) (V 48))]
@[simp] theorem head_Head_Copy_r9_go : type_of% (ops_go head_Head_Copy_r9.eq_1 T K fr S) := ops_go head_Head_Copy_r9.eq_1 T K fr S
def head_Head_Copy_r10 : List POper := [Q 51 (.arith .add (V 15) (I 1)),M 15 51]
@[simp] theorem head_Head_Copy_r10_go : type_of% (ops_go head_Head_Copy_r10.eq_1 T K fr S) := ops_go head_Head_Copy_r10.eq_1 T K fr S
def head_Head_Copy_l0 : PCode :=
  (.seq (.region head_Head_Copy_r5) (.seq (.cond (V 16) .skip (.exit 0)) (.seq (.block 1 (.seq (.clr [(17, 19)] (.region head_Head_Copy_r6)) (.seq (.clr [(19, 31)] (.region head_Head_Copy_r7)) (.seq (.clr [(31, 41)] (.region head_Head_Copy_r8)) (.clr [(41, 51)] (.region head_Head_Copy_r9)))))) (.clr [(51, 52)] (.region head_Head_Copy_r10)))))
@[simp] theorem head_Head_Copy_l0_go : type_of% (code_go head_Head_Copy_l0.eq_1 T K fr S) := code_go head_Head_Copy_l0.eq_1 T K fr S
def head_Head_Copy_r11 : List POper := [M 52 3,M 2 52]
@[simp] theorem head_Head_Copy_r11_go : type_of% (ops_go head_Head_Copy_r11.eq_1 T K fr S) := ops_go head_Head_Copy_r11.eq_1 T K fr S
def head_Head_Copy : PCodeFn :=
  ⟨1, [.tmp 2],
  (.seq (.region head_Head_Copy_r0) (.seq (.seq (.clr [(6, 7)] (.region head_Head_Copy_r1)) (.cond (V 7) (.seq (.region head_Head_Copy_r2) .ret) .skip)) (.seq (.clr [(8, 9)] (.region head_Head_Copy_r3)) (.seq (.seq (.clr [(9, 13)] (.region head_Head_Copy_r4)) (.block 0 (.loop head_Head_Copy_l0))) (.seq (.clr [(52, 53)] (.region head_Head_Copy_r11)) .ret))))), false⟩

def law13_row_r0 : List POper := [Q 6 (.alloc false [(.int .i64 0), .nils, .nils, .nils, (.int .i64 0), (.int .i64 0)])]
@[simp] theorem law13_row_r0_go : type_of% (ops_go law13_row_r0.eq_1 T K fr S) := ops_go law13_row_r0.eq_1 T K fr S
def law13_row_r1 : List POper := [M 7 0,M 8 1,M 9 2,Q 10 (.build [(.int .i64 0), (.int .i64 0)] [(0, 1, (V 8)), (1, 1, (V 9))]),Q 11 (.build [(.int .i64 0), (.int .i64 0), (.int .i64 0)] [(0, 1, (V 7)), (1, 2, (V 10))]),Q 12 (.bsl false (.agg [(.int .i64 0), (.int .i64 0), (.int .i64 0)]) 1 [(0, (V 11))]),Q 13 (.build [(.int .i64 0), .nils, .nils, .nils, (.int .i64 0), (.int .i64 0)] [(0, 1, (I 2)), (2, 1, (V 12))]),QN (.store 6 (V 6) (V 13))]
@[simp] theorem law13_row_r1_go : type_of% (ops_go law13_row_r1.eq_1 T K fr S) := ops_go law13_row_r1.eq_1 T K fr S
def law13_row : PCodeFn :=
  ⟨3, [.cell 6 true 6],
  (.seq (.region law13_row_r0) (.seq (.clr [(7, 14)] (.region law13_row_r1)) .ret)), false⟩

def law13_told_r0 : List POper := [Q 8 (.mov ff')]
@[simp] theorem law13_told_r0_go : type_of% (ops_go law13_told_r0.eq_1 T K fr S) := ops_go law13_told_r0.eq_1 T K fr S
def law13_told_r1 : List POper := [M 10 0,Q 11 (.call .std 188 [(V 10)]),M 12 1,Q 13 (.len false (V 12)),Q 14 (.arith .neq (V 11) (V 13)),M 15 14,QG (some 16) (.mov (V 0)) 15 false,QG (some 17) (.call .std 189 [(V 16)]) 15 false,QG (some 18) (.mov (V 1)) 15 false,QG (some 19) (.call .std 169 [(V 18)]) 15 false,QG (some 20) (.arith .neq (V 17) (V 19)) 15 false,Q 21 (.pick (V 15) tt' (V 20)),M 22 21,QG (some 23) (.mov (V 0)) 22 false,QG (some 24) (.call .std 190 [(V 23)]) 22 false,QG (some 25) (.mov (V 1)) 22 false,QG (some 26) (.call .std 191 [(V 25)]) 22 false,QG (some 27) (.call .std 170 [(V 24), (V 26)]) 22 false,QG (some 28) (.un .not (V 27)) 22 false,Q 29 (.pick (V 22) tt' (V 28))]
@[simp] theorem law13_told_r1_go : type_of% (ops_go law13_told_r1.eq_1 T K fr S) := ops_go law13_told_r1.eq_1 T K fr S
def law13_told_r2 : List POper := [Q 8 (.mov ff')]
@[simp] theorem law13_told_r2_go : type_of% (ops_go law13_told_r2.eq_1 T K fr S) := ops_go law13_told_r2.eq_1 T K fr S
def law13_told_r3 : List POper := [Q 9 (.mov (I (-1)))]
@[simp] theorem law13_told_r3_go : type_of% (ops_go law13_told_r3.eq_1 T K fr S) := ops_go law13_told_r3.eq_1 T K fr S
def law13_told_r4 : List POper := [M 30 9,M 31 1,Q 32 (.len false (V 31)),Q 33 (.arith .leq (V 30) (V 32))]
@[simp] theorem law13_told_r4_go : type_of% (ops_go law13_told_r4.eq_1 T K fr S) := ops_go law13_told_r4.eq_1 T K fr S
def law13_told_r6 : List POper := [M 36 0,M 37 1,M 38 9,M 39 2,M 40 3,Q 41 (.call .std 192 [(V 36), (V 37), (V 38), (V 39), (V 40)]),Q 42 (.un .not (V 41))]
@[simp] theorem law13_told_r6_go : type_of% (ops_go law13_told_r6.eq_1 T K fr S) := ops_go law13_told_r6.eq_1 T K fr S
def law13_told_r7 : List POper := [Q 8 (.mov ff')]
@[simp] theorem law13_told_r7_go : type_of% (ops_go law13_told_r7.eq_1 T K fr S) := ops_go law13_told_r7.eq_1 T K fr S
def law13_told_r5 : List POper := [M 34 9,Q 35 (.arith .add (V 34) (I 1)),M 9 35]
@[simp] theorem law13_told_r5_go : type_of% (ops_go law13_told_r5.eq_1 T K fr S) := ops_go law13_told_r5.eq_1 T K fr S
def law13_told_l0 : PCode :=
  (.seq (.seq (.clr [(30, 33)] (.region law13_told_r4)) (.cond (V 33) .skip (.exit 0))) (.seq (.block 1 (.seq (.clr [(36, 42)] (.region law13_told_r6)) (.cond (V 42) (.seq (.region law13_told_r7) .ret) .skip))) (.clr [(34, 36)] (.region law13_told_r5))))
@[simp] theorem law13_told_l0_go : type_of% (code_go law13_told_l0.eq_1 T K fr S) := code_go law13_told_l0.eq_1 T K fr S
def law13_told_r8 : List POper := [Q 8 (.mov tt')]
@[simp] theorem law13_told_r8_go : type_of% (ops_go law13_told_r8.eq_1 T K fr S) := ops_go law13_told_r8.eq_1 T K fr S
def law13_told : PCodeFn :=
  ⟨4, [.tmp 8],
  (.seq (.region law13_told_r0) (.seq (.seq (.clr [(10, 29)] (.region law13_told_r1)) (.cond (V 29) (.seq (.region law13_told_r2) .ret) .skip)) (.seq (.seq (.region law13_told_r3) (.block 0 (.loop law13_told_l0))) (.seq (.region law13_told_r8) .ret)))), false⟩

def wal_Check_r0 : List POper := [Q 1 (.box true (V 0)),Q 2 (.mov (I 0))]
@[simp] theorem wal_Check_r0_go : type_of% (ops_go wal_Check_r0.eq_1 T K fr S) := ops_go wal_Check_r0.eq_1 T K fr S
def wal_Check_r1 : List POper := [FA 4 1 1,LD 5 4,Q 6 (.len false (V 5)),FA 7 2 1,LD 8 7,Q 9 (.len false (V 8)),FA 10 3 1,LD 11 10,Q 12 (.len false (V 11)),FA 13 4 1,LD 14 13,FA 15 5 1,LD 16 15,Q 17 (.build [(.int .i64 0), (.int .i64 0), (.int .i64 0), (.int .i64 0), (.int .i64 0)] [(0, 1, (V 6)), (1, 1, (V 9)), (2, 1, (V 12)), (3, 1, (V 14)), (4, 1, (V 16))]),Q 3 (.alloc false [(.int .i64 0), (.int .i64 0), (.int .i64 0), (.int .i64 0), (.int .i64 0)]),QN (.store 5 (V 3) (V 17))]
@[simp] theorem wal_Check_r1_go : type_of% (ops_go wal_Check_r1.eq_1 T K fr S) := ops_go wal_Check_r1.eq_1 T K fr S
def wal_Check_r2 : List POper := [FA 19 0 1,LD 20 19,Q 21 (.arith .eql (V 20) (I 1)),M 22 21,QG (some 23) (.load true 5 false (V 3)) 22 true,QG (some 24) (.faddr 0 (V 3)) 22 true,QG (some 25) (.load false 1 false (V 24)) 22 true,QG (some 26) (.build [(.int .i64 0), (.int .i64 0), (.int .i64 0), (.int .i64 0), (.int .i64 0)] [(0, 1, (V 25))]) 22 true,QG (some 27) (.eqs false 5 (V 23) (V 26)) 22 true,Q 28 (.pick (V 22) (V 27) ff'),M 18 28]
@[simp] theorem wal_Check_r2_go : type_of% (ops_go wal_Check_r2.eq_1 T K fr S) := ops_go wal_Check_r2.eq_1 T K fr S
def wal_Check_r3 : List POper := [FA 29 1 1,LD 30 29,Q 31 (.call .std 40 [(V 30)]),M 2 31]
@[simp] theorem wal_Check_r3_go : type_of% (ops_go wal_Check_r3.eq_1 T K fr S) := ops_go wal_Check_r3.eq_1 T K fr S
def wal_Check_r4 : List POper := [FA 33 0 1,LD 34 33,Q 35 (.arith .eql (V 34) (I 2)),M 36 35,QG (some 37) (.load true 5 false (V 3)) 36 true,QG (some 38) (.faddr 1 (V 3)) 36 true,QG (some 39) (.load false 1 false (V 38)) 36 true,QG (some 40) (.build [(.int .i64 0), (.int .i64 0), (.int .i64 0), (.int .i64 0), (.int .i64 0)] [(1, 1, (V 39))]) 36 true,QG (some 41) (.eqs false 5 (V 37) (V 40)) 36 true,Q 42 (.pick (V 36) (V 41) ff'),M 32 42]
@[simp] theorem wal_Check_r4_go : type_of% (ops_go wal_Check_r4.eq_1 T K fr S) := ops_go wal_Check_r4.eq_1 T K fr S
def wal_Check_r5 : List POper := [FA 43 2 1,LD 44 43,Q 45 (.call .std 275 [(V 44)]),M 2 45]
@[simp] theorem wal_Check_r5_go : type_of% (ops_go wal_Check_r5.eq_1 T K fr S) := ops_go wal_Check_r5.eq_1 T K fr S
def wal_Check_r6 : List POper := [FA 47 0 1,LD 48 47,Q 49 (.arith .eql (V 48) (I 3)),M 50 49,QG (some 51) (.load true 5 false (V 3)) 50 true,QG (some 52) (.faddr 2 (V 3)) 50 true,QG (some 53) (.load false 1 false (V 52)) 50 true,QG (some 54) (.faddr 3 (V 3)) 50 true,QG (some 55) (.load false 1 false (V 54)) 50 true,QG (some 56) (.faddr 4 (V 3)) 50 true,QG (some 57) (.load false 1 false (V 56)) 50 true,QG (some 58) (.build [(.int .i64 0), (.int .i64 0), (.int .i64 0), (.int .i64 0), (.int .i64 0)] [(2, 1, (V 53)), (3, 1, (V 55)), (4, 1, (V 57))]) 50 true,QG (some 59) (.eqs false 5 (V 51) (V 58)) 50 true,Q 60 (.pick (V 50) (V 59) ff'),M 46 60]
@[simp] theorem wal_Check_r6_go : type_of% (ops_go wal_Check_r6.eq_1 T K fr S) := ops_go wal_Check_r6.eq_1 T K fr S
def wal_Check_r7 : List POper := [Q 61 (.load true 6 false (V 1)),Q 62 (.call .std 276 [(V 61)]),M 2 62]
@[simp] theorem wal_Check_r7_go : type_of% (ops_go wal_Check_r7.eq_1 T K fr S) := ops_go wal_Check_r7.eq_1 T K fr S
def wal_Check_r8 : List POper := [Q 2 (.mov (I 2))]
@[simp] theorem wal_Check_r8_go : type_of% (ops_go wal_Check_r8.eq_1 T K fr S) := ops_go wal_Check_r8.eq_1 T K fr S
def wal_Check : PCodeFn :=
  ⟨1, [.tmp 2],
  (.seq (.region wal_Check_r0) (.seq (.clr [(4, 18)] (.region wal_Check_r1)) (.seq (.block 0 (.seq (.clr [(19, 29)] (.region wal_Check_r2)) (.cond (V 18) (.seq (.clr [(29, 32)] (.region wal_Check_r3)) .ret) (.seq (.clr [(33, 43)] (.region wal_Check_r4)) (.cond (V 32) (.seq (.clr [(43, 46)] (.region wal_Check_r5)) .ret) (.seq (.clr [(47, 61)] (.region wal_Check_r6)) (.cond (V 46) (.seq (.clr [(61, 63)] (.region wal_Check_r7)) .ret) .skip))))))) (.seq (.region wal_Check_r8) .ret)))), false⟩

def head_Head_add_r0 : List POper := [Q 4 (.mov (I 0))]
@[simp] theorem head_Head_add_r0_go : type_of% (ops_go head_Head_add_r0.eq_1 T K fr S) := ops_go head_Head_add_r0.eq_1 T K fr S
def head_Head_add_r1 : List POper := [M 8 1,Q 9 (.call .std 24 [(V 8)]),M 5 9]
@[simp] theorem head_Head_add_r1_go : type_of% (ops_go head_Head_add_r1.eq_1 T K fr S) := ops_go head_Head_add_r1.eq_1 T K fr S
def head_Head_add_r2 : List POper := [M 11 0,NK' 12 11,FA 13 1 12,LD 14 13,M 15 5,Q 16 (.mlk true true (.int .i64 0) (V 14) (V 15)),M 10 16,EX 17 0 10,EX 18 1 10,M 6 17,M 7 18]
@[simp] theorem head_Head_add_r2_go : type_of% (ops_go head_Head_add_r2.eq_1 T K fr S) := ops_go head_Head_add_r2.eq_1 T K fr S
def head_Head_add_r3 : List POper := [M 19 7]
@[simp] theorem head_Head_add_r3_go : type_of% (ops_go head_Head_add_r3.eq_1 T K fr S) := ops_go head_Head_add_r3.eq_1 T K fr S
def head_Head_add_r4 : List POper := [Q 4 (.mov (I 10))]
@[simp] theorem head_Head_add_r4_go : type_of% (ops_go head_Head_add_r4.eq_1 T K fr S) := ops_go head_Head_add_r4.eq_1 T K fr S
def head_Head_add_r5 : List POper := [M 20 0,NK' 21 20,FA 22 0 21,LD 23 22,Q 24 (.len false (V 23)),Q 25 (.arith .geq (V 24) (I 256))]
@[simp] theorem head_Head_add_r5_go : type_of% (ops_go head_Head_add_r5.eq_1 T K fr S) := ops_go head_Head_add_r5.eq_1 T K fr S
def head_Head_add_r6 : List POper := [Q 4 (.mov (I 3))]
@[simp] theorem head_Head_add_r6_go : type_of% (ops_go head_Head_add_r6.eq_1 T K fr S) := ops_go head_Head_add_r6.eq_1 T K fr S
def head_Head_add_r7 : List POper := [M 26 0,NK' 27 26,FA 28 1 27,LD 29 28,M 30 5,M 31 0,NK' 32 31,FA 33 0 32,LD 34 33,Q 35 (.len false (V 34)),QN (.mset true (V 29) (V 30) (V 35))]
@[simp] theorem head_Head_add_r7_go : type_of% (ops_go head_Head_add_r7.eq_1 T K fr S) := ops_go head_Head_add_r7.eq_1 T K fr S
def head_Head_add_r8 : List POper := [M 36 0,M 37 0,NK' 38 37,FA 39 0 38,LD 40 39,M 41 1,Q 42 (.call .keep 130 [(V 41)]),Q 43 (.build [.nils, .nils] [(0, 1, (V 42))]),Q 44 (.bsl false (.agg [.nils, .nils]) 1 [(0, (V 43))]),Q 45 (.gapp 2 48 (V 40) (V 44)),NK' 46 36,FA 47 0 46,QN (.store 1 (V 47) (V 45))]
@[simp] theorem head_Head_add_r8_go : type_of% (ops_go head_Head_add_r8.eq_1 T K fr S) := ops_go head_Head_add_r8.eq_1 T K fr S
def head_Head_add_r9 : List POper := [Q 4 (.mov (I 0))]
@[simp] theorem head_Head_add_r9_go : type_of% (ops_go head_Head_add_r9.eq_1 T K fr S) := ops_go head_Head_add_r9.eq_1 T K fr S
def head_Head_add : PCodeFn :=
  ⟨2, [.tmp 4],
  (.seq (.region head_Head_add_r0) (.seq (.clr [(8, 10)] (.region head_Head_add_r1)) (.seq (.seq (.clr [(6, 7), (10, 19)] (.region head_Head_add_r2)) (.seq (.region head_Head_add_r3) (.cond (V 19) (.seq (.region head_Head_add_r4) .ret) .skip))) (.seq (.seq (.clr [(20, 25)] (.region head_Head_add_r5)) (.cond (V 25) (.seq (.region head_Head_add_r6) .ret) .skip)) (.seq (.clr [(26, 36)] (.region head_Head_add_r7)) (.seq (.clr [(36, 48)] (.region head_Head_add_r8)) (.seq (.region head_Head_add_r9) .ret))))))), true⟩

def head_Head_rows_r0 : List POper := [Q 2 (.box false (V 0)),Q 3 (.box false (V 1)),Q 4 (.alloc false [(.int .i64 0)])]
@[simp] theorem head_Head_rows_r0_go : type_of% (ops_go head_Head_rows_r0.eq_1 T K fr S) := ops_go head_Head_rows_r0.eq_1 T K fr S
def head_Head_rows_r1 : List POper := [Q 5 (.alloc false [(.int .i64 0)]),QN (.store 1 (V 5) (I 0))]
@[simp] theorem head_Head_rows_r1_go : type_of% (ops_go head_Head_rows_r1.eq_1 T K fr S) := ops_go head_Head_rows_r1.eq_1 T K fr S
def head_Head_rows_r3 : List POper := [LD 10 3,Q 11 (.len false (V 10)),Q 12 (.mov (I 0))]
@[simp] theorem head_Head_rows_r3_go : type_of% (ops_go head_Head_rows_r3.eq_1 T K fr S) := ops_go head_Head_rows_r3.eq_1 T K fr S
def head_Head_rows_r4 : List POper := [Q 13 (.arith .lss (V 12) (V 11))]
@[simp] theorem head_Head_rows_r4_go : type_of% (ops_go head_Head_rows_r4.eq_1 T K fr S) := ops_go head_Head_rows_r4.eq_1 T K fr S
def head_Head_rows_r5 : List POper := [Q 14 (.iaddr 3 (V 10) (V 12)),Q 15 (.load true 3 false (V 14)),Q 7 (.alloc false [(.int .i64 0), (.int .i64 0), (.int .i64 0)]),QN (.store 3 (V 7) (V 15))]
@[simp] theorem head_Head_rows_r5_go : type_of% (ops_go head_Head_rows_r5.eq_1 T K fr S) := ops_go head_Head_rows_r5.eq_1 T K fr S
def head_Head_rows_r6 : List POper := [FA 17 0 7,LD 18 17,LD 19 2,NK' 20 19,FA 21 0 20,LD 22 21,Q 23 (.len false (V 22)),Q 24 (.arith .geq (V 18) (V 23)),M 16 24]
@[simp] theorem head_Head_rows_r6_go : type_of% (ops_go head_Head_rows_r6.eq_1 T K fr S) := ops_go head_Head_rows_r6.eq_1 T K fr S
def head_Head_rows_r7 : List POper := [QN (.store 1 (V 4) (I 9))]
@[simp] theorem head_Head_rows_r7_go : type_of% (ops_go head_Head_rows_r7.eq_1 T K fr S) := ops_go head_Head_rows_r7.eq_1 T K fr S
def head_Head_rows_r8 : List POper := [LD 26 2,NK' 27 26,FA 28 2 27,LD 29 28,Q 30 (.arith .geq (V 29) (I 65536)),M 25 30]
@[simp] theorem head_Head_rows_r8_go : type_of% (ops_go head_Head_rows_r8.eq_1 T K fr S) := ops_go head_Head_rows_r8.eq_1 T K fr S
def head_Head_rows_r9 : List POper := [QN (.store 1 (V 4) (I 3))]
@[simp] theorem head_Head_rows_r9_go : type_of% (ops_go head_Head_rows_r9.eq_1 T K fr S) := ops_go head_Head_rows_r9.eq_1 T K fr S
def head_Head_rows_r10 : List POper := [FA 32 1 7,FA 33 0 32,LD 34 33,LD 35 2,NK' 36 35,FA 37 0 36,LD 38 37,FA 39 0 7,LD 40 39,Q 41 (.iaddr 2 (V 38) (V 40)),FA 42 1 41,LD 43 42,Q 44 (.call .keep 278 [(V 43)]),Q 45 (.arith .leq (V 34) (V 44)),M 31 45]
@[simp] theorem head_Head_rows_r10_go : type_of% (ops_go head_Head_rows_r10.eq_1 T K fr S) := ops_go head_Head_rows_r10.eq_1 T K fr S
def head_Head_rows_r11 : List POper := [QN (.store 1 (V 4) (I 13))]
@[simp] theorem head_Head_rows_r11_go : type_of% (ops_go head_Head_rows_r11.eq_1 T K fr S) := ops_go head_Head_rows_r11.eq_1 T K fr S
def head_Head_rows_r12 : List POper := [LD 46 2,NK' 47 46,FA 48 0 47,LD 49 48,FA 50 0 7,LD 51 50,Q 52 (.iaddr 2 (V 49) (V 51)),M 8 52]
@[simp] theorem head_Head_rows_r12_go : type_of% (ops_go head_Head_rows_r12.eq_1 T K fr S) := ops_go head_Head_rows_r12.eq_1 T K fr S
def head_Head_rows_r13 : List POper := [M 53 8,M 54 8,NK' 55 54,FA 56 1 55,LD 57 56,FA 58 1 7,Q 59 (.load true 2 false (V 58)),Q 60 (.bsl false (.agg [(.int .i64 0), (.int .i64 0)]) 1 [(0, (V 59))]),Q 61 (.gapp 2 16 (V 57) (V 60)),NK' 62 53,FA 63 1 62,QN (.store 1 (V 63) (V 61))]
@[simp] theorem head_Head_rows_r13_go : type_of% (ops_go head_Head_rows_r13.eq_1 T K fr S) := ops_go head_Head_rows_r13.eq_1 T K fr S
def head_Head_rows_r14 : List POper := [LD 64 2,NK' 65 64,FA 66 2 65,LD 67 66,Q 68 (.arith .add (V 67) (I 1)),NK' 69 64,FA 70 2 69,QN (.store 1 (V 70) (V 68))]
@[simp] theorem head_Head_rows_r14_go : type_of% (ops_go head_Head_rows_r14.eq_1 T K fr S) := ops_go head_Head_rows_r14.eq_1 T K fr S
def head_Head_rows_r15 : List POper := [LD 71 5,Q 72 (.arith .add (V 71) (I 1)),QN (.store 1 (V 5) (V 72))]
@[simp] theorem head_Head_rows_r15_go : type_of% (ops_go head_Head_rows_r15.eq_1 T K fr S) := ops_go head_Head_rows_r15.eq_1 T K fr S
def head_Head_rows_r16 : List POper := [Q 73 (.arith .add (V 12) (I 1)),M 12 73]
@[simp] theorem head_Head_rows_r16_go : type_of% (ops_go head_Head_rows_r16.eq_1 T K fr S) := ops_go head_Head_rows_r16.eq_1 T K fr S
def head_Head_rows_l0 : PCode :=
  (.seq (.region head_Head_rows_r4) (.seq (.cond (V 13) .skip (.exit 0)) (.seq (.block 1 (.seq (.clr [(14, 16)] (.region head_Head_rows_r5)) (.seq (.block 2 (.seq (.clr [(17, 25)] (.region head_Head_rows_r6)) (.cond (V 16) (.seq (.region head_Head_rows_r7) .ret) (.seq (.clr [(26, 31)] (.region head_Head_rows_r8)) (.cond (V 25) (.seq (.region head_Head_rows_r9) .ret) (.seq (.clr [(32, 46)] (.region head_Head_rows_r10)) (.cond (V 31) (.seq (.region head_Head_rows_r11) .ret) .skip))))))) (.seq (.clr [(46, 53)] (.region head_Head_rows_r12)) (.seq (.clr [(53, 64)] (.region head_Head_rows_r13)) (.seq (.clr [(64, 71)] (.region head_Head_rows_r14)) (.clr [(71, 73)] (.region head_Head_rows_r15)))))))) (.clr [(73, 74)] (.region head_Head_rows_r16)))))
@[simp] theorem head_Head_rows_l0_go : type_of% (code_go head_Head_rows_l0.eq_1 T K fr S) := code_go head_Head_rows_l0.eq_1 T K fr S
def head_Head_rows_r17 : List POper := [QN (.store 1 (V 4) (I 0))]
@[simp] theorem head_Head_rows_r17_go : type_of% (ops_go head_Head_rows_r17.eq_1 T K fr S) := ops_go head_Head_rows_r17.eq_1 T K fr S
def head_Head_rows : PDef :=
  ⟨2, [.cell 4 false 1],
  [(.region head_Head_rows_r0), (.region head_Head_rows_r1)],⟨some 9, .mkfn 277 [(.tmp 4), (.tmp 5), (.tmp 2), (.tmp 3)], none⟩, 9,
  (.seq (.seq (.region head_Head_rows_r3) (.block 0 (.loop head_Head_rows_l0))) (.seq (.region head_Head_rows_r17) .ret)), true⟩

def head_Head_remove_r0 : List POper := [Q 3 (.box false (V 1)),Q 4 (.mov (I 0))]
@[simp] theorem head_Head_remove_r0_go : type_of% (ops_go head_Head_remove_r0.eq_1 T K fr S) := ops_go head_Head_remove_r0.eq_1 T K fr S
def head_Head_remove_r1 : List POper := [FA 9 3 3,LD 10 9,FA 11 3 3,LD 12 11,Q 13 (.len false (V 12)),Q 14 (.arith .sub (V 13) (I 1)),Q 15 (.iaddr 1 (V 10) (V 14)),LD 16 15,M 17 0,NK' 18 17,FA 19 0 18,LD 20 19,Q 21 (.len false (V 20)),Q 22 (.arith .geq (V 16) (V 21))]
@[simp] theorem head_Head_remove_r1_go : type_of% (ops_go head_Head_remove_r1.eq_1 T K fr S) := ops_go head_Head_remove_r1.eq_1 T K fr S
def head_Head_remove_r2 : List POper := [Q 4 (.mov (I 9))]
@[simp] theorem head_Head_remove_r2_go : type_of% (ops_go head_Head_remove_r2.eq_1 T K fr S) := ops_go head_Head_remove_r2.eq_1 T K fr S
def head_Head_remove_r3 : List POper := [FA 23 3 3,LD 24 23,Q 25 (.len false (V 24)),Q 26 (.mov (I 0))]
@[simp] theorem head_Head_remove_r3_go : type_of% (ops_go head_Head_remove_r3.eq_1 T K fr S) := ops_go head_Head_remove_r3.eq_1 T K fr S
def head_Head_remove_r4 : List POper := [Q 27 (.arith .lss (V 26) (V 25))]
@[simp] theorem head_Head_remove_r4_go : type_of% (ops_go head_Head_remove_r4.eq_1 T K fr S) := ops_go head_Head_remove_r4.eq_1 T K fr S
def head_Head_remove_r5 : List POper := [Q 28 (.iaddr 1 (V 24) (V 26)),LD 29 28,M 6 29]
@[simp] theorem head_Head_remove_r5_go : type_of% (ops_go head_Head_remove_r5.eq_1 T K fr S) := ops_go head_Head_remove_r5.eq_1 T K fr S
def head_Head_remove_r6 : List POper := [M 30 0,NK' 31 30,FA 32 0 31,LD 33 32,M 34 6,Q 35 (.iaddr 2 (V 33) (V 34)),M 7 35]
@[simp] theorem head_Head_remove_r6_go : type_of% (ops_go head_Head_remove_r6.eq_1 T K fr S) := ops_go head_Head_remove_r6.eq_1 T K fr S
def head_Head_remove_r7 : List POper := [M 36 7,NK' 37 36,FA 38 1 37,LD 39 38,Q 40 (.len false (V 39)),M 8 40]
@[simp] theorem head_Head_remove_r7_go : type_of% (ops_go head_Head_remove_r7.eq_1 T K fr S) := ops_go head_Head_remove_r7.eq_1 T K fr S
def head_Head_remove_r8 : List POper := [M 41 7,M 42 7,NK' 43 42,FA 44 1 43,LD 45 44,Q 46 (.mkfn 280 [(V 3)]),Q 47 (.call .std 279 [(V 45), (V 46)]),NK' 48 41,FA 49 1 48,QN (.store 1 (V 49) (V 47))]
@[simp] theorem head_Head_remove_r8_go : type_of% (ops_go head_Head_remove_r8.eq_1 T K fr S) := ops_go head_Head_remove_r8.eq_1 T K fr S
def head_Head_remove_r9 : List POper := [M 50 0,NK' 51 50,FA 52 2 51,LD 53 52,M 54 8,M 55 7,NK' 56 55,FA 57 1 56,LD 58 57,Q 59 (.len false (V 58)),Q 60 (.arith .sub (V 54) (V 59)),Q 61 (.arith .sub (V 53) (V 60)),NK' 62 50,FA 63 2 62,QN (.store 1 (V 63) (V 61))]
@[simp] theorem head_Head_remove_r9_go : type_of% (ops_go head_Head_remove_r9.eq_1 T K fr S) := ops_go head_Head_remove_r9.eq_1 T K fr S
def head_Head_remove_r10 : List POper := [Q 64 (.arith .add (V 26) (I 1)),M 26 64]
@[simp] theorem head_Head_remove_r10_go : type_of% (ops_go head_Head_remove_r10.eq_1 T K fr S) := ops_go head_Head_remove_r10.eq_1 T K fr S
def head_Head_remove_l0 : PCode :=
  (.seq (.region head_Head_remove_r4) (.seq (.cond (V 27) .skip (.exit 0)) (.seq (.block 1 (.seq (.clr [(28, 30)] (.region head_Head_remove_r5)) (.seq (.clr [(30, 36)] (.region head_Head_remove_r6)) (.seq (.clr [(36, 41)] (.region head_Head_remove_r7)) (.seq (.clr [(41, 50)] (.region head_Head_remove_r8)) (.clr [(50, 64)] (.region head_Head_remove_r9))))))) (.clr [(64, 65)] (.region head_Head_remove_r10)))))
@[simp] theorem head_Head_remove_l0_go : type_of% (code_go head_Head_remove_l0.eq_1 T K fr S) := code_go head_Head_remove_l0.eq_1 T K fr S
def head_Head_remove_r11 : List POper := [Q 4 (.mov (I 0))]
@[simp] theorem head_Head_remove_r11_go : type_of% (ops_go head_Head_remove_r11.eq_1 T K fr S) := ops_go head_Head_remove_r11.eq_1 T K fr S
def head_Head_remove : PCodeFn :=
  ⟨2, [.tmp 4],
  (.seq (.region head_Head_remove_r0) (.seq (.seq (.clr [(9, 22)] (.region head_Head_remove_r1)) (.cond (V 22) (.seq (.region head_Head_remove_r2) .ret) .skip)) (.seq (.seq (.clr [(23, 24)] (.region head_Head_remove_r3)) (.block 0 (.loop head_Head_remove_l0))) (.seq (.region head_Head_remove_r11) .ret)))), true⟩

def head_Head_Last_r0 : List POper := [Q 4 (.mov (I 0)),Q 5 (.mov (I 0))]
@[simp] theorem head_Head_Last_r0_go : type_of% (ops_go head_Head_Last_r0.eq_1 T K fr S) := ops_go head_Head_Last_r0.eq_1 T K fr S
def head_Head_Last_r1 : List POper := [M 9 0,M 10 1,Q 11 (.call .std 291 [(V 9), (V 10)]),M 8 11,EX 12 0 8,EX 13 1 8,Q 6 (.alloc false [.nils, .nils]),QN (.store 2 (V 6) (V 12)),M 7 13]
@[simp] theorem head_Head_Last_r1_go : type_of% (ops_go head_Head_Last_r1.eq_1 T K fr S) := ops_go head_Head_Last_r1.eq_1 T K fr S
def head_Head_Last_r2 : List POper := [M 14 7,Q 15 (.arith .neq (V 14) (I 0))]
@[simp] theorem head_Head_Last_r2_go : type_of% (ops_go head_Head_Last_r2.eq_1 T K fr S) := ops_go head_Head_Last_r2.eq_1 T K fr S
def head_Head_Last_r3 : List POper := [M 16 7,Q 4 (.mov (I 0)),M 5 16]
@[simp] theorem head_Head_Last_r3_go : type_of% (ops_go head_Head_Last_r3.eq_1 T K fr S) := ops_go head_Head_Last_r3.eq_1 T K fr S
def head_Head_Last_r4 : List POper := [FA 17 1 6,LD 18 17,Q 19 (.call .std 278 [(V 18)]),M 4 19,Q 5 (.mov (I 0))]
@[simp] theorem head_Head_Last_r4_go : type_of% (ops_go head_Head_Last_r4.eq_1 T K fr S) := ops_go head_Head_Last_r4.eq_1 T K fr S
def head_Head_Last : PCodeFn :=
  ⟨2, [.tmp 4, .tmp 5],
  (.seq (.region head_Head_Last_r0) (.seq (.clr [(8, 14)] (.region head_Head_Last_r1)) (.seq (.seq (.clr [(14, 15)] (.region head_Head_Last_r2)) (.cond (V 15) (.seq (.clr [(16, 17)] (.region head_Head_Last_r3)) .ret) .skip)) (.seq (.clr [(17, 20)] (.region head_Head_Last_r4)) .ret)))), false⟩

def head_Head_at_r0 : List POper := [Q 4 (.alloc false [.nils, .nils]),Q 5 (.mov (I 0))]
@[simp] theorem head_Head_at_r0_go : type_of% (ops_go head_Head_at_r0.eq_1 T K fr S) := ops_go head_Head_at_r0.eq_1 T K fr S
def head_Head_at_r1 : List POper := [M 7 0,Q 8 (.eqn false .p (V 7)),M 6 8]
@[simp] theorem head_Head_at_r1_go : type_of% (ops_go head_Head_at_r1.eq_1 T K fr S) := ops_go head_Head_at_r1.eq_1 T K fr S
def head_Head_at_r2 : List POper := [Q 9 (.build [.nils, .nils] []),QN (.store 2 (V 4) (V 9)),Q 5 (.mov (I 1))]
@[simp] theorem head_Head_at_r2_go : type_of% (ops_go head_Head_at_r2.eq_1 T K fr S) := ops_go head_Head_at_r2.eq_1 T K fr S
def head_Head_at_r3 : List POper := [M 11 1,Q 12 (.arith .lss (V 11) (I 0)),M 13 12,QG (some 14) (.mov (V 1)) 13 false,QG (some 15) (.mov (V 0)) 13 false,QG (some 16) (.nilck (V 15)) 13 false,QG (some 17) (.faddr 0 (V 16)) 13 false,QG (some 18) (.load false 1 false (V 17)) 13 false,QG (some 19) (.len false (V 18)) 13 false,QG (some 20) (.arith .geq (V 14) (V 19)) 13 false,Q 21 (.pick (V 13) tt' (V 20)),M 10 21]
@[simp] theorem head_Head_at_r3_go : type_of% (ops_go head_Head_at_r3.eq_1 T K fr S) := ops_go head_Head_at_r3.eq_1 T K fr S
def head_Head_at_r4 : List POper := [Q 22 (.build [.nils, .nils] []),QN (.store 2 (V 4) (V 22)),Q 5 (.mov (I 9))]
@[simp] theorem head_Head_at_r4_go : type_of% (ops_go head_Head_at_r4.eq_1 T K fr S) := ops_go head_Head_at_r4.eq_1 T K fr S
def head_Head_at_r5 : List POper := [M 23 0,NK' 24 23,FA 25 0 24,LD 26 25,M 27 1,Q 28 (.iaddr 2 (V 26) (V 27)),Q 29 (.load true 2 false (V 28)),QN (.store 2 (V 4) (V 29)),Q 5 (.mov (I 0))]
@[simp] theorem head_Head_at_r5_go : type_of% (ops_go head_Head_at_r5.eq_1 T K fr S) := ops_go head_Head_at_r5.eq_1 T K fr S
def head_Head_at : PCodeFn :=
  ⟨2, [.cell 4 true 2, .tmp 5],
  (.seq (.region head_Head_at_r0) (.seq (.block 0 (.seq (.clr [(7, 9)] (.region head_Head_at_r1)) (.cond (V 6) (.seq (.clr [(9, 10)] (.region head_Head_at_r2)) .ret) (.seq (.clr [(11, 22)] (.region head_Head_at_r3)) (.cond (V 10) (.seq (.clr [(22, 23)] (.region head_Head_at_r4)) .ret) .skip))))) (.seq (.clr [(23, 30)] (.region head_Head_at_r5)) .ret))), false⟩

def ref06_Same_r0 : List POper := [Q 4 (.mov ff')]
@[simp] theorem ref06_Same_r0_go : type_of% (ops_go ref06_Same_r0.eq_1 T K fr S) := ops_go ref06_Same_r0.eq_1 T K fr S
def ref06_Same_r1 : List POper := [M 5 0,M 6 1,Q 7 (.call .std 102 [(V 5), (V 6)]),Q 8 (.arith .eql (V 7) (I 0)),M 4 8]
@[simp] theorem ref06_Same_r1_go : type_of% (ops_go ref06_Same_r1.eq_1 T K fr S) := ops_go ref06_Same_r1.eq_1 T K fr S
def ref06_Same : PCodeFn :=
  ⟨2, [.tmp 4],
  (.seq (.region ref06_Same_r0) (.seq (.clr [(5, 9)] (.region ref06_Same_r1)) .ret)), false⟩

def slices_DeleteFunc_Series_r0 : List POper := [Q 4 (.mov (.cst .nils))]
@[simp] theorem slices_DeleteFunc_Series_r0_go : type_of% (ops_go slices_DeleteFunc_Series_r0.eq_1 T K fr S) := ops_go slices_DeleteFunc_Series_r0.eq_1 T K fr S
def slices_DeleteFunc_Series_r1 : List POper := [M 8 0,M 9 1,Q 10 (.call .std 345 [(V 8), (V 9)]),M 5 10]
@[simp] theorem slices_DeleteFunc_Series_r1_go : type_of% (ops_go slices_DeleteFunc_Series_r1.eq_1 T K fr S) := ops_go slices_DeleteFunc_Series_r1.eq_1 T K fr S
def slices_DeleteFunc_Series_r2 : List POper := [M 11 5,Q 12 (.arith .eql (V 11) (I (-1)))]
@[simp] theorem slices_DeleteFunc_Series_r2_go : type_of% (ops_go slices_DeleteFunc_Series_r2.eq_1 T K fr S) := ops_go slices_DeleteFunc_Series_r2.eq_1 T K fr S
def slices_DeleteFunc_Series_r3 : List POper := [M 13 0,M 4 13]
@[simp] theorem slices_DeleteFunc_Series_r3_go : type_of% (ops_go slices_DeleteFunc_Series_r3.eq_1 T K fr S) := ops_go slices_DeleteFunc_Series_r3.eq_1 T K fr S
def slices_DeleteFunc_Series_r4 : List POper := [M 14 5,Q 15 (.arith .add (V 14) (I 1)),M 6 15]
@[simp] theorem slices_DeleteFunc_Series_r4_go : type_of% (ops_go slices_DeleteFunc_Series_r4.eq_1 T K fr S) := ops_go slices_DeleteFunc_Series_r4.eq_1 T K fr S
def slices_DeleteFunc_Series_r5 : List POper := [M 16 6,M 17 0,Q 18 (.len false (V 17)),Q 19 (.arith .lss (V 16) (V 18))]
@[simp] theorem slices_DeleteFunc_Series_r5_go : type_of% (ops_go slices_DeleteFunc_Series_r5.eq_1 T K fr S) := ops_go slices_DeleteFunc_Series_r5.eq_1 T K fr S
def slices_DeleteFunc_Series_r7 : List POper := [M 22 0,M 23 6,Q 24 (.iaddr 2 (V 22) (V 23)),Q 25 (.load true 2 false (V 24)),Q 7 (.alloc false [.nils, .nils]),QN (.store 2 (V 7) (V 25))]
@[simp] theorem slices_DeleteFunc_Series_r7_go : type_of% (ops_go slices_DeleteFunc_Series_r7.eq_1 T K fr S) := ops_go slices_DeleteFunc_Series_r7.eq_1 T K fr S
def slices_DeleteFunc_Series_r8 : List POper := [M 26 1,Q 27 (.load true 2 false (V 7)),Q 28 (.callv .std (V 26) [(V 27)]),Q 29 (.un .not (V 28))]
@[simp] theorem slices_DeleteFunc_Series_r8_go : type_of% (ops_go slices_DeleteFunc_Series_r8.eq_1 T K fr S) := ops_go slices_DeleteFunc_Series_r8.eq_1 T K fr S
def slices_DeleteFunc_Series_r9 : List POper := [M 30 0,M 31 5,Q 32 (.load true 2 false (V 7)),Q 33 (.iaddr 2 (V 30) (V 31)),QN (.store 2 (V 33) (V 32))]
@[simp] theorem slices_DeleteFunc_Series_r9_go : type_of% (ops_go slices_DeleteFunc_Series_r9.eq_1 T K fr S) := ops_go slices_DeleteFunc_Series_r9.eq_1 T K fr S
def slices_DeleteFunc_Series_r10 : List POper := [M 34 5,Q 35 (.arith .add (V 34) (I 1)),M 5 35]
@[simp] theorem slices_DeleteFunc_Series_r10_go : type_of% (ops_go slices_DeleteFunc_Series_r10.eq_1 T K fr S) := ops_go slices_DeleteFunc_Series_r10.eq_1 T K fr S
def slices_DeleteFunc_Series_r6 : List POper := [M 20 6,Q 21 (.arith .add (V 20) (I 1)),M 6 21]
@[simp] theorem slices_DeleteFunc_Series_r6_go : type_of% (ops_go slices_DeleteFunc_Series_r6.eq_1 T K fr S) := ops_go slices_DeleteFunc_Series_r6.eq_1 T K fr S
def slices_DeleteFunc_Series_l0 : PCode :=
  (.seq (.seq (.clr [(16, 19)] (.region slices_DeleteFunc_Series_r5)) (.cond (V 19) .skip (.exit 0))) (.seq (.block 1 (.seq (.clr [(22, 26)] (.region slices_DeleteFunc_Series_r7)) (.seq (.clr [(26, 29)] (.region slices_DeleteFunc_Series_r8)) (.cond (V 29) (.seq (.clr [(30, 34)] (.region slices_DeleteFunc_Series_r9)) (.clr [(34, 36)] (.region slices_DeleteFunc_Series_r10))) .skip)))) (.clr [(20, 22)] (.region slices_DeleteFunc_Series_r6))))
@[simp] theorem slices_DeleteFunc_Series_l0_go : type_of% (code_go slices_DeleteFunc_Series_l0.eq_1 T K fr S) := code_go slices_DeleteFunc_Series_l0.eq_1 T K fr S
def slices_DeleteFunc_Series_r11 : List POper := [M 36 0,M 37 5,Q 38 (.slc 2 (some (V 37)) none (V 36)),QN (.gclr 2 [.nils, .nils] (V 38))]
@[simp] theorem slices_DeleteFunc_Series_r11_go : type_of% (ops_go slices_DeleteFunc_Series_r11.eq_1 T K fr S) := ops_go slices_DeleteFunc_Series_r11.eq_1 T K fr S
def slices_DeleteFunc_Series_r12 : List POper := [M 39 0,M 40 5,Q 41 (.slc 2 none (some (V 40)) (V 39)),M 4 41]
@[simp] theorem slices_DeleteFunc_Series_r12_go : type_of% (ops_go slices_DeleteFunc_Series_r12.eq_1 T K fr S) := ops_go slices_DeleteFunc_Series_r12.eq_1 T K fr S
def slices_DeleteFunc_Series : PCodeFn :=
  ⟨2, [.tmp 4],
  (.seq (.region slices_DeleteFunc_Series_r0) (.seq (.clr [(8, 11)] (.region slices_DeleteFunc_Series_r1)) (.seq (.seq (.clr [(11, 12)] (.region slices_DeleteFunc_Series_r2)) (.cond (V 12) (.seq (.clr [(13, 14)] (.region slices_DeleteFunc_Series_r3)) .ret) .skip)) (.seq (.seq (.clr [(14, 16)] (.region slices_DeleteFunc_Series_r4)) (.block 0 (.loop slices_DeleteFunc_Series_l0))) (.seq (.clr [(36, 39)] (.region slices_DeleteFunc_Series_r11)) (.seq (.clr [(39, 42)] (.region slices_DeleteFunc_Series_r12)) .ret)))))), false⟩

def head_copied_r0 : List POper := [Q 2 (.mov (.cst .nils))]
@[simp] theorem head_copied_r0_go : type_of% (ops_go head_copied_r0.eq_1 T K fr S) := ops_go head_copied_r0.eq_1 T K fr S
def head_copied_r1 : List POper := [Q 3 (.mov (.cst .nils))]
@[simp] theorem head_copied_r1_go : type_of% (ops_go head_copied_r1.eq_1 T K fr S) := ops_go head_copied_r1.eq_1 T K fr S
def head_copied_r2 : List POper := [M 6 0,Q 7 (.len false (V 6)),Q 8 (.mov (I 0))]
@[simp] theorem head_copied_r2_go : type_of% (ops_go head_copied_r2.eq_1 T K fr S) := ops_go head_copied_r2.eq_1 T K fr S
def head_copied_r3 : List POper := [Q 9 (.arith .lss (V 8) (V 7))]
@[simp] theorem head_copied_r3_go : type_of% (ops_go head_copied_r3.eq_1 T K fr S) := ops_go head_copied_r3.eq_1 T K fr S
def head_copied_r4 : List POper := [Q 10 (.iaddr 2 (V 6) (V 8)),Q 11 (.load true 2 false (V 10)),Q 5 (.alloc false [.nils, .nils]),QN (.store 2 (V 5) (V 11))]
@[simp] theorem head_copied_r4_go : type_of% (ops_go head_copied_r4.eq_1 T K fr S) := ops_go head_copied_r4.eq_1 T K fr S
def head_copied_r5 : List POper := [M 12 3,FA 13 0 5,LD 14 13,Q 15 (.call .pur 130 [(V 14)]),FA 16 1 5,LD 17 16,Q 18 (.call .std 283 [(V 17)]),Q 19 (.build [.nils, .nils] [(0, 1, (V 15)), (1, 1, (V 18))]),Q 20 (.bsl false (.agg [.nils, .nils]) 1 [(0, (V 19))]),Q 21 (.app 2 48 (V 12) (V 20)),M 3 21]
@[simp] theorem head_copied_r5_go : type_of% (ops_go head_copied_r5.eq_1 T K fr S) := ops_go head_copied_r5.eq_1 T K fr S
def head_copied_r6 : List POper := [Q 22 (.arith .add (V 8) (I 1)),M 8 22]
@[simp] theorem head_copied_r6_go : type_of% (ops_go head_copied_r6.eq_1 T K fr S) := ops_go head_copied_r6.eq_1 T K fr S
def head_copied_l0 : PCode :=
  (.seq (.region head_copied_r3) (.seq (.cond (V 9) .skip (.exit 0)) (.seq (.block 1 (.seq (.clr [(10, 12)] (.region head_copied_r4)) (.clr [(12, 22)] (.region head_copied_r5)))) (.clr [(22, 23)] (.region head_copied_r6)))))
@[simp] theorem head_copied_l0_go : type_of% (code_go head_copied_l0.eq_1 T K fr S) := code_go head_copied_l0.eq_1 T K fr S
def head_copied_r7 : List POper := [M 23 3,M 2 23]
@[simp] theorem head_copied_r7_go : type_of% (ops_go head_copied_r7.eq_1 T K fr S) := ops_go head_copied_r7.eq_1 T K fr S
def head_copied : PCodeFn :=
  ⟨1, [.tmp 2],
  (.seq (.region head_copied_r0) (.seq (.region head_copied_r1) (.seq (.seq (.region head_copied_r2) (.block 0 (.loop head_copied_l0))) (.seq (.clr [(23, 24)] (.region head_copied_r7)) .ret)))), false⟩

def head_Head_Series_1_r0 : List POper := [Q 1 (.box true (V 0)),Q 2 (.mov ff')]
@[simp] theorem head_Head_Series_1_r0_go : type_of% (ops_go head_Head_Series_1_r0.eq_1 T K fr S) := ops_go head_Head_Series_1_r0.eq_1 T K fr S
def head_Head_Series_1_r1 : List POper := [FA 3 1 1,LD 4 3,Q 5 (.len false (V 4)),Q 6 (.arith .eql (V 5) (I 0)),M 2 6]
@[simp] theorem head_Head_Series_1_r1_go : type_of% (ops_go head_Head_Series_1_r1.eq_1 T K fr S) := ops_go head_Head_Series_1_r1.eq_1 T K fr S
def head_Head_Series_1 : PCodeFn :=
  ⟨1, [.tmp 2],
  (.seq (.region head_Head_Series_1_r0) (.seq (.clr [(3, 7)] (.region head_Head_Series_1_r1)) .ret)), false⟩

def slices_SortFunc_Series_r0 : List POper := [M 5 0,Q 6 (.len false (V 5)),M 4 6]
@[simp] theorem slices_SortFunc_Series_r0_go : type_of% (ops_go slices_SortFunc_Series_r0.eq_1 T K fr S) := ops_go slices_SortFunc_Series_r0.eq_1 T K fr S
def slices_SortFunc_Series_r1 : List POper := [M 7 0,M 8 4,M 9 4,Q 10 (.toInt .u64 (V 9)),Q 11 (.call .pur 317 [(V 10)]),M 12 1,Q 13 (.call .std 346 [(V 7), (I 0), (V 8), (V 11), (V 12)])]
@[simp] theorem slices_SortFunc_Series_r1_go : type_of% (ops_go slices_SortFunc_Series_r1.eq_1 T K fr S) := ops_go slices_SortFunc_Series_r1.eq_1 T K fr S
def slices_SortFunc_Series : PCodeFn :=
  ⟨2, [],
  (.seq (.clr [(5, 7)] (.region slices_SortFunc_Series_r0)) (.clr [(7, 14)] (.region slices_SortFunc_Series_r1))), false⟩

def head_Head_Series_2_r0 : List POper := [Q 2 (.box true (V 0)),Q 3 (.box true (V 1)),Q 4 (.mov (I 0))]
@[simp] theorem head_Head_Series_2_r0_go : type_of% (ops_go head_Head_Series_2_r0.eq_1 T K fr S) := ops_go head_Head_Series_2_r0.eq_1 T K fr S
def head_Head_Series_2_r1 : List POper := [FA 5 0 2,LD 6 5,FA 7 0 3,LD 8 7,Q 9 (.call .std 28 [(V 6), (V 8)]),M 4 9]
@[simp] theorem head_Head_Series_2_r1_go : type_of% (ops_go head_Head_Series_2_r1.eq_1 T K fr S) := ops_go head_Head_Series_2_r1.eq_1 T K fr S
def head_Head_Series_2 : PCodeFn :=
  ⟨2, [.tmp 4],
  (.seq (.region head_Head_Series_2_r0) (.seq (.clr [(5, 10)] (.region head_Head_Series_2_r1)) .ret)), false⟩

def label_Compare_r0 : List POper := [Q 4 (.mov (I 0))]
@[simp] theorem label_Compare_r0_go : type_of% (ops_go label_Compare_r0.eq_1 T K fr S) := ops_go label_Compare_r0.eq_1 T K fr S
def label_Compare_r1 : List POper := [M 5 0,M 6 1,Q 7 (.call .std 103 [(V 5), (V 6), (.cst (.fn 104 []))]),M 4 7]
@[simp] theorem label_Compare_r1_go : type_of% (ops_go label_Compare_r1.eq_1 T K fr S) := ops_go label_Compare_r1.eq_1 T K fr S
def label_Compare : PCodeFn :=
  ⟨2, [.tmp 4],
  (.seq (.region label_Compare_r0) (.seq (.clr [(5, 8)] (.region label_Compare_r1)) .ret)), false⟩

def ref11_Check_r0 : List POper := [Q 1 (.box true (V 0)),Q 2 (.mov (I 0))]
@[simp] theorem ref11_Check_r0_go : type_of% (ops_go ref11_Check_r0.eq_1 T K fr S) := ops_go ref11_Check_r0.eq_1 T K fr S
def ref11_Check_r1 : List POper := [FA 4 0 1,LD 5 4,Q 6 (.arith .lss (V 5) (I 1)),M 7 6,QG (some 8) (.faddr 0 (V 1)) 7 false,QG (some 9) (.load false 1 false (V 8)) 7 false,QG (some 10) (.arith .gtr (V 9) (I 3)) 7 false,Q 11 (.pick (V 7) tt' (V 10)),M 12 11,QG (some 13) (.faddr 0 (V 1)) 12 false,QG (some 14) (.load false 1 false (V 13)) 12 false,QG (some 15) (.arith .neq (V 14) (I 1)) 12 false,QG (some 16) (.mov (V 15)) 12 false,QG (some 17) (.faddr 1 (V 1)) 16 true,QG (some 18) (.load false 1 false (V 17)) 16 true,QG (some 19) (.len false (V 18)) 16 true,QG (some 20) (.arith .gtr (V 19) (I 0)) 16 true,QG (some 21) (.pick (V 16) (V 20) ff') 12 false,Q 22 (.pick (V 12) tt' (V 21)),M 23 22,QG (some 24) (.faddr 0 (V 1)) 23 false,QG (some 25) (.load false 1 false (V 24)) 23 false,QG (some 26) (.arith .neq (V 25) (I 2)) 23 false,QG (some 27) (.mov (V 26)) 23 false,QG (some 28) (.faddr 2 (V 1)) 27 true,QG (some 29) (.load false 1 false (V 28)) 27 true,QG (some 30) (.len false (V 29)) 27 true,QG (some 31) (.arith .gtr (V 30) (I 0)) 27 true,QG (some 32) (.pick (V 27) (V 31) ff') 23 false,Q 33 (.pick (V 23) tt' (V 32)),M 34 33,QG (some 35) (.faddr 0 (V 1)) 34 false,QG (some 36) (.load false 1 false (V 35)) 34 false,QG (some 37) (.arith .neq (V 36) (I 3)) 34 false,QG (some 38) (.mov (V 37)) 34 false,QG (some 39) (.faddr 3 (V 1)) 38 true,QG (some 40) (.load false 1 false (V 39)) 38 true,QG (some 41) (.len false (V 40)) 38 true,QG (some 42) (.arith .gtr (V 41) (I 0)) 38 true,QG (some 43) (.mov (V 42)) 38 true,QG (some 44) (.faddr 4 (V 1)) 43 false,QG (some 45) (.load false 1 false (V 44)) 43 false,QG (some 46) (.arith .neq (V 45) (I 0)) 43 false,QG (some 47) (.pick (V 43) tt' (V 46)) 38 true,QG (some 48) (.mov (V 47)) 38 true,QG (some 49) (.faddr 5 (V 1)) 48 false,QG (some 50) (.load false 1 false (V 49)) 48 false,QG (some 51) (.arith .neq (V 50) (I 0)) 48 false,QG (some 52) (.pick (V 48) tt' (V 51)) 38 true,QG (some 53) (.pick (V 38) (V 52) ff') 34 false,Q 54 (.pick (V 34) tt' (V 53))]
@[simp] theorem ref11_Check_r1_go : type_of% (ops_go ref11_Check_r1.eq_1 T K fr S) := ops_go ref11_Check_r1.eq_1 T K fr S
def ref11_Check_r2 : List POper := [Q 2 (.mov (I 2))]
@[simp] theorem ref11_Check_r2_go : type_of% (ops_go ref11_Check_r2.eq_1 T K fr S) := ops_go ref11_Check_r2.eq_1 T K fr S
def ref11_Check_r3 : List POper := [FA 55 0 1,LD 56 55]
@[simp] theorem ref11_Check_r3_go : type_of% (ops_go ref11_Check_r3.eq_1 T K fr S) := ops_go ref11_Check_r3.eq_1 T K fr S
def ref11_Check_r4 : List POper := [Q 58 (.arith .eql (V 56) (I 1)),M 57 58]
@[simp] theorem ref11_Check_r4_go : type_of% (ops_go ref11_Check_r4.eq_1 T K fr S) := ops_go ref11_Check_r4.eq_1 T K fr S
def ref11_Check_r5 : List POper := [FA 59 1 1,LD 60 59,Q 61 (.call .std 98 [(V 60)]),M 2 61]
@[simp] theorem ref11_Check_r5_go : type_of% (ops_go ref11_Check_r5.eq_1 T K fr S) := ops_go ref11_Check_r5.eq_1 T K fr S
def ref11_Check_r6 : List POper := [Q 63 (.arith .eql (V 56) (I 2)),M 62 63]
@[simp] theorem ref11_Check_r6_go : type_of% (ops_go ref11_Check_r6.eq_1 T K fr S) := ops_go ref11_Check_r6.eq_1 T K fr S
def ref11_Check_r7 : List POper := [FA 64 2 1,LD 65 64,Q 66 (.call .std 281 [(V 65)]),M 2 66]
@[simp] theorem ref11_Check_r7_go : type_of% (ops_go ref11_Check_r7.eq_1 T K fr S) := ops_go ref11_Check_r7.eq_1 T K fr S
def ref11_Check_r8 : List POper := [FA 67 3 1,LD 68 67,Q 69 (.call .std 282 [(V 68)]),M 3 69]
@[simp] theorem ref11_Check_r8_go : type_of% (ops_go ref11_Check_r8.eq_1 T K fr S) := ops_go ref11_Check_r8.eq_1 T K fr S
def ref11_Check_r9 : List POper := [M 71 3,Q 72 (.arith .neq (V 71) (I 0)),M 70 72]
@[simp] theorem ref11_Check_r9_go : type_of% (ops_go ref11_Check_r9.eq_1 T K fr S) := ops_go ref11_Check_r9.eq_1 T K fr S
def ref11_Check_r10 : List POper := [M 73 3,M 2 73]
@[simp] theorem ref11_Check_r10_go : type_of% (ops_go ref11_Check_r10.eq_1 T K fr S) := ops_go ref11_Check_r10.eq_1 T K fr S
def ref11_Check_r11 : List POper := [FA 75 3 1,LD 76 75,Q 77 (.len false (V 76)),Q 78 (.arith .eql (V 77) (I 0)),M 74 78]
@[simp] theorem ref11_Check_r11_go : type_of% (ops_go ref11_Check_r11.eq_1 T K fr S) := ops_go ref11_Check_r11.eq_1 T K fr S
def ref11_Check_r12 : List POper := [Q 2 (.mov (I 2))]
@[simp] theorem ref11_Check_r12_go : type_of% (ops_go ref11_Check_r12.eq_1 T K fr S) := ops_go ref11_Check_r12.eq_1 T K fr S
def ref11_Check_r13 : List POper := [FA 80 4 1,LD 81 80,Q 82 (.arith .lss (V 81) (I 0)),M 83 82,QG (some 84) (.faddr 5 (V 1)) 83 false,QG (some 85) (.load false 1 false (V 84)) 83 false,QG (some 86) (.arith .gtr (V 85) (I 1099511627776)) 83 false,Q 87 (.pick (V 83) tt' (V 86)),M 79 87]
@[simp] theorem ref11_Check_r13_go : type_of% (ops_go ref11_Check_r13.eq_1 T K fr S) := ops_go ref11_Check_r13.eq_1 T K fr S
def ref11_Check_r14 : List POper := [Q 2 (.mov (I 11))]
@[simp] theorem ref11_Check_r14_go : type_of% (ops_go ref11_Check_r14.eq_1 T K fr S) := ops_go ref11_Check_r14.eq_1 T K fr S
def ref11_Check_r15 : List POper := [FA 89 4 1,LD 90 89,FA 91 5 1,LD 92 91,Q 93 (.arith .gtr (V 90) (V 92)),M 88 93]
@[simp] theorem ref11_Check_r15_go : type_of% (ops_go ref11_Check_r15.eq_1 T K fr S) := ops_go ref11_Check_r15.eq_1 T K fr S
def ref11_Check_r16 : List POper := [Q 2 (.mov (I 13))]
@[simp] theorem ref11_Check_r16_go : type_of% (ops_go ref11_Check_r16.eq_1 T K fr S) := ops_go ref11_Check_r16.eq_1 T K fr S
def ref11_Check_r17 : List POper := [Q 2 (.mov (I 0))]
@[simp] theorem ref11_Check_r17_go : type_of% (ops_go ref11_Check_r17.eq_1 T K fr S) := ops_go ref11_Check_r17.eq_1 T K fr S
def ref11_Check : PCodeFn :=
  ⟨1, [.tmp 2],
  (.seq (.region ref11_Check_r0) (.seq (.seq (.clr [(4, 54)] (.region ref11_Check_r1)) (.cond (V 54) (.seq (.region ref11_Check_r2) .ret) .skip)) (.seq (.seq (.clr [(55, 56)] (.region ref11_Check_r3)) (.block 0 (.seq (.clr [(58, 59)] (.region ref11_Check_r4)) (.cond (V 57) (.seq (.clr [(59, 62)] (.region ref11_Check_r5)) .ret) (.seq (.clr [(63, 64)] (.region ref11_Check_r6)) (.cond (V 62) (.seq (.clr [(64, 67)] (.region ref11_Check_r7)) .ret) .skip)))))) (.seq (.clr [(67, 70)] (.region ref11_Check_r8)) (.seq (.block 1 (.seq (.clr [(71, 73)] (.region ref11_Check_r9)) (.cond (V 70) (.seq (.clr [(73, 74)] (.region ref11_Check_r10)) .ret) (.seq (.clr [(75, 79)] (.region ref11_Check_r11)) (.cond (V 74) (.seq (.region ref11_Check_r12) .ret) (.seq (.clr [(80, 88)] (.region ref11_Check_r13)) (.cond (V 79) (.seq (.region ref11_Check_r14) .ret) (.seq (.clr [(89, 94)] (.region ref11_Check_r15)) (.cond (V 88) (.seq (.region ref11_Check_r16) .ret) .skip))))))))) (.seq (.region ref11_Check_r17) .ret)))))), false⟩

def ref13_Id_r0 : List POper := [Q 4 (.mov (I 0))]
@[simp] theorem ref13_Id_r0_go : type_of% (ops_go ref13_Id_r0.eq_1 T K fr S) := ops_go ref13_Id_r0.eq_1 T K fr S
def ref13_Id_r1 : List POper := [Q 5 (.mov (I 0))]
@[simp] theorem ref13_Id_r1_go : type_of% (ops_go ref13_Id_r1.eq_1 T K fr S) := ops_go ref13_Id_r1.eq_1 T K fr S
def ref13_Id_r2 : List POper := [M 6 5,M 7 0,Q 8 (.len false (V 7)),Q 9 (.arith .lss (V 6) (V 8))]
@[simp] theorem ref13_Id_r2_go : type_of% (ops_go ref13_Id_r2.eq_1 T K fr S) := ops_go ref13_Id_r2.eq_1 T K fr S
def ref13_Id_r4 : List POper := [M 12 0,M 13 5,Q 14 (.iaddr 2 (V 12) (V 13)),FA 15 0 14,LD 16 15,M 17 1,Q 18 (.call .std 26 [(V 16), (V 17)])]
@[simp] theorem ref13_Id_r4_go : type_of% (ops_go ref13_Id_r4.eq_1 T K fr S) := ops_go ref13_Id_r4.eq_1 T K fr S
def ref13_Id_r5 : List POper := [M 19 5,M 4 19]
@[simp] theorem ref13_Id_r5_go : type_of% (ops_go ref13_Id_r5.eq_1 T K fr S) := ops_go ref13_Id_r5.eq_1 T K fr S
def ref13_Id_r3 : List POper := [M 10 5,Q 11 (.arith .add (V 10) (I 1)),M 5 11]
@[simp] theorem ref13_Id_r3_go : type_of% (ops_go ref13_Id_r3.eq_1 T K fr S) := ops_go ref13_Id_r3.eq_1 T K fr S
def ref13_Id_l0 : PCode :=
  (.seq (.seq (.clr [(6, 9)] (.region ref13_Id_r2)) (.cond (V 9) .skip (.exit 0))) (.seq (.block 1 (.seq (.clr [(12, 18)] (.region ref13_Id_r4)) (.cond (V 18) (.seq (.clr [(19, 20)] (.region ref13_Id_r5)) .ret) .skip))) (.clr [(10, 12)] (.region ref13_Id_r3))))
@[simp] theorem ref13_Id_l0_go : type_of% (code_go ref13_Id_l0.eq_1 T K fr S) := code_go ref13_Id_l0.eq_1 T K fr S
def ref13_Id_r6 : List POper := [Q 4 (.mov (I (-1)))]
@[simp] theorem ref13_Id_r6_go : type_of% (ops_go ref13_Id_r6.eq_1 T K fr S) := ops_go ref13_Id_r6.eq_1 T K fr S
def ref13_Id : PCodeFn :=
  ⟨2, [.tmp 4],
  (.seq (.region ref13_Id_r0) (.seq (.seq (.region ref13_Id_r1) (.block 0 (.loop ref13_Id_l0))) (.seq (.region ref13_Id_r6) .ret))), false⟩

def ref12_Count_r0 : List POper := [Q 2 (.mov (I 0))]
@[simp] theorem ref12_Count_r0_go : type_of% (ops_go ref12_Count_r0.eq_1 T K fr S) := ops_go ref12_Count_r0.eq_1 T K fr S
def ref12_Count_r1 : List POper := [Q 3 (.mov (I 0))]
@[simp] theorem ref12_Count_r1_go : type_of% (ops_go ref12_Count_r1.eq_1 T K fr S) := ops_go ref12_Count_r1.eq_1 T K fr S
def ref12_Count_r2 : List POper := [Q 4 (.mov (I 0))]
@[simp] theorem ref12_Count_r2_go : type_of% (ops_go ref12_Count_r2.eq_1 T K fr S) := ops_go ref12_Count_r2.eq_1 T K fr S
def ref12_Count_r3 : List POper := [M 5 4,M 6 0,Q 7 (.len false (V 6)),Q 8 (.arith .lss (V 5) (V 7)),M 9 8,QG (some 10) (.mov (V 3)) 9 true,QG (some 11) (.arith .leq (V 10) (I 65536)) 9 true,Q 12 (.pick (V 9) (V 11) ff')]
@[simp] theorem ref12_Count_r3_go : type_of% (ops_go ref12_Count_r3.eq_1 T K fr S) := ops_go ref12_Count_r3.eq_1 T K fr S
def ref12_Count_r5 : List POper := [M 15 3,M 16 0,M 17 4,Q 18 (.iaddr 2 (V 16) (V 17)),FA 19 1 18,LD 20 19,Q 21 (.len false (V 20)),Q 22 (.arith .add (V 15) (V 21)),M 3 22]
@[simp] theorem ref12_Count_r5_go : type_of% (ops_go ref12_Count_r5.eq_1 T K fr S) := ops_go ref12_Count_r5.eq_1 T K fr S
def ref12_Count_r4 : List POper := [M 13 4,Q 14 (.arith .add (V 13) (I 1)),M 4 14]
@[simp] theorem ref12_Count_r4_go : type_of% (ops_go ref12_Count_r4.eq_1 T K fr S) := ops_go ref12_Count_r4.eq_1 T K fr S
def ref12_Count_l0 : PCode :=
  (.seq (.seq (.clr [(5, 12)] (.region ref12_Count_r3)) (.cond (V 12) .skip (.exit 0))) (.seq (.block 1 (.clr [(15, 23)] (.region ref12_Count_r5))) (.clr [(13, 15)] (.region ref12_Count_r4))))
@[simp] theorem ref12_Count_l0_go : type_of% (code_go ref12_Count_l0.eq_1 T K fr S) := code_go ref12_Count_l0.eq_1 T K fr S
def ref12_Count_r6 : List POper := [M 23 3,M 2 23]
@[simp] theorem ref12_Count_r6_go : type_of% (ops_go ref12_Count_r6.eq_1 T K fr S) := ops_go ref12_Count_r6.eq_1 T K fr S
def ref12_Count : PCodeFn :=
  ⟨1, [.tmp 2],
  (.seq (.region ref12_Count_r0) (.seq (.region ref12_Count_r1) (.seq (.seq (.region ref12_Count_r2) (.block 0 (.loop ref12_Count_l0))) (.seq (.clr [(23, 24)] (.region ref12_Count_r6)) .ret)))), false⟩

def ref13_Last_r0 : List POper := [Q 1 (.box true (V 0)),Q 2 (.mov (I 0))]
@[simp] theorem ref13_Last_r0_go : type_of% (ops_go ref13_Last_r0.eq_1 T K fr S) := ops_go ref13_Last_r0.eq_1 T K fr S
def ref13_Last_r1 : List POper := [FA 3 1 1,LD 4 3,Q 5 (.len false (V 4)),Q 6 (.arith .eql (V 5) (I 0))]
@[simp] theorem ref13_Last_r1_go : type_of% (ops_go ref13_Last_r1.eq_1 T K fr S) := ops_go ref13_Last_r1.eq_1 T K fr S
def ref13_Last_r2 : List POper := [Q 2 (.mov (I (-1)))]
@[simp] theorem ref13_Last_r2_go : type_of% (ops_go ref13_Last_r2.eq_1 T K fr S) := ops_go ref13_Last_r2.eq_1 T K fr S
def ref13_Last_r3 : List POper := [FA 7 1 1,LD 8 7,FA 9 1 1,LD 10 9,Q 11 (.len false (V 10)),Q 12 (.arith .sub (V 11) (I 1)),Q 13 (.iaddr 2 (V 8) (V 12)),FA 14 0 13,LD 15 14,M 2 15]
@[simp] theorem ref13_Last_r3_go : type_of% (ops_go ref13_Last_r3.eq_1 T K fr S) := ops_go ref13_Last_r3.eq_1 T K fr S
def ref13_Last : PCodeFn :=
  ⟨1, [.tmp 2],
  (.seq (.region ref13_Last_r0) (.seq (.seq (.clr [(3, 6)] (.region ref13_Last_r1)) (.cond (V 6) (.seq (.region ref13_Last_r2) .ret) .skip)) (.seq (.clr [(7, 16)] (.region ref13_Last_r3)) .ret))), false⟩

def ref13_Without_r0 : List POper := [Q 6 (.mov (.cst .nils))]
@[simp] theorem ref13_Without_r0_go : type_of% (ops_go ref13_Without_r0.eq_1 T K fr S) := ops_go ref13_Without_r0.eq_1 T K fr S
def ref13_Without_r1 : List POper := [Q 7 (.mov (.cst .nils))]
@[simp] theorem ref13_Without_r1_go : type_of% (ops_go ref13_Without_r1.eq_1 T K fr S) := ops_go ref13_Without_r1.eq_1 T K fr S
def ref13_Without_r2 : List POper := [Q 8 (.mov (I 0))]
@[simp] theorem ref13_Without_r2_go : type_of% (ops_go ref13_Without_r2.eq_1 T K fr S) := ops_go ref13_Without_r2.eq_1 T K fr S
def ref13_Without_r3 : List POper := [M 9 8,M 10 0,Q 11 (.len false (V 10)),Q 12 (.arith .lss (V 9) (V 11))]
@[simp] theorem ref13_Without_r3_go : type_of% (ops_go ref13_Without_r3.eq_1 T K fr S) := ops_go ref13_Without_r3.eq_1 T K fr S
def ref13_Without_r5 : List POper := [M 15 0,M 16 8,Q 17 (.iaddr 2 (V 15) (V 16)),FA 18 0 17,LD 19 18,M 20 1,Q 21 (.arith .lss (V 19) (V 20)),M 22 21,QG (some 23) (.mov (V 0)) 22 false,QG (some 24) (.mov (V 8)) 22 false,QG (some 25) (.iaddr 2 (V 23) (V 24)) 22 false,QG (some 26) (.faddr 0 (V 25)) 22 false,QG (some 27) (.load false 1 false (V 26)) 22 false,QG (some 28) (.mov (V 2)) 22 false,QG (some 29) (.arith .gtr (V 27) (V 28)) 22 false,Q 30 (.pick (V 22) tt' (V 29))]
@[simp] theorem ref13_Without_r5_go : type_of% (ops_go ref13_Without_r5.eq_1 T K fr S) := ops_go ref13_Without_r5.eq_1 T K fr S
def ref13_Without_r6 : List POper := [M 31 7,M 32 0,M 33 8,Q 34 (.iaddr 2 (V 32) (V 33)),Q 35 (.load true 2 false (V 34)),Q 36 (.bsl false (.agg [(.int .i64 0), (.int .i64 0)]) 1 [(0, (V 35))]),Q 37 (.app 2 16 (V 31) (V 36)),M 7 37]
@[simp] theorem ref13_Without_r6_go : type_of% (ops_go ref13_Without_r6.eq_1 T K fr S) := ops_go ref13_Without_r6.eq_1 T K fr S
def ref13_Without_r4 : List POper := [M 13 8,Q 14 (.arith .add (V 13) (I 1)),M 8 14]
@[simp] theorem ref13_Without_r4_go : type_of% (ops_go ref13_Without_r4.eq_1 T K fr S) := ops_go ref13_Without_r4.eq_1 T K fr S
def ref13_Without_l0 : PCode :=
  (.seq (.seq (.clr [(9, 12)] (.region ref13_Without_r3)) (.cond (V 12) .skip (.exit 0))) (.seq (.block 1 (.seq (.clr [(15, 30)] (.region ref13_Without_r5)) (.cond (V 30) (.clr [(31, 38)] (.region ref13_Without_r6)) .skip))) (.clr [(13, 15)] (.region ref13_Without_r4))))
@[simp] theorem ref13_Without_l0_go : type_of% (code_go ref13_Without_l0.eq_1 T K fr S) := code_go ref13_Without_l0.eq_1 T K fr S
def ref13_Without_r7 : List POper := [M 38 7,M 6 38]
@[simp] theorem ref13_Without_r7_go : type_of% (ops_go ref13_Without_r7.eq_1 T K fr S) := ops_go ref13_Without_r7.eq_1 T K fr S
def ref13_Without : PCodeFn :=
  ⟨3, [.tmp 6],
  (.seq (.region ref13_Without_r0) (.seq (.region ref13_Without_r1) (.seq (.seq (.region ref13_Without_r2) (.block 0 (.loop ref13_Without_l0))) (.seq (.clr [(38, 39)] (.region ref13_Without_r7)) .ret)))), false⟩

def label_Print_r0 : List POper := [Q 2 (.mov (.cst (.str [])))]
@[simp] theorem label_Print_r0_go : type_of% (ops_go label_Print_r0.eq_1 T K fr S) := ops_go label_Print_r0.eq_1 T K fr S
def label_Print_r1 : List POper := [Q 3 (.mov (.cst .nils))]
@[simp] theorem label_Print_r1_go : type_of% (ops_go label_Print_r1.eq_1 T K fr S) := ops_go label_Print_r1.eq_1 T K fr S
def label_Print_r2 : List POper := [M 6 0,Q 7 (.len false (V 6)),Q 8 (.mov (I 0))]
@[simp] theorem label_Print_r2_go : type_of% (ops_go label_Print_r2.eq_1 T K fr S) := ops_go label_Print_r2.eq_1 T K fr S
def label_Print_r3 : List POper := [Q 9 (.arith .lss (V 8) (V 7))]
@[simp] theorem label_Print_r3_go : type_of% (ops_go label_Print_r3.eq_1 T K fr S) := ops_go label_Print_r3.eq_1 T K fr S
def label_Print_r4 : List POper := [Q 10 (.iaddr 2 (V 6) (V 8)),Q 11 (.load true 2 false (V 10)),Q 5 (.alloc false [(.str []), (.str [])]),QN (.store 2 (V 5) (V 11))]
@[simp] theorem label_Print_r4_go : type_of% (ops_go label_Print_r4.eq_1 T K fr S) := ops_go label_Print_r4.eq_1 T K fr S
def label_Print_r5 : List POper := [M 12 3,FA 13 0 5,LD 14 13,Q 15 (.arith .add (V 14) (.cst (.str [61]))),FA 16 1 5,LD 17 16,Q 18 (.call .pur 99 [(V 17)]),Q 19 (.arith .add (V 15) (V 18)),Q 20 (.bsl false (.str []) 1 [(0, (V 19))]),Q 21 (.app 1 16 (V 12) (V 20)),M 3 21]
@[simp] theorem label_Print_r5_go : type_of% (ops_go label_Print_r5.eq_1 T K fr S) := ops_go label_Print_r5.eq_1 T K fr S
def label_Print_r6 : List POper := [Q 22 (.arith .add (V 8) (I 1)),M 8 22]
@[simp] theorem label_Print_r6_go : type_of% (ops_go label_Print_r6.eq_1 T K fr S) := ops_go label_Print_r6.eq_1 T K fr S
def label_Print_l0 : PCode :=
  (.seq (.region label_Print_r3) (.seq (.cond (V 9) .skip (.exit 0)) (.seq (.block 1 (.seq (.clr [(10, 12)] (.region label_Print_r4)) (.clr [(12, 22)] (.region label_Print_r5)))) (.clr [(22, 23)] (.region label_Print_r6)))))
@[simp] theorem label_Print_l0_go : type_of% (code_go label_Print_l0.eq_1 T K fr S) := code_go label_Print_l0.eq_1 T K fr S
def label_Print_r7 : List POper := [M 23 3,Q 24 (.call .std 100 [(V 23), (.cst (.str [44, 32]))]),Q 25 (.arith .add (.cst (.str [123])) (V 24)),Q 26 (.arith .add (V 25) (.cst (.str [125]))),M 2 26]
@[simp] theorem label_Print_r7_go : type_of% (ops_go label_Print_r7.eq_1 T K fr S) := ops_go label_Print_r7.eq_1 T K fr S
def label_Print : PCodeFn :=
  ⟨1, [.tmp 2],
  (.seq (.region label_Print_r0) (.seq (.region label_Print_r1) (.seq (.seq (.region label_Print_r2) (.block 0 (.loop label_Print_l0))) (.seq (.clr [(23, 27)] (.region label_Print_r7)) .ret)))), false⟩

def ref13_Series_r0 : List POper := [Q 2 (.mov (.cst .nils))]
@[simp] theorem ref13_Series_r0_go : type_of% (ops_go ref13_Series_r0.eq_1 T K fr S) := ops_go ref13_Series_r0.eq_1 T K fr S
def ref13_Series_r1 : List POper := [Q 3 (.mov (.cst .nils))]
@[simp] theorem ref13_Series_r1_go : type_of% (ops_go ref13_Series_r1.eq_1 T K fr S) := ops_go ref13_Series_r1.eq_1 T K fr S
def ref13_Series_r2 : List POper := [Q 4 (.mov (I 0))]
@[simp] theorem ref13_Series_r2_go : type_of% (ops_go ref13_Series_r2.eq_1 T K fr S) := ops_go ref13_Series_r2.eq_1 T K fr S
def ref13_Series_r3 : List POper := [M 7 4,M 8 0,Q 9 (.len false (V 8)),Q 10 (.arith .lss (V 7) (V 9))]
@[simp] theorem ref13_Series_r3_go : type_of% (ops_go ref13_Series_r3.eq_1 T K fr S) := ops_go ref13_Series_r3.eq_1 T K fr S
def ref13_Series_r5 : List POper := [M 13 0,M 14 4,Q 15 (.iaddr 2 (V 13) (V 14)),FA 16 1 15,LD 17 16,Q 18 (.len false (V 17)),Q 19 (.arith .eql (V 18) (I 0))]
@[simp] theorem ref13_Series_r5_go : type_of% (ops_go ref13_Series_r5.eq_1 T K fr S) := ops_go ref13_Series_r5.eq_1 T K fr S
def ref13_Series_r6 : List POper := [Q 5 (.mov (I 0))]
@[simp] theorem ref13_Series_r6_go : type_of% (ops_go ref13_Series_r6.eq_1 T K fr S) := ops_go ref13_Series_r6.eq_1 T K fr S
def ref13_Series_r7 : List POper := [M 20 5,M 21 3,Q 22 (.len false (V 21)),Q 23 (.arith .lss (V 20) (V 22)),M 24 23,QG (some 25) (.mov (V 3)) 24 true,QG (some 26) (.mov (V 5)) 24 true,QG (some 27) (.iaddr 2 (V 25) (V 26)) 24 true,QG (some 28) (.faddr 0 (V 27)) 24 true,QG (some 29) (.load false 1 true (V 28)) 24 true,QG (some 30) (.mov (V 0)) 24 true,QG (some 31) (.mov (V 4)) 24 true,QG (some 32) (.iaddr 2 (V 30) (V 31)) 24 true,QG (some 33) (.faddr 0 (V 32)) 24 true,QG (some 34) (.load false 1 true (V 33)) 24 true,QG (some 35) (.call .std 102 [(V 29), (V 34)]) 24 true,QG (some 36) (.arith .lss (V 35) (I 0)) 24 true,Q 37 (.pick (V 24) (V 36) ff')]
@[simp] theorem ref13_Series_r7_go : type_of% (ops_go ref13_Series_r7.eq_1 T K fr S) := ops_go ref13_Series_r7.eq_1 T K fr S
def ref13_Series_r8 : List POper := [M 38 5,Q 39 (.arith .add (V 38) (I 1)),M 5 39]
@[simp] theorem ref13_Series_r8_go : type_of% (ops_go ref13_Series_r8.eq_1 T K fr S) := ops_go ref13_Series_r8.eq_1 T K fr S
def ref13_Series_l1 : PCode :=
  (.seq (.seq (.clr [(20, 37)] (.region ref13_Series_r7)) (.cond (V 37) .skip (.exit 2))) (.block 3 (.clr [(38, 40)] (.region ref13_Series_r8))))
@[simp] theorem ref13_Series_l1_go : type_of% (code_go ref13_Series_l1.eq_1 T K fr S) := code_go ref13_Series_l1.eq_1 T K fr S
def ref13_Series_r9 : List POper := [Q 40 (.bsl false (.agg [.nils, .nils]) 0 []),M 41 3,M 42 5,Q 43 (.slc 2 none (some (V 42)) (V 41)),Q 44 (.app 2 48 (V 40) (V 43)),M 6 44]
@[simp] theorem ref13_Series_r9_go : type_of% (ops_go ref13_Series_r9.eq_1 T K fr S) := ops_go ref13_Series_r9.eq_1 T K fr S
def ref13_Series_r10 : List POper := [M 45 6,M 46 0,M 47 4,Q 48 (.iaddr 2 (V 46) (V 47)),Q 49 (.load true 2 false (V 48)),Q 50 (.bsl false (.agg [.nils, .nils]) 1 [(0, (V 49))]),Q 51 (.app 2 48 (V 45) (V 50)),M 6 51]
@[simp] theorem ref13_Series_r10_go : type_of% (ops_go ref13_Series_r10.eq_1 T K fr S) := ops_go ref13_Series_r10.eq_1 T K fr S
def ref13_Series_r11 : List POper := [M 52 6,M 53 3,M 54 5,Q 55 (.slc 2 (some (V 54)) none (V 53)),Q 56 (.app 2 48 (V 52) (V 55)),M 3 56]
@[simp] theorem ref13_Series_r11_go : type_of% (ops_go ref13_Series_r11.eq_1 T K fr S) := ops_go ref13_Series_r11.eq_1 T K fr S
def ref13_Series_r4 : List POper := [M 11 4,Q 12 (.arith .add (V 11) (I 1)),M 4 12]
@[simp] theorem ref13_Series_r4_go : type_of% (ops_go ref13_Series_r4.eq_1 T K fr S) := ops_go ref13_Series_r4.eq_1 T K fr S
def ref13_Series_l0 : PCode :=
  (.seq (.seq (.clr [(7, 10)] (.region ref13_Series_r3)) (.cond (V 10) .skip (.exit 0))) (.seq (.block 1 (.seq (.seq (.clr [(13, 19)] (.region ref13_Series_r5)) (.cond (V 19) (.exit 1) .skip)) (.seq (.region ref13_Series_r6) (.seq (.block 2 (.loop ref13_Series_l1)) (.seq (.clr [(40, 45)] (.region ref13_Series_r9)) (.seq (.clr [(45, 52)] (.region ref13_Series_r10)) (.clr [(52, 57)] (.region ref13_Series_r11)))))))) (.clr [(11, 13)] (.region ref13_Series_r4))))
@[simp] theorem ref13_Series_l0_go : type_of% (code_go ref13_Series_l0.eq_1 T K fr S) := code_go ref13_Series_l0.eq_1 T K fr S
def ref13_Series_r12 : List POper := [M 57 3,M 2 57]
@[simp] theorem ref13_Series_r12_go : type_of% (ops_go ref13_Series_r12.eq_1 T K fr S) := ops_go ref13_Series_r12.eq_1 T K fr S
def ref13_Series : PCodeFn :=
  ⟨1, [.tmp 2],
  (.seq (.region ref13_Series_r0) (.seq (.region ref13_Series_r1) (.seq (.seq (.region ref13_Series_r2) (.block 0 (.loop ref13_Series_l0))) (.seq (.clr [(57, 58)] (.region ref13_Series_r12)) .ret)))), false⟩

def law13_one_r0 : List POper := [Q 10 (.mov ff')]
@[simp] theorem law13_one_r0_go : type_of% (ops_go law13_one_r0.eq_1 T K fr S) := ops_go law13_one_r0.eq_1 T K fr S
def law13_one_r1 : List POper := [M 20 0,M 21 2,Q 22 (.call .std 288 [(V 20), (V 21)]),M 19 22,EX 23 0 19,EX 24 1 19,M 11 23,M 12 24]
@[simp] theorem law13_one_r1_go : type_of% (ops_go law13_one_r1.eq_1 T K fr S) := ops_go law13_one_r1.eq_1 T K fr S
def law13_one_r2 : List POper := [M 26 0,M 27 2,Q 28 (.call .std 193 [(V 26), (V 27)]),M 25 28,EX 29 0 25,EX 30 1 25,M 13 29,M 14 30]
@[simp] theorem law13_one_r2_go : type_of% (ops_go law13_one_r2.eq_1 T K fr S) := ops_go law13_one_r2.eq_1 T K fr S
def law13_one_r3 : List POper := [M 32 0,M 33 2,M 34 3,M 35 4,Q 36 (.call .std 289 [(V 32), (V 33), (V 34), (V 35)]),M 31 36,EX 37 0 31,EX 38 1 31,M 15 37,M 16 38]
@[simp] theorem law13_one_r3_go : type_of% (ops_go law13_one_r3.eq_1 T K fr S) := ops_go law13_one_r3.eq_1 T K fr S
def law13_one_r4 : List POper := [M 39 2,Q 40 (.arith .lss (V 39) (I 0)),M 41 40,QG (some 42) (.mov (V 2)) 41 false,QG (some 43) (.mov (V 1)) 41 false,QG (some 44) (.len false (V 43)) 41 false,QG (some 45) (.arith .geq (V 42) (V 44)) 41 false,Q 46 (.pick (V 41) tt' (V 45))]
@[simp] theorem law13_one_r4_go : type_of% (ops_go law13_one_r4.eq_1 T K fr S) := ops_go law13_one_r4.eq_1 T K fr S
def law13_one_r5 : List POper := [M 47 11,Q 48 (.len false (V 47)),Q 49 (.arith .eql (V 48) (I 0)),M 50 49,QG (some 51) (.mov (V 12)) 50 true,QG (some 52) (.arith .eql (V 51) (I 9)) 50 true,Q 53 (.pick (V 50) (V 52) ff'),M 54 53,QG (some 55) (.mov (V 13)) 54 true,QG (some 56) (.arith .eql (V 55) (I 0)) 54 true,Q 57 (.pick (V 54) (V 56) ff'),M 58 57,QG (some 59) (.mov (V 14)) 58 true,QG (some 60) (.arith .eql (V 59) (I 9)) 58 true,Q 61 (.pick (V 58) (V 60) ff'),M 62 61,QG (some 63) (.mov (V 15)) 62 true,QG (some 64) (.len false (V 63)) 62 true,QG (some 65) (.arith .eql (V 64) (I 0)) 62 true,Q 66 (.pick (V 62) (V 65) ff'),M 67 66,QG (some 68) (.mov (V 16)) 67 true,QG (some 69) (.arith .eql (V 68) (I 9)) 67 true,Q 70 (.pick (V 67) (V 69) ff'),M 10 70]
@[simp] theorem law13_one_r5_go : type_of% (ops_go law13_one_r5.eq_1 T K fr S) := ops_go law13_one_r5.eq_1 T K fr S
def law13_one_r6 : List POper := [M 72 0,M 73 11,Q 74 (.call .std 290 [(V 72), (V 73)]),M 71 74,EX 75 0 71,EX 76 1 71,M 17 75,M 18 76]
@[simp] theorem law13_one_r6_go : type_of% (ops_go law13_one_r6.eq_1 T K fr S) := ops_go law13_one_r6.eq_1 T K fr S
def law13_one_r7 : List POper := [M 77 11,M 78 1,M 79 2,Q 80 (.iaddr 2 (V 78) (V 79)),FA 81 0 80,LD 82 81,Q 83 (.call .std 26 [(V 77), (V 82)]),M 84 83,QG (some 85) (.mov (V 12)) 84 true,QG (some 86) (.arith .eql (V 85) (I 0)) 84 true,Q 87 (.pick (V 84) (V 86) ff'),M 88 87,QG (some 89) (.mov (V 13)) 88 true,QG (some 90) (.mov (V 1)) 88 true,QG (some 91) (.mov (V 2)) 88 true,QG (some 92) (.iaddr 2 (V 90) (V 91)) 88 true,QG (some 93) (.load true 2 false (V 92)) 88 true,QG (some 94) (.call .std 185 [(V 93)]) 88 true,QG (some 95) (.arith .eql (V 89) (V 94)) 88 true,Q 96 (.pick (V 88) (V 95) ff'),M 97 96,QG (some 98) (.mov (V 14)) 97 true,QG (some 99) (.arith .eql (V 98) (I 0)) 97 true,Q 100 (.pick (V 97) (V 99) ff'),M 101 100,QG (some 102) (.mov (V 15)) 101 true,QG (some 103) (.mov (V 1)) 101 true,QG (some 104) (.mov (V 2)) 101 true,QG (some 105) (.iaddr 2 (V 103) (V 104)) 101 true,QG (some 106) (.faddr 1 (V 105)) 101 true,QG (some 107) (.load false 1 false (V 106)) 101 true,QG (some 108) (.mov (V 3)) 101 true,QG (some 109) (.mov (V 4)) 101 true,QG (some 110) (.call .std 178 [(V 107), (V 108), (V 109)]) 101 true,QG (some 111) (.call .std 177 [(V 102), (V 110)]) 101 true,Q 112 (.pick (V 101) (V 111) ff'),M 113 112,QG (some 114) (.mov (V 16)) 113 true,QG (some 115) (.arith .eql (V 114) (I 0)) 113 true,Q 116 (.pick (V 113) (V 115) ff'),M 117 116,QG (some 118) (.mov (V 17)) 117 true,QG (some 119) (.mov (V 2)) 117 true,QG (some 120) (.arith .eql (V 118) (V 119)) 117 true,Q 121 (.pick (V 117) (V 120) ff'),M 122 121,QG (some 123) (.mov (V 18)) 122 true,QG (some 124) (.arith .eql (V 123) (I 0)) 122 true,Q 125 (.pick (V 122) (V 124) ff'),M 10 125]
@[simp] theorem law13_one_r7_go : type_of% (ops_go law13_one_r7.eq_1 T K fr S) := ops_go law13_one_r7.eq_1 T K fr S
def law13_one : PCodeFn :=
  ⟨5, [.tmp 10],
  (.seq (.region law13_one_r0) (.seq (.clr [(19, 25)] (.region law13_one_r1)) (.seq (.clr [(25, 31)] (.region law13_one_r2)) (.seq (.clr [(31, 39)] (.region law13_one_r3)) (.seq (.seq (.clr [(39, 46)] (.region law13_one_r4)) (.cond (V 46) (.seq (.clr [(47, 71)] (.region law13_one_r5)) .ret) .skip)) (.seq (.clr [(71, 77)] (.region law13_one_r6)) (.seq (.clr [(77, 126)] (.region law13_one_r7)) .ret))))))), false⟩

def label_Check_r0 : List POper := [Q 2 (.mov (I 0))]
@[simp] theorem label_Check_r0_go : type_of% (ops_go label_Check_r0.eq_1 T K fr S) := ops_go label_Check_r0.eq_1 T K fr S
def label_Check_r1 : List POper := [M 5 0,Q 6 (.len false (V 5)),Q 7 (.arith .gtr (V 6) (I 8))]
@[simp] theorem label_Check_r1_go : type_of% (ops_go label_Check_r1.eq_1 T K fr S) := ops_go label_Check_r1.eq_1 T K fr S
def label_Check_r2 : List POper := [Q 2 (.mov (I 3))]
@[simp] theorem label_Check_r2_go : type_of% (ops_go label_Check_r2.eq_1 T K fr S) := ops_go label_Check_r2.eq_1 T K fr S
def label_Check_r3 : List POper := [M 8 0,Q 9 (.len false (V 8)),Q 10 (.mov (I 0))]
@[simp] theorem label_Check_r3_go : type_of% (ops_go label_Check_r3.eq_1 T K fr S) := ops_go label_Check_r3.eq_1 T K fr S
def label_Check_r4 : List POper := [Q 11 (.arith .lss (V 10) (V 9))]
@[simp] theorem label_Check_r4_go : type_of% (ops_go label_Check_r4.eq_1 T K fr S) := ops_go label_Check_r4.eq_1 T K fr S
def label_Check_r5 : List POper := [M 12 10,Q 13 (.iaddr 2 (V 8) (V 10)),Q 14 (.load true 2 false (V 13)),Q 4 (.alloc false [(.str []), (.str [])]),M 3 12,QN (.store 2 (V 4) (V 14))]
@[simp] theorem label_Check_r5_go : type_of% (ops_go label_Check_r5.eq_1 T K fr S) := ops_go label_Check_r5.eq_1 T K fr S
def label_Check_r6 : List POper := [FA 16 0 4,LD 17 16,Q 18 (.call .pur 121 [(V 17)]),Q 19 (.un .not (V 18)),M 15 19]
@[simp] theorem label_Check_r6_go : type_of% (ops_go label_Check_r6.eq_1 T K fr S) := ops_go label_Check_r6.eq_1 T K fr S
def label_Check_r7 : List POper := [Q 2 (.mov (I 8))]
@[simp] theorem label_Check_r7_go : type_of% (ops_go label_Check_r7.eq_1 T K fr S) := ops_go label_Check_r7.eq_1 T K fr S
def label_Check_r8 : List POper := [FA 21 1 4,LD 22 21,Q 23 (.arith .eql (V 22) (.cst (.str []))),M 20 23]
@[simp] theorem label_Check_r8_go : type_of% (ops_go label_Check_r8.eq_1 T K fr S) := ops_go label_Check_r8.eq_1 T K fr S
def label_Check_r9 : List POper := [Q 2 (.mov (I 2))]
@[simp] theorem label_Check_r9_go : type_of% (ops_go label_Check_r9.eq_1 T K fr S) := ops_go label_Check_r9.eq_1 T K fr S
def label_Check_r10 : List POper := [FA 25 1 4,LD 26 25,Q 27 (.len true (V 26)),Q 28 (.arith .gtr (V 27) (I 64)),M 24 28]
@[simp] theorem label_Check_r10_go : type_of% (ops_go label_Check_r10.eq_1 T K fr S) := ops_go label_Check_r10.eq_1 T K fr S
def label_Check_r11 : List POper := [Q 2 (.mov (I 3))]
@[simp] theorem label_Check_r11_go : type_of% (ops_go label_Check_r11.eq_1 T K fr S) := ops_go label_Check_r11.eq_1 T K fr S
def label_Check_r12 : List POper := [M 30 3,Q 31 (.arith .gtr (V 30) (I 0)),M 32 31,QG (some 33) (.faddr 0 (V 4)) 32 true,QG (some 34) (.load false 1 false (V 33)) 32 true,QG (some 35) (.mov (V 0)) 32 true,QG (some 36) (.mov (V 3)) 32 true,QG (some 37) (.arith .sub (V 36) (I 1)) 32 true,QG (some 38) (.iaddr 2 (V 35) (V 37)) 32 true,QG (some 39) (.faddr 0 (V 38)) 32 true,QG (some 40) (.load false 1 true (V 39)) 32 true,QG (some 41) (.arith .leq (V 34) (V 40)) 32 true,Q 42 (.pick (V 32) (V 41) ff'),M 29 42]
@[simp] theorem label_Check_r12_go : type_of% (ops_go label_Check_r12.eq_1 T K fr S) := ops_go label_Check_r12.eq_1 T K fr S
def label_Check_r13 : List POper := [Q 2 (.mov (I 13))]
@[simp] theorem label_Check_r13_go : type_of% (ops_go label_Check_r13.eq_1 T K fr S) := ops_go label_Check_r13.eq_1 T K fr S
def label_Check_r14 : List POper := [Q 43 (.arith .add (V 10) (I 1)),M 10 43]
@[simp] theorem label_Check_r14_go : type_of% (ops_go label_Check_r14.eq_1 T K fr S) := ops_go label_Check_r14.eq_1 T K fr S
def label_Check_l0 : PCode :=
  (.seq (.region label_Check_r4) (.seq (.cond (V 11) .skip (.exit 0)) (.seq (.block 1 (.seq (.clr [(12, 15)] (.region label_Check_r5)) (.block 2 (.seq (.clr [(16, 20)] (.region label_Check_r6)) (.cond (V 15) (.seq (.region label_Check_r7) .ret) (.seq (.clr [(21, 24)] (.region label_Check_r8)) (.cond (V 20) (.seq (.region label_Check_r9) .ret) (.seq (.clr [(25, 29)] (.region label_Check_r10)) (.cond (V 24) (.seq (.region label_Check_r11) .ret) (.seq (.clr [(30, 43)] (.region label_Check_r12)) (.cond (V 29) (.seq (.region label_Check_r13) .ret) .skip))))))))))) (.clr [(43, 44)] (.region label_Check_r14)))))
@[simp] theorem label_Check_l0_go : type_of% (code_go label_Check_l0.eq_1 T K fr S) := code_go label_Check_l0.eq_1 T K fr S
def label_Check_r15 : List POper := [Q 2 (.mov (I 0))]
@[simp] theorem label_Check_r15_go : type_of% (ops_go label_Check_r15.eq_1 T K fr S) := ops_go label_Check_r15.eq_1 T K fr S
def label_Check : PCodeFn :=
  ⟨1, [.tmp 2],
  (.seq (.region label_Check_r0) (.seq (.seq (.clr [(5, 7)] (.region label_Check_r1)) (.cond (V 7) (.seq (.region label_Check_r2) .ret) .skip)) (.seq (.seq (.region label_Check_r3) (.block 0 (.loop label_Check_l0))) (.seq (.region label_Check_r15) .ret)))), false⟩

def wal_checkRows_r0 : List POper := [Q 2 (.mov (I 0))]
@[simp] theorem wal_checkRows_r0_go : type_of% (ops_go wal_checkRows_r0.eq_1 T K fr S) := ops_go wal_checkRows_r0.eq_1 T K fr S
def wal_checkRows_r1 : List POper := [M 5 0,Q 6 (.len false (V 5)),Q 7 (.arith .lss (V 6) (I 1)),M 8 7,QG (some 9) (.mov (V 0)) 8 false,QG (some 10) (.len false (V 9)) 8 false,QG (some 11) (.arith .gtr (V 10) (I 64)) 8 false,Q 12 (.pick (V 8) tt' (V 11))]
@[simp] theorem wal_checkRows_r1_go : type_of% (ops_go wal_checkRows_r1.eq_1 T K fr S) := ops_go wal_checkRows_r1.eq_1 T K fr S
def wal_checkRows_r2 : List POper := [Q 2 (.mov (I 2))]
@[simp] theorem wal_checkRows_r2_go : type_of% (ops_go wal_checkRows_r2.eq_1 T K fr S) := ops_go wal_checkRows_r2.eq_1 T K fr S
def wal_checkRows_r3 : List POper := [M 13 0,Q 14 (.len false (V 13)),Q 15 (.mov (I 0))]
@[simp] theorem wal_checkRows_r3_go : type_of% (ops_go wal_checkRows_r3.eq_1 T K fr S) := ops_go wal_checkRows_r3.eq_1 T K fr S
def wal_checkRows_r4 : List POper := [Q 16 (.arith .lss (V 15) (V 14))]
@[simp] theorem wal_checkRows_r4_go : type_of% (ops_go wal_checkRows_r4.eq_1 T K fr S) := ops_go wal_checkRows_r4.eq_1 T K fr S
def wal_checkRows_r5 : List POper := [Q 17 (.iaddr 3 (V 13) (V 15)),Q 18 (.load true 3 false (V 17)),Q 4 (.alloc false [(.int .i64 0), (.int .i64 0), (.int .i64 0)]),QN (.store 3 (V 4) (V 18))]
@[simp] theorem wal_checkRows_r5_go : type_of% (ops_go wal_checkRows_r5.eq_1 T K fr S) := ops_go wal_checkRows_r5.eq_1 T K fr S
def wal_checkRows_r6 : List POper := [FA 19 0 4,LD 20 19,Q 21 (.arith .lss (V 20) (I 0)),M 22 21,QG (some 23) (.faddr 0 (V 4)) 22 false,QG (some 24) (.load false 1 false (V 23)) 22 false,QG (some 25) (.arith .gtr (V 24) (I 1099511627776)) 22 false,Q 26 (.pick (V 22) tt' (V 25))]
@[simp] theorem wal_checkRows_r6_go : type_of% (ops_go wal_checkRows_r6.eq_1 T K fr S) := ops_go wal_checkRows_r6.eq_1 T K fr S
def wal_checkRows_r7 : List POper := [Q 2 (.mov (I 2))]
@[simp] theorem wal_checkRows_r7_go : type_of% (ops_go wal_checkRows_r7.eq_1 T K fr S) := ops_go wal_checkRows_r7.eq_1 T K fr S
def wal_checkRows_r8 : List POper := [FA 27 1 4,Q 28 (.load true 2 false (V 27)),Q 29 (.bsl false (.agg [(.int .i64 0), (.int .i64 0)]) 1 [(0, (V 28))]),Q 30 (.call .std 154 [(V 29)]),Q 31 (.arith .neq (V 30) (I 0))]
@[simp] theorem wal_checkRows_r8_go : type_of% (ops_go wal_checkRows_r8.eq_1 T K fr S) := ops_go wal_checkRows_r8.eq_1 T K fr S
def wal_checkRows_r9 : List POper := [Q 2 (.mov (I 11))]
@[simp] theorem wal_checkRows_r9_go : type_of% (ops_go wal_checkRows_r9.eq_1 T K fr S) := ops_go wal_checkRows_r9.eq_1 T K fr S
def wal_checkRows_r10 : List POper := [Q 32 (.arith .add (V 15) (I 1)),M 15 32]
@[simp] theorem wal_checkRows_r10_go : type_of% (ops_go wal_checkRows_r10.eq_1 T K fr S) := ops_go wal_checkRows_r10.eq_1 T K fr S
def wal_checkRows_l0 : PCode :=
  (.seq (.region wal_checkRows_r4) (.seq (.cond (V 16) .skip (.exit 0)) (.seq (.block 1 (.seq (.clr [(17, 19)] (.region wal_checkRows_r5)) (.seq (.seq (.clr [(19, 26)] (.region wal_checkRows_r6)) (.cond (V 26) (.seq (.region wal_checkRows_r7) .ret) .skip)) (.seq (.clr [(27, 31)] (.region wal_checkRows_r8)) (.cond (V 31) (.seq (.region wal_checkRows_r9) .ret) .skip))))) (.clr [(32, 33)] (.region wal_checkRows_r10)))))
@[simp] theorem wal_checkRows_l0_go : type_of% (code_go wal_checkRows_l0.eq_1 T K fr S) := code_go wal_checkRows_l0.eq_1 T K fr S
def wal_checkRows_r11 : List POper := [Q 2 (.mov (I 0))]
@[simp] theorem wal_checkRows_r11_go : type_of% (ops_go wal_checkRows_r11.eq_1 T K fr S) := ops_go wal_checkRows_r11.eq_1 T K fr S
def wal_checkRows : PCodeFn :=
  ⟨1, [.tmp 2],
  (.seq (.region wal_checkRows_r0) (.seq (.seq (.clr [(5, 12)] (.region wal_checkRows_r1)) (.cond (V 12) (.seq (.region wal_checkRows_r2) .ret) .skip)) (.seq (.seq (.region wal_checkRows_r3) (.block 0 (.loop wal_checkRows_l0))) (.seq (.region wal_checkRows_r11) .ret)))), false⟩

def wal_checkDelete_r0 : List POper := [Q 1 (.box true (V 0)),Q 2 (.mov (I 0))]
@[simp] theorem wal_checkDelete_r0_go : type_of% (ops_go wal_checkDelete_r0.eq_1 T K fr S) := ops_go wal_checkDelete_r0.eq_1 T K fr S
def wal_checkDelete_r1 : List POper := [FA 4 3 1,LD 5 4,Q 6 (.call .std 318 [(V 5)]),M 3 6]
@[simp] theorem wal_checkDelete_r1_go : type_of% (ops_go wal_checkDelete_r1.eq_1 T K fr S) := ops_go wal_checkDelete_r1.eq_1 T K fr S
def wal_checkDelete_r2 : List POper := [M 7 3,Q 8 (.arith .neq (V 7) (I 0))]
@[simp] theorem wal_checkDelete_r2_go : type_of% (ops_go wal_checkDelete_r2.eq_1 T K fr S) := ops_go wal_checkDelete_r2.eq_1 T K fr S
def wal_checkDelete_r3 : List POper := [M 9 3,M 2 9]
@[simp] theorem wal_checkDelete_r3_go : type_of% (ops_go wal_checkDelete_r3.eq_1 T K fr S) := ops_go wal_checkDelete_r3.eq_1 T K fr S
def wal_checkDelete_r4 : List POper := [FA 11 3 1,LD 12 11,Q 13 (.len false (V 12)),Q 14 (.arith .eql (V 13) (I 0)),M 10 14]
@[simp] theorem wal_checkDelete_r4_go : type_of% (ops_go wal_checkDelete_r4.eq_1 T K fr S) := ops_go wal_checkDelete_r4.eq_1 T K fr S
def wal_checkDelete_r5 : List POper := [Q 2 (.mov (I 2))]
@[simp] theorem wal_checkDelete_r5_go : type_of% (ops_go wal_checkDelete_r5.eq_1 T K fr S) := ops_go wal_checkDelete_r5.eq_1 T K fr S
def wal_checkDelete_r6 : List POper := [FA 16 4 1,LD 17 16,Q 18 (.arith .lss (V 17) (I 0)),M 19 18,QG (some 20) (.faddr 5 (V 1)) 19 false,QG (some 21) (.load false 1 false (V 20)) 19 false,QG (some 22) (.arith .gtr (V 21) (I 1099511627776)) 19 false,Q 23 (.pick (V 19) tt' (V 22)),M 15 23]
@[simp] theorem wal_checkDelete_r6_go : type_of% (ops_go wal_checkDelete_r6.eq_1 T K fr S) := ops_go wal_checkDelete_r6.eq_1 T K fr S
def wal_checkDelete_r7 : List POper := [Q 2 (.mov (I 11))]
@[simp] theorem wal_checkDelete_r7_go : type_of% (ops_go wal_checkDelete_r7.eq_1 T K fr S) := ops_go wal_checkDelete_r7.eq_1 T K fr S
def wal_checkDelete_r8 : List POper := [FA 25 4 1,LD 26 25,FA 27 5 1,LD 28 27,Q 29 (.arith .gtr (V 26) (V 28)),M 24 29]
@[simp] theorem wal_checkDelete_r8_go : type_of% (ops_go wal_checkDelete_r8.eq_1 T K fr S) := ops_go wal_checkDelete_r8.eq_1 T K fr S
def wal_checkDelete_r9 : List POper := [Q 2 (.mov (I 13))]
@[simp] theorem wal_checkDelete_r9_go : type_of% (ops_go wal_checkDelete_r9.eq_1 T K fr S) := ops_go wal_checkDelete_r9.eq_1 T K fr S
def wal_checkDelete_r10 : List POper := [Q 2 (.mov (I 0))]
@[simp] theorem wal_checkDelete_r10_go : type_of% (ops_go wal_checkDelete_r10.eq_1 T K fr S) := ops_go wal_checkDelete_r10.eq_1 T K fr S
def wal_checkDelete : PCodeFn :=
  ⟨1, [.tmp 2],
  (.seq (.region wal_checkDelete_r0) (.seq (.seq (.clr [(4, 7)] (.region wal_checkDelete_r1)) (.seq (.clr [(7, 8)] (.region wal_checkDelete_r2)) (.cond (V 8) (.seq (.clr [(9, 10)] (.region wal_checkDelete_r3)) .ret) .skip))) (.seq (.block 0 (.seq (.clr [(11, 15)] (.region wal_checkDelete_r4)) (.cond (V 10) (.seq (.region wal_checkDelete_r5) .ret) (.seq (.clr [(16, 24)] (.region wal_checkDelete_r6)) (.cond (V 15) (.seq (.region wal_checkDelete_r7) .ret) (.seq (.clr [(25, 30)] (.region wal_checkDelete_r8)) (.cond (V 24) (.seq (.region wal_checkDelete_r9) .ret) .skip))))))) (.seq (.region wal_checkDelete_r10) .ret)))), false⟩

def slices_Clone_Label_r0 : List POper := [Q 2 (.mov (.cst .nils))]
@[simp] theorem slices_Clone_Label_r0_go : type_of% (ops_go slices_Clone_Label_r0.eq_1 T K fr S) := ops_go slices_Clone_Label_r0.eq_1 T K fr S
def slices_Clone_Label_r1 : List POper := [M 3 0,Q 4 (.eqn false .s (V 3))]
@[simp] theorem slices_Clone_Label_r1_go : type_of% (ops_go slices_Clone_Label_r1.eq_1 T K fr S) := ops_go slices_Clone_Label_r1.eq_1 T K fr S
def slices_Clone_Label_r2 : List POper := [Q 2 (.mov (.cst .nils))]
@[simp] theorem slices_Clone_Label_r2_go : type_of% (ops_go slices_Clone_Label_r2.eq_1 T K fr S) := ops_go slices_Clone_Label_r2.eq_1 T K fr S
def slices_Clone_Label_r3 : List POper := [Q 5 (.bsl false (.agg [(.str []), (.str [])]) 0 []),M 6 0,Q 7 (.app 2 32 (V 5) (V 6)),M 2 7]
@[simp] theorem slices_Clone_Label_r3_go : type_of% (ops_go slices_Clone_Label_r3.eq_1 T K fr S) := ops_go slices_Clone_Label_r3.eq_1 T K fr S
def slices_Clone_Label : PCodeFn :=
  ⟨1, [.tmp 2],
  (.seq (.region slices_Clone_Label_r0) (.seq (.seq (.clr [(3, 4)] (.region slices_Clone_Label_r1)) (.cond (V 4) (.seq (.region slices_Clone_Label_r2) .ret) .skip)) (.seq (.clr [(5, 8)] (.region slices_Clone_Label_r3)) .ret))), false⟩

def head_Head_rows_1_r0 : List POper := [LD 5 0,Q 6 (.arith .neq (V 5) (I 0)),M 7 6,QG (some 8) (.load false 1 false (V 1)) 7 true,QG (some 9) (.arith .gtr (V 8) (I 0)) 7 true,Q 10 (.pick (V 7) (V 9) ff')]
@[simp] theorem head_Head_rows_1_r0_go : type_of% (ops_go head_Head_rows_1_r0.eq_1 T K fr S) := ops_go head_Head_rows_1_r0.eq_1 T K fr S
def head_Head_rows_1_r2 : List POper := [LD 13 2,NK' 14 13,FA 15 0 14,LD 16 15,LD 17 3,LD 18 1,Q 19 (.arith .sub (V 18) (I 1)),Q 20 (.iaddr 3 (V 17) (V 19)),FA 21 0 20,LD 22 21,Q 23 (.iaddr 2 (V 16) (V 22)),M 4 23]
@[simp] theorem head_Head_rows_1_r2_go : type_of% (ops_go head_Head_rows_1_r2.eq_1 T K fr S) := ops_go head_Head_rows_1_r2.eq_1 T K fr S
def head_Head_rows_1_r3 : List POper := [M 24 4,M 25 4,NK' 26 25,FA 27 1 26,LD 28 27,M 29 4,NK' 30 29,FA 31 1 30,LD 32 31,Q 33 (.len false (V 32)),Q 34 (.arith .sub (V 33) (I 1)),Q 35 (.slc 2 none (some (V 34)) (V 28)),NK' 36 24,FA 37 1 36,QN (.store 1 (V 37) (V 35))]
@[simp] theorem head_Head_rows_1_r3_go : type_of% (ops_go head_Head_rows_1_r3.eq_1 T K fr S) := ops_go head_Head_rows_1_r3.eq_1 T K fr S
def head_Head_rows_1_r4 : List POper := [LD 38 2,NK' 39 38,FA 40 2 39,LD 41 40,Q 42 (.arith .sub (V 41) (I 1)),NK' 43 38,FA 44 2 43,QN (.store 1 (V 44) (V 42))]
@[simp] theorem head_Head_rows_1_r4_go : type_of% (ops_go head_Head_rows_1_r4.eq_1 T K fr S) := ops_go head_Head_rows_1_r4.eq_1 T K fr S
def head_Head_rows_1_r1 : List POper := [LD 11 1,Q 12 (.arith .sub (V 11) (I 1)),QN (.store 1 (V 1) (V 12))]
@[simp] theorem head_Head_rows_1_r1_go : type_of% (ops_go head_Head_rows_1_r1.eq_1 T K fr S) := ops_go head_Head_rows_1_r1.eq_1 T K fr S
def head_Head_rows_1_l0 : PCode :=
  (.seq (.seq (.clr [(5, 10)] (.region head_Head_rows_1_r0)) (.cond (V 10) .skip (.exit 0))) (.seq (.block 1 (.seq (.clr [(13, 24)] (.region head_Head_rows_1_r2)) (.seq (.clr [(24, 38)] (.region head_Head_rows_1_r3)) (.clr [(38, 45)] (.region head_Head_rows_1_r4))))) (.clr [(11, 13)] (.region head_Head_rows_1_r1))))
@[simp] theorem head_Head_rows_1_l0_go : type_of% (code_go head_Head_rows_1_l0.eq_1 T K fr S) := code_go head_Head_rows_1_l0.eq_1 T K fr S
def head_Head_rows_1 : PCodeFn :=
  ⟨4, [],
  (.block 0 (.loop head_Head_rows_1_l0)), true⟩

end Ps
