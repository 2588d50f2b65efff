/- The functions' code, as the pure semantics has it: printed by program. -/
import Derived.Test.YtndfknoclbkkhaaCodeB
namespace Ps
open Go
set_option maxRecDepth 10000
variable (T : Tbl) (K : List Kt) (fr : Fr) (S : St)

def slices_partitionCmpFunc_Series_r0 : List POper := [Q 10 (.mov (I 0)),Q 11 (.mov ff')]
@[simp] theorem slices_partitionCmpFunc_Series_r0_go : type_of% (ops_go slices_partitionCmpFunc_Series_r0.eq_1 T K fr S) := ops_go slices_partitionCmpFunc_Series_r0.eq_1 T K fr S
def slices_partitionCmpFunc_Series_r1 : List POper := [M 14 0,M 15 1,M 16 0,M 17 3,M 18 0,M 19 3,Q 20 (.iaddr 2 (V 18) (V 19)),Q 21 (.load true 2 true (V 20)),M 22 0,M 23 1,Q 24 (.iaddr 2 (V 22) (V 23)),Q 25 (.load true 2 true (V 24)),Q 26 (.iaddr 2 (V 14) (V 15)),QN (.store 2 (V 26) (V 21)),Q 27 (.iaddr 2 (V 16) (V 17)),QN (.store 2 (V 27) (V 25))]
@[simp] theorem slices_partitionCmpFunc_Series_r1_go : type_of% (ops_go slices_partitionCmpFunc_Series_r1.eq_1 T K fr S) := ops_go slices_partitionCmpFunc_Series_r1.eq_1 T K fr S
def slices_partitionCmpFunc_Series_r2 : List POper := [M 28 1,Q 29 (.arith .add (V 28) (I 1)),M 30 2,Q 31 (.arith .sub (V 30) (I 1)),M 12 29,M 13 31]
@[simp] theorem slices_partitionCmpFunc_Series_r2_go : type_of% (ops_go slices_partitionCmpFunc_Series_r2.eq_1 T K fr S) := ops_go slices_partitionCmpFunc_Series_r2.eq_1 T K fr S
def slices_partitionCmpFunc_Series_r3 : List POper := [M 32 12,M 33 13,Q 34 (.arith .leq (V 32) (V 33)),M 35 34,QG (some 36) (.mov (V 4)) 35 true,QG (some 37) (.mov (V 0)) 35 true,QG (some 38) (.mov (V 12)) 35 true,QG (some 39) (.iaddr 2 (V 37) (V 38)) 35 true,QG (some 40) (.load true 2 true (V 39)) 35 true,QG (some 41) (.mov (V 0)) 35 true,QG (some 42) (.mov (V 1)) 35 true,QG (some 43) (.iaddr 2 (V 41) (V 42)) 35 true,QG (some 44) (.load true 2 true (V 43)) 35 true,QG (some 45) (.callv .std (V 36) [(V 40), (V 44)]) 35 true,QG (some 46) (.arith .lss (V 45) (I 0)) 35 true,Q 47 (.pick (V 35) (V 46) ff')]
@[simp] theorem slices_partitionCmpFunc_Series_r3_go : type_of% (ops_go slices_partitionCmpFunc_Series_r3.eq_1 T K fr S) := ops_go slices_partitionCmpFunc_Series_r3.eq_1 T K fr S
def slices_partitionCmpFunc_Series_r4 : List POper := [M 48 12,Q 49 (.arith .add (V 48) (I 1)),M 12 49]
@[simp] theorem slices_partitionCmpFunc_Series_r4_go : type_of% (ops_go slices_partitionCmpFunc_Series_r4.eq_1 T K fr S) := ops_go slices_partitionCmpFunc_Series_r4.eq_1 T K fr S
def slices_partitionCmpFunc_Series_l0 : PCode :=
  (.seq (.seq (.clr [(32, 47)] (.region slices_partitionCmpFunc_Series_r3)) (.cond (V 47) .skip (.exit 0))) (.block 1 (.clr [(48, 50)] (.region slices_partitionCmpFunc_Series_r4))))
@[simp] theorem slices_partitionCmpFunc_Series_l0_go : type_of% (code_go slices_partitionCmpFunc_Series_l0.eq_1 T K fr S) := code_go slices_partitionCmpFunc_Series_l0.eq_1 T K fr S
def slices_partitionCmpFunc_Series_r5 : List POper := [M 50 12,M 51 13,Q 52 (.arith .leq (V 50) (V 51)),M 53 52,QG (some 54) (.mov (V 4)) 53 true,QG (some 55) (.mov (V 0)) 53 true,QG (some 56) (.mov (V 13)) 53 true,QG (some 57) (.iaddr 2 (V 55) (V 56)) 53 true,QG (some 58) (.load true 2 true (V 57)) 53 true,QG (some 59) (.mov (V 0)) 53 true,QG (some 60) (.mov (V 1)) 53 true,QG (some 61) (.iaddr 2 (V 59) (V 60)) 53 true,QG (some 62) (.load true 2 true (V 61)) 53 true,QG (some 63) (.callv .std (V 54) [(V 58), (V 62)]) 53 true,QG (some 64) (.arith .lss (V 63) (I 0)) 53 true,QG (some 65) (.un .not (V 64)) 53 true,Q 66 (.pick (V 53) (V 65) ff')]
@[simp] theorem slices_partitionCmpFunc_Series_r5_go : type_of% (ops_go slices_partitionCmpFunc_Series_r5.eq_1 T K fr S) := ops_go slices_partitionCmpFunc_Series_r5.eq_1 T K fr S
def slices_partitionCmpFunc_Series_r6 : List POper := [M 67 13,Q 68 (.arith .sub (V 67) (I 1)),M 13 68]
@[simp] theorem slices_partitionCmpFunc_Series_r6_go : type_of% (ops_go slices_partitionCmpFunc_Series_r6.eq_1 T K fr S) := ops_go slices_partitionCmpFunc_Series_r6.eq_1 T K fr S
def slices_partitionCmpFunc_Series_l1 : PCode :=
  (.seq (.seq (.clr [(50, 66)] (.region slices_partitionCmpFunc_Series_r5)) (.cond (V 66) .skip (.exit 2))) (.block 3 (.clr [(67, 69)] (.region slices_partitionCmpFunc_Series_r6))))
@[simp] theorem slices_partitionCmpFunc_Series_l1_go : type_of% (code_go slices_partitionCmpFunc_Series_l1.eq_1 T K fr S) := code_go slices_partitionCmpFunc_Series_l1.eq_1 T K fr S
def slices_partitionCmpFunc_Series_r7 : List POper := [M 69 12,M 70 13,Q 71 (.arith .gtr (V 69) (V 70))]
@[simp] theorem slices_partitionCmpFunc_Series_r7_go : type_of% (ops_go slices_partitionCmpFunc_Series_r7.eq_1 T K fr S) := ops_go slices_partitionCmpFunc_Series_r7.eq_1 T K fr S
def slices_partitionCmpFunc_Series_r8 : List POper := [M 72 0,M 73 13,M 74 0,M 75 1,M 76 0,M 77 1,Q 78 (.iaddr 2 (V 76) (V 77)),Q 79 (.load true 2 true (V 78)),M 80 0,M 81 13,Q 82 (.iaddr 2 (V 80) (V 81)),Q 83 (.load true 2 true (V 82)),Q 84 (.iaddr 2 (V 72) (V 73)),QN (.store 2 (V 84) (V 79)),Q 85 (.iaddr 2 (V 74) (V 75)),QN (.store 2 (V 85) (V 83))]
@[simp] theorem slices_partitionCmpFunc_Series_r8_go : type_of% (ops_go slices_partitionCmpFunc_Series_r8.eq_1 T K fr S) := ops_go slices_partitionCmpFunc_Series_r8.eq_1 T K fr S
def slices_partitionCmpFunc_Series_r9 : List POper := [M 86 13,M 10 86,Q 11 (.mov tt')]
@[simp] theorem slices_partitionCmpFunc_Series_r9_go : type_of% (ops_go slices_partitionCmpFunc_Series_r9.eq_1 T K fr S) := ops_go slices_partitionCmpFunc_Series_r9.eq_1 T K fr S
def slices_partitionCmpFunc_Series_r10 : List POper := [M 87 0,M 88 12,M 89 0,M 90 13,M 91 0,M 92 13,Q 93 (.iaddr 2 (V 91) (V 92)),Q 94 (.load true 2 true (V 93)),M 95 0,M 96 12,Q 97 (.iaddr 2 (V 95) (V 96)),Q 98 (.load true 2 true (V 97)),Q 99 (.iaddr 2 (V 87) (V 88)),QN (.store 2 (V 99) (V 94)),Q 100 (.iaddr 2 (V 89) (V 90)),QN (.store 2 (V 100) (V 98))]
@[simp] theorem slices_partitionCmpFunc_Series_r10_go : type_of% (ops_go slices_partitionCmpFunc_Series_r10.eq_1 T K fr S) := ops_go slices_partitionCmpFunc_Series_r10.eq_1 T K fr S
def slices_partitionCmpFunc_Series_r11 : List POper := [M 101 12,Q 102 (.arith .add (V 101) (I 1)),M 12 102]
@[simp] theorem slices_partitionCmpFunc_Series_r11_go : type_of% (ops_go slices_partitionCmpFunc_Series_r11.eq_1 T K fr S) := ops_go slices_partitionCmpFunc_Series_r11.eq_1 T K fr S
def slices_partitionCmpFunc_Series_r12 : List POper := [M 103 13,Q 104 (.arith .sub (V 103) (I 1)),M 13 104]
@[simp] theorem slices_partitionCmpFunc_Series_r12_go : type_of% (ops_go slices_partitionCmpFunc_Series_r12.eq_1 T K fr S) := ops_go slices_partitionCmpFunc_Series_r12.eq_1 T K fr S
def slices_partitionCmpFunc_Series_r13 : List POper := [M 105 12,M 106 13,Q 107 (.arith .leq (V 105) (V 106)),M 108 107,QG (some 109) (.mov (V 4)) 108 true,QG (some 110) (.mov (V 0)) 108 true,QG (some 111) (.mov (V 12)) 108 true,QG (some 112) (.iaddr 2 (V 110) (V 111)) 108 true,QG (some 113) (.load true 2 true (V 112)) 108 true,QG (some 114) (.mov (V 0)) 108 true,QG (some 115) (.mov (V 1)) 108 true,QG (some 116) (.iaddr 2 (V 114) (V 115)) 108 true,QG (some 117) (.load true 2 true (V 116)) 108 true,QG (some 118) (.callv .std (V 109) [(V 113), (V 117)]) 108 true,QG (some 119) (.arith .lss (V 118) (I 0)) 108 true,Q 120 (.pick (V 108) (V 119) ff')]
@[simp] theorem slices_partitionCmpFunc_Series_r13_go : type_of% (ops_go slices_partitionCmpFunc_Series_r13.eq_1 T K fr S) := ops_go slices_partitionCmpFunc_Series_r13.eq_1 T K fr S
def slices_partitionCmpFunc_Series_r14 : List POper := [M 121 12,Q 122 (.arith .add (V 121) (I 1)),M 12 122]
@[simp] theorem slices_partitionCmpFunc_Series_r14_go : type_of% (ops_go slices_partitionCmpFunc_Series_r14.eq_1 T K fr S) := ops_go slices_partitionCmpFunc_Series_r14.eq_1 T K fr S
def slices_partitionCmpFunc_Series_l3 : PCode :=
  (.seq (.seq (.clr [(105, 120)] (.region slices_partitionCmpFunc_Series_r13)) (.cond (V 120) .skip (.exit 6))) (.block 7 (.clr [(121, 123)] (.region slices_partitionCmpFunc_Series_r14))))
@[simp] theorem slices_partitionCmpFunc_Series_l3_go : type_of% (code_go slices_partitionCmpFunc_Series_l3.eq_1 T K fr S) := code_go slices_partitionCmpFunc_Series_l3.eq_1 T K fr S
def slices_partitionCmpFunc_Series_r15 : List POper := [M 123 12,M 124 13,Q 125 (.arith .leq (V 123) (V 124)),M 126 125,QG (some 127) (.mov (V 4)) 126 true,QG (some 128) (.mov (V 0)) 126 true,QG (some 129) (.mov (V 13)) 126 true,QG (some 130) (.iaddr 2 (V 128) (V 129)) 126 true,QG (some 131) (.load true 2 true (V 130)) 126 true,QG (some 132) (.mov (V 0)) 126 true,QG (some 133) (.mov (V 1)) 126 true,QG (some 134) (.iaddr 2 (V 132) (V 133)) 126 true,QG (some 135) (.load true 2 true (V 134)) 126 true,QG (some 136) (.callv .std (V 127) [(V 131), (V 135)]) 126 true,QG (some 137) (.arith .lss (V 136) (I 0)) 126 true,QG (some 138) (.un .not (V 137)) 126 true,Q 139 (.pick (V 126) (V 138) ff')]
@[simp] theorem slices_partitionCmpFunc_Series_r15_go : type_of% (ops_go slices_partitionCmpFunc_Series_r15.eq_1 T K fr S) := ops_go slices_partitionCmpFunc_Series_r15.eq_1 T K fr S
def slices_partitionCmpFunc_Series_r16 : List POper := [M 140 13,Q 141 (.arith .sub (V 140) (I 1)),M 13 141]
@[simp] theorem slices_partitionCmpFunc_Series_r16_go : type_of% (ops_go slices_partitionCmpFunc_Series_r16.eq_1 T K fr S) := ops_go slices_partitionCmpFunc_Series_r16.eq_1 T K fr S
def slices_partitionCmpFunc_Series_l4 : PCode :=
  (.seq (.seq (.clr [(123, 139)] (.region slices_partitionCmpFunc_Series_r15)) (.cond (V 139) .skip (.exit 8))) (.block 9 (.clr [(140, 142)] (.region slices_partitionCmpFunc_Series_r16))))
@[simp] theorem slices_partitionCmpFunc_Series_l4_go : type_of% (code_go slices_partitionCmpFunc_Series_l4.eq_1 T K fr S) := code_go slices_partitionCmpFunc_Series_l4.eq_1 T K fr S
def slices_partitionCmpFunc_Series_r17 : List POper := [M 142 12,M 143 13,Q 144 (.arith .gtr (V 142) (V 143))]
@[simp] theorem slices_partitionCmpFunc_Series_r17_go : type_of% (ops_go slices_partitionCmpFunc_Series_r17.eq_1 T K fr S) := ops_go slices_partitionCmpFunc_Series_r17.eq_1 T K fr S
def slices_partitionCmpFunc_Series_r18 : List POper := [M 145 0,M 146 12,M 147 0,M 148 13,M 149 0,M 150 13,Q 151 (.iaddr 2 (V 149) (V 150)),Q 152 (.load true 2 true (V 151)),M 153 0,M 154 12,Q 155 (.iaddr 2 (V 153) (V 154)),Q 156 (.load true 2 true (V 155)),Q 157 (.iaddr 2 (V 145) (V 146)),QN (.store 2 (V 157) (V 152)),Q 158 (.iaddr 2 (V 147) (V 148)),QN (.store 2 (V 158) (V 156))]
@[simp] theorem slices_partitionCmpFunc_Series_r18_go : type_of% (ops_go slices_partitionCmpFunc_Series_r18.eq_1 T K fr S) := ops_go slices_partitionCmpFunc_Series_r18.eq_1 T K fr S
def slices_partitionCmpFunc_Series_r19 : List POper := [M 159 12,Q 160 (.arith .add (V 159) (I 1)),M 12 160]
@[simp] theorem slices_partitionCmpFunc_Series_r19_go : type_of% (ops_go slices_partitionCmpFunc_Series_r19.eq_1 T K fr S) := ops_go slices_partitionCmpFunc_Series_r19.eq_1 T K fr S
def slices_partitionCmpFunc_Series_r20 : List POper := [M 161 13,Q 162 (.arith .sub (V 161) (I 1)),M 13 162]
@[simp] theorem slices_partitionCmpFunc_Series_r20_go : type_of% (ops_go slices_partitionCmpFunc_Series_r20.eq_1 T K fr S) := ops_go slices_partitionCmpFunc_Series_r20.eq_1 T K fr S
def slices_partitionCmpFunc_Series_l2 : PCode :=
  (.block 5 (.seq (.block 6 (.loop slices_partitionCmpFunc_Series_l3)) (.seq (.block 8 (.loop slices_partitionCmpFunc_Series_l4)) (.seq (.seq (.clr [(142, 144)] (.region slices_partitionCmpFunc_Series_r17)) (.cond (V 144) (.exit 4) .skip)) (.seq (.clr [(145, 159)] (.region slices_partitionCmpFunc_Series_r18)) (.seq (.clr [(159, 161)] (.region slices_partitionCmpFunc_Series_r19)) (.clr [(161, 163)] (.region slices_partitionCmpFunc_Series_r20))))))))
@[simp] theorem slices_partitionCmpFunc_Series_l2_go : type_of% (code_go slices_partitionCmpFunc_Series_l2.eq_1 T K fr S) := code_go slices_partitionCmpFunc_Series_l2.eq_1 T K fr S
def slices_partitionCmpFunc_Series_r21 : List POper := [M 163 0,M 164 13,M 165 0,M 166 1,M 167 0,M 168 1,Q 169 (.iaddr 2 (V 167) (V 168)),Q 170 (.load true 2 true (V 169)),M 171 0,M 172 13,Q 173 (.iaddr 2 (V 171) (V 172)),Q 174 (.load true 2 true (V 173)),Q 175 (.iaddr 2 (V 163) (V 164)),QN (.store 2 (V 175) (V 170)),Q 176 (.iaddr 2 (V 165) (V 166)),QN (.store 2 (V 176) (V 174))]
@[simp] theorem slices_partitionCmpFunc_Series_r21_go : type_of% (ops_go slices_partitionCmpFunc_Series_r21.eq_1 T K fr S) := ops_go slices_partitionCmpFunc_Series_r21.eq_1 T K fr S
def slices_partitionCmpFunc_Series_r22 : List POper := [M 177 13,M 10 177,Q 11 (.mov ff')]
@[simp] theorem slices_partitionCmpFunc_Series_r22_go : type_of% (ops_go slices_partitionCmpFunc_Series_r22.eq_1 T K fr S) := ops_go slices_partitionCmpFunc_Series_r22.eq_1 T K fr S
def slices_partitionCmpFunc_Series : PCodeFn :=
  ⟨5, [.tmp 10, .tmp 11],
  (.seq (.region slices_partitionCmpFunc_Series_r0) (.seq (.clr [(14, 28)] (.region slices_partitionCmpFunc_Series_r1)) (.seq (.clr [(28, 32)] (.region slices_partitionCmpFunc_Series_r2)) (.seq (.block 0 (.loop slices_partitionCmpFunc_Series_l0)) (.seq (.block 2 (.loop slices_partitionCmpFunc_Series_l1)) (.seq (.seq (.clr [(69, 71)] (.region slices_partitionCmpFunc_Series_r7)) (.cond (V 71) (.seq (.clr [(72, 86)] (.region slices_partitionCmpFunc_Series_r8)) (.seq (.clr [(86, 87)] (.region slices_partitionCmpFunc_Series_r9)) .ret)) .skip)) (.seq (.clr [(87, 101)] (.region slices_partitionCmpFunc_Series_r10)) (.seq (.clr [(101, 103)] (.region slices_partitionCmpFunc_Series_r11)) (.seq (.clr [(103, 105)] (.region slices_partitionCmpFunc_Series_r12)) (.seq (.block 4 (.loop slices_partitionCmpFunc_Series_l2)) (.seq (.clr [(163, 177)] (.region slices_partitionCmpFunc_Series_r21)) (.seq (.clr [(177, 178)] (.region slices_partitionCmpFunc_Series_r22)) .ret)))))))))))), false⟩

def math_bits_Len32_r0 : List POper := [Q 2 (.mov (I 0))]
@[simp] theorem math_bits_Len32_r0_go : type_of% (ops_go math_bits_Len32_r0.eq_1 T K fr S) := ops_go math_bits_Len32_r0.eq_1 T K fr S
def math_bits_Len32_r1 : List POper := [M 3 0,Q 4 (.arith .geq (V 3) (.cst (.int .u32 65536)))]
@[simp] theorem math_bits_Len32_r1_go : type_of% (ops_go math_bits_Len32_r1.eq_1 T K fr S) := ops_go math_bits_Len32_r1.eq_1 T K fr S
def math_bits_Len32_r2 : List POper := [M 5 0,Q 6 (.arith .shr (V 5) (.cst (.int .u64 16))),M 0 6]
@[simp] theorem math_bits_Len32_r2_go : type_of% (ops_go math_bits_Len32_r2.eq_1 T K fr S) := ops_go math_bits_Len32_r2.eq_1 T K fr S
def math_bits_Len32_r3 : List POper := [Q 2 (.mov (I 16))]
@[simp] theorem math_bits_Len32_r3_go : type_of% (ops_go math_bits_Len32_r3.eq_1 T K fr S) := ops_go math_bits_Len32_r3.eq_1 T K fr S
def math_bits_Len32_r4 : List POper := [M 7 0,Q 8 (.arith .geq (V 7) (.cst (.int .u32 256)))]
@[simp] theorem math_bits_Len32_r4_go : type_of% (ops_go math_bits_Len32_r4.eq_1 T K fr S) := ops_go math_bits_Len32_r4.eq_1 T K fr S
def math_bits_Len32_r5 : List POper := [M 9 0,Q 10 (.arith .shr (V 9) (.cst (.int .u64 8))),M 0 10]
@[simp] theorem math_bits_Len32_r5_go : type_of% (ops_go math_bits_Len32_r5.eq_1 T K fr S) := ops_go math_bits_Len32_r5.eq_1 T K fr S
def math_bits_Len32_r6 : List POper := [M 11 2,Q 12 (.arith .add (V 11) (I 8)),M 2 12]
@[simp] theorem math_bits_Len32_r6_go : type_of% (ops_go math_bits_Len32_r6.eq_1 T K fr S) := ops_go math_bits_Len32_r6.eq_1 T K fr S
def math_bits_Len32_r7 : List POper := [M 13 2,M 14 0,Q 15 (.toInt .u8 (V 14)),Q 16 (.idxs (.cst (.str [0, 1, 2, 2, 3, 3, 3, 3, 4, 4, 4, 4, 4, 4, 4, 4, 5, 5, 5, 5, 5, 5, 5, 5, 5, 5, 5, 5, 5, 5, 5, 5, 6, 6, 6, 6, 6, 6, 6, 6, 6, 6, 6, 6, 6, 6, 6, 6, 6, 6, 6, 6, 6, 6, 6, 6, 6, 6, 6, 6, 6, 6, 6, 6, 7, 7, 7, 7, 7, 7, 7, 7, 7, 7, 7, 7, 7, 7, 7, 7, 7, 7, 7, 7, 7, 7, 7, 7, 7, 7, 7, 7, 7, 7, 7, 7, 7, 7, 7, 7, 7, 7, 7, 7, 7, 7, 7, 7, 7, 7, 7, 7, 7, 7, 7, 7, 7, 7, 7, 7, 7, 7, 7, 7, 7, 7, 7, 7, 8, 8, 8, 8, 8, 8, 8, 8, 8, 8, 8, 8, 8, 8, 8, 8, 8, 8, 8, 8, 8, 8, 8, 8, 8, 8, 8, 8, 8, 8, 8, 8, 8, 8, 8, 8, 8, 8, 8, 8, 8, 8, 8, 8, 8, 8, 8, 8, 8, 8, 8, 8, 8, 8, 8, 8, 8, 8, 8, 8, 8, 8, 8, 8, 8, 8, 8, 8, 8, 8, 8, 8, 8, 8, 8, 8, 8, 8, 8, 8, 8, 8, 8, 8, 8, 8, 8, 8, 8, 8, 8, 8, 8, 8, 8, 8, 8, 8, 8, 8, 8, 8, 8, 8, 8, 8, 8, 8, 8, 8, 8, 8, 8, 8, 8, 8, 8, 8, 8, 8, 8, 8, 8, 8, 8, 8, 8, 8])) (V 15)),Q 17 (.toInt .i64 (V 16)),Q 18 (.arith .add (V 13) (V 17)),M 2 18]
@[simp] theorem math_bits_Len32_r7_go : type_of% (ops_go math_bits_Len32_r7.eq_1 T K fr S) := ops_go math_bits_Len32_r7.eq_1 T K fr S
def math_bits_Len32 : PCodeFn :=
  ⟨1, [.tmp 2],
  (.seq (.region math_bits_Len32_r0) (.seq (.seq (.clr [(3, 4)] (.region math_bits_Len32_r1)) (.cond (V 4) (.seq (.clr [(5, 7)] (.region math_bits_Len32_r2)) (.region math_bits_Len32_r3)) .skip)) (.seq (.seq (.clr [(7, 8)] (.region math_bits_Len32_r4)) (.cond (V 8) (.seq (.clr [(9, 11)] (.region math_bits_Len32_r5)) (.clr [(11, 13)] (.region math_bits_Len32_r6))) .skip)) (.seq (.clr [(13, 19)] (.region math_bits_Len32_r7)) .ret)))), false⟩

def math_bits_Len64_r0 : List POper := [Q 2 (.mov (I 0))]
@[simp] theorem math_bits_Len64_r0_go : type_of% (ops_go math_bits_Len64_r0.eq_1 T K fr S) := ops_go math_bits_Len64_r0.eq_1 T K fr S
def math_bits_Len64_r1 : List POper := [M 3 0,Q 4 (.arith .geq (V 3) (.cst (.int .u64 4294967296)))]
@[simp] theorem math_bits_Len64_r1_go : type_of% (ops_go math_bits_Len64_r1.eq_1 T K fr S) := ops_go math_bits_Len64_r1.eq_1 T K fr S
def math_bits_Len64_r2 : List POper := [M 5 0,Q 6 (.arith .shr (V 5) (.cst (.int .u64 32))),M 0 6]
@[simp] theorem math_bits_Len64_r2_go : type_of% (ops_go math_bits_Len64_r2.eq_1 T K fr S) := ops_go math_bits_Len64_r2.eq_1 T K fr S
def math_bits_Len64_r3 : List POper := [Q 2 (.mov (I 32))]
@[simp] theorem math_bits_Len64_r3_go : type_of% (ops_go math_bits_Len64_r3.eq_1 T K fr S) := ops_go math_bits_Len64_r3.eq_1 T K fr S
def math_bits_Len64_r4 : List POper := [M 7 0,Q 8 (.arith .geq (V 7) (.cst (.int .u64 65536)))]
@[simp] theorem math_bits_Len64_r4_go : type_of% (ops_go math_bits_Len64_r4.eq_1 T K fr S) := ops_go math_bits_Len64_r4.eq_1 T K fr S
def math_bits_Len64_r5 : List POper := [M 9 0,Q 10 (.arith .shr (V 9) (.cst (.int .u64 16))),M 0 10]
@[simp] theorem math_bits_Len64_r5_go : type_of% (ops_go math_bits_Len64_r5.eq_1 T K fr S) := ops_go math_bits_Len64_r5.eq_1 T K fr S
def math_bits_Len64_r6 : List POper := [M 11 2,Q 12 (.arith .add (V 11) (I 16)),M 2 12]
@[simp] theorem math_bits_Len64_r6_go : type_of% (ops_go math_bits_Len64_r6.eq_1 T K fr S) := ops_go math_bits_Len64_r6.eq_1 T K fr S
def math_bits_Len64_r7 : List POper := [M 13 0,Q 14 (.arith .geq (V 13) (.cst (.int .u64 256)))]
@[simp] theorem math_bits_Len64_r7_go : type_of% (ops_go math_bits_Len64_r7.eq_1 T K fr S) := ops_go math_bits_Len64_r7.eq_1 T K fr S
def math_bits_Len64_r8 : List POper := [M 15 0,Q 16 (.arith .shr (V 15) (.cst (.int .u64 8))),M 0 16]
@[simp] theorem math_bits_Len64_r8_go : type_of% (ops_go math_bits_Len64_r8.eq_1 T K fr S) := ops_go math_bits_Len64_r8.eq_1 T K fr S
def math_bits_Len64_r9 : List POper := [M 17 2,Q 18 (.arith .add (V 17) (I 8)),M 2 18]
@[simp] theorem math_bits_Len64_r9_go : type_of% (ops_go math_bits_Len64_r9.eq_1 T K fr S) := ops_go math_bits_Len64_r9.eq_1 T K fr S
def math_bits_Len64_r10 : List POper := [M 19 2,M 20 0,Q 21 (.toInt .u8 (V 20)),Q 22 (.idxs (.cst (.str [0, 1, 2, 2, 3, 3, 3, 3, 4, 4, 4, 4, 4, 4, 4, 4, 5, 5, 5, 5, 5, 5, 5, 5, 5, 5, 5, 5, 5, 5, 5, 5, 6, 6, 6, 6, 6, 6, 6, 6, 6, 6, 6, 6, 6, 6, 6, 6, 6, 6, 6, 6, 6, 6, 6, 6, 6, 6, 6, 6, 6, 6, 6, 6, 7, 7, 7, 7, 7, 7, 7, 7, 7, 7, 7, 7, 7, 7, 7, 7, 7, 7, 7, 7, 7, 7, 7, 7, 7, 7, 7, 7, 7, 7, 7, 7, 7, 7, 7, 7, 7, 7, 7, 7, 7, 7, 7, 7, 7, 7, 7, 7, 7, 7, 7, 7, 7, 7, 7, 7, 7, 7, 7, 7, 7, 7, 7, 7, 8, 8, 8, 8, 8, 8, 8, 8, 8, 8, 8, 8, 8, 8, 8, 8, 8, 8, 8, 8, 8, 8, 8, 8, 8, 8, 8, 8, 8, 8, 8, 8, 8, 8, 8, 8, 8, 8, 8, 8, 8, 8, 8, 8, 8, 8, 8, 8, 8, 8, 8, 8, 8, 8, 8, 8, 8, 8, 8, 8, 8, 8, 8, 8, 8, 8, 8, 8, 8, 8, 8, 8, 8, 8, 8, 8, 8, 8, 8, 8, 8, 8, 8, 8, 8, 8, 8, 8, 8, 8, 8, 8, 8, 8, 8, 8, 8, 8, 8, 8, 8, 8, 8, 8, 8, 8, 8, 8, 8, 8, 8, 8, 8, 8, 8, 8, 8, 8, 8, 8, 8, 8, 8, 8, 8, 8, 8, 8])) (V 21)),Q 23 (.toInt .i64 (V 22)),Q 24 (.arith .add (V 19) (V 23)),M 2 24]
@[simp] theorem math_bits_Len64_r10_go : type_of% (ops_go math_bits_Len64_r10.eq_1 T K fr S) := ops_go math_bits_Len64_r10.eq_1 T K fr S
def math_bits_Len64 : PCodeFn :=
  ⟨1, [.tmp 2],
  (.seq (.region math_bits_Len64_r0) (.seq (.seq (.clr [(3, 4)] (.region math_bits_Len64_r1)) (.cond (V 4) (.seq (.clr [(5, 7)] (.region math_bits_Len64_r2)) (.region math_bits_Len64_r3)) .skip)) (.seq (.seq (.clr [(7, 8)] (.region math_bits_Len64_r4)) (.cond (V 8) (.seq (.clr [(9, 11)] (.region math_bits_Len64_r5)) (.clr [(11, 13)] (.region math_bits_Len64_r6))) .skip)) (.seq (.seq (.clr [(13, 14)] (.region math_bits_Len64_r7)) (.cond (V 14) (.seq (.clr [(15, 17)] (.region math_bits_Len64_r8)) (.clr [(17, 19)] (.region math_bits_Len64_r9))) .skip)) (.seq (.clr [(19, 25)] (.region math_bits_Len64_r10)) .ret))))), false⟩

def cmp_isNaN_string_r0 : List POper := [Q 2 (.mov ff')]
@[simp] theorem cmp_isNaN_string_r0_go : type_of% (ops_go cmp_isNaN_string_r0.eq_1 T K fr S) := ops_go cmp_isNaN_string_r0.eq_1 T K fr S
def cmp_isNaN_string_r1 : List POper := [M 3 0,M 4 0,Q 5 (.arith .neq (V 3) (V 4)),M 2 5]
@[simp] theorem cmp_isNaN_string_r1_go : type_of% (ops_go cmp_isNaN_string_r1.eq_1 T K fr S) := ops_go cmp_isNaN_string_r1.eq_1 T K fr S
def cmp_isNaN_string : PCodeFn :=
  ⟨1, [.tmp 2],
  (.seq (.region cmp_isNaN_string_r0) (.seq (.clr [(3, 6)] (.region cmp_isNaN_string_r1)) .ret)), false⟩

def ref06_Name_r0 : List POper := [Q 2 (.mov ff')]
@[simp] theorem ref06_Name_r0_go : type_of% (ops_go ref06_Name_r0.eq_1 T K fr S) := ops_go ref06_Name_r0.eq_1 T K fr S
def ref06_Name_r1 : List POper := [Q 3 (.mov (I 0))]
@[simp] theorem ref06_Name_r1_go : type_of% (ops_go ref06_Name_r1.eq_1 T K fr S) := ops_go ref06_Name_r1.eq_1 T K fr S
def ref06_Name_r2 : List POper := [M 6 3,M 7 0,Q 8 (.len true (V 7)),Q 9 (.arith .lss (V 6) (V 8))]
@[simp] theorem ref06_Name_r2_go : type_of% (ops_go ref06_Name_r2.eq_1 T K fr S) := ops_go ref06_Name_r2.eq_1 T K fr S
def ref06_Name_r4 : List POper := [M 12 0,M 13 3,Q 14 (.idxs (V 12) (V 13)),M 4 14]
@[simp] theorem ref06_Name_r4_go : type_of% (ops_go ref06_Name_r4.eq_1 T K fr S) := ops_go ref06_Name_r4.eq_1 T K fr S
def ref06_Name_r5 : List POper := [M 15 4,Q 16 (.arith .geq (V 15) (.cst (.int .u8 97))),M 17 16,QG (some 18) (.mov (V 4)) 17 true,QG (some 19) (.arith .leq (V 18) (.cst (.int .u8 122))) 17 true,Q 20 (.pick (V 17) (V 19) ff'),M 21 20,QG (some 22) (.mov (V 4)) 21 false,QG (some 23) (.arith .geq (V 22) (.cst (.int .u8 65))) 21 false,QG (some 24) (.mov (V 23)) 21 false,QG (some 25) (.mov (V 4)) 24 true,QG (some 26) (.arith .leq (V 25) (.cst (.int .u8 90))) 24 true,QG (some 27) (.pick (V 24) (V 26) ff') 21 false,Q 28 (.pick (V 21) tt' (V 27)),M 29 28,QG (some 30) (.mov (V 4)) 29 false,QG (some 31) (.arith .eql (V 30) (.cst (.int .u8 95))) 29 false,Q 32 (.pick (V 29) tt' (V 31)),M 5 32]
@[simp] theorem ref06_Name_r5_go : type_of% (ops_go ref06_Name_r5.eq_1 T K fr S) := ops_go ref06_Name_r5.eq_1 T K fr S
def ref06_Name_r6 : List POper := [M 33 5,Q 34 (.un .not (V 33)),M 35 34,QG (some 36) (.mov (V 3)) 35 true,QG (some 37) (.arith .eql (V 36) (I 0)) 35 true,QG (some 38) (.mov (V 37)) 35 true,QG (some 39) (.mov (V 4)) 38 false,QG (some 40) (.arith .lss (V 39) (.cst (.int .u8 48))) 38 false,QG (some 41) (.pick (V 38) tt' (V 40)) 35 true,QG (some 42) (.mov (V 41)) 35 true,QG (some 43) (.mov (V 4)) 42 false,QG (some 44) (.arith .gtr (V 43) (.cst (.int .u8 57))) 42 false,QG (some 45) (.pick (V 42) tt' (V 44)) 35 true,Q 46 (.pick (V 35) (V 45) ff')]
@[simp] theorem ref06_Name_r6_go : type_of% (ops_go ref06_Name_r6.eq_1 T K fr S) := ops_go ref06_Name_r6.eq_1 T K fr S
def ref06_Name_r7 : List POper := [Q 2 (.mov ff')]
@[simp] theorem ref06_Name_r7_go : type_of% (ops_go ref06_Name_r7.eq_1 T K fr S) := ops_go ref06_Name_r7.eq_1 T K fr S
def ref06_Name_r3 : List POper := [M 10 3,Q 11 (.arith .add (V 10) (I 1)),M 3 11]
@[simp] theorem ref06_Name_r3_go : type_of% (ops_go ref06_Name_r3.eq_1 T K fr S) := ops_go ref06_Name_r3.eq_1 T K fr S
def ref06_Name_l0 : PCode :=
  (.seq (.seq (.clr [(6, 9)] (.region ref06_Name_r2)) (.cond (V 9) .skip (.exit 0))) (.seq (.block 1 (.seq (.clr [(12, 15)] (.region ref06_Name_r4)) (.seq (.clr [(15, 33)] (.region ref06_Name_r5)) (.seq (.clr [(33, 46)] (.region ref06_Name_r6)) (.cond (V 46) (.seq (.region ref06_Name_r7) .ret) .skip))))) (.clr [(10, 12)] (.region ref06_Name_r3))))
@[simp] theorem ref06_Name_l0_go : type_of% (code_go ref06_Name_l0.eq_1 T K fr S) := code_go ref06_Name_l0.eq_1 T K fr S
def ref06_Name_r8 : List POper := [M 47 0,Q 48 (.arith .neq (V 47) (.cst (.str []))),M 49 48,QG (some 50) (.mov (V 0)) 49 true,QG (some 51) (.len true (V 50)) 49 true,QG (some 52) (.arith .leq (V 51) (I 32)) 49 true,Q 53 (.pick (V 49) (V 52) ff'),M 2 53]
@[simp] theorem ref06_Name_r8_go : type_of% (ops_go ref06_Name_r8.eq_1 T K fr S) := ops_go ref06_Name_r8.eq_1 T K fr S
def ref06_Name : PCodeFn :=
  ⟨1, [.tmp 2],
  (.seq (.region ref06_Name_r0) (.seq (.seq (.region ref06_Name_r1) (.block 0 (.loop ref06_Name_l0))) (.seq (.clr [(47, 54)] (.region ref06_Name_r8)) .ret))), false⟩

def ref05_May_r0 : List POper := [Q 1 (.box true (V 0)),Q 2 (.mov ff')]
@[simp] theorem ref05_May_r0_go : type_of% (ops_go ref05_May_r0.eq_1 T K fr S) := ops_go ref05_May_r0.eq_1 T K fr S
def ref05_May_r1 : List POper := [FA 3 0 1,LD 4 3,Q 5 (.arith .geq (V 4) (I 0)),M 6 5,QG (some 7) (.faddr 0 (V 1)) 6 true,QG (some 8) (.load false 1 false (V 7)) 6 true,QG (some 9) (.arith .leq (V 8) (I 1099511627776)) 6 true,Q 10 (.pick (V 6) (V 9) ff'),M 11 10,QG (some 12) (.faddr 1 (V 1)) 11 true,QG (some 13) (.load false 1 false (V 12)) 11 true,QG (some 14) (.arith .geq (V 13) (I (-1152921504606846976))) 11 true,Q 15 (.pick (V 11) (V 14) ff'),M 16 15,QG (some 17) (.faddr 1 (V 1)) 16 true,QG (some 18) (.load false 1 false (V 17)) 16 true,QG (some 19) (.arith .leq (V 18) (I 1152921504606846976)) 16 true,Q 20 (.pick (V 16) (V 19) ff'),M 2 20]
@[simp] theorem ref05_May_r1_go : type_of% (ops_go ref05_May_r1.eq_1 T K fr S) := ops_go ref05_May_r1.eq_1 T K fr S
def ref05_May : PCodeFn :=
  ⟨1, [.tmp 2],
  (.seq (.region ref05_May_r0) (.seq (.clr [(3, 21)] (.region ref05_May_r1)) .ret)), false⟩

def strings_Builder_Grow_r0 : List POper := [M 4 0,Q 5 (.call .std 300 [(V 4)])]
@[simp] theorem strings_Builder_Grow_r0_go : type_of% (ops_go strings_Builder_Grow_r0.eq_1 T K fr S) := ops_go strings_Builder_Grow_r0.eq_1 T K fr S
def strings_Builder_Grow_r1 : List POper := [M 6 1,Q 7 (.arith .lss (V 6) (I 0))]
@[simp] theorem strings_Builder_Grow_r1_go : type_of% (ops_go strings_Builder_Grow_r1.eq_1 T K fr S) := ops_go strings_Builder_Grow_r1.eq_1 T K fr S
def strings_Builder_Grow_r4 : List POper := [M 22 0,M 23 1,Q 24 (.call .std 301 [(V 22), (V 23)])]
@[simp] theorem strings_Builder_Grow_r4_go : type_of% (ops_go strings_Builder_Grow_r4.eq_1 T K fr S) := ops_go strings_Builder_Grow_r4.eq_1 T K fr S
def strings_Builder_Grow : PCodeFn :=
  ⟨2, [],
  (.seq (.clr [(4, 6)] (.region strings_Builder_Grow_r0)) (.seq (.seq (.clr [(6, 7)] (.region strings_Builder_Grow_r1)) (.cond (V 7) .bad .skip)) (.seq .bad (.cond (V 21) (.clr [(22, 25)] (.region strings_Builder_Grow_r4)) .skip)))), false⟩

def strings_Builder_WriteString_r0 : List POper := [Q 4 (.mov (I 0)),Q 5 (.mov (.cst .nili))]
@[simp] theorem strings_Builder_WriteString_r0_go : type_of% (ops_go strings_Builder_WriteString_r0.eq_1 T K fr S) := ops_go strings_Builder_WriteString_r0.eq_1 T K fr S
def strings_Builder_WriteString_r1 : List POper := [M 6 0,Q 7 (.call .std 300 [(V 6)])]
@[simp] theorem strings_Builder_WriteString_r1_go : type_of% (ops_go strings_Builder_WriteString_r1.eq_1 T K fr S) := ops_go strings_Builder_WriteString_r1.eq_1 T K fr S
def strings_Builder_WriteString_r2 : List POper := [M 8 0,M 9 0,NK' 10 9,FA 11 1 10,LD 12 11,M 13 1,Q 14 (.app 1 1 (V 12) (V 13)),NK' 15 8,FA 16 1 15,QN (.store 1 (V 16) (V 14))]
@[simp] theorem strings_Builder_WriteString_r2_go : type_of% (ops_go strings_Builder_WriteString_r2.eq_1 T K fr S) := ops_go strings_Builder_WriteString_r2.eq_1 T K fr S
def strings_Builder_WriteString_r3 : List POper := [M 17 1,Q 18 (.len true (V 17)),M 4 18,Q 5 (.mov (.cst .nili))]
@[simp] theorem strings_Builder_WriteString_r3_go : type_of% (ops_go strings_Builder_WriteString_r3.eq_1 T K fr S) := ops_go strings_Builder_WriteString_r3.eq_1 T K fr S
def strings_Builder_WriteString : PCodeFn :=
  ⟨2, [.tmp 4, .tmp 5],
  (.seq (.region strings_Builder_WriteString_r0) (.seq (.clr [(6, 8)] (.region strings_Builder_WriteString_r1)) (.seq (.clr [(8, 17)] (.region strings_Builder_WriteString_r2)) (.seq (.clr [(17, 19)] (.region strings_Builder_WriteString_r3)) .ret)))), false⟩

def strings_Builder_String_r0 : List POper := [Q 2 (.mov (.cst (.str [])))]
@[simp] theorem strings_Builder_String_r0_go : type_of% (ops_go strings_Builder_String_r0.eq_1 T K fr S) := ops_go strings_Builder_String_r0.eq_1 T K fr S
def strings_Builder_String : PCodeFn :=
  ⟨1, [.tmp 2],
  (.seq (.region strings_Builder_String_r0) (.seq .bad .ret)), false⟩

def chunk_may_r0 : List POper := [Q 1 (.box true (V 0)),Q 2 (.mov ff')]
@[simp] theorem chunk_may_r0_go : type_of% (ops_go chunk_may_r0.eq_1 T K fr S) := ops_go chunk_may_r0.eq_1 T K fr S
def chunk_may_r1 : List POper := [FA 3 0 1,LD 4 3,Q 5 (.arith .leq (I 0) (V 4)),M 6 5,QG (some 7) (.faddr 0 (V 1)) 6 true,QG (some 8) (.load false 1 false (V 7)) 6 true,QG (some 9) (.arith .leq (V 8) (I 1099511627776)) 6 true,Q 10 (.pick (V 6) (V 9) ff'),M 11 10,QG (some 12) (.faddr 1 (V 1)) 11 true,QG (some 13) (.load false 1 false (V 12)) 11 true,QG (some 14) (.arith .leq (I (-1152921504606846976)) (V 13)) 11 true,Q 15 (.pick (V 11) (V 14) ff'),M 16 15,QG (some 17) (.faddr 1 (V 1)) 16 true,QG (some 18) (.load false 1 false (V 17)) 16 true,QG (some 19) (.arith .leq (V 18) (I 1152921504606846976)) 16 true,Q 20 (.pick (V 16) (V 19) ff'),M 2 20]
@[simp] theorem chunk_may_r1_go : type_of% (ops_go chunk_may_r1.eq_1 T K fr S) := ops_go chunk_may_r1.eq_1 T K fr S
def chunk_may : PCodeFn :=
  ⟨1, [.tmp 2],
  (.seq (.region chunk_may_r0) (.seq (.clr [(3, 21)] (.region chunk_may_r1)) .ret)), false⟩

def slices_siftDownCmpFunc_Series_r0 : List POper := [M 12 1,M 10 12]
@[simp] theorem slices_siftDownCmpFunc_Series_r0_go : type_of% (ops_go slices_siftDownCmpFunc_Series_r0.eq_1 T K fr S) := ops_go slices_siftDownCmpFunc_Series_r0.eq_1 T K fr S
def slices_siftDownCmpFunc_Series_r1 : List POper := [M 13 10,Q 14 (.arith .mul (I 2) (V 13)),Q 15 (.arith .add (V 14) (I 1)),M 11 15]
@[simp] theorem slices_siftDownCmpFunc_Series_r1_go : type_of% (ops_go slices_siftDownCmpFunc_Series_r1.eq_1 T K fr S) := ops_go slices_siftDownCmpFunc_Series_r1.eq_1 T K fr S
def slices_siftDownCmpFunc_Series_r2 : List POper := [M 16 11,M 17 2,Q 18 (.arith .geq (V 16) (V 17))]
@[simp] theorem slices_siftDownCmpFunc_Series_r2_go : type_of% (ops_go slices_siftDownCmpFunc_Series_r2.eq_1 T K fr S) := ops_go slices_siftDownCmpFunc_Series_r2.eq_1 T K fr S
def slices_siftDownCmpFunc_Series_r3 : List POper := [M 19 11,Q 20 (.arith .add (V 19) (I 1)),M 21 2,Q 22 (.arith .lss (V 20) (V 21)),M 23 22,QG (some 24) (.mov (V 4)) 23 true,QG (some 25) (.mov (V 0)) 23 true,QG (some 26) (.mov (V 3)) 23 true,QG (some 27) (.mov (V 11)) 23 true,QG (some 28) (.arith .add (V 26) (V 27)) 23 true,QG (some 29) (.iaddr 2 (V 25) (V 28)) 23 true,QG (some 30) (.load true 2 true (V 29)) 23 true,QG (some 31) (.mov (V 0)) 23 true,QG (some 32) (.mov (V 3)) 23 true,QG (some 33) (.mov (V 11)) 23 true,QG (some 34) (.arith .add (V 32) (V 33)) 23 true,QG (some 35) (.arith .add (V 34) (I 1)) 23 true,QG (some 36) (.iaddr 2 (V 31) (V 35)) 23 true,QG (some 37) (.load true 2 true (V 36)) 23 true,QG (some 38) (.callv .std (V 24) [(V 30), (V 37)]) 23 true,QG (some 39) (.arith .lss (V 38) (I 0)) 23 true,Q 40 (.pick (V 23) (V 39) ff')]
@[simp] theorem slices_siftDownCmpFunc_Series_r3_go : type_of% (ops_go slices_siftDownCmpFunc_Series_r3.eq_1 T K fr S) := ops_go slices_siftDownCmpFunc_Series_r3.eq_1 T K fr S
def slices_siftDownCmpFunc_Series_r4 : List POper := [M 41 11,Q 42 (.arith .add (V 41) (I 1)),M 11 42]
@[simp] theorem slices_siftDownCmpFunc_Series_r4_go : type_of% (ops_go slices_siftDownCmpFunc_Series_r4.eq_1 T K fr S) := ops_go slices_siftDownCmpFunc_Series_r4.eq_1 T K fr S
def slices_siftDownCmpFunc_Series_r5 : List POper := [M 43 4,M 44 0,M 45 3,M 46 10,Q 47 (.arith .add (V 45) (V 46)),Q 48 (.iaddr 2 (V 44) (V 47)),Q 49 (.load true 2 true (V 48)),M 50 0,M 51 3,M 52 11,Q 53 (.arith .add (V 51) (V 52)),Q 54 (.iaddr 2 (V 50) (V 53)),Q 55 (.load true 2 true (V 54)),Q 56 (.callv .std (V 43) [(V 49), (V 55)]),Q 57 (.arith .lss (V 56) (I 0)),Q 58 (.un .not (V 57))]
@[simp] theorem slices_siftDownCmpFunc_Series_r5_go : type_of% (ops_go slices_siftDownCmpFunc_Series_r5.eq_1 T K fr S) := ops_go slices_siftDownCmpFunc_Series_r5.eq_1 T K fr S
def slices_siftDownCmpFunc_Series_r6 : List POper := [M 59 0,M 60 3,M 61 10,Q 62 (.arith .add (V 60) (V 61)),M 63 0,M 64 3,M 65 11,Q 66 (.arith .add (V 64) (V 65)),M 67 0,M 68 3,M 69 11,Q 70 (.arith .add (V 68) (V 69)),Q 71 (.iaddr 2 (V 67) (V 70)),Q 72 (.load true 2 true (V 71)),M 73 0,M 74 3,M 75 10,Q 76 (.arith .add (V 74) (V 75)),Q 77 (.iaddr 2 (V 73) (V 76)),Q 78 (.load true 2 true (V 77)),Q 79 (.iaddr 2 (V 59) (V 62)),QN (.store 2 (V 79) (V 72)),Q 80 (.iaddr 2 (V 63) (V 66)),QN (.store 2 (V 80) (V 78))]
@[simp] theorem slices_siftDownCmpFunc_Series_r6_go : type_of% (ops_go slices_siftDownCmpFunc_Series_r6.eq_1 T K fr S) := ops_go slices_siftDownCmpFunc_Series_r6.eq_1 T K fr S
def slices_siftDownCmpFunc_Series_r7 : List POper := [M 81 11,M 10 81]
@[simp] theorem slices_siftDownCmpFunc_Series_r7_go : type_of% (ops_go slices_siftDownCmpFunc_Series_r7.eq_1 T K fr S) := ops_go slices_siftDownCmpFunc_Series_r7.eq_1 T K fr S
def slices_siftDownCmpFunc_Series_l0 : PCode :=
  (.block 1 (.seq (.clr [(13, 16)] (.region slices_siftDownCmpFunc_Series_r1)) (.seq (.seq (.clr [(16, 18)] (.region slices_siftDownCmpFunc_Series_r2)) (.cond (V 18) (.exit 0) .skip)) (.seq (.seq (.clr [(19, 40)] (.region slices_siftDownCmpFunc_Series_r3)) (.cond (V 40) (.clr [(41, 43)] (.region slices_siftDownCmpFunc_Series_r4)) .skip)) (.seq (.seq (.clr [(43, 58)] (.region slices_siftDownCmpFunc_Series_r5)) (.cond (V 58) .ret .skip)) (.seq (.clr [(59, 81)] (.region slices_siftDownCmpFunc_Series_r6)) (.clr [(81, 82)] (.region slices_siftDownCmpFunc_Series_r7))))))))
@[simp] theorem slices_siftDownCmpFunc_Series_l0_go : type_of% (code_go slices_siftDownCmpFunc_Series_l0.eq_1 T K fr S) := code_go slices_siftDownCmpFunc_Series_l0.eq_1 T K fr S
def slices_siftDownCmpFunc_Series : PCodeFn :=
  ⟨5, [],
  (.seq (.clr [(12, 13)] (.region slices_siftDownCmpFunc_Series_r0)) (.block 0 (.loop slices_siftDownCmpFunc_Series_l0))), false⟩

def slices_nextPowerOfTwo_r0 : List POper := [Q 2 (.mov (.cst (.int .u64 0)))]
@[simp] theorem slices_nextPowerOfTwo_r0_go : type_of% (ops_go slices_nextPowerOfTwo_r0.eq_1 T K fr S) := ops_go slices_nextPowerOfTwo_r0.eq_1 T K fr S
def slices_nextPowerOfTwo_r1 : List POper := [M 3 0,Q 4 (.toInt .u64 (V 3)),Q 5 (.call .pur 317 [(V 4)]),Q 6 (.arith .shl (.cst (.int .u64 1)) (V 5)),M 2 6]
@[simp] theorem slices_nextPowerOfTwo_r1_go : type_of% (ops_go slices_nextPowerOfTwo_r1.eq_1 T K fr S) := ops_go slices_nextPowerOfTwo_r1.eq_1 T K fr S
def slices_nextPowerOfTwo : PCodeFn :=
  ⟨1, [.tmp 2],
  (.seq (.region slices_nextPowerOfTwo_r0) (.seq (.clr [(3, 7)] (.region slices_nextPowerOfTwo_r1)) .ret)), false⟩

def slices_xorshift_Next_r0 : List POper := [Q 2 (.mov (.cst (.int .u64 0)))]
@[simp] theorem slices_xorshift_Next_r0_go : type_of% (ops_go slices_xorshift_Next_r0.eq_1 T K fr S) := ops_go slices_xorshift_Next_r0.eq_1 T K fr S
def slices_xorshift_Next_r1 : List POper := [M 3 0,NK' 4 3,LD 5 4,M 6 0,NK' 7 6,LD 8 7,Q 9 (.arith .shl (V 8) (.cst (.int .u64 13))),Q 10 (.arith .xor (V 5) (V 9)),NK' 11 3,QN (.store 1 (V 11) (V 10))]
@[simp] theorem slices_xorshift_Next_r1_go : type_of% (ops_go slices_xorshift_Next_r1.eq_1 T K fr S) := ops_go slices_xorshift_Next_r1.eq_1 T K fr S
def slices_xorshift_Next_r2 : List POper := [M 12 0,NK' 13 12,LD 14 13,M 15 0,NK' 16 15,LD 17 16,Q 18 (.arith .shr (V 17) (.cst (.int .u64 7))),Q 19 (.arith .xor (V 14) (V 18)),NK' 20 12,QN (.store 1 (V 20) (V 19))]
@[simp] theorem slices_xorshift_Next_r2_go : type_of% (ops_go slices_xorshift_Next_r2.eq_1 T K fr S) := ops_go slices_xorshift_Next_r2.eq_1 T K fr S
def slices_xorshift_Next_r3 : List POper := [M 21 0,NK' 22 21,LD 23 22,M 24 0,NK' 25 24,LD 26 25,Q 27 (.arith .shl (V 26) (.cst (.int .u64 17))),Q 28 (.arith .xor (V 23) (V 27)),NK' 29 21,QN (.store 1 (V 29) (V 28))]
@[simp] theorem slices_xorshift_Next_r3_go : type_of% (ops_go slices_xorshift_Next_r3.eq_1 T K fr S) := ops_go slices_xorshift_Next_r3.eq_1 T K fr S
def slices_xorshift_Next_r4 : List POper := [M 30 0,NK' 31 30,LD 32 31,M 2 32]
@[simp] theorem slices_xorshift_Next_r4_go : type_of% (ops_go slices_xorshift_Next_r4.eq_1 T K fr S) := ops_go slices_xorshift_Next_r4.eq_1 T K fr S
def slices_xorshift_Next : PCodeFn :=
  ⟨1, [.tmp 2],
  (.seq (.region slices_xorshift_Next_r0) (.seq (.clr [(3, 12)] (.region slices_xorshift_Next_r1)) (.seq (.clr [(12, 21)] (.region slices_xorshift_Next_r2)) (.seq (.clr [(21, 30)] (.region slices_xorshift_Next_r3)) (.seq (.clr [(30, 33)] (.region slices_xorshift_Next_r4)) .ret))))), false⟩

def slices_medianAdjacentCmpFunc_Series_r0 : List POper := [Q 8 (.mov (I 0))]
@[simp] theorem slices_medianAdjacentCmpFunc_Series_r0_go : type_of% (ops_go slices_medianAdjacentCmpFunc_Series_r0.eq_1 T K fr S) := ops_go slices_medianAdjacentCmpFunc_Series_r0.eq_1 T K fr S
def slices_medianAdjacentCmpFunc_Series_r1 : List POper := [M 9 0,M 10 1,Q 11 (.arith .sub (V 10) (I 1)),M 12 1,M 13 1,Q 14 (.arith .add (V 13) (I 1)),M 15 2,M 16 3,Q 17 (.call .std 409 [(V 9), (V 11), (V 12), (V 14), (V 15), (V 16)]),M 8 17]
@[simp] theorem slices_medianAdjacentCmpFunc_Series_r1_go : type_of% (ops_go slices_medianAdjacentCmpFunc_Series_r1.eq_1 T K fr S) := ops_go slices_medianAdjacentCmpFunc_Series_r1.eq_1 T K fr S
def slices_medianAdjacentCmpFunc_Series : PCodeFn :=
  ⟨4, [.tmp 8],
  (.seq (.region slices_medianAdjacentCmpFunc_Series_r0) (.seq (.clr [(9, 18)] (.region slices_medianAdjacentCmpFunc_Series_r1)) .ret)), false⟩

def slices_medianCmpFunc_Series_r0 : List POper := [Q 12 (.mov (I 0))]
@[simp] theorem slices_medianCmpFunc_Series_r0_go : type_of% (ops_go slices_medianCmpFunc_Series_r0.eq_1 T K fr S) := ops_go slices_medianCmpFunc_Series_r0.eq_1 T K fr S
def slices_medianCmpFunc_Series_r1 : List POper := [M 14 0,M 15 1,M 16 2,M 17 4,M 18 5,Q 19 (.call .std 416 [(V 14), (V 15), (V 16), (V 17), (V 18)]),M 13 19,EX 20 0 13,EX 21 1 13,M 1 20,M 2 21]
@[simp] theorem slices_medianCmpFunc_Series_r1_go : type_of% (ops_go slices_medianCmpFunc_Series_r1.eq_1 T K fr S) := ops_go slices_medianCmpFunc_Series_r1.eq_1 T K fr S
def slices_medianCmpFunc_Series_r2 : List POper := [M 23 0,M 24 2,M 25 3,M 26 4,M 27 5,Q 28 (.call .std 416 [(V 23), (V 24), (V 25), (V 26), (V 27)]),M 22 28,EX 29 0 22,EX 30 1 22,M 2 29,M 3 30]
@[simp] theorem slices_medianCmpFunc_Series_r2_go : type_of% (ops_go slices_medianCmpFunc_Series_r2.eq_1 T K fr S) := ops_go slices_medianCmpFunc_Series_r2.eq_1 T K fr S
def slices_medianCmpFunc_Series_r3 : List POper := [M 32 0,M 33 1,M 34 2,M 35 4,M 36 5,Q 37 (.call .std 416 [(V 32), (V 33), (V 34), (V 35), (V 36)]),M 31 37,EX 38 0 31,EX 39 1 31,M 1 38,M 2 39]
@[simp] theorem slices_medianCmpFunc_Series_r3_go : type_of% (ops_go slices_medianCmpFunc_Series_r3.eq_1 T K fr S) := ops_go slices_medianCmpFunc_Series_r3.eq_1 T K fr S
def slices_medianCmpFunc_Series_r4 : List POper := [M 40 2,M 12 40]
@[simp] theorem slices_medianCmpFunc_Series_r4_go : type_of% (ops_go slices_medianCmpFunc_Series_r4.eq_1 T K fr S) := ops_go slices_medianCmpFunc_Series_r4.eq_1 T K fr S
def slices_medianCmpFunc_Series : PCodeFn :=
  ⟨6, [.tmp 12],
  (.seq (.region slices_medianCmpFunc_Series_r0) (.seq (.clr [(13, 22)] (.region slices_medianCmpFunc_Series_r1)) (.seq (.clr [(22, 31)] (.region slices_medianCmpFunc_Series_r2)) (.seq (.clr [(31, 40)] (.region slices_medianCmpFunc_Series_r3)) (.seq (.clr [(40, 41)] (.region slices_medianCmpFunc_Series_r4)) .ret))))), false⟩

def strings_Builder_copyCheck_r0 : List POper := [M 2 0,NK' 3 2,FA 4 0 3,LD 5 4,Q 6 (.eqn false .p (V 5))]
@[simp] theorem strings_Builder_copyCheck_r0_go : type_of% (ops_go strings_Builder_copyCheck_r0.eq_1 T K fr S) := ops_go strings_Builder_copyCheck_r0.eq_1 T K fr S
def strings_Builder_copyCheck : PCodeFn :=
  ⟨1, [],
  (.seq (.clr [(2, 6)] (.region strings_Builder_copyCheck_r0)) (.cond (V 6) .bad (.seq .bad (.cond (V 19) .bad .skip)))), false⟩

def strings_Builder_grow_r2 : List POper := [M 26 0,M 27 4,NK' 28 26,FA 29 1 28,QN (.store 1 (V 29) (V 27))]
@[simp] theorem strings_Builder_grow_r2_go : type_of% (ops_go strings_Builder_grow_r2.eq_1 T K fr S) := ops_go strings_Builder_grow_r2.eq_1 T K fr S
def strings_Builder_grow : PCodeFn :=
  ⟨2, [],
  (.seq .bad (.seq .bad (.clr [(26, 30)] (.region strings_Builder_grow_r2)))), false⟩

def slices_order2CmpFunc_Series_r0 : List POper := [Q 10 (.mov (I 0)),Q 11 (.mov (I 0))]
@[simp] theorem slices_order2CmpFunc_Series_r0_go : type_of% (ops_go slices_order2CmpFunc_Series_r0.eq_1 T K fr S) := ops_go slices_order2CmpFunc_Series_r0.eq_1 T K fr S
def slices_order2CmpFunc_Series_r1 : List POper := [M 12 4,M 13 0,M 14 2,Q 15 (.iaddr 2 (V 13) (V 14)),Q 16 (.load true 2 true (V 15)),M 17 0,M 18 1,Q 19 (.iaddr 2 (V 17) (V 18)),Q 20 (.load true 2 true (V 19)),Q 21 (.callv .std (V 12) [(V 16), (V 20)]),Q 22 (.arith .lss (V 21) (I 0))]
@[simp] theorem slices_order2CmpFunc_Series_r1_go : type_of% (ops_go slices_order2CmpFunc_Series_r1.eq_1 T K fr S) := ops_go slices_order2CmpFunc_Series_r1.eq_1 T K fr S
def slices_order2CmpFunc_Series_r2 : List POper := [M 23 3,NK' 24 23,LD 25 24,Q 26 (.arith .add (V 25) (I 1)),NK' 27 23,QN (.store 1 (V 27) (V 26))]
@[simp] theorem slices_order2CmpFunc_Series_r2_go : type_of% (ops_go slices_order2CmpFunc_Series_r2.eq_1 T K fr S) := ops_go slices_order2CmpFunc_Series_r2.eq_1 T K fr S
def slices_order2CmpFunc_Series_r3 : List POper := [M 28 2,M 29 1,M 10 28,M 11 29]
@[simp] theorem slices_order2CmpFunc_Series_r3_go : type_of% (ops_go slices_order2CmpFunc_Series_r3.eq_1 T K fr S) := ops_go slices_order2CmpFunc_Series_r3.eq_1 T K fr S
def slices_order2CmpFunc_Series_r4 : List POper := [M 30 1,M 31 2,M 10 30,M 11 31]
@[simp] theorem slices_order2CmpFunc_Series_r4_go : type_of% (ops_go slices_order2CmpFunc_Series_r4.eq_1 T K fr S) := ops_go slices_order2CmpFunc_Series_r4.eq_1 T K fr S
def slices_order2CmpFunc_Series : PCodeFn :=
  ⟨5, [.tmp 10, .tmp 11],
  (.seq (.region slices_order2CmpFunc_Series_r0) (.seq (.seq (.clr [(12, 22)] (.region slices_order2CmpFunc_Series_r1)) (.cond (V 22) (.seq (.clr [(23, 28)] (.region slices_order2CmpFunc_Series_r2)) (.seq (.clr [(28, 30)] (.region slices_order2CmpFunc_Series_r3)) .ret)) .skip)) (.seq (.clr [(30, 32)] (.region slices_order2CmpFunc_Series_r4)) .ret))), false⟩


end Ps
