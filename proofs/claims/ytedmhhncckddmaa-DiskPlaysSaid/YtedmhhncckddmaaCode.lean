/- The functions' code, as the pure semantics has it: printed by program. -/
import Derived.Test.YtedmhhncckddmaaCodeA
namespace Ps
open Go
set_option maxRecDepth 10000
variable (T : Tbl) (K : List Kt) (fr : Fr) (S : St)

def ref04_Change_r0 : List POper := [Q 5 (.box false (V 0)),Q 10 (.alloc false [(.int .i64 0), .nils, .nils, .nils, (.int .i64 0), (.bool false), (.int .i64 0)]),Q 11 (.mov (I 0))]
@[simp] theorem ref04_Change_r0_go : type_of% (ops_go ref04_Change_r0.eq_1 T K fr S) := ops_go ref04_Change_r0.eq_1 T K fr S
def ref04_Change_r1 : List POper := [M 19 1,Q 20 (.arith .neq (V 19) (I 6)),M 21 20,QG (some 22) (.mov (V 2)) 21 true,QG (some 23) (.call .pur 203 [(V 22)]) 21 true,QG (some 24) (.un .not (V 23)) 21 true,Q 25 (.pick (V 21) (V 24) ff'),M 26 25,QG (some 27) (.mov (V 1)) 26 false,QG (some 28) (.arith .eql (V 27) (I 3)) 26 false,QG (some 29) (.mov (V 28)) 26 false,QG (some 30) (.mov (V 3)) 29 true,QG (some 31) (.call .pur 203 [(V 30)]) 29 true,QG (some 32) (.un .not (V 31)) 29 true,QG (some 33) (.pick (V 29) (V 32) ff') 26 false,Q 34 (.pick (V 26) tt' (V 33))]
@[simp] theorem ref04_Change_r1_go : type_of% (ops_go ref04_Change_r1.eq_1 T K fr S) := ops_go ref04_Change_r1.eq_1 T K fr S
def ref04_Change_r2 : List POper := [Q 35 (.load true 7 false (V 5)),QN (.store 7 (V 10) (V 35)),Q 11 (.mov (I 8))]
@[simp] theorem ref04_Change_r2_go : type_of% (ops_go ref04_Change_r2.eq_1 T K fr S) := ops_go ref04_Change_r2.eq_1 T K fr S
def ref04_Change_r3 : List POper := [Q 36 (.load true 7 false (V 5)),Q 37 (.call .std 204 [(V 36)]),M 12 37]
@[simp] theorem ref04_Change_r3_go : type_of% (ops_go ref04_Change_r3.eq_1 T K fr S) := ops_go ref04_Change_r3.eq_1 T K fr S
def ref04_Change_r4 : List POper := [M 38 12,M 39 2,Q 40 (.call .std 205 [(V 38), (V 39)]),M 13 40]
@[simp] theorem ref04_Change_r4_go : type_of% (ops_go ref04_Change_r4.eq_1 T K fr S) := ops_go ref04_Change_r4.eq_1 T K fr S
def ref04_Change_r5 : List POper := [M 41 1,Q 42 (.arith .eql (V 41) (I 1)),M 43 42,QG (some 44) (.mov (V 13)) 43 true,QG (some 45) (.arith .geq (V 44) (I 0)) 43 true,Q 46 (.pick (V 43) (V 45) ff')]
@[simp] theorem ref04_Change_r5_go : type_of% (ops_go ref04_Change_r5.eq_1 T K fr S) := ops_go ref04_Change_r5.eq_1 T K fr S
def ref04_Change_r6 : List POper := [Q 47 (.load true 7 false (V 5)),QN (.store 7 (V 10) (V 47)),Q 11 (.mov (I 10))]
@[simp] theorem ref04_Change_r6_go : type_of% (ops_go ref04_Change_r6.eq_1 T K fr S) := ops_go ref04_Change_r6.eq_1 T K fr S
def ref04_Change_r7 : List POper := [M 48 1,Q 49 (.arith .eql (V 48) (I 1)),M 50 49,QG (some 51) (.mov (V 12)) 50 true,QG (some 52) (.len false (V 51)) 50 true,QG (some 53) (.arith .geq (V 52) (I 64)) 50 true,Q 54 (.pick (V 50) (V 53) ff')]
@[simp] theorem ref04_Change_r7_go : type_of% (ops_go ref04_Change_r7.eq_1 T K fr S) := ops_go ref04_Change_r7.eq_1 T K fr S
def ref04_Change_r8 : List POper := [Q 55 (.load true 7 false (V 5)),QN (.store 7 (V 10) (V 55)),Q 11 (.mov (I 7))]
@[simp] theorem ref04_Change_r8_go : type_of% (ops_go ref04_Change_r8.eq_1 T K fr S) := ops_go ref04_Change_r8.eq_1 T K fr S
def ref04_Change_r9 : List POper := [M 56 1,Q 57 (.arith .gtr (V 56) (I 1)),M 58 57,QG (some 59) (.mov (V 1)) 58 true,QG (some 60) (.arith .lss (V 59) (I 6)) 58 true,Q 61 (.pick (V 58) (V 60) ff'),M 62 61,QG (some 63) (.mov (V 13)) 62 true,QG (some 64) (.arith .lss (V 63) (I 0)) 62 true,Q 65 (.pick (V 62) (V 64) ff')]
@[simp] theorem ref04_Change_r9_go : type_of% (ops_go ref04_Change_r9.eq_1 T K fr S) := ops_go ref04_Change_r9.eq_1 T K fr S
def ref04_Change_r10 : List POper := [Q 66 (.load true 7 false (V 5)),QN (.store 7 (V 10) (V 66)),Q 11 (.mov (I 9))]
@[simp] theorem ref04_Change_r10_go : type_of% (ops_go ref04_Change_r10.eq_1 T K fr S) := ops_go ref04_Change_r10.eq_1 T K fr S
def ref04_Change_r11 : List POper := [Q 14 (.mov (I 0))]
@[simp] theorem ref04_Change_r11_go : type_of% (ops_go ref04_Change_r11.eq_1 T K fr S) := ops_go ref04_Change_r11.eq_1 T K fr S
def ref04_Change_r12 : List POper := [Q 15 (.mov (I 0))]
@[simp] theorem ref04_Change_r12_go : type_of% (ops_go ref04_Change_r12.eq_1 T K fr S) := ops_go ref04_Change_r12.eq_1 T K fr S
def ref04_Change_r13 : List POper := [M 67 15,M 68 12,Q 69 (.len false (V 68)),Q 70 (.arith .lss (V 67) (V 69))]
@[simp] theorem ref04_Change_r13_go : type_of% (ops_go ref04_Change_r13.eq_1 T K fr S) := ops_go ref04_Change_r13.eq_1 T K fr S
def ref04_Change_r15 : List POper := [M 73 14,FA 74 1 5,LD 75 74,M 76 12,M 77 15,Q 78 (.iaddr 2 (V 76) (V 77)),FA 79 1 78,LD 80 79,Q 81 (.iaddr 2 (V 75) (V 80)),FA 82 0 81,LD 83 82,Q 84 (.len false (V 83)),Q 85 (.arith .add (V 73) (V 84)),M 14 85]
@[simp] theorem ref04_Change_r15_go : type_of% (ops_go ref04_Change_r15.eq_1 T K fr S) := ops_go ref04_Change_r15.eq_1 T K fr S
def ref04_Change_r14 : List POper := [M 71 15,Q 72 (.arith .add (V 71) (I 1)),M 15 72]
@[simp] theorem ref04_Change_r14_go : type_of% (ops_go ref04_Change_r14.eq_1 T K fr S) := ops_go ref04_Change_r14.eq_1 T K fr S
def ref04_Change_l0 : PCode :=
  (.seq (.seq (.clr [(67, 70)] (.region ref04_Change_r13)) (.cond (V 70) .skip (.exit 0))) (.seq (.block 1 (.clr [(73, 86)] (.region ref04_Change_r15))) (.clr [(71, 73)] (.region ref04_Change_r14))))
@[simp] theorem ref04_Change_l0_go : type_of% (code_go ref04_Change_l0.eq_1 T K fr S) := code_go ref04_Change_l0.eq_1 T K fr S
def ref04_Change_r16 : List POper := [M 86 1,Q 87 (.arith .eql (V 86) (I 2)),M 88 87,QG (some 89) (.mov (V 4)) 88 true,QG (some 90) (.len false (V 89)) 88 true,QG (some 91) (.faddr 0 (V 5)) 88 true,QG (some 92) (.load false 1 false (V 91)) 88 true,QG (some 93) (.mov (V 14)) 88 true,QG (some 94) (.arith .sub (V 92) (V 93)) 88 true,QG (some 95) (.arith .gtr (V 90) (V 94)) 88 true,Q 96 (.pick (V 88) (V 95) ff')]
@[simp] theorem ref04_Change_r16_go : type_of% (ops_go ref04_Change_r16.eq_1 T K fr S) := ops_go ref04_Change_r16.eq_1 T K fr S
def ref04_Change_r17 : List POper := [Q 97 (.load true 7 false (V 5)),QN (.store 7 (V 10) (V 97)),Q 11 (.mov (I 7))]
@[simp] theorem ref04_Change_r17_go : type_of% (ops_go ref04_Change_r17.eq_1 T K fr S) := ops_go ref04_Change_r17.eq_1 T K fr S
def ref04_Change_r18 : List POper := [Q 99 (.load true 7 false (V 5)),Q 100 (.call .std 206 [(V 99)]),M 98 100,EX 101 0 98,EX 102 1 98,QN (.store 7 (V 5) (V 101)),M 16 102]
@[simp] theorem ref04_Change_r18_go : type_of% (ops_go ref04_Change_r18.eq_1 T K fr S) := ops_go ref04_Change_r18.eq_1 T K fr S
def ref04_Change_r19 : List POper := [M 103 16,Q 104 (.arith .neq (V 103) (I 0))]
@[simp] theorem ref04_Change_r19_go : type_of% (ops_go ref04_Change_r19.eq_1 T K fr S) := ops_go ref04_Change_r19.eq_1 T K fr S
def ref04_Change_r20 : List POper := [Q 105 (.load true 7 false (V 5)),M 106 16,QN (.store 7 (V 10) (V 105)),M 11 106]
@[simp] theorem ref04_Change_r20_go : type_of% (ops_go ref04_Change_r20.eq_1 T K fr S) := ops_go ref04_Change_r20.eq_1 T K fr S
def ref04_Change_r21 : List POper := [Q 107 (.emp0),FA 108 1 5,LD 109 108,Q 110 (.gapp 2 32 (V 107) (V 109)),M 17 110]
@[simp] theorem ref04_Change_r21_go : type_of% (ops_go ref04_Change_r21.eq_1 T K fr S) := ops_go ref04_Change_r21.eq_1 T K fr S
def ref04_Change_r22 : List POper := [Q 111 (.emp0),FA 112 3 5,LD 113 112,Q 114 (.gapp 4 48 (V 111) (V 113)),M 18 114]
@[simp] theorem ref04_Change_r22_go : type_of% (ops_go ref04_Change_r22.eq_1 T K fr S) := ops_go ref04_Change_r22.eq_1 T K fr S
def ref04_Change_r23 : List POper := [M 115 1]
@[simp] theorem ref04_Change_r23_go : type_of% (ops_go ref04_Change_r23.eq_1 T K fr S) := ops_go ref04_Change_r23.eq_1 T K fr S
def ref04_Change_r24 : List POper := [Q 117 (.arith .eql (V 115) (I 1)),M 116 117]
@[simp] theorem ref04_Change_r24_go : type_of% (ops_go ref04_Change_r24.eq_1 T K fr S) := ops_go ref04_Change_r24.eq_1 T K fr S
def ref04_Change_r25 : List POper := [M 118 18,M 119 2,M 120 17,Q 121 (.len false (V 120)),Q 122 (.build [(.int .i64 0), (.str []), (.str []), (.int .i64 0)] [(0, 1, (I 1)), (1, 1, (V 119)), (3, 1, (V 121))]),Q 123 (.bsl false (.agg [(.int .i64 0), (.str []), (.str []), (.int .i64 0)]) 1 [(0, (V 122))]),Q 124 (.gapp 4 48 (V 118) (V 123)),M 18 124]
@[simp] theorem ref04_Change_r25_go : type_of% (ops_go ref04_Change_r25.eq_1 T K fr S) := ops_go ref04_Change_r25.eq_1 T K fr S
def ref04_Change_r26 : List POper := [M 125 17,Q 126 (.build [.nils, (.int .i64 0)] []),Q 127 (.bsl false (.agg [.nils, (.int .i64 0)]) 1 [(0, (V 126))]),Q 128 (.gapp 2 32 (V 125) (V 127)),M 17 128]
@[simp] theorem ref04_Change_r26_go : type_of% (ops_go ref04_Change_r26.eq_1 T K fr S) := ops_go ref04_Change_r26.eq_1 T K fr S
def ref04_Change_r27 : List POper := [Q 130 (.arith .eql (V 115) (I 2)),M 129 130]
@[simp] theorem ref04_Change_r27_go : type_of% (ops_go ref04_Change_r27.eq_1 T K fr S) := ops_go ref04_Change_r27.eq_1 T K fr S
def ref04_Change_r28 : List POper := [M 131 17,M 132 13,Q 133 (.emp0),M 134 17,M 135 13,Q 136 (.iaddr 2 (V 134) (V 135)),FA 137 0 136,LD 138 137,Q 139 (.gapp 1 1 (V 133) (V 138)),M 140 4,Q 141 (.gapp 1 1 (V 139) (V 140)),Q 142 (.iaddr 2 (V 131) (V 132)),FA 143 0 142,QN (.store 1 (V 143) (V 141))]
@[simp] theorem ref04_Change_r28_go : type_of% (ops_go ref04_Change_r28.eq_1 T K fr S) := ops_go ref04_Change_r28.eq_1 T K fr S
def ref04_Change_r29 : List POper := [Q 145 (.arith .eql (V 115) (I 3)),M 144 145]
@[simp] theorem ref04_Change_r29_go : type_of% (ops_go ref04_Change_r29.eq_1 T K fr S) := ops_go ref04_Change_r29.eq_1 T K fr S
def ref04_Change_r30 : List POper := [M 146 18,M 147 2,M 148 3,Q 149 (.build [(.int .i64 0), (.str []), (.str []), (.int .i64 0)] [(0, 1, (I 2)), (1, 1, (V 147)), (2, 1, (V 148))]),Q 150 (.bsl false (.agg [(.int .i64 0), (.str []), (.str []), (.int .i64 0)]) 1 [(0, (V 149))]),Q 151 (.gapp 4 48 (V 146) (V 150)),M 18 151]
@[simp] theorem ref04_Change_r30_go : type_of% (ops_go ref04_Change_r30.eq_1 T K fr S) := ops_go ref04_Change_r30.eq_1 T K fr S
def ref04_Change_r31 : List POper := [Q 153 (.arith .eql (V 115) (I 4)),M 152 153]
@[simp] theorem ref04_Change_r31_go : type_of% (ops_go ref04_Change_r31.eq_1 T K fr S) := ops_go ref04_Change_r31.eq_1 T K fr S
def ref04_Change_r32 : List POper := [M 154 18,M 155 2,Q 156 (.build [(.int .i64 0), (.str []), (.str []), (.int .i64 0)] [(0, 1, (I 3)), (1, 1, (V 155))]),Q 157 (.bsl false (.agg [(.int .i64 0), (.str []), (.str []), (.int .i64 0)]) 1 [(0, (V 156))]),Q 158 (.gapp 4 48 (V 154) (V 157)),M 18 158]
@[simp] theorem ref04_Change_r32_go : type_of% (ops_go ref04_Change_r32.eq_1 T K fr S) := ops_go ref04_Change_r32.eq_1 T K fr S
def ref04_Change_r33 : List POper := [Q 160 (.arith .eql (V 115) (I 5)),M 159 160]
@[simp] theorem ref04_Change_r33_go : type_of% (ops_go ref04_Change_r33.eq_1 T K fr S) := ops_go ref04_Change_r33.eq_1 T K fr S
def ref04_Change_r34 : List POper := [M 161 17,M 162 13,M 163 17,M 164 13,Q 165 (.iaddr 2 (V 163) (V 164)),FA 166 0 165,LD 167 166,Q 168 (.len false (V 167)),Q 169 (.iaddr 2 (V 161) (V 162)),FA 170 1 169,QN (.store 1 (V 170) (V 168))]
@[simp] theorem ref04_Change_r34_go : type_of% (ops_go ref04_Change_r34.eq_1 T K fr S) := ops_go ref04_Change_r34.eq_1 T K fr S
def ref04_Change_r35 : List POper := [Q 172 (.arith .eql (V 115) (I 6)),M 171 172]
@[simp] theorem ref04_Change_r35_go : type_of% (ops_go ref04_Change_r35.eq_1 T K fr S) := ops_go ref04_Change_r35.eq_1 T K fr S
def ref04_Change_r36 : List POper := [M 173 12,FA 174 2 5,QN (.store 1 (V 174) (V 173))]
@[simp] theorem ref04_Change_r36_go : type_of% (ops_go ref04_Change_r36.eq_1 T K fr S) := ops_go ref04_Change_r36.eq_1 T K fr S
def ref04_Change_r37 : List POper := [Q 18 (.mov (.cst .nils))]
@[simp] theorem ref04_Change_r37_go : type_of% (ops_go ref04_Change_r37.eq_1 T K fr S) := ops_go ref04_Change_r37.eq_1 T K fr S
def ref04_Change_r38 : List POper := [M 175 17,M 176 18,FA 177 1 5,QN (.store 1 (V 177) (V 175)),FA 178 3 5,QN (.store 1 (V 178) (V 176))]
@[simp] theorem ref04_Change_r38_go : type_of% (ops_go ref04_Change_r38.eq_1 T K fr S) := ops_go ref04_Change_r38.eq_1 T K fr S
def ref04_Change_r39 : List POper := [Q 179 (.load true 7 false (V 5)),QN (.store 7 (V 10) (V 179)),Q 11 (.mov (I 0))]
@[simp] theorem ref04_Change_r39_go : type_of% (ops_go ref04_Change_r39.eq_1 T K fr S) := ops_go ref04_Change_r39.eq_1 T K fr S
def ref04_Change : PCodeFn :=
  ⟨5, [.cell 10 true 7, .tmp 11],
  (.seq (.region ref04_Change_r0) (.seq (.seq (.clr [(19, 34)] (.region ref04_Change_r1)) (.cond (V 34) (.seq (.clr [(35, 36)] (.region ref04_Change_r2)) .ret) .skip)) (.seq (.clr [(36, 38)] (.region ref04_Change_r3)) (.seq (.clr [(38, 41)] (.region ref04_Change_r4)) (.seq (.seq (.clr [(41, 46)] (.region ref04_Change_r5)) (.cond (V 46) (.seq (.clr [(47, 48)] (.region ref04_Change_r6)) .ret) .skip)) (.seq (.seq (.clr [(48, 54)] (.region ref04_Change_r7)) (.cond (V 54) (.seq (.clr [(55, 56)] (.region ref04_Change_r8)) .ret) .skip)) (.seq (.seq (.clr [(56, 65)] (.region ref04_Change_r9)) (.cond (V 65) (.seq (.clr [(66, 67)] (.region ref04_Change_r10)) .ret) .skip)) (.seq (.region ref04_Change_r11) (.seq (.seq (.region ref04_Change_r12) (.block 0 (.loop ref04_Change_l0))) (.seq (.seq (.clr [(86, 96)] (.region ref04_Change_r16)) (.cond (V 96) (.seq (.clr [(97, 98)] (.region ref04_Change_r17)) .ret) .skip)) (.seq (.clr [(98, 103)] (.region ref04_Change_r18)) (.seq (.seq (.clr [(103, 104)] (.region ref04_Change_r19)) (.cond (V 104) (.seq (.clr [(105, 107)] (.region ref04_Change_r20)) .ret) .skip)) (.seq (.clr [(107, 111)] (.region ref04_Change_r21)) (.seq (.clr [(111, 115)] (.region ref04_Change_r22)) (.seq (.seq (.region ref04_Change_r23) (.block 2 (.seq (.clr [(117, 118)] (.region ref04_Change_r24)) (.cond (V 116) (.seq (.clr [(118, 125)] (.region ref04_Change_r25)) (.clr [(125, 129)] (.region ref04_Change_r26))) (.seq (.clr [(130, 131)] (.region ref04_Change_r27)) (.cond (V 129) (.clr [(131, 144)] (.region ref04_Change_r28)) (.seq (.clr [(145, 146)] (.region ref04_Change_r29)) (.cond (V 144) (.clr [(146, 152)] (.region ref04_Change_r30)) (.seq (.clr [(153, 154)] (.region ref04_Change_r31)) (.cond (V 152) (.clr [(154, 159)] (.region ref04_Change_r32)) (.seq (.clr [(160, 161)] (.region ref04_Change_r33)) (.cond (V 159) (.clr [(161, 171)] (.region ref04_Change_r34)) (.seq (.clr [(172, 173)] (.region ref04_Change_r35)) (.cond (V 171) (.seq (.clr [(173, 175)] (.region ref04_Change_r36)) (.region ref04_Change_r37)) .skip)))))))))))))) (.seq (.clr [(175, 179)] (.region ref04_Change_r38)) (.seq (.clr [(179, 180)] (.region ref04_Change_r39)) .ret))))))))))))))))), false⟩

def ref04_Read_r0 : List POper := [Q 2 (.box true (V 0)),Q 4 (.mov (.cst .nils)),Q 5 (.mov (I 0))]
@[simp] theorem ref04_Read_r0_go : type_of% (ops_go ref04_Read_r0.eq_1 T K fr S) := ops_go ref04_Read_r0.eq_1 T K fr S
def ref04_Read_r1 : List POper := [M 7 1,Q 8 (.call .pur 203 [(V 7)]),Q 9 (.un .not (V 8))]
@[simp] theorem ref04_Read_r1_go : type_of% (ops_go ref04_Read_r1.eq_1 T K fr S) := ops_go ref04_Read_r1.eq_1 T K fr S
def ref04_Read_r2 : List POper := [Q 4 (.mov (.cst .nils)),Q 5 (.mov (I 8))]
@[simp] theorem ref04_Read_r2_go : type_of% (ops_go ref04_Read_r2.eq_1 T K fr S) := ops_go ref04_Read_r2.eq_1 T K fr S
def ref04_Read_r3 : List POper := [Q 10 (.load true 7 false (V 2)),Q 11 (.call .std 204 [(V 10)]),M 12 1,Q 13 (.call .std 205 [(V 11), (V 12)]),M 6 13]
@[simp] theorem ref04_Read_r3_go : type_of% (ops_go ref04_Read_r3.eq_1 T K fr S) := ops_go ref04_Read_r3.eq_1 T K fr S
def ref04_Read_r4 : List POper := [M 14 6,Q 15 (.arith .lss (V 14) (I 0))]
@[simp] theorem ref04_Read_r4_go : type_of% (ops_go ref04_Read_r4.eq_1 T K fr S) := ops_go ref04_Read_r4.eq_1 T K fr S
def ref04_Read_r5 : List POper := [Q 4 (.mov (.cst .nils)),Q 5 (.mov (I 9))]
@[simp] theorem ref04_Read_r5_go : type_of% (ops_go ref04_Read_r5.eq_1 T K fr S) := ops_go ref04_Read_r5.eq_1 T K fr S
def ref04_Read_r6 : List POper := [FA 16 5 2,LD 17 16]
@[simp] theorem ref04_Read_r6_go : type_of% (ops_go ref04_Read_r6.eq_1 T K fr S) := ops_go ref04_Read_r6.eq_1 T K fr S
def ref04_Read_r7 : List POper := [Q 4 (.mov (.cst .nils)),Q 5 (.mov (I 6))]
@[simp] theorem ref04_Read_r7_go : type_of% (ops_go ref04_Read_r7.eq_1 T K fr S) := ops_go ref04_Read_r7.eq_1 T K fr S
def ref04_Read_r8 : List POper := [FA 18 1 2,LD 19 18,M 20 6,Q 21 (.iaddr 2 (V 19) (V 20)),FA 22 0 21,LD 23 22,M 4 23,Q 5 (.mov (I 0))]
@[simp] theorem ref04_Read_r8_go : type_of% (ops_go ref04_Read_r8.eq_1 T K fr S) := ops_go ref04_Read_r8.eq_1 T K fr S
def ref04_Read : PCodeFn :=
  ⟨2, [.tmp 4, .tmp 5],
  (.seq (.region ref04_Read_r0) (.seq (.seq (.clr [(7, 9)] (.region ref04_Read_r1)) (.cond (V 9) (.seq (.region ref04_Read_r2) .ret) .skip)) (.seq (.clr [(10, 14)] (.region ref04_Read_r3)) (.seq (.seq (.clr [(14, 15)] (.region ref04_Read_r4)) (.cond (V 15) (.seq (.region ref04_Read_r5) .ret) .skip)) (.seq (.seq (.clr [(16, 17)] (.region ref04_Read_r6)) (.cond (V 17) (.seq (.region ref04_Read_r7) .ret) .skip)) (.seq (.clr [(18, 24)] (.region ref04_Read_r8)) .ret)))))), false⟩

def ref04_Fuse_r0 : List POper := [Q 2 (.box false (V 0)),Q 4 (.alloc false [(.int .i64 0), .nils, .nils, .nils, (.int .i64 0), (.bool false), (.int .i64 0)])]
@[simp] theorem ref04_Fuse_r0_go : type_of% (ops_go ref04_Fuse_r0.eq_1 T K fr S) := ops_go ref04_Fuse_r0.eq_1 T K fr S
def ref04_Fuse_r1 : List POper := [M 5 1,Q 6 (.mnmx true (V 5) (I (-1))),FA 7 4 2,QN (.store 1 (V 7) (V 6))]
@[simp] theorem ref04_Fuse_r1_go : type_of% (ops_go ref04_Fuse_r1.eq_1 T K fr S) := ops_go ref04_Fuse_r1.eq_1 T K fr S
def ref04_Fuse_r2 : List POper := [Q 8 (.load true 7 false (V 2)),QN (.store 7 (V 4) (V 8))]
@[simp] theorem ref04_Fuse_r2_go : type_of% (ops_go ref04_Fuse_r2.eq_1 T K fr S) := ops_go ref04_Fuse_r2.eq_1 T K fr S
def ref04_Fuse : PCodeFn :=
  ⟨2, [.cell 4 true 7],
  (.seq (.region ref04_Fuse_r0) (.seq (.clr [(5, 8)] (.region ref04_Fuse_r1)) (.seq (.clr [(8, 9)] (.region ref04_Fuse_r2)) .ret))), false⟩

def ref04_Crash_r0 : List POper := [Q 3 (.box true (V 0)),Q 6 (.alloc false [(.int .i64 0), .nils, .nils, .nils, (.int .i64 0), (.bool false), (.int .i64 0)])]
@[simp] theorem ref04_Crash_r0_go : type_of% (ops_go ref04_Crash_r0.eq_1 T K fr S) := ops_go ref04_Crash_r0.eq_1 T K fr S
def ref04_Crash_r1 : List POper := [Q 12 (.load true 7 true (V 3)),M 13 1,Q 14 (.toInt .u64 (V 13)),FA 15 3 3,Q 16 (.load false 1 true (V 15)),Q 17 (.len false (V 16)),Q 18 (.arith .add (V 17) (I 1)),Q 19 (.toInt .u64 (V 18)),Q 20 (.arith .rem (V 14) (V 19)),Q 21 (.toInt .i64 (V 20)),Q 22 (.call .std 207 [(V 12), (V 21)]),M 7 22]
@[simp] theorem ref04_Crash_r1_go : type_of% (ops_go ref04_Crash_r1.eq_1 T K fr S) := ops_go ref04_Crash_r1.eq_1 T K fr S
def ref04_Crash_r2 : List POper := [Q 23 (.emp0),FA 24 1 3,LD 25 24,Q 26 (.gapp 2 32 (V 23) (V 25)),M 8 26]
@[simp] theorem ref04_Crash_r2_go : type_of% (ops_go ref04_Crash_r2.eq_1 T K fr S) := ops_go ref04_Crash_r2.eq_1 T K fr S
def ref04_Crash_r3 : List POper := [Q 9 (.mov (I 0))]
@[simp] theorem ref04_Crash_r3_go : type_of% (ops_go ref04_Crash_r3.eq_1 T K fr S) := ops_go ref04_Crash_r3.eq_1 T K fr S
def ref04_Crash_r4 : List POper := [M 27 9,M 28 7,Q 29 (.len false (V 28)),Q 30 (.arith .lss (V 27) (V 29))]
@[simp] theorem ref04_Crash_r4_go : type_of% (ops_go ref04_Crash_r4.eq_1 T K fr S) := ops_go ref04_Crash_r4.eq_1 T K fr S
def ref04_Crash_r6 : List POper := [M 33 8,M 34 7,M 35 9,Q 36 (.iaddr 2 (V 34) (V 35)),FA 37 1 36,LD 38 37,Q 39 (.iaddr 2 (V 33) (V 38)),Q 40 (.load true 2 false (V 39)),Q 10 (.alloc false [.nils, (.int .i64 0)]),QN (.store 2 (V 10) (V 40))]
@[simp] theorem ref04_Crash_r6_go : type_of% (ops_go ref04_Crash_r6.eq_1 T K fr S) := ops_go ref04_Crash_r6.eq_1 T K fr S
def ref04_Crash_r7 : List POper := [Q 11 (.mov (I 0))]
@[simp] theorem ref04_Crash_r7_go : type_of% (ops_go ref04_Crash_r7.eq_1 T K fr S) := ops_go ref04_Crash_r7.eq_1 T K fr S
def ref04_Crash_r8 : List POper := [M 41 9,M 42 2,Q 43 (.len false (V 42)),Q 44 (.arith .lss (V 41) (V 43))]
@[simp] theorem ref04_Crash_r8_go : type_of% (ops_go ref04_Crash_r8.eq_1 T K fr S) := ops_go ref04_Crash_r8.eq_1 T K fr S
def ref04_Crash_r9 : List POper := [M 45 2,M 46 9,Q 47 (.iaddr 1 (V 45) (V 46)),LD 48 47,Q 49 (.toInt .u64 (V 48)),FA 50 0 10,LD 51 50,Q 52 (.len false (V 51)),FA 53 1 10,LD 54 53,Q 55 (.arith .sub (V 52) (V 54)),Q 56 (.arith .add (V 55) (I 1)),Q 57 (.toInt .u64 (V 56)),Q 58 (.arith .rem (V 49) (V 57)),Q 59 (.toInt .i64 (V 58)),M 11 59]
@[simp] theorem ref04_Crash_r9_go : type_of% (ops_go ref04_Crash_r9.eq_1 T K fr S) := ops_go ref04_Crash_r9.eq_1 T K fr S
def ref04_Crash_r10 : List POper := [M 60 8,M 61 7,M 62 9,Q 63 (.iaddr 2 (V 61) (V 62)),FA 64 1 63,LD 65 64,FA 66 0 10,LD 67 66,FA 68 1 10,LD 69 68,M 70 11,Q 71 (.arith .add (V 69) (V 70)),Q 72 (.slc 1 none (some (V 71)) (V 67)),FA 73 1 10,LD 74 73,M 75 11,Q 76 (.arith .add (V 74) (V 75)),Q 77 (.build [.nils, (.int .i64 0)] [(0, 1, (V 72)), (1, 1, (V 76))]),Q 78 (.iaddr 2 (V 60) (V 65)),QN (.store 2 (V 78) (V 77))]
@[simp] theorem ref04_Crash_r10_go : type_of% (ops_go ref04_Crash_r10.eq_1 T K fr S) := ops_go ref04_Crash_r10.eq_1 T K fr S
def ref04_Crash_r5 : List POper := [M 31 9,Q 32 (.arith .add (V 31) (I 1)),M 9 32]
@[simp] theorem ref04_Crash_r5_go : type_of% (ops_go ref04_Crash_r5.eq_1 T K fr S) := ops_go ref04_Crash_r5.eq_1 T K fr S
def ref04_Crash_l0 : PCode :=
  (.seq (.seq (.clr [(27, 30)] (.region ref04_Crash_r4)) (.cond (V 30) .skip (.exit 0))) (.seq (.block 1 (.seq (.clr [(33, 41)] (.region ref04_Crash_r6)) (.seq (.region ref04_Crash_r7) (.seq (.seq (.clr [(41, 44)] (.region ref04_Crash_r8)) (.cond (V 44) (.clr [(45, 60)] (.region ref04_Crash_r9)) .skip)) (.clr [(60, 79)] (.region ref04_Crash_r10)))))) (.clr [(31, 33)] (.region ref04_Crash_r5))))
@[simp] theorem ref04_Crash_l0_go : type_of% (code_go ref04_Crash_l0.eq_1 T K fr S) := code_go ref04_Crash_l0.eq_1 T K fr S
def ref04_Crash_r11 : List POper := [FA 79 0 3,LD 80 79,M 81 8,M 82 7,FA 83 6 3,LD 84 83,Q 85 (.build [(.int .i64 0), .nils, .nils, .nils, (.int .i64 0), (.bool false), (.int .i64 0)] [(0, 1, (V 80)), (1, 1, (V 81)), (2, 1, (V 82)), (4, 1, (I (-1))), (6, 1, (V 84))]),QN (.store 7 (V 6) (V 85))]
@[simp] theorem ref04_Crash_r11_go : type_of% (ops_go ref04_Crash_r11.eq_1 T K fr S) := ops_go ref04_Crash_r11.eq_1 T K fr S
def ref04_Crash : PCodeFn :=
  ⟨3, [.cell 6 true 7],
  (.seq (.region ref04_Crash_r0) (.seq (.clr [(12, 23)] (.region ref04_Crash_r1)) (.seq (.clr [(23, 27)] (.region ref04_Crash_r2)) (.seq (.seq (.region ref04_Crash_r3) (.block 0 (.loop ref04_Crash_l0))) (.seq (.clr [(79, 86)] (.region ref04_Crash_r11)) .ret))))), false⟩

def ref04_List_r0 : List POper := [Q 1 (.box true (V 0)),Q 2 (.mov (.cst .nils))]
@[simp] theorem ref04_List_r0_go : type_of% (ops_go ref04_List_r0.eq_1 T K fr S) := ops_go ref04_List_r0.eq_1 T K fr S
def ref04_List_r1 : List POper := [Q 3 (.mov (.cst .nils))]
@[simp] theorem ref04_List_r1_go : type_of% (ops_go ref04_List_r1.eq_1 T K fr S) := ops_go ref04_List_r1.eq_1 T K fr S
def ref04_List_r2 : List POper := [Q 6 (.load true 7 false (V 1)),Q 7 (.call .std 204 [(V 6)]),M 4 7]
@[simp] theorem ref04_List_r2_go : type_of% (ops_go ref04_List_r2.eq_1 T K fr S) := ops_go ref04_List_r2.eq_1 T K fr S
def ref04_List_r3 : List POper := [Q 5 (.mov (I 0))]
@[simp] theorem ref04_List_r3_go : type_of% (ops_go ref04_List_r3.eq_1 T K fr S) := ops_go ref04_List_r3.eq_1 T K fr S
def ref04_List_r4 : List POper := [M 8 5,M 9 4,Q 10 (.len false (V 9)),Q 11 (.arith .lss (V 8) (V 10)),M 12 11,QG (some 13) (.faddr 5 (V 1)) 12 true,QG (some 14) (.load false 1 false (V 13)) 12 true,QG (some 15) (.un .not (V 14)) 12 true,Q 16 (.pick (V 12) (V 15) ff')]
@[simp] theorem ref04_List_r4_go : type_of% (ops_go ref04_List_r4.eq_1 T K fr S) := ops_go ref04_List_r4.eq_1 T K fr S
def ref04_List_r6 : List POper := [M 19 3,M 20 4,M 21 5,Q 22 (.iaddr 2 (V 20) (V 21)),FA 23 0 22,LD 24 23,Q 25 (.bsl false (.str []) 1 [(0, (V 24))]),Q 26 (.app 1 16 (V 19) (V 25)),M 3 26]
@[simp] theorem ref04_List_r6_go : type_of% (ops_go ref04_List_r6.eq_1 T K fr S) := ops_go ref04_List_r6.eq_1 T K fr S
def ref04_List_r5 : List POper := [M 17 5,Q 18 (.arith .add (V 17) (I 1)),M 5 18]
@[simp] theorem ref04_List_r5_go : type_of% (ops_go ref04_List_r5.eq_1 T K fr S) := ops_go ref04_List_r5.eq_1 T K fr S
def ref04_List_l0 : PCode :=
  (.seq (.seq (.clr [(8, 16)] (.region ref04_List_r4)) (.cond (V 16) .skip (.exit 0))) (.seq (.block 1 (.clr [(19, 27)] (.region ref04_List_r6))) (.clr [(17, 19)] (.region ref04_List_r5))))
@[simp] theorem ref04_List_l0_go : type_of% (code_go ref04_List_l0.eq_1 T K fr S) := code_go ref04_List_l0.eq_1 T K fr S
def ref04_List_r7 : List POper := [M 27 3,M 2 27]
@[simp] theorem ref04_List_r7_go : type_of% (ops_go ref04_List_r7.eq_1 T K fr S) := ops_go ref04_List_r7.eq_1 T K fr S
def ref04_List : PCodeFn :=
  ⟨1, [.tmp 2],
  (.seq (.region ref04_List_r0) (.seq (.region ref04_List_r1) (.seq (.clr [(6, 8)] (.region ref04_List_r2)) (.seq (.seq (.region ref04_List_r3) (.block 0 (.loop ref04_List_l0))) (.seq (.clr [(27, 28)] (.region ref04_List_r7)) .ret))))), false⟩

def disk_Disk_Copy_1_r0 : List POper := [Q 3 (.mov (.cst .nilp))]
@[simp] theorem disk_Disk_Copy_1_r0_go : type_of% (ops_go disk_Disk_Copy_1_r0.eq_1 T K fr S) := ops_go disk_Disk_Copy_1_r0.eq_1 T K fr S
def disk_Disk_Copy_1_r1 : List POper := [M 4 0,Q 5 (.eqn false .p (V 4))]
@[simp] theorem disk_Disk_Copy_1_r1_go : type_of% (ops_go disk_Disk_Copy_1_r1.eq_1 T K fr S) := ops_go disk_Disk_Copy_1_r1.eq_1 T K fr S
def disk_Disk_Copy_1_r2 : List POper := [Q 3 (.mov (.cst .nilp))]
@[simp] theorem disk_Disk_Copy_1_r2_go : type_of% (ops_go disk_Disk_Copy_1_r2.eq_1 T K fr S) := ops_go disk_Disk_Copy_1_r2.eq_1 T K fr S
def disk_Disk_Copy_1 : PCodeFn :=
  ⟨2, [.tmp 3],
  (.seq (.region disk_Disk_Copy_1_r0) (.seq (.seq (.clr [(4, 5)] (.region disk_Disk_Copy_1_r1)) (.cond (V 5) (.seq (.region disk_Disk_Copy_1_r2) .ret) .skip)) (.seq (.seq .bad (.cond (V 9) .bad .skip)) (.seq .bad .ret)))), false⟩

def disk_Disk_Copy_2_r0 : List POper := [Q 3 (.mov (.cst .nilm))]
@[simp] theorem disk_Disk_Copy_2_r0_go : type_of% (ops_go disk_Disk_Copy_2_r0.eq_1 T K fr S) := ops_go disk_Disk_Copy_2_r0.eq_1 T K fr S
def disk_Disk_Copy_2_r1 : List POper := [Q 7 (.mkm),M 4 7]
@[simp] theorem disk_Disk_Copy_2_r1_go : type_of% (ops_go disk_Disk_Copy_2_r1.eq_1 T K fr S) := ops_go disk_Disk_Copy_2_r1.eq_1 T K fr S
def disk_Disk_Copy_2_r5 : List POper := [M 15 4,M 16 5,LD 17 1,M 18 6,Q 19 (.callv .std (V 17) [(V 18)]),QN (.mset true (V 15) (V 16) (V 19))]
@[simp] theorem disk_Disk_Copy_2_r5_go : type_of% (ops_go disk_Disk_Copy_2_r5.eq_1 T K fr S) := ops_go disk_Disk_Copy_2_r5.eq_1 T K fr S
def disk_Disk_Copy_2_l0 : PCode :=
  (.seq .bad (.seq (.cond (V 11) .skip (.exit 0)) (.block 1 (.seq .bad (.clr [(15, 20)] (.region disk_Disk_Copy_2_r5))))))
@[simp] theorem disk_Disk_Copy_2_l0_go : type_of% (code_go disk_Disk_Copy_2_l0.eq_1 T K fr S) := code_go disk_Disk_Copy_2_l0.eq_1 T K fr S
def disk_Disk_Copy_2_r6 : List POper := [M 20 4,M 3 20]
@[simp] theorem disk_Disk_Copy_2_r6_go : type_of% (ops_go disk_Disk_Copy_2_r6.eq_1 T K fr S) := ops_go disk_Disk_Copy_2_r6.eq_1 T K fr S
def disk_Disk_Copy_2 : PCodeFn :=
  ⟨2, [.tmp 3],
  (.seq (.region disk_Disk_Copy_2_r0) (.seq (.clr [(7, 8)] (.region disk_Disk_Copy_2_r1)) (.seq (.seq .bad (.block 0 (.loop disk_Disk_Copy_2_l0))) (.seq (.clr [(20, 21)] (.region disk_Disk_Copy_2_r6)) .ret)))), false⟩

def ref04_Named_r0 : List POper := [Q 2 (.mov ff')]
@[simp] theorem ref04_Named_r0_go : type_of% (ops_go ref04_Named_r0.eq_1 T K fr S) := ops_go ref04_Named_r0.eq_1 T K fr S
def ref04_Named_r1 : List POper := [Q 3 (.mov (I 0))]
@[simp] theorem ref04_Named_r1_go : type_of% (ops_go ref04_Named_r1.eq_1 T K fr S) := ops_go ref04_Named_r1.eq_1 T K fr S
def ref04_Named_r2 : List POper := [M 5 3,M 6 0,Q 7 (.len true (V 6)),Q 8 (.arith .lss (V 5) (V 7))]
@[simp] theorem ref04_Named_r2_go : type_of% (ops_go ref04_Named_r2.eq_1 T K fr S) := ops_go ref04_Named_r2.eq_1 T K fr S
def ref04_Named_r4 : List POper := [M 11 0,M 12 3,Q 13 (.idxs (V 11) (V 12)),M 4 13]
@[simp] theorem ref04_Named_r4_go : type_of% (ops_go ref04_Named_r4.eq_1 T K fr S) := ops_go ref04_Named_r4.eq_1 T K fr S
def ref04_Named_r5 : List POper := [M 14 4,Q 15 (.arith .lss (V 14) (.cst (.int .u8 97))),M 16 15,QG (some 17) (.mov (V 4)) 16 false,QG (some 18) (.arith .gtr (V 17) (.cst (.int .u8 122))) 16 false,Q 19 (.pick (V 16) tt' (V 18)),M 20 19,QG (some 21) (.mov (V 4)) 20 true,QG (some 22) (.arith .lss (V 21) (.cst (.int .u8 48))) 20 true,QG (some 23) (.mov (V 22)) 20 true,QG (some 24) (.mov (V 4)) 23 false,QG (some 25) (.arith .gtr (V 24) (.cst (.int .u8 57))) 23 false,QG (some 26) (.pick (V 23) tt' (V 25)) 20 true,Q 27 (.pick (V 20) (V 26) ff'),M 28 27,QG (some 29) (.mov (V 4)) 28 true,QG (some 30) (.arith .neq (V 29) (.cst (.int .u8 46))) 28 true,Q 31 (.pick (V 28) (V 30) ff'),M 32 31,QG (some 33) (.mov (V 4)) 32 true,QG (some 34) (.arith .neq (V 33) (.cst (.int .u8 45))) 32 true,Q 35 (.pick (V 32) (V 34) ff')]
@[simp] theorem ref04_Named_r5_go : type_of% (ops_go ref04_Named_r5.eq_1 T K fr S) := ops_go ref04_Named_r5.eq_1 T K fr S
def ref04_Named_r6 : List POper := [Q 2 (.mov ff')]
@[simp] theorem ref04_Named_r6_go : type_of% (ops_go ref04_Named_r6.eq_1 T K fr S) := ops_go ref04_Named_r6.eq_1 T K fr S
def ref04_Named_r3 : List POper := [M 9 3,Q 10 (.arith .add (V 9) (I 1)),M 3 10]
@[simp] theorem ref04_Named_r3_go : type_of% (ops_go ref04_Named_r3.eq_1 T K fr S) := ops_go ref04_Named_r3.eq_1 T K fr S
def ref04_Named_l0 : PCode :=
  (.seq (.seq (.clr [(5, 8)] (.region ref04_Named_r2)) (.cond (V 8) .skip (.exit 0))) (.seq (.block 1 (.seq (.clr [(11, 14)] (.region ref04_Named_r4)) (.seq (.clr [(14, 35)] (.region ref04_Named_r5)) (.cond (V 35) (.seq (.region ref04_Named_r6) .ret) .skip)))) (.clr [(9, 11)] (.region ref04_Named_r3))))
@[simp] theorem ref04_Named_l0_go : type_of% (code_go ref04_Named_l0.eq_1 T K fr S) := code_go ref04_Named_l0.eq_1 T K fr S
def ref04_Named_r7 : List POper := [M 36 0,Q 37 (.arith .neq (V 36) (.cst (.str []))),M 38 37,QG (some 39) (.mov (V 0)) 38 true,QG (some 40) (.len true (V 39)) 38 true,QG (some 41) (.arith .leq (V 40) (I 24)) 38 true,Q 42 (.pick (V 38) (V 41) ff'),M 2 42]
@[simp] theorem ref04_Named_r7_go : type_of% (ops_go ref04_Named_r7.eq_1 T K fr S) := ops_go ref04_Named_r7.eq_1 T K fr S
def ref04_Named : PCodeFn :=
  ⟨1, [.tmp 2],
  (.seq (.region ref04_Named_r0) (.seq (.seq (.region ref04_Named_r1) (.block 0 (.loop ref04_Named_l0))) (.seq (.clr [(36, 43)] (.region ref04_Named_r7)) .ret))), false⟩

def ref04_Live_r0 : List POper := [Q 1 (.box true (V 0)),Q 2 (.mov (.cst .nils))]
@[simp] theorem ref04_Live_r0_go : type_of% (ops_go ref04_Live_r0.eq_1 T K fr S) := ops_go ref04_Live_r0.eq_1 T K fr S
def ref04_Live_r1 : List POper := [Q 3 (.load true 7 false (V 1)),FA 4 3 1,LD 5 4,Q 6 (.len false (V 5)),Q 7 (.call .std 207 [(V 3), (V 6)]),M 2 7]
@[simp] theorem ref04_Live_r1_go : type_of% (ops_go ref04_Live_r1.eq_1 T K fr S) := ops_go ref04_Live_r1.eq_1 T K fr S
def ref04_Live : PCodeFn :=
  ⟨1, [.tmp 2],
  (.seq (.region ref04_Live_r0) (.seq (.clr [(3, 8)] (.region ref04_Live_r1)) .ret)), false⟩

def ref04_At_r0 : List POper := [Q 4 (.mov (I 0))]
@[simp] theorem ref04_At_r0_go : type_of% (ops_go ref04_At_r0.eq_1 T K fr S) := ops_go ref04_At_r0.eq_1 T K fr S
def ref04_At_r1 : List POper := [Q 5 (.mov (I 0))]
@[simp] theorem ref04_At_r1_go : type_of% (ops_go ref04_At_r1.eq_1 T K fr S) := ops_go ref04_At_r1.eq_1 T K fr S
def ref04_At_r2 : List POper := [M 6 5,M 7 0,Q 8 (.len false (V 7)),Q 9 (.arith .lss (V 6) (V 8))]
@[simp] theorem ref04_At_r2_go : type_of% (ops_go ref04_At_r2.eq_1 T K fr S) := ops_go ref04_At_r2.eq_1 T K fr S
def ref04_At_r4 : List POper := [M 12 0,M 13 5,Q 14 (.iaddr 2 (V 12) (V 13)),FA 15 0 14,LD 16 15,M 17 1,Q 18 (.arith .eql (V 16) (V 17))]
@[simp] theorem ref04_At_r4_go : type_of% (ops_go ref04_At_r4.eq_1 T K fr S) := ops_go ref04_At_r4.eq_1 T K fr S
def ref04_At_r5 : List POper := [M 19 0,M 20 5,Q 21 (.iaddr 2 (V 19) (V 20)),FA 22 1 21,LD 23 22,M 4 23]
@[simp] theorem ref04_At_r5_go : type_of% (ops_go ref04_At_r5.eq_1 T K fr S) := ops_go ref04_At_r5.eq_1 T K fr S
def ref04_At_r3 : List POper := [M 10 5,Q 11 (.arith .add (V 10) (I 1)),M 5 11]
@[simp] theorem ref04_At_r3_go : type_of% (ops_go ref04_At_r3.eq_1 T K fr S) := ops_go ref04_At_r3.eq_1 T K fr S
def ref04_At_l0 : PCode :=
  (.seq (.seq (.clr [(6, 9)] (.region ref04_At_r2)) (.cond (V 9) .skip (.exit 0))) (.seq (.block 1 (.seq (.clr [(12, 18)] (.region ref04_At_r4)) (.cond (V 18) (.seq (.clr [(19, 24)] (.region ref04_At_r5)) .ret) .skip))) (.clr [(10, 12)] (.region ref04_At_r3))))
@[simp] theorem ref04_At_l0_go : type_of% (code_go ref04_At_l0.eq_1 T K fr S) := code_go ref04_At_l0.eq_1 T K fr S
def ref04_At_r6 : List POper := [Q 4 (.mov (I (-1)))]
@[simp] theorem ref04_At_r6_go : type_of% (ops_go ref04_At_r6.eq_1 T K fr S) := ops_go ref04_At_r6.eq_1 T K fr S
def ref04_At : PCodeFn :=
  ⟨2, [.tmp 4],
  (.seq (.region ref04_At_r0) (.seq (.seq (.region ref04_At_r1) (.block 0 (.loop ref04_At_l0))) (.seq (.region ref04_At_r6) .ret))), false⟩

def ref04_step_r0 : List POper := [Q 1 (.box false (V 0)),Q 2 (.alloc false [(.int .i64 0), .nils, .nils, .nils, (.int .i64 0), (.bool false), (.int .i64 0)]),Q 3 (.mov (I 0))]
@[simp] theorem ref04_step_r0_go : type_of% (ops_go ref04_step_r0.eq_1 T K fr S) := ops_go ref04_step_r0.eq_1 T K fr S
def ref04_step_r1 : List POper := [FA 4 4 1,LD 5 4,Q 6 (.arith .eql (V 5) (I 0))]
@[simp] theorem ref04_step_r1_go : type_of% (ops_go ref04_step_r1.eq_1 T K fr S) := ops_go ref04_step_r1.eq_1 T K fr S
def ref04_step_r2 : List POper := [FA 7 5 1,QN (.store 1 (V 7) tt')]
@[simp] theorem ref04_step_r2_go : type_of% (ops_go ref04_step_r2.eq_1 T K fr S) := ops_go ref04_step_r2.eq_1 T K fr S
def ref04_step_r3 : List POper := [FA 8 5 1,LD 9 8]
@[simp] theorem ref04_step_r3_go : type_of% (ops_go ref04_step_r3.eq_1 T K fr S) := ops_go ref04_step_r3.eq_1 T K fr S
def ref04_step_r4 : List POper := [Q 10 (.load true 7 false (V 1)),QN (.store 7 (V 2) (V 10)),Q 3 (.mov (I 6))]
@[simp] theorem ref04_step_r4_go : type_of% (ops_go ref04_step_r4.eq_1 T K fr S) := ops_go ref04_step_r4.eq_1 T K fr S
def ref04_step_r5 : List POper := [FA 11 4 1,LD 12 11,Q 13 (.arith .gtr (V 12) (I 0))]
@[simp] theorem ref04_step_r5_go : type_of% (ops_go ref04_step_r5.eq_1 T K fr S) := ops_go ref04_step_r5.eq_1 T K fr S
def ref04_step_r6 : List POper := [FA 14 4 1,LD 15 14,Q 16 (.arith .sub (V 15) (I 1)),FA 17 4 1,QN (.store 1 (V 17) (V 16))]
@[simp] theorem ref04_step_r6_go : type_of% (ops_go ref04_step_r6.eq_1 T K fr S) := ops_go ref04_step_r6.eq_1 T K fr S
def ref04_step_r7 : List POper := [FA 18 6 1,LD 19 18,Q 20 (.arith .add (V 19) (I 1)),FA 21 6 1,QN (.store 1 (V 21) (V 20))]
@[simp] theorem ref04_step_r7_go : type_of% (ops_go ref04_step_r7.eq_1 T K fr S) := ops_go ref04_step_r7.eq_1 T K fr S
def ref04_step_r8 : List POper := [Q 22 (.load true 7 false (V 1)),QN (.store 7 (V 2) (V 22)),Q 3 (.mov (I 0))]
@[simp] theorem ref04_step_r8_go : type_of% (ops_go ref04_step_r8.eq_1 T K fr S) := ops_go ref04_step_r8.eq_1 T K fr S
def ref04_step : PCodeFn :=
  ⟨1, [.cell 2 true 7, .tmp 3],
  (.seq (.region ref04_step_r0) (.seq (.seq (.clr [(4, 6)] (.region ref04_step_r1)) (.cond (V 6) (.clr [(7, 8)] (.region ref04_step_r2)) .skip)) (.seq (.seq (.clr [(8, 9)] (.region ref04_step_r3)) (.cond (V 9) (.seq (.clr [(10, 11)] (.region ref04_step_r4)) .ret) .skip)) (.seq (.seq (.clr [(11, 13)] (.region ref04_step_r5)) (.cond (V 13) (.clr [(14, 18)] (.region ref04_step_r6)) .skip)) (.seq (.clr [(18, 22)] (.region ref04_step_r7)) (.seq (.clr [(22, 23)] (.region ref04_step_r8)) .ret)))))), false⟩

def ref04_Dir_r0 : List POper := [Q 2 (.box true (V 0)),Q 4 (.mov (.cst .nils))]
@[simp] theorem ref04_Dir_r0_go : type_of% (ops_go ref04_Dir_r0.eq_1 T K fr S) := ops_go ref04_Dir_r0.eq_1 T K fr S
def ref04_Dir_r1 : List POper := [FA 9 2 2,LD 10 9,M 5 10]
@[simp] theorem ref04_Dir_r1_go : type_of% (ops_go ref04_Dir_r1.eq_1 T K fr S) := ops_go ref04_Dir_r1.eq_1 T K fr S
def ref04_Dir_r2 : List POper := [Q 6 (.mov (I 0))]
@[simp] theorem ref04_Dir_r2_go : type_of% (ops_go ref04_Dir_r2.eq_1 T K fr S) := ops_go ref04_Dir_r2.eq_1 T K fr S
def ref04_Dir_r3 : List POper := [M 11 6,M 12 1,Q 13 (.arith .lss (V 11) (V 12))]
@[simp] theorem ref04_Dir_r3_go : type_of% (ops_go ref04_Dir_r3.eq_1 T K fr S) := ops_go ref04_Dir_r3.eq_1 T K fr S
def ref04_Dir_r5 : List POper := [FA 16 3 2,LD 17 16,M 18 6,Q 19 (.iaddr 4 (V 17) (V 18)),Q 20 (.load true 4 false (V 19)),Q 7 (.alloc false [(.int .i64 0), (.str []), (.str []), (.int .i64 0)]),QN (.store 4 (V 7) (V 20))]
@[simp] theorem ref04_Dir_r5_go : type_of% (ops_go ref04_Dir_r5.eq_1 T K fr S) := ops_go ref04_Dir_r5.eq_1 T K fr S
def ref04_Dir_r6 : List POper := [FA 21 0 7,LD 22 21]
@[simp] theorem ref04_Dir_r6_go : type_of% (ops_go ref04_Dir_r6.eq_1 T K fr S) := ops_go ref04_Dir_r6.eq_1 T K fr S
def ref04_Dir_r7 : List POper := [Q 24 (.arith .eql (V 22) (I 1)),M 23 24]
@[simp] theorem ref04_Dir_r7_go : type_of% (ops_go ref04_Dir_r7.eq_1 T K fr S) := ops_go ref04_Dir_r7.eq_1 T K fr S
def ref04_Dir_r8 : List POper := [M 25 5,FA 26 1 7,LD 27 26,FA 28 3 7,LD 29 28,Q 30 (.build [(.str []), (.int .i64 0)] [(0, 1, (V 27)), (1, 1, (V 29))]),Q 31 (.call .std 295 [(V 25), (V 30)]),M 5 31]
@[simp] theorem ref04_Dir_r8_go : type_of% (ops_go ref04_Dir_r8.eq_1 T K fr S) := ops_go ref04_Dir_r8.eq_1 T K fr S
def ref04_Dir_r9 : List POper := [Q 33 (.arith .eql (V 22) (I 2)),M 32 33]
@[simp] theorem ref04_Dir_r9_go : type_of% (ops_go ref04_Dir_r9.eq_1 T K fr S) := ops_go ref04_Dir_r9.eq_1 T K fr S
def ref04_Dir_r10 : List POper := [M 34 5,FA 35 1 7,LD 36 35,Q 37 (.call .std 205 [(V 34), (V 36)]),M 8 37]
@[simp] theorem ref04_Dir_r10_go : type_of% (ops_go ref04_Dir_r10.eq_1 T K fr S) := ops_go ref04_Dir_r10.eq_1 T K fr S
def ref04_Dir_r11 : List POper := [M 38 5,FA 39 1 7,LD 40 39,Q 41 (.call .pur 296 [(V 38), (V 40)]),FA 42 2 7,LD 43 42,M 44 8,Q 45 (.build [(.str []), (.int .i64 0)] [(0, 1, (V 43)), (1, 1, (V 44))]),Q 46 (.call .std 295 [(V 41), (V 45)]),M 5 46]
@[simp] theorem ref04_Dir_r11_go : type_of% (ops_go ref04_Dir_r11.eq_1 T K fr S) := ops_go ref04_Dir_r11.eq_1 T K fr S
def ref04_Dir_r12 : List POper := [Q 48 (.arith .eql (V 22) (I 3)),M 47 48]
@[simp] theorem ref04_Dir_r12_go : type_of% (ops_go ref04_Dir_r12.eq_1 T K fr S) := ops_go ref04_Dir_r12.eq_1 T K fr S
def ref04_Dir_r13 : List POper := [M 49 5,FA 50 1 7,LD 51 50,Q 52 (.call .std 296 [(V 49), (V 51)]),M 5 52]
@[simp] theorem ref04_Dir_r13_go : type_of% (ops_go ref04_Dir_r13.eq_1 T K fr S) := ops_go ref04_Dir_r13.eq_1 T K fr S
def ref04_Dir_r4 : List POper := [M 14 6,Q 15 (.arith .add (V 14) (I 1)),M 6 15]
@[simp] theorem ref04_Dir_r4_go : type_of% (ops_go ref04_Dir_r4.eq_1 T K fr S) := ops_go ref04_Dir_r4.eq_1 T K fr S
def ref04_Dir_l0 : PCode :=
  (.seq (.seq (.clr [(11, 13)] (.region ref04_Dir_r3)) (.cond (V 13) .skip (.exit 0))) (.seq (.block 1 (.seq (.clr [(16, 21)] (.region ref04_Dir_r5)) (.seq (.clr [(21, 22)] (.region ref04_Dir_r6)) (.block 2 (.seq (.clr [(24, 25)] (.region ref04_Dir_r7)) (.cond (V 23) (.clr [(25, 32)] (.region ref04_Dir_r8)) (.seq (.clr [(33, 34)] (.region ref04_Dir_r9)) (.cond (V 32) (.seq (.clr [(34, 38)] (.region ref04_Dir_r10)) (.clr [(38, 47)] (.region ref04_Dir_r11))) (.seq (.clr [(48, 49)] (.region ref04_Dir_r12)) (.cond (V 47) (.clr [(49, 53)] (.region ref04_Dir_r13)) .skip)))))))))) (.clr [(14, 16)] (.region ref04_Dir_r4))))
@[simp] theorem ref04_Dir_l0_go : type_of% (code_go ref04_Dir_l0.eq_1 T K fr S) := code_go ref04_Dir_l0.eq_1 T K fr S
def ref04_Dir_r14 : List POper := [M 53 5,M 4 53]
@[simp] theorem ref04_Dir_r14_go : type_of% (ops_go ref04_Dir_r14.eq_1 T K fr S) := ops_go ref04_Dir_r14.eq_1 T K fr S
def ref04_Dir : PCodeFn :=
  ⟨2, [.tmp 4],
  (.seq (.region ref04_Dir_r0) (.seq (.clr [(9, 11)] (.region ref04_Dir_r1)) (.seq (.seq (.region ref04_Dir_r2) (.block 0 (.loop ref04_Dir_l0))) (.seq (.clr [(53, 54)] (.region ref04_Dir_r14)) .ret)))), false⟩

def ref04_with_r0 : List POper := [Q 3 (.box true (V 1)),Q 4 (.mov (.cst .nils))]
@[simp] theorem ref04_with_r0_go : type_of% (ops_go ref04_with_r0.eq_1 T K fr S) := ops_go ref04_with_r0.eq_1 T K fr S
def ref04_with_r1 : List POper := [Q 5 (.mov (.cst .nils))]
@[simp] theorem ref04_with_r1_go : type_of% (ops_go ref04_with_r1.eq_1 T K fr S) := ops_go ref04_with_r1.eq_1 T K fr S
def ref04_with_r2 : List POper := [Q 6 (.mov ff')]
@[simp] theorem ref04_with_r2_go : type_of% (ops_go ref04_with_r2.eq_1 T K fr S) := ops_go ref04_with_r2.eq_1 T K fr S
def ref04_with_r3 : List POper := [Q 7 (.mov (I 0))]
@[simp] theorem ref04_with_r3_go : type_of% (ops_go ref04_with_r3.eq_1 T K fr S) := ops_go ref04_with_r3.eq_1 T K fr S
def ref04_with_r4 : List POper := [M 8 7,M 9 0,Q 10 (.len false (V 9)),Q 11 (.arith .lss (V 8) (V 10))]
@[simp] theorem ref04_with_r4_go : type_of% (ops_go ref04_with_r4.eq_1 T K fr S) := ops_go ref04_with_r4.eq_1 T K fr S
def ref04_with_r6 : List POper := [M 14 6,Q 15 (.un .not (V 14)),M 16 15,QG (some 17) (.faddr 0 (V 3)) 16 true,QG (some 18) (.load false 1 true (V 17)) 16 true,QG (some 19) (.mov (V 0)) 16 true,QG (some 20) (.mov (V 7)) 16 true,QG (some 21) (.iaddr 2 (V 19) (V 20)) 16 true,QG (some 22) (.faddr 0 (V 21)) 16 true,QG (some 23) (.load false 1 true (V 22)) 16 true,QG (some 24) (.arith .lss (V 18) (V 23)) 16 true,Q 25 (.pick (V 16) (V 24) ff')]
@[simp] theorem ref04_with_r6_go : type_of% (ops_go ref04_with_r6.eq_1 T K fr S) := ops_go ref04_with_r6.eq_1 T K fr S
def ref04_with_r7 : List POper := [M 26 5,Q 27 (.load true 2 false (V 3)),Q 28 (.bsl false (.agg [(.str []), (.int .i64 0)]) 1 [(0, (V 27))]),Q 29 (.app 2 24 (V 26) (V 28)),M 5 29]
@[simp] theorem ref04_with_r7_go : type_of% (ops_go ref04_with_r7.eq_1 T K fr S) := ops_go ref04_with_r7.eq_1 T K fr S
def ref04_with_r8 : List POper := [Q 6 (.mov tt')]
@[simp] theorem ref04_with_r8_go : type_of% (ops_go ref04_with_r8.eq_1 T K fr S) := ops_go ref04_with_r8.eq_1 T K fr S
def ref04_with_r9 : List POper := [M 30 0,M 31 7,Q 32 (.iaddr 2 (V 30) (V 31)),FA 33 0 32,Q 34 (.load false 1 true (V 33)),FA 35 0 3,Q 36 (.load false 1 true (V 35)),Q 37 (.arith .neq (V 34) (V 36))]
@[simp] theorem ref04_with_r9_go : type_of% (ops_go ref04_with_r9.eq_1 T K fr S) := ops_go ref04_with_r9.eq_1 T K fr S
def ref04_with_r10 : List POper := [M 38 5,M 39 0,M 40 7,Q 41 (.iaddr 2 (V 39) (V 40)),Q 42 (.load true 2 false (V 41)),Q 43 (.bsl false (.agg [(.str []), (.int .i64 0)]) 1 [(0, (V 42))]),Q 44 (.app 2 24 (V 38) (V 43)),M 5 44]
@[simp] theorem ref04_with_r10_go : type_of% (ops_go ref04_with_r10.eq_1 T K fr S) := ops_go ref04_with_r10.eq_1 T K fr S
def ref04_with_r5 : List POper := [M 12 7,Q 13 (.arith .add (V 12) (I 1)),M 7 13]
@[simp] theorem ref04_with_r5_go : type_of% (ops_go ref04_with_r5.eq_1 T K fr S) := ops_go ref04_with_r5.eq_1 T K fr S
def ref04_with_l0 : PCode :=
  (.seq (.seq (.clr [(8, 11)] (.region ref04_with_r4)) (.cond (V 11) .skip (.exit 0))) (.seq (.block 1 (.seq (.seq (.clr [(14, 25)] (.region ref04_with_r6)) (.cond (V 25) (.seq (.clr [(26, 30)] (.region ref04_with_r7)) (.region ref04_with_r8)) .skip)) (.seq (.clr [(30, 37)] (.region ref04_with_r9)) (.cond (V 37) (.clr [(38, 45)] (.region ref04_with_r10)) .skip)))) (.clr [(12, 14)] (.region ref04_with_r5))))
@[simp] theorem ref04_with_l0_go : type_of% (code_go ref04_with_l0.eq_1 T K fr S) := code_go ref04_with_l0.eq_1 T K fr S
def ref04_with_r11 : List POper := [M 45 6,Q 46 (.un .not (V 45))]
@[simp] theorem ref04_with_r11_go : type_of% (ops_go ref04_with_r11.eq_1 T K fr S) := ops_go ref04_with_r11.eq_1 T K fr S
def ref04_with_r12 : List POper := [M 47 5,Q 48 (.load true 2 false (V 3)),Q 49 (.bsl false (.agg [(.str []), (.int .i64 0)]) 1 [(0, (V 48))]),Q 50 (.app 2 24 (V 47) (V 49)),M 5 50]
@[simp] theorem ref04_with_r12_go : type_of% (ops_go ref04_with_r12.eq_1 T K fr S) := ops_go ref04_with_r12.eq_1 T K fr S
def ref04_with_r13 : List POper := [M 51 5,M 4 51]
@[simp] theorem ref04_with_r13_go : type_of% (ops_go ref04_with_r13.eq_1 T K fr S) := ops_go ref04_with_r13.eq_1 T K fr S
def ref04_with : PCodeFn :=
  ⟨2, [.tmp 4],
  (.seq (.region ref04_with_r0) (.seq (.region ref04_with_r1) (.seq (.region ref04_with_r2) (.seq (.seq (.region ref04_with_r3) (.block 0 (.loop ref04_with_l0))) (.seq (.seq (.clr [(45, 46)] (.region ref04_with_r11)) (.cond (V 46) (.clr [(47, 51)] (.region ref04_with_r12)) .skip)) (.seq (.clr [(51, 52)] (.region ref04_with_r13)) .ret)))))), false⟩

def ref04_without_r0 : List POper := [Q 4 (.mov (.cst .nils))]
@[simp] theorem ref04_without_r0_go : type_of% (ops_go ref04_without_r0.eq_1 T K fr S) := ops_go ref04_without_r0.eq_1 T K fr S
def ref04_without_r1 : List POper := [Q 5 (.mov (.cst .nils))]
@[simp] theorem ref04_without_r1_go : type_of% (ops_go ref04_without_r1.eq_1 T K fr S) := ops_go ref04_without_r1.eq_1 T K fr S
def ref04_without_r2 : List POper := [Q 6 (.mov (I 0))]
@[simp] theorem ref04_without_r2_go : type_of% (ops_go ref04_without_r2.eq_1 T K fr S) := ops_go ref04_without_r2.eq_1 T K fr S
def ref04_without_r3 : List POper := [M 7 6,M 8 0,Q 9 (.len false (V 8)),Q 10 (.arith .lss (V 7) (V 9))]
@[simp] theorem ref04_without_r3_go : type_of% (ops_go ref04_without_r3.eq_1 T K fr S) := ops_go ref04_without_r3.eq_1 T K fr S
def ref04_without_r5 : List POper := [M 13 0,M 14 6,Q 15 (.iaddr 2 (V 13) (V 14)),FA 16 0 15,LD 17 16,M 18 1,Q 19 (.arith .neq (V 17) (V 18))]
@[simp] theorem ref04_without_r5_go : type_of% (ops_go ref04_without_r5.eq_1 T K fr S) := ops_go ref04_without_r5.eq_1 T K fr S
def ref04_without_r6 : List POper := [M 20 5,M 21 0,M 22 6,Q 23 (.iaddr 2 (V 21) (V 22)),Q 24 (.load true 2 false (V 23)),Q 25 (.bsl false (.agg [(.str []), (.int .i64 0)]) 1 [(0, (V 24))]),Q 26 (.app 2 24 (V 20) (V 25)),M 5 26]
@[simp] theorem ref04_without_r6_go : type_of% (ops_go ref04_without_r6.eq_1 T K fr S) := ops_go ref04_without_r6.eq_1 T K fr S
def ref04_without_r4 : List POper := [M 11 6,Q 12 (.arith .add (V 11) (I 1)),M 6 12]
@[simp] theorem ref04_without_r4_go : type_of% (ops_go ref04_without_r4.eq_1 T K fr S) := ops_go ref04_without_r4.eq_1 T K fr S
def ref04_without_l0 : PCode :=
  (.seq (.seq (.clr [(7, 10)] (.region ref04_without_r3)) (.cond (V 10) .skip (.exit 0))) (.seq (.block 1 (.seq (.clr [(13, 19)] (.region ref04_without_r5)) (.cond (V 19) (.clr [(20, 27)] (.region ref04_without_r6)) .skip))) (.clr [(11, 13)] (.region ref04_without_r4))))
@[simp] theorem ref04_without_l0_go : type_of% (code_go ref04_without_l0.eq_1 T K fr S) := code_go ref04_without_l0.eq_1 T K fr S
def ref04_without_r7 : List POper := [M 27 5,M 4 27]
@[simp] theorem ref04_without_r7_go : type_of% (ops_go ref04_without_r7.eq_1 T K fr S) := ops_go ref04_without_r7.eq_1 T K fr S
def ref04_without : PCodeFn :=
  ⟨2, [.tmp 4],
  (.seq (.region ref04_without_r0) (.seq (.region ref04_without_r1) (.seq (.seq (.region ref04_without_r2) (.block 0 (.loop ref04_without_l0))) (.seq (.clr [(27, 28)] (.region ref04_without_r7)) .ret)))), false⟩

def slices_order2Ordered_string_r0 : List POper := [Q 8 (.mov (I 0)),Q 9 (.mov (I 0))]
@[simp] theorem slices_order2Ordered_string_r0_go : type_of% (ops_go slices_order2Ordered_string_r0.eq_1 T K fr S) := ops_go slices_order2Ordered_string_r0.eq_1 T K fr S
def slices_order2Ordered_string_r1 : List POper := [M 10 0,M 11 2,Q 12 (.iaddr 1 (V 10) (V 11)),Q 13 (.load false 1 true (V 12)),M 14 0,M 15 1,Q 16 (.iaddr 1 (V 14) (V 15)),Q 17 (.load false 1 true (V 16)),Q 18 (.call .pur 369 [(V 13), (V 17)])]
@[simp] theorem slices_order2Ordered_string_r1_go : type_of% (ops_go slices_order2Ordered_string_r1.eq_1 T K fr S) := ops_go slices_order2Ordered_string_r1.eq_1 T K fr S
def slices_order2Ordered_string_r2 : List POper := [M 19 3,NK' 20 19,LD 21 20,Q 22 (.arith .add (V 21) (I 1)),NK' 23 19,QN (.store 1 (V 23) (V 22))]
@[simp] theorem slices_order2Ordered_string_r2_go : type_of% (ops_go slices_order2Ordered_string_r2.eq_1 T K fr S) := ops_go slices_order2Ordered_string_r2.eq_1 T K fr S
def slices_order2Ordered_string_r3 : List POper := [M 24 2,M 25 1,M 8 24,M 9 25]
@[simp] theorem slices_order2Ordered_string_r3_go : type_of% (ops_go slices_order2Ordered_string_r3.eq_1 T K fr S) := ops_go slices_order2Ordered_string_r3.eq_1 T K fr S
def slices_order2Ordered_string_r4 : List POper := [M 26 1,M 27 2,M 8 26,M 9 27]
@[simp] theorem slices_order2Ordered_string_r4_go : type_of% (ops_go slices_order2Ordered_string_r4.eq_1 T K fr S) := ops_go slices_order2Ordered_string_r4.eq_1 T K fr S
def slices_order2Ordered_string : PCodeFn :=
  ⟨4, [.tmp 8, .tmp 9],
  (.seq (.region slices_order2Ordered_string_r0) (.seq (.seq (.clr [(10, 18)] (.region slices_order2Ordered_string_r1)) (.cond (V 18) (.seq (.clr [(19, 24)] (.region slices_order2Ordered_string_r2)) (.seq (.clr [(24, 26)] (.region slices_order2Ordered_string_r3)) .ret)) .skip)) (.seq (.clr [(26, 28)] (.region slices_order2Ordered_string_r4)) .ret))), false⟩


end Ps
