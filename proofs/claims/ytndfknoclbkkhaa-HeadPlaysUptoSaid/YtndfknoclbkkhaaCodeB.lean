/- The functions' code, as the pure semantics has it: printed by program. -/
import Derived.Test.YtndfknoclbkkhaaCodeA
namespace Ps
open Go
set_option maxRecDepth 10000

def z18_r0 : List POper := [Q 4 (.mov (I 0))]
@[simp] theorem z18_r0_go : type_of% (og z18_r0.eq_1) := og rfl
def z18_r1 : List POper := [M 6 0,Q 7 (.len false (V 6)),Q 8 (.mov (I 0))]
@[simp] theorem z18_r1_go : type_of% (og z18_r1.eq_1) := og rfl
def z18_r2 : List POper := [Q 9 (.arith .lss (V 8) (V 7))]
@[simp] theorem z18_r2_go : type_of% (og z18_r2.eq_1) := og rfl
def z18_r3 : List POper := [M 10 8,M 5 10]
@[simp] theorem z18_r3_go : type_of% (og z18_r3.eq_1) := og rfl
def z18_r4 : List POper := [M 11 1,M 12 0,M 13 5,Q 14 (.iaddr 2 (V 12) (V 13)),Q 15 (.load true 2 false (V 14)),Q 16 (.callv .std (V 11) [(V 15)])]
@[simp] theorem z18_r4_go : type_of% (og z18_r4.eq_1) := og rfl
def z18_r5 : List POper := [M 17 5,M 4 17]
@[simp] theorem z18_r5_go : type_of% (og z18_r5.eq_1) := og rfl
def z18_r6 : List POper := [Q 18 (.arith .add (V 8) (I 1)),M 8 18]
@[simp] theorem z18_r6_go : type_of% (og z18_r6.eq_1) := og rfl
def z18_l0 : PCode :=
  (.seq (.region z18_r2) (.seq (.cond (V 9) .skip (.exit 0)) (.seq (.block 1 (.seq (.clr [(10, 11)] (.region z18_r3)) (.seq (.clr [(11, 16)] (.region z18_r4)) (.cond (V 16) (.seq (.clr [(17, 18)] (.region z18_r5)) .ret) .skip)))) (.clr [(18, 19)] (.region z18_r6)))))
@[simp] theorem z18_l0_go : type_of% (cg z18_l0.eq_1) := cg rfl
def z18_r7 : List POper := [Q 4 (.mov (I (-1)))]
@[simp] theorem z18_r7_go : type_of% (og z18_r7.eq_1) := og rfl
def z18 : PCodeFn :=
  ⟨2, [.tmp 4],
  (.seq (.region z18_r0) (.seq (.seq (.clr [(6, 7)] (.region z18_r1)) (.block 0 (.loop z18_l0))) (.seq (.region z18_r7) .ret))), false⟩

def z26_r0 : List POper := [Q 2 (.mov (.cst .nils))]
@[simp] theorem z26_r0_go : type_of% (og z26_r0.eq_1) := og rfl
def z26_r1 : List POper := [M 3 0,Q 4 (.eqn false .s (V 3))]
@[simp] theorem z26_r1_go : type_of% (og z26_r1.eq_1) := og rfl
def z26_r2 : List POper := [Q 2 (.mov (.cst .nils))]
@[simp] theorem z26_r2_go : type_of% (og z26_r2.eq_1) := og rfl
def z26_r3 : List POper := [Q 5 (.emp0),M 6 0,Q 7 (.gapp 2 16 (V 5) (V 6)),M 2 7]
@[simp] theorem z26_r3_go : type_of% (og z26_r3.eq_1) := og rfl
def z26 : PCodeFn :=
  ⟨1, [.tmp 2],
  (.seq (.region z26_r0) (.seq (.seq (.clr [(3, 4)] (.region z26_r1)) (.cond (V 4) (.seq (.region z26_r2) .ret) .skip)) (.seq (.clr [(5, 8)] (.region z26_r3)) .ret))), true⟩

def z10_r0 : List POper := [Q 10 (.mov tt')]
@[simp] theorem z10_r0_go : type_of% (og z10_r0.eq_1) := og rfl
def z10_r1 : List POper := [Q 11 (.mov tt')]
@[simp] theorem z10_r1_go : type_of% (og z10_r1.eq_1) := og rfl
def z10_r2 : List POper := [M 21 2,M 22 1,Q 23 (.arith .sub (V 21) (V 22)),M 12 23]
@[simp] theorem z10_r2_go : type_of% (og z10_r2.eq_1) := og rfl
def z10_r3 : List POper := [M 24 12,Q 25 (.arith .leq (V 24) (I 12))]
@[simp] theorem z10_r3_go : type_of% (og z10_r3.eq_1) := og rfl
def z10_r4 : List POper := [M 26 0,M 27 1,M 28 2,M 29 4,Q 30 (.call .std 381 [(V 26), (V 27), (V 28), (V 29)])]
@[simp] theorem z10_r4_go : type_of% (og z10_r4.eq_1) := og rfl
def z10_r5 : List POper := [M 31 3,Q 32 (.arith .eql (V 31) (I 0))]
@[simp] theorem z10_r5_go : type_of% (og z10_r5.eq_1) := og rfl
def z10_r6 : List POper := [M 33 0,M 34 1,M 35 2,M 36 4,Q 37 (.call .std 382 [(V 33), (V 34), (V 35), (V 36)])]
@[simp] theorem z10_r6_go : type_of% (og z10_r6.eq_1) := og rfl
def z10_r7 : List POper := [M 38 10,Q 39 (.un .not (V 38))]
@[simp] theorem z10_r7_go : type_of% (og z10_r7.eq_1) := og rfl
def z10_r8 : List POper := [M 40 0,M 41 1,M 42 2,M 43 4,Q 44 (.call .std 383 [(V 40), (V 41), (V 42), (V 43)])]
@[simp] theorem z10_r8_go : type_of% (og z10_r8.eq_1) := og rfl
def z10_r9 : List POper := [M 45 3,Q 46 (.arith .sub (V 45) (I 1)),M 3 46]
@[simp] theorem z10_r9_go : type_of% (og z10_r9.eq_1) := og rfl
def z10_r10 : List POper := [M 48 0,M 49 1,M 50 2,M 51 4,Q 52 (.call .std 384 [(V 48), (V 49), (V 50), (V 51)]),M 47 52,EX 53 0 47,EX 54 1 47,M 13 53,M 14 54]
@[simp] theorem z10_r10_go : type_of% (og z10_r10.eq_1) := og rfl
def z10_r11 : List POper := [M 55 14,Q 56 (.arith .eql (V 55) (I 2))]
@[simp] theorem z10_r11_go : type_of% (og z10_r11.eq_1) := og rfl
def z10_r12 : List POper := [M 57 0,M 58 1,M 59 2,M 60 4,Q 61 (.call .std 385 [(V 57), (V 58), (V 59), (V 60)])]
@[simp] theorem z10_r12_go : type_of% (og z10_r12.eq_1) := og rfl
def z10_r13 : List POper := [M 62 2,Q 63 (.arith .sub (V 62) (I 1)),M 64 13,M 65 1,Q 66 (.arith .sub (V 64) (V 65)),Q 67 (.arith .sub (V 63) (V 66)),M 13 67]
@[simp] theorem z10_r13_go : type_of% (og z10_r13.eq_1) := og rfl
def z10_r14 : List POper := [Q 14 (.mov (I 1))]
@[simp] theorem z10_r14_go : type_of% (og z10_r14.eq_1) := og rfl
def z10_r15 : List POper := [M 68 10,M 69 68,QG (some 70) (.mov (V 11)) 69 true,Q 71 (.pick (V 69) (V 70) ff'),M 72 71,QG (some 73) (.mov (V 14)) 72 true,QG (some 74) (.arith .eql (V 73) (I 1)) 72 true,Q 75 (.pick (V 72) (V 74) ff')]
@[simp] theorem z10_r15_go : type_of% (og z10_r15.eq_1) := og rfl
def z10_r16 : List POper := [M 76 0,M 77 1,M 78 2,M 79 4,Q 80 (.call .std 386 [(V 76), (V 77), (V 78), (V 79)])]
@[simp] theorem z10_r16_go : type_of% (og z10_r16.eq_1) := og rfl
def z10_r17 : List POper := [M 81 1,Q 82 (.arith .gtr (V 81) (I 0)),M 83 82,QG (some 84) (.mov (V 4)) 83 true,QG (some 85) (.mov (V 0)) 83 true,QG (some 86) (.mov (V 1)) 83 true,QG (some 87) (.arith .sub (V 86) (I 1)) 83 true,QG (some 88) (.iaddr 2 (V 85) (V 87)) 83 true,QG (some 89) (.load true 2 false (V 88)) 83 true,QG (some 90) (.mov (V 0)) 83 true,QG (some 91) (.mov (V 13)) 83 true,QG (some 92) (.iaddr 2 (V 90) (V 91)) 83 true,QG (some 93) (.load true 2 false (V 92)) 83 true,QG (some 94) (.callv .std (V 84) [(V 89), (V 93)]) 83 true,QG (some 95) (.arith .lss (V 94) (I 0)) 83 true,QG (some 96) (.un .not (V 95)) 83 true,Q 97 (.pick (V 83) (V 96) ff')]
@[simp] theorem z10_r17_go : type_of% (og z10_r17.eq_1) := og rfl
def z10_r18 : List POper := [M 98 0,M 99 1,M 100 2,M 101 13,M 102 4,Q 103 (.call .std 387 [(V 98), (V 99), (V 100), (V 101), (V 102)]),M 15 103]
@[simp] theorem z10_r18_go : type_of% (og z10_r18.eq_1) := og rfl
def z10_r19 : List POper := [M 104 15,M 1 104]
@[simp] theorem z10_r19_go : type_of% (og z10_r19.eq_1) := og rfl
def z10_r20 : List POper := [M 106 0,M 107 1,M 108 2,M 109 13,M 110 4,Q 111 (.call .std 388 [(V 106), (V 107), (V 108), (V 109), (V 110)]),M 105 111,EX 112 0 105,EX 113 1 105,M 16 112,M 17 113]
@[simp] theorem z10_r20_go : type_of% (og z10_r20.eq_1) := og rfl
def z10_r21 : List POper := [M 114 17,M 11 114]
@[simp] theorem z10_r21_go : type_of% (og z10_r21.eq_1) := og rfl
def z10_r22 : List POper := [M 115 16,M 116 1,Q 117 (.arith .sub (V 115) (V 116)),M 118 2,M 119 16,Q 120 (.arith .sub (V 118) (V 119)),M 18 117,M 19 120]
@[simp] theorem z10_r22_go : type_of% (og z10_r22.eq_1) := og rfl
def z10_r23 : List POper := [M 121 12,Q 122 (.arith .quo (V 121) (I 8)),M 20 122]
@[simp] theorem z10_r23_go : type_of% (og z10_r23.eq_1) := og rfl
def z10_r24 : List POper := [M 123 18,M 124 19,Q 125 (.arith .lss (V 123) (V 124))]
@[simp] theorem z10_r24_go : type_of% (og z10_r24.eq_1) := og rfl
def z10_r25 : List POper := [M 126 18,M 127 20,Q 128 (.arith .geq (V 126) (V 127)),M 10 128]
@[simp] theorem z10_r25_go : type_of% (og z10_r25.eq_1) := og rfl
def z10_r26 : List POper := [M 129 0,M 130 1,M 131 16,M 132 3,M 133 4,Q 134 (.call .std 346 [(V 129), (V 130), (V 131), (V 132), (V 133)])]
@[simp] theorem z10_r26_go : type_of% (og z10_r26.eq_1) := og rfl
def z10_r27 : List POper := [M 135 16,Q 136 (.arith .add (V 135) (I 1)),M 1 136]
@[simp] theorem z10_r27_go : type_of% (og z10_r27.eq_1) := og rfl
def z10_r28 : List POper := [M 137 19,M 138 20,Q 139 (.arith .geq (V 137) (V 138)),M 10 139]
@[simp] theorem z10_r28_go : type_of% (og z10_r28.eq_1) := og rfl
def z10_r29 : List POper := [M 140 0,M 141 16,Q 142 (.arith .add (V 141) (I 1)),M 143 2,M 144 3,M 145 4,Q 146 (.call .std 346 [(V 140), (V 142), (V 143), (V 144), (V 145)])]
@[simp] theorem z10_r29_go : type_of% (og z10_r29.eq_1) := og rfl
def z10_r30 : List POper := [M 147 16,M 2 147]
@[simp] theorem z10_r30_go : type_of% (og z10_r30.eq_1) := og rfl
def z10_l0 : PCode :=
  (.block 1 (.seq (.clr [(21, 24)] (.region z10_r2)) (.seq (.seq (.clr [(24, 25)] (.region z10_r3)) (.cond (V 25) (.seq (.clr [(26, 31)] (.region z10_r4)) .ret) .skip)) (.seq (.seq (.clr [(31, 32)] (.region z10_r5)) (.cond (V 32) (.seq (.clr [(33, 38)] (.region z10_r6)) .ret) .skip)) (.seq (.seq (.clr [(38, 39)] (.region z10_r7)) (.cond (V 39) (.seq (.clr [(40, 45)] (.region z10_r8)) (.clr [(45, 47)] (.region z10_r9))) .skip)) (.seq (.clr [(47, 55)] (.region z10_r10)) (.seq (.seq (.clr [(55, 56)] (.region z10_r11)) (.cond (V 56) (.seq (.clr [(57, 62)] (.region z10_r12)) (.seq (.clr [(62, 68)] (.region z10_r13)) (.region z10_r14))) .skip)) (.seq (.seq (.clr [(68, 75)] (.region z10_r15)) (.cond (V 75) (.seq (.clr [(76, 80)] (.region z10_r16)) (.cond (V 80) .ret .skip)) .skip)) (.seq (.seq (.clr [(81, 97)] (.region z10_r17)) (.cond (V 97) (.seq (.clr [(98, 104)] (.region z10_r18)) (.seq (.clr [(104, 105)] (.region z10_r19)) (.exit 1))) .skip)) (.seq (.clr [(105, 114)] (.region z10_r20)) (.seq (.clr [(114, 115)] (.region z10_r21)) (.seq (.clr [(115, 121)] (.region z10_r22)) (.seq (.clr [(121, 123)] (.region z10_r23)) (.seq (.clr [(123, 125)] (.region z10_r24)) (.cond (V 125) (.seq (.clr [(126, 129)] (.region z10_r25)) (.seq (.clr [(129, 135)] (.region z10_r26)) (.clr [(135, 137)] (.region z10_r27)))) (.seq (.clr [(137, 140)] (.region z10_r28)) (.seq (.clr [(140, 147)] (.region z10_r29)) (.clr [(147, 148)] (.region z10_r30)))))))))))))))))))
@[simp] theorem z10_l0_go : type_of% (cg z10_l0.eq_1) := cg rfl
def z10 : PCodeFn :=
  ⟨5, [],
  (.seq (.region z10_r0) (.seq (.region z10_r1) (.block 0 (.loop z10_l0)))), true⟩

def z46_r0 : List POper := [Q 2 (.mov (I 0))]
@[simp] theorem z46_r0_go : type_of% (og z46_r0.eq_1) := og rfl
def z46_r1 : List POper := [M 3 0,Q 4 (.toInt .u32 (V 3)),Q 5 (.call .pur 372 [(V 4)]),M 2 5]
@[simp] theorem z46_r1_go : type_of% (og z46_r1.eq_1) := og rfl
def z46_r2 : List POper := [M 6 0,Q 7 (.call .pur 373 [(V 6)]),M 2 7]
@[simp] theorem z46_r2_go : type_of% (og z46_r2.eq_1) := og rfl
def z46 : PCodeFn :=
  ⟨1, [.tmp 2],
  (.seq (.region z46_r0) (.seq (.cond (.cst (.bool false)) (.seq (.clr [(3, 6)] (.region z46_r1)) .ret) .skip) (.seq (.clr [(6, 8)] (.region z46_r2)) .ret))), false⟩

def z15_r0 : List POper := [Q 6 (.mov (I 0))]
@[simp] theorem z15_r0_go : type_of% (og z15_r0.eq_1) := og rfl
def z15_r1 : List POper := [M 11 0,Q 12 (.len false (V 11)),Q 13 (.mov (I 0))]
@[simp] theorem z15_r1_go : type_of% (og z15_r1.eq_1) := og rfl
def z15_r2 : List POper := [Q 14 (.arith .lss (V 13) (V 12))]
@[simp] theorem z15_r2_go : type_of% (og z15_r2.eq_1) := og rfl
def z15_r3 : List POper := [M 15 13,Q 16 (.iaddr 2 (V 11) (V 13)),Q 17 (.load true 2 false (V 16)),Q 8 (.alloc false [(.str []), (.str [])]),M 7 15,QN (.store 2 (V 8) (V 17))]
@[simp] theorem z15_r3_go : type_of% (og z15_r3.eq_1) := og rfl
def z15_r4 : List POper := [M 18 7,M 19 1,Q 20 (.len false (V 19)),Q 21 (.arith .geq (V 18) (V 20))]
@[simp] theorem z15_r4_go : type_of% (og z15_r4.eq_1) := og rfl
def z15_r5 : List POper := [Q 6 (.mov (I 1))]
@[simp] theorem z15_r5_go : type_of% (og z15_r5.eq_1) := og rfl
def z15_r6 : List POper := [M 22 1,M 23 7,Q 24 (.iaddr 2 (V 22) (V 23)),Q 25 (.load true 2 false (V 24)),Q 9 (.alloc false [(.str []), (.str [])]),QN (.store 2 (V 9) (V 25))]
@[simp] theorem z15_r6_go : type_of% (og z15_r6.eq_1) := og rfl
def z15_r7 : List POper := [M 26 2,Q 27 (.load true 2 false (V 8)),Q 28 (.load true 2 false (V 9)),Q 29 (.callv .std (V 26) [(V 27), (V 28)]),M 10 29]
@[simp] theorem z15_r7_go : type_of% (og z15_r7.eq_1) := og rfl
def z15_r8 : List POper := [M 30 10,Q 31 (.arith .neq (V 30) (I 0))]
@[simp] theorem z15_r8_go : type_of% (og z15_r8.eq_1) := og rfl
def z15_r9 : List POper := [M 32 10,M 6 32]
@[simp] theorem z15_r9_go : type_of% (og z15_r9.eq_1) := og rfl
def z15_r10 : List POper := [Q 33 (.arith .add (V 13) (I 1)),M 13 33]
@[simp] theorem z15_r10_go : type_of% (og z15_r10.eq_1) := og rfl
def z15_l0 : PCode :=
  (.seq (.region z15_r2) (.seq (.cond (V 14) .skip (.exit 0)) (.seq (.block 1 (.seq (.clr [(15, 18)] (.region z15_r3)) (.seq (.seq (.clr [(18, 21)] (.region z15_r4)) (.cond (V 21) (.seq (.region z15_r5) .ret) .skip)) (.seq (.clr [(22, 26)] (.region z15_r6)) (.seq (.clr [(26, 30)] (.region z15_r7)) (.seq (.clr [(30, 31)] (.region z15_r8)) (.cond (V 31) (.seq (.clr [(32, 33)] (.region z15_r9)) .ret) .skip))))))) (.clr [(33, 34)] (.region z15_r10)))))
@[simp] theorem z15_l0_go : type_of% (cg z15_l0.eq_1) := cg rfl
def z15_r11 : List POper := [M 34 0,Q 35 (.len false (V 34)),M 36 1,Q 37 (.len false (V 36)),Q 38 (.arith .lss (V 35) (V 37))]
@[simp] theorem z15_r11_go : type_of% (og z15_r11.eq_1) := og rfl
def z15_r12 : List POper := [Q 6 (.mov (I (-1)))]
@[simp] theorem z15_r12_go : type_of% (og z15_r12.eq_1) := og rfl
def z15_r13 : List POper := [Q 6 (.mov (I 0))]
@[simp] theorem z15_r13_go : type_of% (og z15_r13.eq_1) := og rfl
def z15 : PCodeFn :=
  ⟨3, [.tmp 6],
  (.seq (.region z15_r0) (.seq (.seq (.region z15_r1) (.block 0 (.loop z15_l0))) (.seq (.seq (.clr [(34, 38)] (.region z15_r11)) (.cond (V 38) (.seq (.region z15_r12) .ret) .skip)) (.seq (.region z15_r13) .ret)))), false⟩

def z42_r0 : List POper := [Q 2 (.box true (V 0)),Q 3 (.box true (V 1)),Q 4 (.mov (I 0))]
@[simp] theorem z42_r0_go : type_of% (og z42_r0.eq_1) := og rfl
def z42_r1 : List POper := [FA 5 0 2,Q 6 (.load false 1 true (V 5)),FA 7 0 3,Q 8 (.load false 1 true (V 7)),Q 9 (.call .pur 106 [(V 6), (V 8)]),FA 10 1 2,Q 11 (.load false 1 true (V 10)),FA 12 1 3,Q 13 (.load false 1 true (V 12)),Q 14 (.call .pur 106 [(V 11), (V 13)]),Q 15 (.bsl false (.int .i64 0) 2 [(0, (V 9)), (1, (V 14))]),Q 16 (.call .std 105 [(V 15)]),M 4 16]
@[simp] theorem z42_r1_go : type_of% (og z42_r1.eq_1) := og rfl
def z42 : PCodeFn :=
  ⟨2, [.tmp 4],
  (.seq (.region z42_r0) (.seq (.clr [(5, 17)] (.region z42_r1)) .ret)), false⟩

def z72_r0 : List POper := [Q 2 (.mov (I 0))]
@[simp] theorem z72_r0_go : type_of% (og z72_r0.eq_1) := og rfl
def z72_r1 : List POper := [Q 3 (.mov (I 0))]
@[simp] theorem z72_r1_go : type_of% (og z72_r1.eq_1) := og rfl
def z72_r2 : List POper := [M 6 0,Q 7 (.len false (V 6)),Q 8 (.mov (I 0))]
@[simp] theorem z72_r2_go : type_of% (og z72_r2.eq_1) := og rfl
def z72_r3 : List POper := [Q 9 (.arith .lss (V 8) (V 7))]
@[simp] theorem z72_r3_go : type_of% (og z72_r3.eq_1) := og rfl
def z72_r4 : List POper := [Q 10 (.iaddr 1 (V 6) (V 8)),LD 11 10,M 5 11]
@[simp] theorem z72_r4_go : type_of% (og z72_r4.eq_1) := og rfl
def z72_r5 : List POper := [M 12 5,M 13 3,Q 14 (.arith .neq (V 12) (V 13))]
@[simp] theorem z72_r5_go : type_of% (og z72_r5.eq_1) := og rfl
def z72_r6 : List POper := [M 15 5,M 2 15]
@[simp] theorem z72_r6_go : type_of% (og z72_r6.eq_1) := og rfl
def z72_r7 : List POper := [Q 16 (.arith .add (V 8) (I 1)),M 8 16]
@[simp] theorem z72_r7_go : type_of% (og z72_r7.eq_1) := og rfl
def z72_l0 : PCode :=
  (.seq (.region z72_r3) (.seq (.cond (V 9) .skip (.exit 0)) (.seq (.block 1 (.seq (.clr [(10, 12)] (.region z72_r4)) (.seq (.clr [(12, 14)] (.region z72_r5)) (.cond (V 14) (.seq (.clr [(15, 16)] (.region z72_r6)) .ret) .skip)))) (.clr [(16, 17)] (.region z72_r7)))))
@[simp] theorem z72_l0_go : type_of% (cg z72_l0.eq_1) := cg rfl
def z72_r8 : List POper := [M 17 3,M 2 17]
@[simp] theorem z72_r8_go : type_of% (og z72_r8.eq_1) := og rfl
def z72 : PCodeFn :=
  ⟨1, [.tmp 2],
  (.seq (.region z72_r0) (.seq (.region z72_r1) (.seq (.seq (.region z72_r2) (.block 0 (.loop z72_l0))) (.seq (.clr [(17, 18)] (.region z72_r8)) .ret)))), false⟩

def z29_r0 : List POper := [Q 4 (.mov (I 0))]
@[simp] theorem z29_r0_go : type_of% (og z29_r0.eq_1) := og rfl
def z29_r1 : List POper := [M 7 0,Q 8 (.call .pur 217 [(V 7)]),M 5 8]
@[simp] theorem z29_r1_go : type_of% (og z29_r1.eq_1) := og rfl
def z29_r2 : List POper := [M 9 1,Q 10 (.call .pur 217 [(V 9)]),M 6 10]
@[simp] theorem z29_r2_go : type_of% (og z29_r2.eq_1) := og rfl
def z29_r3 : List POper := [M 11 5]
@[simp] theorem z29_r3_go : type_of% (og z29_r3.eq_1) := og rfl
def z29_r4 : List POper := [M 12 6]
@[simp] theorem z29_r4_go : type_of% (og z29_r4.eq_1) := og rfl
def z29_r5 : List POper := [Q 4 (.mov (I 0))]
@[simp] theorem z29_r5_go : type_of% (og z29_r5.eq_1) := og rfl
def z29_r6 : List POper := [Q 4 (.mov (I (-1)))]
@[simp] theorem z29_r6_go : type_of% (og z29_r6.eq_1) := og rfl
def z29_r7 : List POper := [M 13 6]
@[simp] theorem z29_r7_go : type_of% (og z29_r7.eq_1) := og rfl
def z29_r8 : List POper := [Q 4 (.mov (I 1))]
@[simp] theorem z29_r8_go : type_of% (og z29_r8.eq_1) := og rfl
def z29_r9 : List POper := [M 14 0,M 15 1,Q 16 (.arith .lss (V 14) (V 15))]
@[simp] theorem z29_r9_go : type_of% (og z29_r9.eq_1) := og rfl
def z29_r10 : List POper := [Q 4 (.mov (I (-1)))]
@[simp] theorem z29_r10_go : type_of% (og z29_r10.eq_1) := og rfl
def z29_r11 : List POper := [M 17 0,M 18 1,Q 19 (.arith .gtr (V 17) (V 18))]
@[simp] theorem z29_r11_go : type_of% (og z29_r11.eq_1) := og rfl
def z29_r12 : List POper := [Q 4 (.mov (I 1))]
@[simp] theorem z29_r12_go : type_of% (og z29_r12.eq_1) := og rfl
def z29_r13 : List POper := [Q 4 (.mov (I 0))]
@[simp] theorem z29_r13_go : type_of% (og z29_r13.eq_1) := og rfl
def z29 : PCodeFn :=
  ⟨2, [.tmp 4],
  (.seq (.region z29_r0) (.seq (.clr [(7, 9)] (.region z29_r1)) (.seq (.clr [(9, 11)] (.region z29_r2)) (.seq (.seq (.region z29_r3) (.cond (V 11) (.seq (.seq (.region z29_r4) (.cond (V 12) (.seq (.region z29_r5) .ret) .skip)) (.seq (.region z29_r6) .ret)) .skip)) (.seq (.seq (.region z29_r7) (.cond (V 13) (.seq (.region z29_r8) .ret) .skip)) (.seq (.seq (.clr [(14, 16)] (.region z29_r9)) (.cond (V 16) (.seq (.region z29_r10) .ret) .skip)) (.seq (.seq (.clr [(17, 19)] (.region z29_r11)) (.cond (V 19) (.seq (.region z29_r12) .ret) .skip)) (.seq (.region z29_r13) .ret)))))))), false⟩

def z64_r0 : List POper := [Q 2 (.mov (I 0))]
@[simp] theorem z64_r0_go : type_of% (og z64_r0.eq_1) := og rfl
def z64_r1 : List POper := [M 4 0,Q 5 (.len false (V 4)),Q 6 (.arith .gtr (V 5) (I 8))]
@[simp] theorem z64_r1_go : type_of% (og z64_r1.eq_1) := og rfl
def z64_r2 : List POper := [Q 2 (.mov (I 3))]
@[simp] theorem z64_r2_go : type_of% (og z64_r2.eq_1) := og rfl
def z64_r3 : List POper := [Q 3 (.mov (I 0))]
@[simp] theorem z64_r3_go : type_of% (og z64_r3.eq_1) := og rfl
def z64_r4 : List POper := [M 7 3,M 8 0,Q 9 (.len false (V 8)),Q 10 (.arith .lss (V 7) (V 9))]
@[simp] theorem z64_r4_go : type_of% (og z64_r4.eq_1) := og rfl
def z64_r6 : List POper := [M 13 0,M 14 3,Q 15 (.iaddr 2 (V 13) (V 14)),FA 16 0 15,LD 17 16,Q 18 (.call .pur 126 [(V 17)]),Q 19 (.un .not (V 18))]
@[simp] theorem z64_r6_go : type_of% (og z64_r6.eq_1) := og rfl
def z64_r7 : List POper := [Q 2 (.mov (I 8))]
@[simp] theorem z64_r7_go : type_of% (og z64_r7.eq_1) := og rfl
def z64_r8 : List POper := [M 20 0,M 21 3,Q 22 (.iaddr 2 (V 20) (V 21)),FA 23 1 22,LD 24 23,Q 25 (.arith .eql (V 24) (.cst (.str [])))]
@[simp] theorem z64_r8_go : type_of% (og z64_r8.eq_1) := og rfl
def z64_r9 : List POper := [Q 2 (.mov (I 2))]
@[simp] theorem z64_r9_go : type_of% (og z64_r9.eq_1) := og rfl
def z64_r10 : List POper := [M 26 0,M 27 3,Q 28 (.iaddr 2 (V 26) (V 27)),FA 29 1 28,LD 30 29,Q 31 (.len true (V 30)),Q 32 (.arith .gtr (V 31) (I 64))]
@[simp] theorem z64_r10_go : type_of% (og z64_r10.eq_1) := og rfl
def z64_r11 : List POper := [Q 2 (.mov (I 3))]
@[simp] theorem z64_r11_go : type_of% (og z64_r11.eq_1) := og rfl
def z64_r12 : List POper := [M 33 3,Q 34 (.arith .gtr (V 33) (I 0)),M 35 34,QG (some 36) (.mov (V 0)) 35 true,QG (some 37) (.mov (V 3)) 35 true,QG (some 38) (.iaddr 2 (V 36) (V 37)) 35 true,QG (some 39) (.faddr 0 (V 38)) 35 true,QG (some 40) (.load false 1 true (V 39)) 35 true,QG (some 41) (.mov (V 0)) 35 true,QG (some 42) (.mov (V 3)) 35 true,QG (some 43) (.arith .sub (V 42) (I 1)) 35 true,QG (some 44) (.iaddr 2 (V 41) (V 43)) 35 true,QG (some 45) (.faddr 0 (V 44)) 35 true,QG (some 46) (.load false 1 true (V 45)) 35 true,QG (some 47) (.arith .leq (V 40) (V 46)) 35 true,Q 48 (.pick (V 35) (V 47) ff')]
@[simp] theorem z64_r12_go : type_of% (og z64_r12.eq_1) := og rfl
def z64_r13 : List POper := [Q 2 (.mov (I 13))]
@[simp] theorem z64_r13_go : type_of% (og z64_r13.eq_1) := og rfl
def z64_r5 : List POper := [M 11 3,Q 12 (.arith .add (V 11) (I 1)),M 3 12]
@[simp] theorem z64_r5_go : type_of% (og z64_r5.eq_1) := og rfl
def z64_l0 : PCode :=
  (.seq (.seq (.clr [(7, 10)] (.region z64_r4)) (.cond (V 10) .skip (.exit 0))) (.seq (.block 1 (.seq (.seq (.clr [(13, 19)] (.region z64_r6)) (.cond (V 19) (.seq (.region z64_r7) .ret) .skip)) (.seq (.seq (.clr [(20, 25)] (.region z64_r8)) (.cond (V 25) (.seq (.region z64_r9) .ret) .skip)) (.seq (.seq (.clr [(26, 32)] (.region z64_r10)) (.cond (V 32) (.seq (.region z64_r11) .ret) .skip)) (.seq (.clr [(33, 48)] (.region z64_r12)) (.cond (V 48) (.seq (.region z64_r13) .ret) .skip)))))) (.clr [(11, 13)] (.region z64_r5))))
@[simp] theorem z64_l0_go : type_of% (cg z64_l0.eq_1) := cg rfl
def z64_r14 : List POper := [Q 2 (.mov (I 0))]
@[simp] theorem z64_r14_go : type_of% (og z64_r14.eq_1) := og rfl
def z64 : PCodeFn :=
  ⟨1, [.tmp 2],
  (.seq (.region z64_r0) (.seq (.seq (.clr [(4, 6)] (.region z64_r1)) (.cond (V 6) (.seq (.region z64_r2) .ret) .skip)) (.seq (.seq (.region z64_r3) (.block 0 (.loop z64_l0))) (.seq (.region z64_r14) .ret)))), false⟩

def z79_r0 : List POper := [Q 2 (.mov (I 0))]
@[simp] theorem z79_r0_go : type_of% (og z79_r0.eq_1) := og rfl
def z79_r1 : List POper := [M 4 0,Q 5 (.len false (V 4)),Q 6 (.arith .eql (V 5) (I 0)),M 7 6,QG (some 8) (.mov (V 0)) 7 false,QG (some 9) (.len false (V 8)) 7 false,QG (some 10) (.arith .gtr (V 9) (I 64)) 7 false,Q 11 (.pick (V 7) tt' (V 10))]
@[simp] theorem z79_r1_go : type_of% (og z79_r1.eq_1) := og rfl
def z79_r2 : List POper := [Q 2 (.mov (I 2))]
@[simp] theorem z79_r2_go : type_of% (og z79_r2.eq_1) := og rfl
def z79_r3 : List POper := [Q 3 (.mov (I 0))]
@[simp] theorem z79_r3_go : type_of% (og z79_r3.eq_1) := og rfl
def z79_r4 : List POper := [M 12 3,M 13 0,Q 14 (.len false (V 13)),Q 15 (.arith .lss (V 12) (V 14))]
@[simp] theorem z79_r4_go : type_of% (og z79_r4.eq_1) := og rfl
def z79_r6 : List POper := [M 18 0,M 19 3,Q 20 (.iaddr 3 (V 18) (V 19)),FA 21 0 20,LD 22 21,Q 23 (.arith .lss (V 22) (I 0)),M 24 23,QG (some 25) (.mov (V 0)) 24 false,QG (some 26) (.mov (V 3)) 24 false,QG (some 27) (.iaddr 3 (V 25) (V 26)) 24 false,QG (some 28) (.faddr 0 (V 27)) 24 false,QG (some 29) (.load false 1 false (V 28)) 24 false,QG (some 30) (.arith .gtr (V 29) (I 1099511627776)) 24 false,Q 31 (.pick (V 24) tt' (V 30))]
@[simp] theorem z79_r6_go : type_of% (og z79_r6.eq_1) := og rfl
def z79_r7 : List POper := [Q 2 (.mov (I 2))]
@[simp] theorem z79_r7_go : type_of% (og z79_r7.eq_1) := og rfl
def z79_r8 : List POper := [M 32 0,M 33 3,Q 34 (.iaddr 3 (V 32) (V 33)),FA 35 1 34,Q 36 (.load true 2 false (V 35)),Q 37 (.call .std 329 [(V 36)]),Q 38 (.un .not (V 37))]
@[simp] theorem z79_r8_go : type_of% (og z79_r8.eq_1) := og rfl
def z79_r9 : List POper := [Q 2 (.mov (I 11))]
@[simp] theorem z79_r9_go : type_of% (og z79_r9.eq_1) := og rfl
def z79_r5 : List POper := [M 16 3,Q 17 (.arith .add (V 16) (I 1)),M 3 17]
@[simp] theorem z79_r5_go : type_of% (og z79_r5.eq_1) := og rfl
def z79_l0 : PCode :=
  (.seq (.seq (.clr [(12, 15)] (.region z79_r4)) (.cond (V 15) .skip (.exit 0))) (.seq (.block 1 (.seq (.seq (.clr [(18, 31)] (.region z79_r6)) (.cond (V 31) (.seq (.region z79_r7) .ret) .skip)) (.seq (.clr [(32, 38)] (.region z79_r8)) (.cond (V 38) (.seq (.region z79_r9) .ret) .skip)))) (.clr [(16, 18)] (.region z79_r5))))
@[simp] theorem z79_l0_go : type_of% (cg z79_l0.eq_1) := cg rfl
def z79_r10 : List POper := [Q 2 (.mov (I 0))]
@[simp] theorem z79_r10_go : type_of% (og z79_r10.eq_1) := og rfl
def z79 : PCodeFn :=
  ⟨1, [.tmp 2],
  (.seq (.region z79_r0) (.seq (.seq (.clr [(4, 11)] (.region z79_r1)) (.cond (V 11) (.seq (.region z79_r2) .ret) .skip)) (.seq (.seq (.region z79_r3) (.block 0 (.loop z79_l0))) (.seq (.region z79_r10) .ret)))), false⟩

def z62_r0 : List POper := [Q 2 (.mov (I 0))]
@[simp] theorem z62_r0_go : type_of% (og z62_r0.eq_1) := og rfl
def z62_r1 : List POper := [M 4 0,Q 5 (.len false (V 4)),Q 6 (.arith .gtr (V 5) (I 1024))]
@[simp] theorem z62_r1_go : type_of% (og z62_r1.eq_1) := og rfl
def z62_r2 : List POper := [Q 2 (.mov (I 3))]
@[simp] theorem z62_r2_go : type_of% (og z62_r2.eq_1) := og rfl
def z62_r3 : List POper := [Q 3 (.mov (I 0))]
@[simp] theorem z62_r3_go : type_of% (og z62_r3.eq_1) := og rfl
def z62_r4 : List POper := [M 7 3,M 8 0,Q 9 (.len false (V 8)),Q 10 (.arith .lss (V 7) (V 9))]
@[simp] theorem z62_r4_go : type_of% (og z62_r4.eq_1) := og rfl
def z62_r6 : List POper := [M 13 0,M 14 3,Q 15 (.iaddr 1 (V 13) (V 14)),LD 16 15,Q 17 (.arith .lss (V 16) (I 0)),M 18 17,QG (some 19) (.mov (V 0)) 18 false,QG (some 20) (.mov (V 3)) 18 false,QG (some 21) (.iaddr 1 (V 19) (V 20)) 18 false,QG (some 22) (.load false 1 false (V 21)) 18 false,QG (some 23) (.arith .gtr (V 22) (I 1099511627776)) 18 false,Q 24 (.pick (V 18) tt' (V 23))]
@[simp] theorem z62_r6_go : type_of% (og z62_r6.eq_1) := og rfl
def z62_r7 : List POper := [Q 2 (.mov (I 2))]
@[simp] theorem z62_r7_go : type_of% (og z62_r7.eq_1) := og rfl
def z62_r8 : List POper := [M 25 3,Q 26 (.arith .gtr (V 25) (I 0)),M 27 26,QG (some 28) (.mov (V 0)) 27 true,QG (some 29) (.mov (V 3)) 27 true,QG (some 30) (.iaddr 1 (V 28) (V 29)) 27 true,QG (some 31) (.load false 1 true (V 30)) 27 true,QG (some 32) (.mov (V 0)) 27 true,QG (some 33) (.mov (V 3)) 27 true,QG (some 34) (.arith .sub (V 33) (I 1)) 27 true,QG (some 35) (.iaddr 1 (V 32) (V 34)) 27 true,QG (some 36) (.load false 1 true (V 35)) 27 true,QG (some 37) (.arith .leq (V 31) (V 36)) 27 true,Q 38 (.pick (V 27) (V 37) ff')]
@[simp] theorem z62_r8_go : type_of% (og z62_r8.eq_1) := og rfl
def z62_r9 : List POper := [Q 2 (.mov (I 13))]
@[simp] theorem z62_r9_go : type_of% (og z62_r9.eq_1) := og rfl
def z62_r5 : List POper := [M 11 3,Q 12 (.arith .add (V 11) (I 1)),M 3 12]
@[simp] theorem z62_r5_go : type_of% (og z62_r5.eq_1) := og rfl
def z62_l0 : PCode :=
  (.seq (.seq (.clr [(7, 10)] (.region z62_r4)) (.cond (V 10) .skip (.exit 0))) (.seq (.block 1 (.seq (.seq (.clr [(13, 24)] (.region z62_r6)) (.cond (V 24) (.seq (.region z62_r7) .ret) .skip)) (.seq (.clr [(25, 38)] (.region z62_r8)) (.cond (V 38) (.seq (.region z62_r9) .ret) .skip)))) (.clr [(11, 13)] (.region z62_r5))))
@[simp] theorem z62_l0_go : type_of% (cg z62_l0.eq_1) := cg rfl
def z62_r10 : List POper := [Q 2 (.mov (I 0))]
@[simp] theorem z62_r10_go : type_of% (og z62_r10.eq_1) := og rfl
def z62 : PCodeFn :=
  ⟨1, [.tmp 2],
  (.seq (.region z62_r0) (.seq (.seq (.clr [(4, 6)] (.region z62_r1)) (.cond (V 6) (.seq (.region z62_r2) .ret) .skip)) (.seq (.seq (.region z62_r3) (.block 0 (.loop z62_l0))) (.seq (.region z62_r10) .ret)))), false⟩

def z60_r0 : List POper := [Q 2 (.mov (.cst (.str [])))]
@[simp] theorem z60_r0_go : type_of% (og z60_r0.eq_1) := og rfl
def z60_r1 : List POper := [Q 6 (.bsl false (.int .u8 0) 1 [(0, (.cst (.int .u8 34)))]),M 3 6]
@[simp] theorem z60_r1_go : type_of% (og z60_r1.eq_1) := og rfl
def z60_r2 : List POper := [M 7 0,Q 8 (.len true (V 7)),Q 9 (.mov (I 0))]
@[simp] theorem z60_r2_go : type_of% (og z60_r2.eq_1) := og rfl
def z60_r3 : List POper := [Q 10 (.arith .lss (V 9) (V 8))]
@[simp] theorem z60_r3_go : type_of% (og z60_r3.eq_1) := og rfl
def z60_r4 : List POper := [M 11 9,M 4 11]
@[simp] theorem z60_r4_go : type_of% (og z60_r4.eq_1) := og rfl
def z60_r5 : List POper := [M 12 0,M 13 4,Q 14 (.idxs (V 12) (V 13)),M 5 14]
@[simp] theorem z60_r5_go : type_of% (og z60_r5.eq_1) := og rfl
def z60_r7 : List POper := [M 20 5,Q 21 (.arith .eql (V 20) (.cst (.int .u8 34))),M 19 21]
@[simp] theorem z60_r7_go : type_of% (og z60_r7.eq_1) := og rfl
def z60_r8 : List POper := [M 22 5,Q 23 (.arith .eql (V 22) (.cst (.int .u8 92))),M 19 23]
@[simp] theorem z60_r8_go : type_of% (og z60_r8.eq_1) := og rfl
def z60_r9 : List POper := [M 24 3,M 25 5,Q 26 (.bsl false (.int .u8 0) 2 [(0, (.cst (.int .u8 92))), (1, (V 25))]),Q 27 (.app 1 1 (V 24) (V 26)),M 3 27]
@[simp] theorem z60_r9_go : type_of% (og z60_r9.eq_1) := og rfl
def z60_r10 : List POper := [M 29 5,Q 30 (.arith .lss (V 29) (.cst (.int .u8 32))),M 28 30]
@[simp] theorem z60_r10_go : type_of% (og z60_r10.eq_1) := og rfl
def z60_r11 : List POper := [M 31 5,Q 32 (.arith .gtr (V 31) (.cst (.int .u8 126))),M 28 32]
@[simp] theorem z60_r11_go : type_of% (og z60_r11.eq_1) := og rfl
def z60_r12 : List POper := [M 33 3,M 34 5,Q 35 (.arith .shr (V 34) (.cst (.int .u64 4))),Q 36 (.idxs (.cst (.str [48, 49, 50, 51, 52, 53, 54, 55, 56, 57, 97, 98, 99, 100, 101, 102])) (V 35)),M 37 5,Q 38 (.arith .and (V 37) (.cst (.int .u8 15))),Q 39 (.idxs (.cst (.str [48, 49, 50, 51, 52, 53, 54, 55, 56, 57, 97, 98, 99, 100, 101, 102])) (V 38)),Q 40 (.bsl false (.int .u8 0) 4 [(0, (.cst (.int .u8 92))), (1, (.cst (.int .u8 120))), (2, (V 36)), (3, (V 39))]),Q 41 (.app 1 1 (V 33) (V 40)),M 3 41]
@[simp] theorem z60_r12_go : type_of% (og z60_r12.eq_1) := og rfl
def z60_r6 : List POper := [M 15 3,M 16 5,Q 17 (.bsl false (.int .u8 0) 1 [(0, (V 16))]),Q 18 (.app 1 1 (V 15) (V 17)),M 3 18]
@[simp] theorem z60_r6_go : type_of% (og z60_r6.eq_1) := og rfl
def z60_r13 : List POper := [Q 42 (.arith .add (V 9) (I 1)),M 9 42]
@[simp] theorem z60_r13_go : type_of% (og z60_r13.eq_1) := og rfl
def z60_l0 : PCode :=
  (.seq (.region z60_r3) (.seq (.cond (V 10) .skip (.exit 0)) (.seq (.block 1 (.seq (.clr [(11, 12)] (.region z60_r4)) (.seq (.clr [(12, 15)] (.region z60_r5)) (.block 2 (.seq (.seq (.clr [(20, 22)] (.region z60_r7)) (.cond (V 19) .skip (.clr [(22, 24)] (.region z60_r8)))) (.cond (V 19) (.clr [(24, 28)] (.region z60_r9)) (.seq (.seq (.clr [(29, 31)] (.region z60_r10)) (.cond (V 28) .skip (.clr [(31, 33)] (.region z60_r11)))) (.cond (V 28) (.clr [(33, 42)] (.region z60_r12)) (.clr [(15, 19)] (.region z60_r6)))))))))) (.clr [(42, 43)] (.region z60_r13)))))
@[simp] theorem z60_l0_go : type_of% (cg z60_l0.eq_1) := cg rfl
def z60_r14 : List POper := [M 43 3,Q 44 (.bsl false (.int .u8 0) 1 [(0, (.cst (.int .u8 34)))]),Q 45 (.app 1 1 (V 43) (V 44)),Q 46 (.toStr (V 45)),M 2 46]
@[simp] theorem z60_r14_go : type_of% (og z60_r14.eq_1) := og rfl
def z60 : PCodeFn :=
  ⟨1, [.tmp 2],
  (.seq (.region z60_r0) (.seq (.clr [(6, 7)] (.region z60_r1)) (.seq (.seq (.clr [(7, 8)] (.region z60_r2)) (.block 0 (.loop z60_l0))) (.seq (.clr [(43, 47)] (.region z60_r14)) .ret)))), false⟩

def z59_r0 : List POper := [Q 4 (.mov (.cst (.str [])))]
@[simp] theorem z59_r0_go : type_of% (og z59_r0.eq_1) := og rfl
def z59_r1 : List POper := [M 11 0,Q 12 (.len false (V 11))]
@[simp] theorem z59_r1_go : type_of% (og z59_r1.eq_1) := og rfl
def z59_r2 : List POper := [Q 14 (.arith .eql (V 12) (I 0)),M 13 14]
@[simp] theorem z59_r2_go : type_of% (og z59_r2.eq_1) := og rfl
def z59_r3 : List POper := [Q 4 (.mov (.cst (.str [])))]
@[simp] theorem z59_r3_go : type_of% (og z59_r3.eq_1) := og rfl
def z59_r4 : List POper := [Q 16 (.arith .eql (V 12) (I 1)),M 15 16]
@[simp] theorem z59_r4_go : type_of% (og z59_r4.eq_1) := og rfl
def z59_r5 : List POper := [M 17 0,Q 18 (.iaddr 1 (V 17) (I 0)),LD 19 18,M 4 19]
@[simp] theorem z59_r5_go : type_of% (og z59_r5.eq_1) := og rfl
def z59_r6 : List POper := [Q 5 (.mov (I 0))]
@[simp] theorem z59_r6_go : type_of% (og z59_r6.eq_1) := og rfl
def z59_r7 : List POper := [M 20 1,Q 21 (.len true (V 20)),Q 22 (.arith .gtr (V 21) (I 0))]
@[simp] theorem z59_r7_go : type_of% (og z59_r7.eq_1) := og rfl
def z59_r8 : List POper := [M 23 1,Q 24 (.len true (V 23)),M 25 0,Q 26 (.len false (V 25)),Q 27 (.arith .sub (V 26) (I 1)),Q 28 (.arith .quo (I 9223372036854775807) (V 27)),Q 29 (.arith .geq (V 24) (V 28))]
@[simp] theorem z59_r8_go : type_of% (og z59_r8.eq_1) := og rfl
def z59_r10 : List POper := [M 31 5,M 32 1,Q 33 (.len true (V 32)),M 34 0,Q 35 (.len false (V 34)),Q 36 (.arith .sub (V 35) (I 1)),Q 37 (.arith .mul (V 33) (V 36)),Q 38 (.arith .add (V 31) (V 37)),M 5 38]
@[simp] theorem z59_r10_go : type_of% (og z59_r10.eq_1) := og rfl
def z59_r11 : List POper := [M 39 0,Q 40 (.len false (V 39)),Q 41 (.mov (I 0))]
@[simp] theorem z59_r11_go : type_of% (og z59_r11.eq_1) := og rfl
def z59_r12 : List POper := [Q 42 (.arith .lss (V 41) (V 40))]
@[simp] theorem z59_r12_go : type_of% (og z59_r12.eq_1) := og rfl
def z59_r13 : List POper := [Q 43 (.iaddr 1 (V 39) (V 41)),LD 44 43,M 7 44]
@[simp] theorem z59_r13_go : type_of% (og z59_r13.eq_1) := og rfl
def z59_r14 : List POper := [M 45 7,Q 46 (.len true (V 45)),M 47 5,Q 48 (.arith .sub (I 9223372036854775807) (V 47)),Q 49 (.arith .gtr (V 46) (V 48))]
@[simp] theorem z59_r14_go : type_of% (og z59_r14.eq_1) := og rfl
def z59_r16 : List POper := [M 51 5,M 52 7,Q 53 (.len true (V 52)),Q 54 (.arith .add (V 51) (V 53)),M 5 54]
@[simp] theorem z59_r16_go : type_of% (og z59_r16.eq_1) := og rfl
def z59_r17 : List POper := [Q 55 (.arith .add (V 41) (I 1)),M 41 55]
@[simp] theorem z59_r17_go : type_of% (og z59_r17.eq_1) := og rfl
def z59_l0 : PCode :=
  (.seq (.region z59_r12) (.seq (.cond (V 42) .skip (.exit 1)) (.seq (.block 2 (.seq (.clr [(43, 45)] (.region z59_r13)) (.seq (.seq (.clr [(45, 49)] (.region z59_r14)) (.cond (V 49) .bad .skip)) (.clr [(51, 55)] (.region z59_r16))))) (.clr [(55, 56)] (.region z59_r17)))))
@[simp] theorem z59_l0_go : type_of% (cg z59_l0.eq_1) := cg rfl
def z59_r18 : List POper := [Q 8 (.alloc false [.nilp, .nils])]
@[simp] theorem z59_r18_go : type_of% (og z59_r18.eq_1) := og rfl
def z59_r19 : List POper := [M 56 5,Q 57 (.call .std 213 [(V 8), (V 56)])]
@[simp] theorem z59_r19_go : type_of% (og z59_r19.eq_1) := og rfl
def z59_r20 : List POper := [M 58 0,Q 59 (.iaddr 1 (V 58) (I 0)),LD 60 59,Q 61 (.call .std 214 [(V 8), (V 60)])]
@[simp] theorem z59_r20_go : type_of% (og z59_r20.eq_1) := og rfl
def z59_r21 : List POper := [M 62 0,Q 63 (.slc 1 (some (I 1)) none (V 62)),Q 64 (.len false (V 63)),Q 65 (.mov (I 0))]
@[simp] theorem z59_r21_go : type_of% (og z59_r21.eq_1) := og rfl
def z59_r22 : List POper := [Q 66 (.arith .lss (V 65) (V 64))]
@[simp] theorem z59_r22_go : type_of% (og z59_r22.eq_1) := og rfl
def z59_r23 : List POper := [Q 67 (.iaddr 1 (V 63) (V 65)),LD 68 67,M 10 68]
@[simp] theorem z59_r23_go : type_of% (og z59_r23.eq_1) := og rfl
def z59_r24 : List POper := [M 69 1,Q 70 (.call .std 214 [(V 8), (V 69)])]
@[simp] theorem z59_r24_go : type_of% (og z59_r24.eq_1) := og rfl
def z59_r25 : List POper := [M 71 10,Q 72 (.call .std 214 [(V 8), (V 71)])]
@[simp] theorem z59_r25_go : type_of% (og z59_r25.eq_1) := og rfl
def z59_r26 : List POper := [Q 73 (.arith .add (V 65) (I 1)),M 65 73]
@[simp] theorem z59_r26_go : type_of% (og z59_r26.eq_1) := og rfl
def z59_l1 : PCode :=
  (.seq (.region z59_r22) (.seq (.cond (V 66) .skip (.exit 3)) (.seq (.block 4 (.seq (.clr [(67, 69)] (.region z59_r23)) (.seq (.clr [(69, 71)] (.region z59_r24)) (.clr [(71, 73)] (.region z59_r25))))) (.clr [(73, 74)] (.region z59_r26)))))
@[simp] theorem z59_l1_go : type_of% (cg z59_l1.eq_1) := cg rfl
def z59_r27 : List POper := [Q 74 (.call .std 215 [(V 8)]),M 4 74]
@[simp] theorem z59_r27_go : type_of% (og z59_r27.eq_1) := og rfl
def z59 : PCodeFn :=
  ⟨2, [.tmp 4],
  (.seq (.region z59_r0) (.seq (.seq (.clr [(11, 12)] (.region z59_r1)) (.block 0 (.seq (.clr [(14, 15)] (.region z59_r2)) (.cond (V 13) (.seq (.region z59_r3) .ret) (.seq (.clr [(16, 17)] (.region z59_r4)) (.cond (V 15) (.seq (.clr [(17, 20)] (.region z59_r5)) .ret) .skip)))))) (.seq (.region z59_r6) (.seq (.seq (.clr [(20, 22)] (.region z59_r7)) (.cond (V 22) (.seq (.seq (.clr [(23, 29)] (.region z59_r8)) (.cond (V 29) .bad .skip)) (.clr [(31, 39)] (.region z59_r10))) .skip)) (.seq (.seq (.region z59_r11) (.block 1 (.loop z59_l0))) (.seq (.region z59_r18) (.seq (.clr [(56, 58)] (.region z59_r19)) (.seq (.clr [(58, 62)] (.region z59_r20)) (.seq (.seq (.clr [(62, 63)] (.region z59_r21)) (.block 3 (.loop z59_l1))) (.seq (.clr [(74, 75)] (.region z59_r27)) .ret)))))))))), false⟩

def z33_r0 : List POper := [Q 4 (.mov (.cst .nils)),Q 5 (.mov (I 0))]
@[simp] theorem z33_r0_go : type_of% (og z33_r0.eq_1) := og rfl
def z33_r1 : List POper := [M 9 0,M 10 1,Q 11 (.call .std 291 [(V 9), (V 10)]),M 8 11,EX 12 0 8,EX 13 1 8,Q 6 (.alloc false [.nils, .nils]),QN (.store 2 (V 6) (V 12)),M 7 13]
@[simp] theorem z33_r1_go : type_of% (og z33_r1.eq_1) := og rfl
def z33_r2 : List POper := [FA 14 0 6,LD 15 14,Q 16 (.call .std 130 [(V 15)]),M 17 7,M 4 16,M 5 17]
@[simp] theorem z33_r2_go : type_of% (og z33_r2.eq_1) := og rfl
def z33 : PCodeFn :=
  ⟨2, [.tmp 4, .tmp 5],
  (.seq (.region z33_r0) (.seq (.clr [(8, 14)] (.region z33_r1)) (.seq (.clr [(14, 18)] (.region z33_r2)) .ret))), false⟩

def z55_r0 : List POper := [Q 4 (.mov (I 0)),Q 5 (.mov (I 0))]
@[simp] theorem z55_r0_go : type_of% (og z55_r0.eq_1) := og rfl
def z55_r1 : List POper := [M 9 0,Q 10 (.eqn false .p (V 9))]
@[simp] theorem z55_r1_go : type_of% (og z55_r1.eq_1) := og rfl
def z55_r2 : List POper := [Q 4 (.mov (I 0)),Q 5 (.mov (I 1))]
@[simp] theorem z55_r2_go : type_of% (og z55_r2.eq_1) := og rfl
def z55_r3 : List POper := [M 11 1,Q 12 (.call .std 40 [(V 11)]),M 6 12]
@[simp] theorem z55_r3_go : type_of% (og z55_r3.eq_1) := og rfl
def z55_r4 : List POper := [M 13 6,Q 14 (.arith .neq (V 13) (I 0))]
@[simp] theorem z55_r4_go : type_of% (og z55_r4.eq_1) := og rfl
def z55_r5 : List POper := [M 15 6,Q 4 (.mov (I 0)),M 5 15]
@[simp] theorem z55_r5_go : type_of% (og z55_r5.eq_1) := og rfl
def z55_r6 : List POper := [M 17 0,NK' 18 17,FA 19 1 18,LD 20 19,M 21 1,Q 22 (.call .keep 24 [(V 21)]),Q 23 (.mlk true true (.int .i64 0) (V 20) (V 22)),M 16 23,EX 24 0 16,EX 25 1 16,M 7 24,M 8 25]
@[simp] theorem z55_r6_go : type_of% (og z55_r6.eq_1) := og rfl
def z55_r7 : List POper := [M 26 8,Q 27 (.un .not (V 26))]
@[simp] theorem z55_r7_go : type_of% (og z55_r7.eq_1) := og rfl
def z55_r8 : List POper := [Q 4 (.mov (I 0)),Q 5 (.mov (I 9))]
@[simp] theorem z55_r8_go : type_of% (og z55_r8.eq_1) := og rfl
def z55_r9 : List POper := [M 28 7,M 4 28,Q 5 (.mov (I 0))]
@[simp] theorem z55_r9_go : type_of% (og z55_r9.eq_1) := og rfl
def z55 : PCodeFn :=
  ⟨2, [.tmp 4, .tmp 5],
  (.seq (.region z55_r0) (.seq (.seq (.clr [(9, 10)] (.region z55_r1)) (.cond (V 10) (.seq (.region z55_r2) .ret) .skip)) (.seq (.seq (.clr [(11, 13)] (.region z55_r3)) (.seq (.clr [(13, 14)] (.region z55_r4)) (.cond (V 14) (.seq (.clr [(15, 16)] (.region z55_r5)) .ret) .skip))) (.seq (.clr [(16, 26)] (.region z55_r6)) (.seq (.seq (.clr [(26, 27)] (.region z55_r7)) (.cond (V 27) (.seq (.region z55_r8) .ret) .skip)) (.seq (.clr [(28, 29)] (.region z55_r9)) .ret)))))), false⟩

def z48_r0 : List POper := [Q 6 (.mov (.cst .nils))]
@[simp] theorem z48_r0_go : type_of% (og z48_r0.eq_1) := og rfl
def z48_r1 : List POper := [Q 7 (.mov (.cst .nils))]
@[simp] theorem z48_r1_go : type_of% (og z48_r1.eq_1) := og rfl
def z48_r2 : List POper := [Q 8 (.mov (I 0))]
@[simp] theorem z48_r2_go : type_of% (og z48_r2.eq_1) := og rfl
def z48_r3 : List POper := [M 9 8,M 10 0,Q 11 (.len false (V 10)),Q 12 (.arith .lss (V 9) (V 11))]
@[simp] theorem z48_r3_go : type_of% (og z48_r3.eq_1) := og rfl
def z48_r5 : List POper := [M 15 0,M 16 8,Q 17 (.iaddr 2 (V 15) (V 16)),FA 18 0 17,LD 19 18,M 20 1,Q 21 (.arith .geq (V 19) (V 20)),M 22 21,QG (some 23) (.mov (V 0)) 22 true,QG (some 24) (.mov (V 8)) 22 true,QG (some 25) (.iaddr 2 (V 23) (V 24)) 22 true,QG (some 26) (.faddr 0 (V 25)) 22 true,QG (some 27) (.load false 1 false (V 26)) 22 true,QG (some 28) (.mov (V 2)) 22 true,QG (some 29) (.arith .leq (V 27) (V 28)) 22 true,Q 30 (.pick (V 22) (V 29) ff')]
@[simp] theorem z48_r5_go : type_of% (og z48_r5.eq_1) := og rfl
def z48_r6 : List POper := [M 31 7,M 32 0,M 33 8,Q 34 (.iaddr 2 (V 32) (V 33)),Q 35 (.load true 2 false (V 34)),Q 36 (.bsl false (.agg [(.int .i64 0), (.int .i64 0)]) 1 [(0, (V 35))]),Q 37 (.app 2 16 (V 31) (V 36)),M 7 37]
@[simp] theorem z48_r6_go : type_of% (og z48_r6.eq_1) := og rfl
def z48_r4 : List POper := [M 13 8,Q 14 (.arith .add (V 13) (I 1)),M 8 14]
@[simp] theorem z48_r4_go : type_of% (og z48_r4.eq_1) := og rfl
def z48_l0 : PCode :=
  (.seq (.seq (.clr [(9, 12)] (.region z48_r3)) (.cond (V 12) .skip (.exit 0))) (.seq (.block 1 (.seq (.clr [(15, 30)] (.region z48_r5)) (.cond (V 30) (.clr [(31, 38)] (.region z48_r6)) .skip))) (.clr [(13, 15)] (.region z48_r4))))
@[simp] theorem z48_l0_go : type_of% (cg z48_l0.eq_1) := cg rfl
def z48_r7 : List POper := [M 38 7,M 6 38]
@[simp] theorem z48_r7_go : type_of% (og z48_r7.eq_1) := og rfl
def z48 : PCodeFn :=
  ⟨3, [.tmp 6],
  (.seq (.region z48_r0) (.seq (.region z48_r1) (.seq (.seq (.region z48_r2) (.block 0 (.loop z48_l0))) (.seq (.clr [(38, 39)] (.region z48_r7)) .ret)))), false⟩

def z71_r0 : List POper := [Q 2 (.mov ff')]
@[simp] theorem z71_r0_go : type_of% (og z71_r0.eq_1) := og rfl
def z71_r1 : List POper := [M 5 0,Q 6 (.len true (V 5)),Q 7 (.mov (I 0))]
@[simp] theorem z71_r1_go : type_of% (og z71_r1.eq_1) := og rfl
def z71_r2 : List POper := [Q 8 (.arith .lss (V 7) (V 6))]
@[simp] theorem z71_r2_go : type_of% (og z71_r2.eq_1) := og rfl
def z71_r3 : List POper := [M 9 7,M 3 9]
@[simp] theorem z71_r3_go : type_of% (og z71_r3.eq_1) := og rfl
def z71_r4 : List POper := [M 10 0,M 11 3,Q 12 (.idxs (V 10) (V 11)),M 4 12]
@[simp] theorem z71_r4_go : type_of% (og z71_r4.eq_1) := og rfl
def z71_r6 : List POper := [M 14 4,Q 15 (.arith .geq (V 14) (.cst (.int .u8 97))),M 16 15,QG (some 17) (.mov (V 4)) 16 true,QG (some 18) (.arith .leq (V 17) (.cst (.int .u8 122))) 16 true,Q 19 (.pick (V 16) (V 18) ff'),M 13 19]
@[simp] theorem z71_r6_go : type_of% (og z71_r6.eq_1) := og rfl
def z71_r7 : List POper := [M 20 4,Q 21 (.arith .geq (V 20) (.cst (.int .u8 65))),M 22 21,QG (some 23) (.mov (V 4)) 22 true,QG (some 24) (.arith .leq (V 23) (.cst (.int .u8 90))) 22 true,Q 25 (.pick (V 22) (V 24) ff'),M 13 25]
@[simp] theorem z71_r7_go : type_of% (og z71_r7.eq_1) := og rfl
def z71_r8 : List POper := [M 26 4,Q 27 (.arith .eql (V 26) (.cst (.int .u8 95))),M 13 27]
@[simp] theorem z71_r8_go : type_of% (og z71_r8.eq_1) := og rfl
def z71_r9 : List POper := [M 29 3,Q 30 (.arith .gtr (V 29) (I 0)),M 31 30,QG (some 32) (.mov (V 4)) 31 true,QG (some 33) (.arith .geq (V 32) (.cst (.int .u8 48))) 31 true,Q 34 (.pick (V 31) (V 33) ff'),M 35 34,QG (some 36) (.mov (V 4)) 35 true,QG (some 37) (.arith .leq (V 36) (.cst (.int .u8 57))) 35 true,Q 38 (.pick (V 35) (V 37) ff'),M 28 38]
@[simp] theorem z71_r9_go : type_of% (og z71_r9.eq_1) := og rfl
def z71_r5 : List POper := [Q 2 (.mov ff')]
@[simp] theorem z71_r5_go : type_of% (og z71_r5.eq_1) := og rfl
def z71_r10 : List POper := [Q 39 (.arith .add (V 7) (I 1)),M 7 39]
@[simp] theorem z71_r10_go : type_of% (og z71_r10.eq_1) := og rfl
def z71_l0 : PCode :=
  (.seq (.region z71_r2) (.seq (.cond (V 8) .skip (.exit 0)) (.seq (.block 1 (.seq (.clr [(9, 10)] (.region z71_r3)) (.seq (.clr [(10, 13)] (.region z71_r4)) (.block 2 (.seq (.seq (.clr [(14, 20)] (.region z71_r6)) (.cond (V 13) .skip (.seq (.clr [(20, 26)] (.region z71_r7)) (.cond (V 13) .skip (.clr [(26, 28)] (.region z71_r8)))))) (.cond (V 13) .skip (.seq (.clr [(29, 39)] (.region z71_r9)) (.cond (V 28) .skip (.seq (.region z71_r5) .ret))))))))) (.clr [(39, 40)] (.region z71_r10)))))
@[simp] theorem z71_l0_go : type_of% (cg z71_l0.eq_1) := cg rfl
def z71_r11 : List POper := [M 40 0,Q 41 (.arith .neq (V 40) (.cst (.str []))),M 42 41,QG (some 43) (.mov (V 0)) 42 true,QG (some 44) (.len true (V 43)) 42 true,QG (some 45) (.arith .leq (V 44) (I 32)) 42 true,Q 46 (.pick (V 42) (V 45) ff'),M 2 46]
@[simp] theorem z71_r11_go : type_of% (og z71_r11.eq_1) := og rfl
def z71 : PCodeFn :=
  ⟨1, [.tmp 2],
  (.seq (.region z71_r0) (.seq (.seq (.clr [(5, 6)] (.region z71_r1)) (.block 0 (.loop z71_l0))) (.seq (.clr [(40, 47)] (.region z71_r11)) .ret))), false⟩

def z63_r0 : List POper := [Q 2 (.mov (I 0))]
@[simp] theorem z63_r0_go : type_of% (og z63_r0.eq_1) := og rfl
def z63_r1 : List POper := [M 5 0,Q 6 (.len false (V 5)),Q 7 (.arith .eql (V 6) (I 0)),M 8 7,QG (some 9) (.mov (V 0)) 8 false,QG (some 10) (.len false (V 9)) 8 false,QG (some 11) (.arith .gtr (V 10) (I 120)) 8 false,Q 12 (.pick (V 8) tt' (V 11))]
@[simp] theorem z63_r1_go : type_of% (og z63_r1.eq_1) := og rfl
def z63_r2 : List POper := [Q 2 (.mov (I 2))]
@[simp] theorem z63_r2_go : type_of% (og z63_r2.eq_1) := og rfl
def z63_r3 : List POper := [M 13 0,Q 14 (.len false (V 13)),Q 15 (.mov (I 0))]
@[simp] theorem z63_r3_go : type_of% (og z63_r3.eq_1) := og rfl
def z63_r4 : List POper := [Q 16 (.arith .lss (V 15) (V 14))]
@[simp] theorem z63_r4_go : type_of% (og z63_r4.eq_1) := og rfl
def z63_r5 : List POper := [M 17 15,Q 18 (.iaddr 2 (V 13) (V 15)),Q 19 (.load true 2 false (V 18)),Q 4 (.alloc false [(.int .i64 0), (.int .i64 0)]),M 3 17,QN (.store 2 (V 4) (V 19))]
@[simp] theorem z63_r5_go : type_of% (og z63_r5.eq_1) := og rfl
def z63_r6 : List POper := [Q 21 (.load true 2 false (V 4)),Q 22 (.call .std 260 [(V 21)]),Q 23 (.un .not (V 22)),M 20 23]
@[simp] theorem z63_r6_go : type_of% (og z63_r6.eq_1) := og rfl
def z63_r7 : List POper := [Q 2 (.mov (I 11))]
@[simp] theorem z63_r7_go : type_of% (og z63_r7.eq_1) := og rfl
def z63_r8 : List POper := [M 25 3,Q 26 (.arith .gtr (V 25) (I 0)),M 27 26,QG (some 28) (.faddr 0 (V 4)) 27 true,QG (some 29) (.load false 1 false (V 28)) 27 true,QG (some 30) (.mov (V 0)) 27 true,QG (some 31) (.mov (V 3)) 27 true,QG (some 32) (.arith .sub (V 31) (I 1)) 27 true,QG (some 33) (.iaddr 2 (V 30) (V 32)) 27 true,QG (some 34) (.faddr 0 (V 33)) 27 true,QG (some 35) (.load false 1 true (V 34)) 27 true,QG (some 36) (.arith .leq (V 29) (V 35)) 27 true,Q 37 (.pick (V 27) (V 36) ff'),M 24 37]
@[simp] theorem z63_r8_go : type_of% (og z63_r8.eq_1) := og rfl
def z63_r9 : List POper := [Q 2 (.mov (I 13))]
@[simp] theorem z63_r9_go : type_of% (og z63_r9.eq_1) := og rfl
def z63_r10 : List POper := [Q 38 (.arith .add (V 15) (I 1)),M 15 38]
@[simp] theorem z63_r10_go : type_of% (og z63_r10.eq_1) := og rfl
def z63_l0 : PCode :=
  (.seq (.region z63_r4) (.seq (.cond (V 16) .skip (.exit 0)) (.seq (.block 1 (.seq (.clr [(17, 20)] (.region z63_r5)) (.block 2 (.seq (.clr [(21, 24)] (.region z63_r6)) (.cond (V 20) (.seq (.region z63_r7) .ret) (.seq (.clr [(25, 38)] (.region z63_r8)) (.cond (V 24) (.seq (.region z63_r9) .ret) .skip))))))) (.clr [(38, 39)] (.region z63_r10)))))
@[simp] theorem z63_l0_go : type_of% (cg z63_l0.eq_1) := cg rfl
def z63_r11 : List POper := [Q 2 (.mov (I 0))]
@[simp] theorem z63_r11_go : type_of% (og z63_r11.eq_1) := og rfl
def z63 : PCodeFn :=
  ⟨1, [.tmp 2],
  (.seq (.region z63_r0) (.seq (.seq (.clr [(5, 12)] (.region z63_r1)) (.cond (V 12) (.seq (.region z63_r2) .ret) .skip)) (.seq (.seq (.region z63_r3) (.block 0 (.loop z63_l0))) (.seq (.region z63_r11) .ret)))), false⟩

def z52_r0 : List POper := [Q 2 (.mov (I 0))]
@[simp] theorem z52_r0_go : type_of% (og z52_r0.eq_1) := og rfl
def z52_r1 : List POper := [M 5 0,Q 6 (.len false (V 5)),Q 7 (.arith .gtr (V 6) (I 1024))]
@[simp] theorem z52_r1_go : type_of% (og z52_r1.eq_1) := og rfl
def z52_r2 : List POper := [Q 2 (.mov (I 3))]
@[simp] theorem z52_r2_go : type_of% (og z52_r2.eq_1) := og rfl
def z52_r3 : List POper := [M 8 0,Q 9 (.len false (V 8)),Q 10 (.mov (I 0))]
@[simp] theorem z52_r3_go : type_of% (og z52_r3.eq_1) := og rfl
def z52_r4 : List POper := [Q 11 (.arith .lss (V 10) (V 9))]
@[simp] theorem z52_r4_go : type_of% (og z52_r4.eq_1) := og rfl
def z52_r5 : List POper := [M 12 10,Q 13 (.iaddr 1 (V 8) (V 10)),LD 14 13,M 3 12,M 4 14]
@[simp] theorem z52_r5_go : type_of% (og z52_r5.eq_1) := og rfl
def z52_r6 : List POper := [M 16 4,Q 17 (.arith .lss (V 16) (I 0)),M 18 17,QG (some 19) (.mov (V 4)) 18 false,QG (some 20) (.arith .gtr (V 19) (I 1099511627776)) 18 false,Q 21 (.pick (V 18) tt' (V 20)),M 15 21]
@[simp] theorem z52_r6_go : type_of% (og z52_r6.eq_1) := og rfl
def z52_r7 : List POper := [Q 2 (.mov (I 2))]
@[simp] theorem z52_r7_go : type_of% (og z52_r7.eq_1) := og rfl
def z52_r8 : List POper := [M 23 3,Q 24 (.arith .gtr (V 23) (I 0)),M 25 24,QG (some 26) (.mov (V 4)) 25 true,QG (some 27) (.mov (V 0)) 25 true,QG (some 28) (.mov (V 3)) 25 true,QG (some 29) (.arith .sub (V 28) (I 1)) 25 true,QG (some 30) (.iaddr 1 (V 27) (V 29)) 25 true,QG (some 31) (.load false 1 false (V 30)) 25 true,QG (some 32) (.arith .leq (V 26) (V 31)) 25 true,Q 33 (.pick (V 25) (V 32) ff'),M 22 33]
@[simp] theorem z52_r8_go : type_of% (og z52_r8.eq_1) := og rfl
def z52_r9 : List POper := [Q 2 (.mov (I 13))]
@[simp] theorem z52_r9_go : type_of% (og z52_r9.eq_1) := og rfl
def z52_r10 : List POper := [Q 34 (.arith .add (V 10) (I 1)),M 10 34]
@[simp] theorem z52_r10_go : type_of% (og z52_r10.eq_1) := og rfl
def z52_l0 : PCode :=
  (.seq (.region z52_r4) (.seq (.cond (V 11) .skip (.exit 0)) (.seq (.block 1 (.seq (.clr [(12, 15)] (.region z52_r5)) (.block 2 (.seq (.clr [(16, 22)] (.region z52_r6)) (.cond (V 15) (.seq (.region z52_r7) .ret) (.seq (.clr [(23, 34)] (.region z52_r8)) (.cond (V 22) (.seq (.region z52_r9) .ret) .skip))))))) (.clr [(34, 35)] (.region z52_r10)))))
@[simp] theorem z52_l0_go : type_of% (cg z52_l0.eq_1) := cg rfl
def z52_r11 : List POper := [Q 2 (.mov (I 0))]
@[simp] theorem z52_r11_go : type_of% (og z52_r11.eq_1) := og rfl
def z52 : PCodeFn :=
  ⟨1, [.tmp 2],
  (.seq (.region z52_r0) (.seq (.seq (.clr [(5, 7)] (.region z52_r1)) (.cond (V 7) (.seq (.region z52_r2) .ret) .skip)) (.seq (.seq (.region z52_r3) (.block 0 (.loop z52_l0))) (.seq (.region z52_r11) .ret)))), false⟩

def z19_r0 : List POper := [Q 4 (.mov (I 0))]
@[simp] theorem z19_r0_go : type_of% (og z19_r0.eq_1) := og rfl
def z19_r1 : List POper := [M 6 0,Q 7 (.len false (V 6)),Q 8 (.mov (I 0))]
@[simp] theorem z19_r1_go : type_of% (og z19_r1.eq_1) := og rfl
def z19_r2 : List POper := [Q 9 (.arith .lss (V 8) (V 7))]
@[simp] theorem z19_r2_go : type_of% (og z19_r2.eq_1) := og rfl
def z19_r3 : List POper := [M 10 8,M 5 10]
@[simp] theorem z19_r3_go : type_of% (og z19_r3.eq_1) := og rfl
def z19_r4 : List POper := [M 11 1,M 12 0,M 13 5,Q 14 (.iaddr 2 (V 12) (V 13)),Q 15 (.load true 2 false (V 14)),Q 16 (.callv .std (V 11) [(V 15)])]
@[simp] theorem z19_r4_go : type_of% (og z19_r4.eq_1) := og rfl
def z19_r5 : List POper := [M 17 5,M 4 17]
@[simp] theorem z19_r5_go : type_of% (og z19_r5.eq_1) := og rfl
def z19_r6 : List POper := [Q 18 (.arith .add (V 8) (I 1)),M 8 18]
@[simp] theorem z19_r6_go : type_of% (og z19_r6.eq_1) := og rfl
def z19_l0 : PCode :=
  (.seq (.region z19_r2) (.seq (.cond (V 9) .skip (.exit 0)) (.seq (.block 1 (.seq (.clr [(10, 11)] (.region z19_r3)) (.seq (.clr [(11, 16)] (.region z19_r4)) (.cond (V 16) (.seq (.clr [(17, 18)] (.region z19_r5)) .ret) .skip)))) (.clr [(18, 19)] (.region z19_r6)))))
@[simp] theorem z19_l0_go : type_of% (cg z19_l0.eq_1) := cg rfl
def z19_r7 : List POper := [Q 4 (.mov (I (-1)))]
@[simp] theorem z19_r7_go : type_of% (og z19_r7.eq_1) := og rfl
def z19 : PCodeFn :=
  ⟨2, [.tmp 4],
  (.seq (.region z19_r0) (.seq (.seq (.clr [(6, 7)] (.region z19_r1)) (.block 0 (.loop z19_l0))) (.seq (.region z19_r7) .ret))), false⟩

def z75_r0 : List POper := [Q 4 (.mov (I 0))]
@[simp] theorem z75_r0_go : type_of% (og z75_r0.eq_1) := og rfl
def z75_r1 : List POper := [M 5 0,M 6 1,Q 7 (.arith .lss (V 5) (V 6))]
@[simp] theorem z75_r1_go : type_of% (og z75_r1.eq_1) := og rfl
def z75_r2 : List POper := [Q 4 (.mov (I (-1)))]
@[simp] theorem z75_r2_go : type_of% (og z75_r2.eq_1) := og rfl
def z75_r3 : List POper := [M 8 0,M 9 1,Q 10 (.arith .gtr (V 8) (V 9))]
@[simp] theorem z75_r3_go : type_of% (og z75_r3.eq_1) := og rfl
def z75_r4 : List POper := [Q 4 (.mov (I 1))]
@[simp] theorem z75_r4_go : type_of% (og z75_r4.eq_1) := og rfl
def z75_r5 : List POper := [Q 4 (.mov (I 0))]
@[simp] theorem z75_r5_go : type_of% (og z75_r5.eq_1) := og rfl
def z75 : PCodeFn :=
  ⟨2, [.tmp 4],
  (.seq (.region z75_r0) (.seq (.seq (.clr [(5, 7)] (.region z75_r1)) (.cond (V 7) (.seq (.region z75_r2) .ret) .skip)) (.seq (.seq (.clr [(8, 10)] (.region z75_r3)) (.cond (V 10) (.seq (.region z75_r4) .ret) .skip)) (.seq (.region z75_r5) .ret)))), false⟩

def z4_r0 : List POper := [M 10 1,Q 11 (.arith .add (V 10) (I 1)),M 8 11]
@[simp] theorem z4_r0_go : type_of% (og z4_r0.eq_1) := og rfl
def z4_r1 : List POper := [M 12 8,M 13 2,Q 14 (.arith .lss (V 12) (V 13))]
@[simp] theorem z4_r1_go : type_of% (og z4_r1.eq_1) := og rfl
def z4_r3 : List POper := [M 17 8,M 9 17]
@[simp] theorem z4_r3_go : type_of% (og z4_r3.eq_1) := og rfl
def z4_r4 : List POper := [M 18 9,M 19 1,Q 20 (.arith .gtr (V 18) (V 19)),M 21 20,QG (some 22) (.mov (V 3)) 21 true,QG (some 23) (.mov (V 0)) 21 true,QG (some 24) (.mov (V 9)) 21 true,QG (some 25) (.iaddr 2 (V 23) (V 24)) 21 true,QG (some 26) (.load true 2 false (V 25)) 21 true,QG (some 27) (.mov (V 0)) 21 true,QG (some 28) (.mov (V 9)) 21 true,QG (some 29) (.arith .sub (V 28) (I 1)) 21 true,QG (some 30) (.iaddr 2 (V 27) (V 29)) 21 true,QG (some 31) (.load true 2 false (V 30)) 21 true,QG (some 32) (.callv .std (V 22) [(V 26), (V 31)]) 21 true,QG (some 33) (.arith .lss (V 32) (I 0)) 21 true,Q 34 (.pick (V 21) (V 33) ff')]
@[simp] theorem z4_r4_go : type_of% (og z4_r4.eq_1) := og rfl
def z4_r6 : List POper := [M 37 0,M 38 9,M 39 0,M 40 9,Q 41 (.arith .sub (V 40) (I 1)),M 42 0,M 43 9,Q 44 (.arith .sub (V 43) (I 1)),Q 45 (.iaddr 2 (V 42) (V 44)),Q 46 (.load true 2 false (V 45)),M 47 0,M 48 9,Q 49 (.iaddr 2 (V 47) (V 48)),Q 50 (.load true 2 false (V 49)),Q 51 (.iaddr 2 (V 37) (V 38)),QN (.store 2 (V 51) (V 46)),Q 52 (.iaddr 2 (V 39) (V 41)),QN (.store 2 (V 52) (V 50))]
@[simp] theorem z4_r6_go : type_of% (og z4_r6.eq_1) := og rfl
def z4_r5 : List POper := [M 35 9,Q 36 (.arith .sub (V 35) (I 1)),M 9 36]
@[simp] theorem z4_r5_go : type_of% (og z4_r5.eq_1) := og rfl
def z4_l1 : PCode :=
  (.seq (.seq (.clr [(18, 34)] (.region z4_r4)) (.cond (V 34) .skip (.exit 2))) (.seq (.block 3 (.clr [(37, 53)] (.region z4_r6))) (.clr [(35, 37)] (.region z4_r5))))
@[simp] theorem z4_l1_go : type_of% (cg z4_l1.eq_1) := cg rfl
def z4_r2 : List POper := [M 15 8,Q 16 (.arith .add (V 15) (I 1)),M 8 16]
@[simp] theorem z4_r2_go : type_of% (og z4_r2.eq_1) := og rfl
def z4_l0 : PCode :=
  (.seq (.seq (.clr [(12, 14)] (.region z4_r1)) (.cond (V 14) .skip (.exit 0))) (.seq (.block 1 (.seq (.clr [(17, 18)] (.region z4_r3)) (.block 2 (.loop z4_l1)))) (.clr [(15, 17)] (.region z4_r2))))
@[simp] theorem z4_l0_go : type_of% (cg z4_l0.eq_1) := cg rfl
def z4 : PCodeFn :=
  ⟨4, [],
  (.seq (.clr [(10, 12)] (.region z4_r0)) (.block 0 (.loop z4_l0))), true⟩

def z9_r0 : List POper := [M 13 1,M 8 13]
@[simp] theorem z9_r0_go : type_of% (og z9_r0.eq_1) := og rfl
def z9_r1 : List POper := [Q 9 (.mov (I 0))]
@[simp] theorem z9_r1_go : type_of% (og z9_r1.eq_1) := og rfl
def z9_r2 : List POper := [M 14 2,M 15 1,Q 16 (.arith .sub (V 14) (V 15)),M 10 16]
@[simp] theorem z9_r2_go : type_of% (og z9_r2.eq_1) := og rfl
def z9_r3 : List POper := [M 17 10,Q 18 (.arith .sub (V 17) (I 1)),Q 19 (.arith .quo (V 18) (I 2)),M 11 19]
@[simp] theorem z9_r3_go : type_of% (og z9_r3.eq_1) := og rfl
def z9_r4 : List POper := [M 20 11,Q 21 (.arith .geq (V 20) (I 0))]
@[simp] theorem z9_r4_go : type_of% (og z9_r4.eq_1) := og rfl
def z9_r6 : List POper := [M 24 0,M 25 11,M 26 10,M 27 8,M 28 3,Q 29 (.call .std 407 [(V 24), (V 25), (V 26), (V 27), (V 28)])]
@[simp] theorem z9_r6_go : type_of% (og z9_r6.eq_1) := og rfl
def z9_r5 : List POper := [M 22 11,Q 23 (.arith .sub (V 22) (I 1)),M 11 23]
@[simp] theorem z9_r5_go : type_of% (og z9_r5.eq_1) := og rfl
def z9_l0 : PCode :=
  (.seq (.seq (.clr [(20, 21)] (.region z9_r4)) (.cond (V 21) .skip (.exit 0))) (.seq (.block 1 (.clr [(24, 30)] (.region z9_r6))) (.clr [(22, 24)] (.region z9_r5))))
@[simp] theorem z9_l0_go : type_of% (cg z9_l0.eq_1) := cg rfl
def z9_r7 : List POper := [M 30 10,Q 31 (.arith .sub (V 30) (I 1)),M 12 31]
@[simp] theorem z9_r7_go : type_of% (og z9_r7.eq_1) := og rfl
def z9_r8 : List POper := [M 32 12,Q 33 (.arith .geq (V 32) (I 0))]
@[simp] theorem z9_r8_go : type_of% (og z9_r8.eq_1) := og rfl
def z9_r10 : List POper := [M 36 0,M 37 8,M 38 0,M 39 8,M 40 12,Q 41 (.arith .add (V 39) (V 40)),M 42 0,M 43 8,M 44 12,Q 45 (.arith .add (V 43) (V 44)),Q 46 (.iaddr 2 (V 42) (V 45)),Q 47 (.load true 2 false (V 46)),M 48 0,M 49 8,Q 50 (.iaddr 2 (V 48) (V 49)),Q 51 (.load true 2 false (V 50)),Q 52 (.iaddr 2 (V 36) (V 37)),QN (.store 2 (V 52) (V 47)),Q 53 (.iaddr 2 (V 38) (V 41)),QN (.store 2 (V 53) (V 51))]
@[simp] theorem z9_r10_go : type_of% (og z9_r10.eq_1) := og rfl
def z9_r11 : List POper := [M 54 0,M 55 9,M 56 12,M 57 8,M 58 3,Q 59 (.call .std 407 [(V 54), (V 55), (V 56), (V 57), (V 58)])]
@[simp] theorem z9_r11_go : type_of% (og z9_r11.eq_1) := og rfl
def z9_r9 : List POper := [M 34 12,Q 35 (.arith .sub (V 34) (I 1)),M 12 35]
@[simp] theorem z9_r9_go : type_of% (og z9_r9.eq_1) := og rfl
def z9_l1 : PCode :=
  (.seq (.seq (.clr [(32, 33)] (.region z9_r8)) (.cond (V 33) .skip (.exit 2))) (.seq (.block 3 (.seq (.clr [(36, 54)] (.region z9_r10)) (.clr [(54, 60)] (.region z9_r11)))) (.clr [(34, 36)] (.region z9_r9))))
@[simp] theorem z9_l1_go : type_of% (cg z9_l1.eq_1) := cg rfl
def z9 : PCodeFn :=
  ⟨4, [],
  (.seq (.clr [(13, 14)] (.region z9_r0)) (.seq (.region z9_r1) (.seq (.clr [(14, 17)] (.region z9_r2)) (.seq (.seq (.clr [(17, 20)] (.region z9_r3)) (.block 0 (.loop z9_l0))) (.seq (.clr [(30, 32)] (.region z9_r7)) (.block 2 (.loop z9_l1))))))), true⟩

def z3_r0 : List POper := [M 13 2,M 14 1,Q 15 (.arith .sub (V 13) (V 14)),M 8 15]
@[simp] theorem z3_r0_go : type_of% (og z3_r0.eq_1) := og rfl
def z3_r1 : List POper := [M 16 8,Q 17 (.arith .geq (V 16) (I 8))]
@[simp] theorem z3_r1_go : type_of% (og z3_r1.eq_1) := og rfl
def z3_r2 : List POper := [M 18 8,Q 19 (.toInt .u64 (V 18)),Q 9 (.alloc false [(.int .u64 0)]),QN (.store 1 (V 9) (V 19))]
@[simp] theorem z3_r2_go : type_of% (og z3_r2.eq_1) := og rfl
def z3_r3 : List POper := [M 20 8,Q 21 (.call .pur 395 [(V 20)]),M 10 21]
@[simp] theorem z3_r3_go : type_of% (og z3_r3.eq_1) := og rfl
def z3_r4 : List POper := [M 22 1,M 23 8,Q 24 (.arith .quo (V 23) (I 4)),Q 25 (.arith .mul (V 24) (I 2)),Q 26 (.arith .add (V 22) (V 25)),Q 27 (.arith .sub (V 26) (I 1)),M 11 27]
@[simp] theorem z3_r4_go : type_of% (og z3_r4.eq_1) := og rfl
def z3_r5 : List POper := [M 28 11,M 29 1,M 30 8,Q 31 (.arith .quo (V 30) (I 4)),Q 32 (.arith .mul (V 31) (I 2)),Q 33 (.arith .add (V 29) (V 32)),Q 34 (.arith .add (V 33) (I 1)),Q 35 (.arith .leq (V 28) (V 34))]
@[simp] theorem z3_r5_go : type_of% (og z3_r5.eq_1) := og rfl
def z3_r7 : List POper := [Q 38 (.call .std 396 [(V 9)]),M 39 10,Q 40 (.arith .sub (V 39) (.cst (.int .u64 1))),Q 41 (.arith .and (V 38) (V 40)),Q 42 (.toInt .i64 (V 41)),M 12 42]
@[simp] theorem z3_r7_go : type_of% (og z3_r7.eq_1) := og rfl
def z3_r8 : List POper := [M 43 12,M 44 8,Q 45 (.arith .geq (V 43) (V 44))]
@[simp] theorem z3_r8_go : type_of% (og z3_r8.eq_1) := og rfl
def z3_r9 : List POper := [M 46 12,M 47 8,Q 48 (.arith .sub (V 46) (V 47)),M 12 48]
@[simp] theorem z3_r9_go : type_of% (og z3_r9.eq_1) := og rfl
def z3_r10 : List POper := [M 49 0,M 50 11,M 51 0,M 52 1,M 53 12,Q 54 (.arith .add (V 52) (V 53)),M 55 0,M 56 1,M 57 12,Q 58 (.arith .add (V 56) (V 57)),Q 59 (.iaddr 2 (V 55) (V 58)),Q 60 (.load true 2 false (V 59)),M 61 0,M 62 11,Q 63 (.iaddr 2 (V 61) (V 62)),Q 64 (.load true 2 false (V 63)),Q 65 (.iaddr 2 (V 49) (V 50)),QN (.store 2 (V 65) (V 60)),Q 66 (.iaddr 2 (V 51) (V 54)),QN (.store 2 (V 66) (V 64))]
@[simp] theorem z3_r10_go : type_of% (og z3_r10.eq_1) := og rfl
def z3_r6 : List POper := [M 36 11,Q 37 (.arith .add (V 36) (I 1)),M 11 37]
@[simp] theorem z3_r6_go : type_of% (og z3_r6.eq_1) := og rfl
def z3_l0 : PCode :=
  (.seq (.seq (.clr [(28, 35)] (.region z3_r5)) (.cond (V 35) .skip (.exit 0))) (.seq (.block 1 (.seq (.clr [(38, 43)] (.region z3_r7)) (.seq (.seq (.clr [(43, 45)] (.region z3_r8)) (.cond (V 45) (.clr [(46, 49)] (.region z3_r9)) .skip)) (.clr [(49, 67)] (.region z3_r10))))) (.clr [(36, 38)] (.region z3_r6))))
@[simp] theorem z3_l0_go : type_of% (cg z3_l0.eq_1) := cg rfl
def z3 : PCodeFn :=
  ⟨4, [],
  (.seq (.clr [(13, 16)] (.region z3_r0)) (.seq (.clr [(16, 17)] (.region z3_r1)) (.cond (V 17) (.seq (.clr [(18, 20)] (.region z3_r2)) (.seq (.clr [(20, 22)] (.region z3_r3)) (.seq (.clr [(22, 28)] (.region z3_r4)) (.block 0 (.loop z3_l0))))) .skip))), true⟩

def z6_r0 : List POper := [Q 8 (.mov (I 0)),Q 9 (.mov (I 0))]
@[simp] theorem z6_r0_go : type_of% (og z6_r0.eq_1) := og rfl
def z6_r1 : List POper := [M 15 2,M 16 1,Q 17 (.arith .sub (V 15) (V 16)),M 10 17]
@[simp] theorem z6_r1_go : type_of% (og z6_r1.eq_1) := og rfl
def z6_r2 : List POper := [Q 11 (.alloc false [(.int .i64 0)])]
@[simp] theorem z6_r2_go : type_of% (og z6_r2.eq_1) := og rfl
def z6_r3 : List POper := [M 18 1,M 19 10,Q 20 (.arith .quo (V 19) (I 4)),Q 21 (.arith .mul (V 20) (I 1)),Q 22 (.arith .add (V 18) (V 21)),M 12 22]
@[simp] theorem z6_r3_go : type_of% (og z6_r3.eq_1) := og rfl
def z6_r4 : List POper := [M 23 1,M 24 10,Q 25 (.arith .quo (V 24) (I 4)),Q 26 (.arith .mul (V 25) (I 2)),Q 27 (.arith .add (V 23) (V 26)),M 13 27]
@[simp] theorem z6_r4_go : type_of% (og z6_r4.eq_1) := og rfl
def z6_r5 : List POper := [M 28 1,M 29 10,Q 30 (.arith .quo (V 29) (I 4)),Q 31 (.arith .mul (V 30) (I 3)),Q 32 (.arith .add (V 28) (V 31)),M 14 32]
@[simp] theorem z6_r5_go : type_of% (og z6_r5.eq_1) := og rfl
def z6_r6 : List POper := [M 33 10,Q 34 (.arith .geq (V 33) (I 8))]
@[simp] theorem z6_r6_go : type_of% (og z6_r6.eq_1) := og rfl
def z6_r7 : List POper := [M 35 10,Q 36 (.arith .geq (V 35) (I 50))]
@[simp] theorem z6_r7_go : type_of% (og z6_r7.eq_1) := og rfl
def z6_r8 : List POper := [M 37 0,M 38 12,M 39 3,Q 40 (.call .std 408 [(V 37), (V 38), (V 11), (V 39)]),M 12 40]
@[simp] theorem z6_r8_go : type_of% (og z6_r8.eq_1) := og rfl
def z6_r9 : List POper := [M 41 0,M 42 13,M 43 3,Q 44 (.call .std 408 [(V 41), (V 42), (V 11), (V 43)]),M 13 44]
@[simp] theorem z6_r9_go : type_of% (og z6_r9.eq_1) := og rfl
def z6_r10 : List POper := [M 45 0,M 46 14,M 47 3,Q 48 (.call .std 408 [(V 45), (V 46), (V 11), (V 47)]),M 14 48]
@[simp] theorem z6_r10_go : type_of% (og z6_r10.eq_1) := og rfl
def z6_r11 : List POper := [M 49 0,M 50 12,M 51 13,M 52 14,M 53 3,Q 54 (.call .std 409 [(V 49), (V 50), (V 51), (V 52), (V 11), (V 53)]),M 13 54]
@[simp] theorem z6_r11_go : type_of% (og z6_r11.eq_1) := og rfl
def z6_r12 : List POper := [LD 55 11]
@[simp] theorem z6_r12_go : type_of% (og z6_r12.eq_1) := og rfl
def z6_r14 : List POper := [Q 58 (.arith .eql (V 55) (I 0)),M 57 58]
@[simp] theorem z6_r14_go : type_of% (og z6_r14.eq_1) := og rfl
def z6_r15 : List POper := [M 59 13,M 8 59,Q 9 (.mov (I 1))]
@[simp] theorem z6_r15_go : type_of% (og z6_r15.eq_1) := og rfl
def z6_r16 : List POper := [Q 61 (.arith .eql (V 55) (I 12)),M 60 61]
@[simp] theorem z6_r16_go : type_of% (og z6_r16.eq_1) := og rfl
def z6_r17 : List POper := [M 62 13,M 8 62,Q 9 (.mov (I 2))]
@[simp] theorem z6_r17_go : type_of% (og z6_r17.eq_1) := og rfl
def z6_r13 : List POper := [M 56 13,M 8 56,Q 9 (.mov (I 0))]
@[simp] theorem z6_r13_go : type_of% (og z6_r13.eq_1) := og rfl
def z6 : PCodeFn :=
  ⟨4, [.tmp 8, .tmp 9],
  (.seq (.region z6_r0) (.seq (.clr [(15, 18)] (.region z6_r1)) (.seq (.region z6_r2) (.seq (.clr [(18, 23)] (.region z6_r3)) (.seq (.clr [(23, 28)] (.region z6_r4)) (.seq (.clr [(28, 33)] (.region z6_r5)) (.seq (.seq (.clr [(33, 34)] (.region z6_r6)) (.cond (V 34) (.seq (.seq (.clr [(35, 36)] (.region z6_r7)) (.cond (V 36) (.seq (.clr [(37, 41)] (.region z6_r8)) (.seq (.clr [(41, 45)] (.region z6_r9)) (.clr [(45, 49)] (.region z6_r10)))) .skip)) (.clr [(49, 55)] (.region z6_r11))) .skip)) (.seq (.region z6_r12) (.block 0 (.seq (.clr [(58, 59)] (.region z6_r14)) (.cond (V 57) (.seq (.clr [(59, 60)] (.region z6_r15)) .ret) (.seq (.clr [(61, 62)] (.region z6_r16)) (.cond (V 60) (.seq (.clr [(62, 63)] (.region z6_r17)) .ret) (.seq (.clr [(56, 57)] (.region z6_r13)) .ret)))))))))))))), true⟩

def z5_r0 : List POper := [M 10 1,M 8 10]
@[simp] theorem z5_r0_go : type_of% (og z5_r0.eq_1) := og rfl
def z5_r1 : List POper := [M 11 2,Q 12 (.arith .sub (V 11) (I 1)),M 9 12]
@[simp] theorem z5_r1_go : type_of% (og z5_r1.eq_1) := og rfl
def z5_r2 : List POper := [M 13 8,M 14 9,Q 15 (.arith .lss (V 13) (V 14))]
@[simp] theorem z5_r2_go : type_of% (og z5_r2.eq_1) := og rfl
def z5_r3 : List POper := [M 16 0,M 17 8,M 18 0,M 19 9,M 20 0,M 21 9,Q 22 (.iaddr 2 (V 20) (V 21)),Q 23 (.load true 2 false (V 22)),M 24 0,M 25 8,Q 26 (.iaddr 2 (V 24) (V 25)),Q 27 (.load true 2 false (V 26)),Q 28 (.iaddr 2 (V 16) (V 17)),QN (.store 2 (V 28) (V 23)),Q 29 (.iaddr 2 (V 18) (V 19)),QN (.store 2 (V 29) (V 27))]
@[simp] theorem z5_r3_go : type_of% (og z5_r3.eq_1) := og rfl
def z5_r4 : List POper := [M 30 8,Q 31 (.arith .add (V 30) (I 1)),M 8 31]
@[simp] theorem z5_r4_go : type_of% (og z5_r4.eq_1) := og rfl
def z5_r5 : List POper := [M 32 9,Q 33 (.arith .sub (V 32) (I 1)),M 9 33]
@[simp] theorem z5_r5_go : type_of% (og z5_r5.eq_1) := og rfl
def z5_l0 : PCode :=
  (.seq (.seq (.clr [(13, 15)] (.region z5_r2)) (.cond (V 15) .skip (.exit 0))) (.block 1 (.seq (.clr [(16, 30)] (.region z5_r3)) (.seq (.clr [(30, 32)] (.region z5_r4)) (.clr [(32, 34)] (.region z5_r5))))))
@[simp] theorem z5_l0_go : type_of% (cg z5_l0.eq_1) := cg rfl
def z5 : PCodeFn :=
  ⟨4, [],
  (.seq (.clr [(10, 11)] (.region z5_r0)) (.seq (.clr [(11, 13)] (.region z5_r1)) (.block 0 (.loop z5_l0)))), true⟩

def z0_r0 : List POper := [Q 8 (.mov ff')]
@[simp] theorem z0_r0_go : type_of% (og z0_r0.eq_1) := og rfl
def z0_r1 : List POper := [M 13 1,Q 14 (.arith .add (V 13) (I 1)),M 9 14]
@[simp] theorem z0_r1_go : type_of% (og z0_r1.eq_1) := og rfl
def z0_r2 : List POper := [Q 10 (.mov (I 0))]
@[simp] theorem z0_r2_go : type_of% (og z0_r2.eq_1) := og rfl
def z0_r3 : List POper := [M 15 10,Q 16 (.arith .lss (V 15) (I 5))]
@[simp] theorem z0_r3_go : type_of% (og z0_r3.eq_1) := og rfl
def z0_r5 : List POper := [M 19 9,M 20 2,Q 21 (.arith .lss (V 19) (V 20)),M 22 21,QG (some 23) (.mov (V 3)) 22 true,QG (some 24) (.mov (V 0)) 22 true,QG (some 25) (.mov (V 9)) 22 true,QG (some 26) (.iaddr 2 (V 24) (V 25)) 22 true,QG (some 27) (.load true 2 false (V 26)) 22 true,QG (some 28) (.mov (V 0)) 22 true,QG (some 29) (.mov (V 9)) 22 true,QG (some 30) (.arith .sub (V 29) (I 1)) 22 true,QG (some 31) (.iaddr 2 (V 28) (V 30)) 22 true,QG (some 32) (.load true 2 false (V 31)) 22 true,QG (some 33) (.callv .std (V 23) [(V 27), (V 32)]) 22 true,QG (some 34) (.arith .lss (V 33) (I 0)) 22 true,QG (some 35) (.un .not (V 34)) 22 true,Q 36 (.pick (V 22) (V 35) ff')]
@[simp] theorem z0_r5_go : type_of% (og z0_r5.eq_1) := og rfl
def z0_r6 : List POper := [M 37 9,Q 38 (.arith .add (V 37) (I 1)),M 9 38]
@[simp] theorem z0_r6_go : type_of% (og z0_r6.eq_1) := og rfl
def z0_l1 : PCode :=
  (.seq (.seq (.clr [(19, 36)] (.region z0_r5)) (.cond (V 36) .skip (.exit 2))) (.block 3 (.clr [(37, 39)] (.region z0_r6))))
@[simp] theorem z0_l1_go : type_of% (cg z0_l1.eq_1) := cg rfl
def z0_r7 : List POper := [M 39 9,M 40 2,Q 41 (.arith .eql (V 39) (V 40))]
@[simp] theorem z0_r7_go : type_of% (og z0_r7.eq_1) := og rfl
def z0_r8 : List POper := [Q 8 (.mov tt')]
@[simp] theorem z0_r8_go : type_of% (og z0_r8.eq_1) := og rfl
def z0_r9 : List POper := [M 42 2,M 43 1,Q 44 (.arith .sub (V 42) (V 43)),Q 45 (.arith .lss (V 44) (I 50))]
@[simp] theorem z0_r9_go : type_of% (og z0_r9.eq_1) := og rfl
def z0_r10 : List POper := [Q 8 (.mov ff')]
@[simp] theorem z0_r10_go : type_of% (og z0_r10.eq_1) := og rfl
def z0_r11 : List POper := [M 46 0,M 47 9,M 48 0,M 49 9,Q 50 (.arith .sub (V 49) (I 1)),M 51 0,M 52 9,Q 53 (.arith .sub (V 52) (I 1)),Q 54 (.iaddr 2 (V 51) (V 53)),Q 55 (.load true 2 false (V 54)),M 56 0,M 57 9,Q 58 (.iaddr 2 (V 56) (V 57)),Q 59 (.load true 2 false (V 58)),Q 60 (.iaddr 2 (V 46) (V 47)),QN (.store 2 (V 60) (V 55)),Q 61 (.iaddr 2 (V 48) (V 50)),QN (.store 2 (V 61) (V 59))]
@[simp] theorem z0_r11_go : type_of% (og z0_r11.eq_1) := og rfl
def z0_r12 : List POper := [M 62 9,M 63 1,Q 64 (.arith .sub (V 62) (V 63)),Q 65 (.arith .geq (V 64) (I 2))]
@[simp] theorem z0_r12_go : type_of% (og z0_r12.eq_1) := og rfl
def z0_r13 : List POper := [M 66 9,Q 67 (.arith .sub (V 66) (I 1)),M 11 67]
@[simp] theorem z0_r13_go : type_of% (og z0_r13.eq_1) := og rfl
def z0_r14 : List POper := [M 68 11,Q 69 (.arith .geq (V 68) (I 1))]
@[simp] theorem z0_r14_go : type_of% (og z0_r14.eq_1) := og rfl
def z0_r16 : List POper := [M 72 3,M 73 0,M 74 11,Q 75 (.iaddr 2 (V 73) (V 74)),Q 76 (.load true 2 false (V 75)),M 77 0,M 78 11,Q 79 (.arith .sub (V 78) (I 1)),Q 80 (.iaddr 2 (V 77) (V 79)),Q 81 (.load true 2 false (V 80)),Q 82 (.callv .std (V 72) [(V 76), (V 81)]),Q 83 (.arith .lss (V 82) (I 0)),Q 84 (.un .not (V 83))]
@[simp] theorem z0_r16_go : type_of% (og z0_r16.eq_1) := og rfl
def z0_r17 : List POper := [M 85 0,M 86 11,M 87 0,M 88 11,Q 89 (.arith .sub (V 88) (I 1)),M 90 0,M 91 11,Q 92 (.arith .sub (V 91) (I 1)),Q 93 (.iaddr 2 (V 90) (V 92)),Q 94 (.load true 2 false (V 93)),M 95 0,M 96 11,Q 97 (.iaddr 2 (V 95) (V 96)),Q 98 (.load true 2 false (V 97)),Q 99 (.iaddr 2 (V 85) (V 86)),QN (.store 2 (V 99) (V 94)),Q 100 (.iaddr 2 (V 87) (V 89)),QN (.store 2 (V 100) (V 98))]
@[simp] theorem z0_r17_go : type_of% (og z0_r17.eq_1) := og rfl
def z0_r15 : List POper := [M 70 11,Q 71 (.arith .sub (V 70) (I 1)),M 11 71]
@[simp] theorem z0_r15_go : type_of% (og z0_r15.eq_1) := og rfl
def z0_l2 : PCode :=
  (.seq (.seq (.clr [(68, 69)] (.region z0_r14)) (.cond (V 69) .skip (.exit 4))) (.seq (.block 5 (.seq (.seq (.clr [(72, 84)] (.region z0_r16)) (.cond (V 84) (.exit 4) .skip)) (.clr [(85, 101)] (.region z0_r17)))) (.clr [(70, 72)] (.region z0_r15))))
@[simp] theorem z0_l2_go : type_of% (cg z0_l2.eq_1) := cg rfl
def z0_r18 : List POper := [M 101 2,M 102 9,Q 103 (.arith .sub (V 101) (V 102)),Q 104 (.arith .geq (V 103) (I 2))]
@[simp] theorem z0_r18_go : type_of% (og z0_r18.eq_1) := og rfl
def z0_r19 : List POper := [M 105 9,Q 106 (.arith .add (V 105) (I 1)),M 12 106]
@[simp] theorem z0_r19_go : type_of% (og z0_r19.eq_1) := og rfl
def z0_r20 : List POper := [M 107 12,M 108 2,Q 109 (.arith .lss (V 107) (V 108))]
@[simp] theorem z0_r20_go : type_of% (og z0_r20.eq_1) := og rfl
def z0_r22 : List POper := [M 112 3,M 113 0,M 114 12,Q 115 (.iaddr 2 (V 113) (V 114)),Q 116 (.load true 2 false (V 115)),M 117 0,M 118 12,Q 119 (.arith .sub (V 118) (I 1)),Q 120 (.iaddr 2 (V 117) (V 119)),Q 121 (.load true 2 false (V 120)),Q 122 (.callv .std (V 112) [(V 116), (V 121)]),Q 123 (.arith .lss (V 122) (I 0)),Q 124 (.un .not (V 123))]
@[simp] theorem z0_r22_go : type_of% (og z0_r22.eq_1) := og rfl
def z0_r23 : List POper := [M 125 0,M 126 12,M 127 0,M 128 12,Q 129 (.arith .sub (V 128) (I 1)),M 130 0,M 131 12,Q 132 (.arith .sub (V 131) (I 1)),Q 133 (.iaddr 2 (V 130) (V 132)),Q 134 (.load true 2 false (V 133)),M 135 0,M 136 12,Q 137 (.iaddr 2 (V 135) (V 136)),Q 138 (.load true 2 false (V 137)),Q 139 (.iaddr 2 (V 125) (V 126)),QN (.store 2 (V 139) (V 134)),Q 140 (.iaddr 2 (V 127) (V 129)),QN (.store 2 (V 140) (V 138))]
@[simp] theorem z0_r23_go : type_of% (og z0_r23.eq_1) := og rfl
def z0_r21 : List POper := [M 110 12,Q 111 (.arith .add (V 110) (I 1)),M 12 111]
@[simp] theorem z0_r21_go : type_of% (og z0_r21.eq_1) := og rfl
def z0_l3 : PCode :=
  (.seq (.seq (.clr [(107, 109)] (.region z0_r20)) (.cond (V 109) .skip (.exit 6))) (.seq (.block 7 (.seq (.seq (.clr [(112, 124)] (.region z0_r22)) (.cond (V 124) (.exit 6) .skip)) (.clr [(125, 141)] (.region z0_r23)))) (.clr [(110, 112)] (.region z0_r21))))
@[simp] theorem z0_l3_go : type_of% (cg z0_l3.eq_1) := cg rfl
def z0_r4 : List POper := [M 17 10,Q 18 (.arith .add (V 17) (I 1)),M 10 18]
@[simp] theorem z0_r4_go : type_of% (og z0_r4.eq_1) := og rfl
def z0_l0 : PCode :=
  (.seq (.seq (.clr [(15, 16)] (.region z0_r3)) (.cond (V 16) .skip (.exit 0))) (.seq (.block 1 (.seq (.block 2 (.loop z0_l1)) (.seq (.seq (.clr [(39, 41)] (.region z0_r7)) (.cond (V 41) (.seq (.region z0_r8) .ret) .skip)) (.seq (.seq (.clr [(42, 45)] (.region z0_r9)) (.cond (V 45) (.seq (.region z0_r10) .ret) .skip)) (.seq (.clr [(46, 62)] (.region z0_r11)) (.seq (.seq (.clr [(62, 65)] (.region z0_r12)) (.cond (V 65) (.seq (.clr [(66, 68)] (.region z0_r13)) (.block 4 (.loop z0_l2))) .skip)) (.seq (.clr [(101, 104)] (.region z0_r18)) (.cond (V 104) (.seq (.clr [(105, 107)] (.region z0_r19)) (.block 6 (.loop z0_l3))) .skip)))))))) (.clr [(17, 19)] (.region z0_r4))))
@[simp] theorem z0_l0_go : type_of% (cg z0_l0.eq_1) := cg rfl
def z0_r24 : List POper := [Q 8 (.mov ff')]
@[simp] theorem z0_r24_go : type_of% (og z0_r24.eq_1) := og rfl
def z0 : PCodeFn :=
  ⟨4, [.tmp 8],
  (.seq (.region z0_r0) (.seq (.clr [(13, 15)] (.region z0_r1)) (.seq (.seq (.region z0_r2) (.block 0 (.loop z0_l0))) (.seq (.region z0_r24) .ret)))), true⟩

def z2_r0 : List POper := [Q 10 (.mov (I 0))]
@[simp] theorem z2_r0_go : type_of% (og z2_r0.eq_1) := og rfl
def z2_r1 : List POper := [M 13 0,M 14 1,M 15 0,M 16 3,M 17 0,M 18 3,Q 19 (.iaddr 2 (V 17) (V 18)),Q 20 (.load true 2 false (V 19)),M 21 0,M 22 1,Q 23 (.iaddr 2 (V 21) (V 22)),Q 24 (.load true 2 false (V 23)),Q 25 (.iaddr 2 (V 13) (V 14)),QN (.store 2 (V 25) (V 20)),Q 26 (.iaddr 2 (V 15) (V 16)),QN (.store 2 (V 26) (V 24))]
@[simp] theorem z2_r1_go : type_of% (og z2_r1.eq_1) := og rfl
def z2_r2 : List POper := [M 27 1,Q 28 (.arith .add (V 27) (I 1)),M 29 2,Q 30 (.arith .sub (V 29) (I 1)),M 11 28,M 12 30]
@[simp] theorem z2_r2_go : type_of% (og z2_r2.eq_1) := og rfl
def z2_r3 : List POper := [M 31 11,M 32 12,Q 33 (.arith .leq (V 31) (V 32)),M 34 33,QG (some 35) (.mov (V 4)) 34 true,QG (some 36) (.mov (V 0)) 34 true,QG (some 37) (.mov (V 1)) 34 true,QG (some 38) (.iaddr 2 (V 36) (V 37)) 34 true,QG (some 39) (.load true 2 false (V 38)) 34 true,QG (some 40) (.mov (V 0)) 34 true,QG (some 41) (.mov (V 11)) 34 true,QG (some 42) (.iaddr 2 (V 40) (V 41)) 34 true,QG (some 43) (.load true 2 false (V 42)) 34 true,QG (some 44) (.callv .std (V 35) [(V 39), (V 43)]) 34 true,QG (some 45) (.arith .lss (V 44) (I 0)) 34 true,QG (some 46) (.un .not (V 45)) 34 true,Q 47 (.pick (V 34) (V 46) ff')]
@[simp] theorem z2_r3_go : type_of% (og z2_r3.eq_1) := og rfl
def z2_r4 : List POper := [M 48 11,Q 49 (.arith .add (V 48) (I 1)),M 11 49]
@[simp] theorem z2_r4_go : type_of% (og z2_r4.eq_1) := og rfl
def z2_l1 : PCode :=
  (.seq (.seq (.clr [(31, 47)] (.region z2_r3)) (.cond (V 47) .skip (.exit 2))) (.block 3 (.clr [(48, 50)] (.region z2_r4))))
@[simp] theorem z2_l1_go : type_of% (cg z2_l1.eq_1) := cg rfl
def z2_r5 : List POper := [M 50 11,M 51 12,Q 52 (.arith .leq (V 50) (V 51)),M 53 52,QG (some 54) (.mov (V 4)) 53 true,QG (some 55) (.mov (V 0)) 53 true,QG (some 56) (.mov (V 1)) 53 true,QG (some 57) (.iaddr 2 (V 55) (V 56)) 53 true,QG (some 58) (.load true 2 false (V 57)) 53 true,QG (some 59) (.mov (V 0)) 53 true,QG (some 60) (.mov (V 12)) 53 true,QG (some 61) (.iaddr 2 (V 59) (V 60)) 53 true,QG (some 62) (.load true 2 false (V 61)) 53 true,QG (some 63) (.callv .std (V 54) [(V 58), (V 62)]) 53 true,QG (some 64) (.arith .lss (V 63) (I 0)) 53 true,Q 65 (.pick (V 53) (V 64) ff')]
@[simp] theorem z2_r5_go : type_of% (og z2_r5.eq_1) := og rfl
def z2_r6 : List POper := [M 66 12,Q 67 (.arith .sub (V 66) (I 1)),M 12 67]
@[simp] theorem z2_r6_go : type_of% (og z2_r6.eq_1) := og rfl
def z2_l2 : PCode :=
  (.seq (.seq (.clr [(50, 65)] (.region z2_r5)) (.cond (V 65) .skip (.exit 4))) (.block 5 (.clr [(66, 68)] (.region z2_r6))))
@[simp] theorem z2_l2_go : type_of% (cg z2_l2.eq_1) := cg rfl
def z2_r7 : List POper := [M 68 11,M 69 12,Q 70 (.arith .gtr (V 68) (V 69))]
@[simp] theorem z2_r7_go : type_of% (og z2_r7.eq_1) := og rfl
def z2_r8 : List POper := [M 71 0,M 72 11,M 73 0,M 74 12,M 75 0,M 76 12,Q 77 (.iaddr 2 (V 75) (V 76)),Q 78 (.load true 2 false (V 77)),M 79 0,M 80 11,Q 81 (.iaddr 2 (V 79) (V 80)),Q 82 (.load true 2 false (V 81)),Q 83 (.iaddr 2 (V 71) (V 72)),QN (.store 2 (V 83) (V 78)),Q 84 (.iaddr 2 (V 73) (V 74)),QN (.store 2 (V 84) (V 82))]
@[simp] theorem z2_r8_go : type_of% (og z2_r8.eq_1) := og rfl
def z2_r9 : List POper := [M 85 11,Q 86 (.arith .add (V 85) (I 1)),M 11 86]
@[simp] theorem z2_r9_go : type_of% (og z2_r9.eq_1) := og rfl
def z2_r10 : List POper := [M 87 12,Q 88 (.arith .sub (V 87) (I 1)),M 12 88]
@[simp] theorem z2_r10_go : type_of% (og z2_r10.eq_1) := og rfl
def z2_l0 : PCode :=
  (.block 1 (.seq (.block 2 (.loop z2_l1)) (.seq (.block 4 (.loop z2_l2)) (.seq (.seq (.clr [(68, 70)] (.region z2_r7)) (.cond (V 70) (.exit 0) .skip)) (.seq (.clr [(71, 85)] (.region z2_r8)) (.seq (.clr [(85, 87)] (.region z2_r9)) (.clr [(87, 89)] (.region z2_r10))))))))
@[simp] theorem z2_l0_go : type_of% (cg z2_l0.eq_1) := cg rfl
def z2_r11 : List POper := [M 89 11,M 10 89]
@[simp] theorem z2_r11_go : type_of% (og z2_r11.eq_1) := og rfl
def z2 : PCodeFn :=
  ⟨5, [.tmp 10],
  (.seq (.region z2_r0) (.seq (.clr [(13, 27)] (.region z2_r1)) (.seq (.clr [(27, 31)] (.region z2_r2)) (.seq (.block 0 (.loop z2_l0)) (.seq (.clr [(89, 90)] (.region z2_r11)) .ret))))), true⟩

def z7_r0 : List POper := [Q 10 (.mov (I 0)),Q 11 (.mov ff')]
@[simp] theorem z7_r0_go : type_of% (og z7_r0.eq_1) := og rfl
def z7_r1 : List POper := [M 14 0,M 15 1,M 16 0,M 17 3,M 18 0,M 19 3,Q 20 (.iaddr 2 (V 18) (V 19)),Q 21 (.load true 2 false (V 20)),M 22 0,M 23 1,Q 24 (.iaddr 2 (V 22) (V 23)),Q 25 (.load true 2 false (V 24)),Q 26 (.iaddr 2 (V 14) (V 15)),QN (.store 2 (V 26) (V 21)),Q 27 (.iaddr 2 (V 16) (V 17)),QN (.store 2 (V 27) (V 25))]
@[simp] theorem z7_r1_go : type_of% (og z7_r1.eq_1) := og rfl
def z7_r2 : List POper := [M 28 1,Q 29 (.arith .add (V 28) (I 1)),M 30 2,Q 31 (.arith .sub (V 30) (I 1)),M 12 29,M 13 31]
@[simp] theorem z7_r2_go : type_of% (og z7_r2.eq_1) := og rfl
def z7_r3 : List POper := [M 32 12,M 33 13,Q 34 (.arith .leq (V 32) (V 33)),M 35 34,QG (some 36) (.mov (V 4)) 35 true,QG (some 37) (.mov (V 0)) 35 true,QG (some 38) (.mov (V 12)) 35 true,QG (some 39) (.iaddr 2 (V 37) (V 38)) 35 true,QG (some 40) (.load true 2 false (V 39)) 35 true,QG (some 41) (.mov (V 0)) 35 true,QG (some 42) (.mov (V 1)) 35 true,QG (some 43) (.iaddr 2 (V 41) (V 42)) 35 true,QG (some 44) (.load true 2 false (V 43)) 35 true,QG (some 45) (.callv .std (V 36) [(V 40), (V 44)]) 35 true,QG (some 46) (.arith .lss (V 45) (I 0)) 35 true,Q 47 (.pick (V 35) (V 46) ff')]
@[simp] theorem z7_r3_go : type_of% (og z7_r3.eq_1) := og rfl
def z7_r4 : List POper := [M 48 12,Q 49 (.arith .add (V 48) (I 1)),M 12 49]
@[simp] theorem z7_r4_go : type_of% (og z7_r4.eq_1) := og rfl
def z7_l0 : PCode :=
  (.seq (.seq (.clr [(32, 47)] (.region z7_r3)) (.cond (V 47) .skip (.exit 0))) (.block 1 (.clr [(48, 50)] (.region z7_r4))))
@[simp] theorem z7_l0_go : type_of% (cg z7_l0.eq_1) := cg rfl
def z7_r5 : List POper := [M 50 12,M 51 13,Q 52 (.arith .leq (V 50) (V 51)),M 53 52,QG (some 54) (.mov (V 4)) 53 true,QG (some 55) (.mov (V 0)) 53 true,QG (some 56) (.mov (V 13)) 53 true,QG (some 57) (.iaddr 2 (V 55) (V 56)) 53 true,QG (some 58) (.load true 2 false (V 57)) 53 true,QG (some 59) (.mov (V 0)) 53 true,QG (some 60) (.mov (V 1)) 53 true,QG (some 61) (.iaddr 2 (V 59) (V 60)) 53 true,QG (some 62) (.load true 2 false (V 61)) 53 true,QG (some 63) (.callv .std (V 54) [(V 58), (V 62)]) 53 true,QG (some 64) (.arith .lss (V 63) (I 0)) 53 true,QG (some 65) (.un .not (V 64)) 53 true,Q 66 (.pick (V 53) (V 65) ff')]
@[simp] theorem z7_r5_go : type_of% (og z7_r5.eq_1) := og rfl
def z7_r6 : List POper := [M 67 13,Q 68 (.arith .sub (V 67) (I 1)),M 13 68]
@[simp] theorem z7_r6_go : type_of% (og z7_r6.eq_1) := og rfl
def z7_l1 : PCode :=
  (.seq (.seq (.clr [(50, 66)] (.region z7_r5)) (.cond (V 66) .skip (.exit 2))) (.block 3 (.clr [(67, 69)] (.region z7_r6))))
@[simp] theorem z7_l1_go : type_of% (cg z7_l1.eq_1) := cg rfl
def z7_r7 : List POper := [M 69 12,M 70 13,Q 71 (.arith .gtr (V 69) (V 70))]
@[simp] theorem z7_r7_go : type_of% (og z7_r7.eq_1) := og rfl
def z7_r8 : List POper := [M 72 0,M 73 13,M 74 0,M 75 1,M 76 0,M 77 1,Q 78 (.iaddr 2 (V 76) (V 77)),Q 79 (.load true 2 false (V 78)),M 80 0,M 81 13,Q 82 (.iaddr 2 (V 80) (V 81)),Q 83 (.load true 2 false (V 82)),Q 84 (.iaddr 2 (V 72) (V 73)),QN (.store 2 (V 84) (V 79)),Q 85 (.iaddr 2 (V 74) (V 75)),QN (.store 2 (V 85) (V 83))]
@[simp] theorem z7_r8_go : type_of% (og z7_r8.eq_1) := og rfl
def z7_r9 : List POper := [M 86 13,M 10 86,Q 11 (.mov tt')]
@[simp] theorem z7_r9_go : type_of% (og z7_r9.eq_1) := og rfl
def z7_r10 : List POper := [M 87 0,M 88 12,M 89 0,M 90 13,M 91 0,M 92 13,Q 93 (.iaddr 2 (V 91) (V 92)),Q 94 (.load true 2 false (V 93)),M 95 0,M 96 12,Q 97 (.iaddr 2 (V 95) (V 96)),Q 98 (.load true 2 false (V 97)),Q 99 (.iaddr 2 (V 87) (V 88)),QN (.store 2 (V 99) (V 94)),Q 100 (.iaddr 2 (V 89) (V 90)),QN (.store 2 (V 100) (V 98))]
@[simp] theorem z7_r10_go : type_of% (og z7_r10.eq_1) := og rfl
def z7_r11 : List POper := [M 101 12,Q 102 (.arith .add (V 101) (I 1)),M 12 102]
@[simp] theorem z7_r11_go : type_of% (og z7_r11.eq_1) := og rfl
def z7_r12 : List POper := [M 103 13,Q 104 (.arith .sub (V 103) (I 1)),M 13 104]
@[simp] theorem z7_r12_go : type_of% (og z7_r12.eq_1) := og rfl
def z7_r13 : List POper := [M 105 12,M 106 13,Q 107 (.arith .leq (V 105) (V 106)),M 108 107,QG (some 109) (.mov (V 4)) 108 true,QG (some 110) (.mov (V 0)) 108 true,QG (some 111) (.mov (V 12)) 108 true,QG (some 112) (.iaddr 2 (V 110) (V 111)) 108 true,QG (some 113) (.load true 2 false (V 112)) 108 true,QG (some 114) (.mov (V 0)) 108 true,QG (some 115) (.mov (V 1)) 108 true,QG (some 116) (.iaddr 2 (V 114) (V 115)) 108 true,QG (some 117) (.load true 2 false (V 116)) 108 true,QG (some 118) (.callv .std (V 109) [(V 113), (V 117)]) 108 true,QG (some 119) (.arith .lss (V 118) (I 0)) 108 true,Q 120 (.pick (V 108) (V 119) ff')]
@[simp] theorem z7_r13_go : type_of% (og z7_r13.eq_1) := og rfl
def z7_r14 : List POper := [M 121 12,Q 122 (.arith .add (V 121) (I 1)),M 12 122]
@[simp] theorem z7_r14_go : type_of% (og z7_r14.eq_1) := og rfl
def z7_l3 : PCode :=
  (.seq (.seq (.clr [(105, 120)] (.region z7_r13)) (.cond (V 120) .skip (.exit 6))) (.block 7 (.clr [(121, 123)] (.region z7_r14))))
@[simp] theorem z7_l3_go : type_of% (cg z7_l3.eq_1) := cg rfl
def z7_r15 : List POper := [M 123 12,M 124 13,Q 125 (.arith .leq (V 123) (V 124)),M 126 125,QG (some 127) (.mov (V 4)) 126 true,QG (some 128) (.mov (V 0)) 126 true,QG (some 129) (.mov (V 13)) 126 true,QG (some 130) (.iaddr 2 (V 128) (V 129)) 126 true,QG (some 131) (.load true 2 false (V 130)) 126 true,QG (some 132) (.mov (V 0)) 126 true,QG (some 133) (.mov (V 1)) 126 true,QG (some 134) (.iaddr 2 (V 132) (V 133)) 126 true,QG (some 135) (.load true 2 false (V 134)) 126 true,QG (some 136) (.callv .std (V 127) [(V 131), (V 135)]) 126 true,QG (some 137) (.arith .lss (V 136) (I 0)) 126 true,QG (some 138) (.un .not (V 137)) 126 true,Q 139 (.pick (V 126) (V 138) ff')]
@[simp] theorem z7_r15_go : type_of% (og z7_r15.eq_1) := og rfl
def z7_r16 : List POper := [M 140 13,Q 141 (.arith .sub (V 140) (I 1)),M 13 141]
@[simp] theorem z7_r16_go : type_of% (og z7_r16.eq_1) := og rfl
def z7_l4 : PCode :=
  (.seq (.seq (.clr [(123, 139)] (.region z7_r15)) (.cond (V 139) .skip (.exit 8))) (.block 9 (.clr [(140, 142)] (.region z7_r16))))
@[simp] theorem z7_l4_go : type_of% (cg z7_l4.eq_1) := cg rfl
def z7_r17 : List POper := [M 142 12,M 143 13,Q 144 (.arith .gtr (V 142) (V 143))]
@[simp] theorem z7_r17_go : type_of% (og z7_r17.eq_1) := og rfl
def z7_r18 : List POper := [M 145 0,M 146 12,M 147 0,M 148 13,M 149 0,M 150 13,Q 151 (.iaddr 2 (V 149) (V 150)),Q 152 (.load true 2 false (V 151)),M 153 0,M 154 12,Q 155 (.iaddr 2 (V 153) (V 154)),Q 156 (.load true 2 false (V 155)),Q 157 (.iaddr 2 (V 145) (V 146)),QN (.store 2 (V 157) (V 152)),Q 158 (.iaddr 2 (V 147) (V 148)),QN (.store 2 (V 158) (V 156))]
@[simp] theorem z7_r18_go : type_of% (og z7_r18.eq_1) := og rfl
def z7_r19 : List POper := [M 159 12,Q 160 (.arith .add (V 159) (I 1)),M 12 160]
@[simp] theorem z7_r19_go : type_of% (og z7_r19.eq_1) := og rfl
def z7_r20 : List POper := [M 161 13,Q 162 (.arith .sub (V 161) (I 1)),M 13 162]
@[simp] theorem z7_r20_go : type_of% (og z7_r20.eq_1) := og rfl
def z7_l2 : PCode :=
  (.block 5 (.seq (.block 6 (.loop z7_l3)) (.seq (.block 8 (.loop z7_l4)) (.seq (.seq (.clr [(142, 144)] (.region z7_r17)) (.cond (V 144) (.exit 4) .skip)) (.seq (.clr [(145, 159)] (.region z7_r18)) (.seq (.clr [(159, 161)] (.region z7_r19)) (.clr [(161, 163)] (.region z7_r20))))))))
@[simp] theorem z7_l2_go : type_of% (cg z7_l2.eq_1) := cg rfl
def z7_r21 : List POper := [M 163 0,M 164 13,M 165 0,M 166 1,M 167 0,M 168 1,Q 169 (.iaddr 2 (V 167) (V 168)),Q 170 (.load true 2 false (V 169)),M 171 0,M 172 13,Q 173 (.iaddr 2 (V 171) (V 172)),Q 174 (.load true 2 false (V 173)),Q 175 (.iaddr 2 (V 163) (V 164)),QN (.store 2 (V 175) (V 170)),Q 176 (.iaddr 2 (V 165) (V 166)),QN (.store 2 (V 176) (V 174))]
@[simp] theorem z7_r21_go : type_of% (og z7_r21.eq_1) := og rfl
def z7_r22 : List POper := [M 177 13,M 10 177,Q 11 (.mov ff')]
@[simp] theorem z7_r22_go : type_of% (og z7_r22.eq_1) := og rfl
def z7 : PCodeFn :=
  ⟨5, [.tmp 10, .tmp 11],
  (.seq (.region z7_r0) (.seq (.clr [(14, 28)] (.region z7_r1)) (.seq (.clr [(28, 32)] (.region z7_r2)) (.seq (.block 0 (.loop z7_l0)) (.seq (.block 2 (.loop z7_l1)) (.seq (.seq (.clr [(69, 71)] (.region z7_r7)) (.cond (V 71) (.seq (.clr [(72, 86)] (.region z7_r8)) (.seq (.clr [(86, 87)] (.region z7_r9)) .ret)) .skip)) (.seq (.clr [(87, 101)] (.region z7_r10)) (.seq (.clr [(101, 103)] (.region z7_r11)) (.seq (.clr [(103, 105)] (.region z7_r12)) (.seq (.block 4 (.loop z7_l2)) (.seq (.clr [(163, 177)] (.region z7_r21)) (.seq (.clr [(177, 178)] (.region z7_r22)) .ret)))))))))))), true⟩

end Ps
