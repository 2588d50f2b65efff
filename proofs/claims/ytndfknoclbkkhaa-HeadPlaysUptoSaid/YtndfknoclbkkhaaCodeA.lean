/- The functions' code, as the pure semantics has it: printed by program. -/
import Derived.Test.YtndfknoclbkkhaaWalk
namespace Ps
open Go
set_option maxRecDepth 10000

def z38_r0 : List POper := [Q 6 (.mov ff')]
@[simp] theorem z38_r0_go : type_of% (og z38_r0.eq_1) := og rfl
def z38_r1 : List POper := [Q 15 (.call .std 68 []),M 7 15]
@[simp] theorem z38_r1_go : type_of% (og z38_r1.eq_1) := og rfl
def z38_r2 : List POper := [M 16 7,Q 17 (.eqn false .p (V 16))]
@[simp] theorem z38_r2_go : type_of% (og z38_r2.eq_1) := og rfl
def z38_r3 : List POper := [Q 6 (.mov ff')]
@[simp] theorem z38_r3_go : type_of% (og z38_r3.eq_1) := og rfl
def z38_r4 : List POper := [Q 8 (.mov (.cst .nils))]
@[simp] theorem z38_r4_go : type_of% (og z38_r4.eq_1) := og rfl
def z38_r5 : List POper := [Q 9 (.mov (I 0))]
@[simp] theorem z38_r5_go : type_of% (og z38_r5.eq_1) := og rfl
def z38_r6 : List POper := [M 18 9,M 19 0,Q 20 (.len false (V 19)),Q 21 (.arith .lss (V 18) (V 20)),M 22 21,QG (some 23) (.mov (V 9)) 22 true,QG (some 24) (.arith .lss (V 23) (I 60)) 22 true,Q 25 (.pick (V 22) (V 24) ff')]
@[simp] theorem z38_r6_go : type_of% (og z38_r6.eq_1) := og rfl
def z38_r8 : List POper := [M 28 0,M 29 9,Q 30 (.iaddr 6 (V 28) (V 29)),Q 31 (.load true 6 false (V 30)),Q 32 (.call .std 69 [(V 31)]),Q 10 (.alloc false [(.int .i64 0), .nils, .nils, .nils, (.int .i64 0), (.int .i64 0)]),QN (.store 6 (V 10) (V 32))]
@[simp] theorem z38_r8_go : type_of% (og z38_r8.eq_1) := og rfl
def z38_r9 : List POper := [M 33 7,Q 34 (.load true 6 false (V 10)),Q 35 (.call .std 70 [(V 33), (V 34)]),M 11 35]
@[simp] theorem z38_r9_go : type_of% (og z38_r9.eq_1) := og rfl
def z38_r10 : List POper := [M 37 8,M 38 0,M 39 9,Q 40 (.iaddr 6 (V 38) (V 39)),Q 41 (.load true 6 false (V 40)),Q 42 (.call .std 71 [(V 37), (V 41)]),M 36 42,EX 43 0 36,EX 44 1 36,M 12 43,M 13 44]
@[simp] theorem z38_r10_go : type_of% (og z38_r10.eq_1) := og rfl
def z38_r11 : List POper := [Q 45 (.load true 6 false (V 10)),Q 46 (.call .std 72 [(V 45)])]
@[simp] theorem z38_r11_go : type_of% (og z38_r11.eq_1) := og rfl
def z38_r12 : List POper := [M 47 11,M 48 13,Q 49 (.arith .neq (V 47) (V 48))]
@[simp] theorem z38_r12_go : type_of% (og z38_r12.eq_1) := og rfl
def z38_r13 : List POper := [Q 6 (.mov ff')]
@[simp] theorem z38_r13_go : type_of% (og z38_r13.eq_1) := og rfl
def z38_r14 : List POper := [M 50 12,M 8 50]
@[simp] theorem z38_r14_go : type_of% (og z38_r14.eq_1) := og rfl
def z38_r15 : List POper := [M 51 9,Q 52 (.arith .rem (V 51) (I 8)),Q 53 (.arith .eql (V 52) (I 3))]
@[simp] theorem z38_r15_go : type_of% (og z38_r15.eq_1) := og rfl
def z38_r16 : List POper := [M 54 7,Q 55 (.call .std 73 [(V 54)]),M 14 55]
@[simp] theorem z38_r16_go : type_of% (og z38_r16.eq_1) := og rfl
def z38_r17 : List POper := [M 56 14,Q 57 (.eqn false .p (V 56))]
@[simp] theorem z38_r17_go : type_of% (og z38_r17.eq_1) := og rfl
def z38_r18 : List POper := [Q 6 (.mov ff')]
@[simp] theorem z38_r18_go : type_of% (og z38_r18.eq_1) := og rfl
def z38_r19 : List POper := [M 58 7,Q 59 (.bsl false (.int .i64 0) 1 [(0, (I 0))]),Q 60 (.build [(.int .i64 0), .nils, .nils, .nils, (.int .i64 0), (.int .i64 0)] [(0, 1, (I 3)), (3, 1, (V 59)), (4, 1, (I 0)), (5, 1, (I 1099511627776))]),Q 61 (.call .std 70 [(V 58), (V 60)])]
@[simp] theorem z38_r19_go : type_of% (og z38_r19.eq_1) := og rfl
def z38_r20 : List POper := [M 62 7,Q 63 (.call .pur 74 [(I 0), (I 1099511627776), (I 3)]),Q 64 (.call .std 70 [(V 62), (V 63)])]
@[simp] theorem z38_r20_go : type_of% (og z38_r20.eq_1) := og rfl
def z38_r21 : List POper := [M 65 14,M 7 65]
@[simp] theorem z38_r21_go : type_of% (og z38_r21.eq_1) := og rfl
def z38_r7 : List POper := [M 26 9,Q 27 (.arith .add (V 26) (I 1)),M 9 27]
@[simp] theorem z38_r7_go : type_of% (og z38_r7.eq_1) := og rfl
def z38_l0 : PCode :=
  (.seq (.seq (.clr [(18, 25)] (.region z38_r6)) (.cond (V 25) .skip (.exit 0))) (.seq (.block 1 (.seq (.clr [(28, 33)] (.region z38_r8)) (.seq (.clr [(33, 36)] (.region z38_r9)) (.seq (.clr [(36, 45)] (.region z38_r10)) (.seq (.clr [(45, 47)] (.region z38_r11)) (.seq (.seq (.clr [(47, 49)] (.region z38_r12)) (.cond (V 49) (.seq (.region z38_r13) .ret) .skip)) (.seq (.clr [(50, 51)] (.region z38_r14)) (.seq (.clr [(51, 53)] (.region z38_r15)) (.cond (V 53) (.seq (.clr [(54, 56)] (.region z38_r16)) (.seq (.seq (.clr [(56, 57)] (.region z38_r17)) (.cond (V 57) (.seq (.region z38_r18) .ret) .skip)) (.seq (.clr [(58, 62)] (.region z38_r19)) (.seq (.clr [(62, 65)] (.region z38_r20)) (.clr [(65, 66)] (.region z38_r21)))))) .skip))))))))) (.clr [(26, 28)] (.region z38_r7))))
@[simp] theorem z38_l0_go : type_of% (cg z38_l0.eq_1) := cg rfl
def z38_r22 : List POper := [M 66 7,M 67 8,M 68 1,M 69 2,Q 70 (.call .std 75 [(V 66), (V 67), (V 68), (V 69)]),M 71 70,QG (some 72) (.call .pur 76 []) 71 true,Q 73 (.pick (V 71) (V 72) ff'),M 6 73]
@[simp] theorem z38_r22_go : type_of% (og z38_r22.eq_1) := og rfl
def z38 : PCodeFn :=
  ⟨3, [.tmp 6],
  (.seq (.region z38_r0) (.seq (.clr [(15, 16)] (.region z38_r1)) (.seq (.seq (.clr [(16, 17)] (.region z38_r2)) (.cond (V 17) (.seq (.region z38_r3) .ret) .skip)) (.seq (.region z38_r4) (.seq (.seq (.region z38_r5) (.block 0 (.loop z38_l0))) (.seq (.clr [(66, 74)] (.region z38_r22)) .ret)))))), false⟩

def z89_r0 : List POper := [Q 0 (.mov (.cst .nilp))]
@[simp] theorem z89_r0_go : type_of% (og z89_r0.eq_1) := og rfl
def z89_r1 : List POper := [Q 1 (.mkm),Q 2 (.build [.nils, .nilm, (.int .i64 0)] [(1, 1, (V 1))]),Q 3 (.box false (V 2)),M 0 3]
@[simp] theorem z89_r1_go : type_of% (og z89_r1.eq_1) := og rfl
def z89 : PCodeFn :=
  ⟨0, [.tmp 0],
  (.seq (.region z89_r0) (.seq (.clr [(1, 4)] (.region z89_r1)) .ret)), false⟩

def z57_r0 : List POper := [Q 3 (.box true (V 1)),Q 4 (.mov (I 0))]
@[simp] theorem z57_r0_go : type_of% (og z57_r0.eq_1) := og rfl
def z57_r1 : List POper := [M 6 0,Q 7 (.eqn false .p (V 6))]
@[simp] theorem z57_r1_go : type_of% (og z57_r1.eq_1) := og rfl
def z57_r2 : List POper := [Q 4 (.mov (I 1))]
@[simp] theorem z57_r2_go : type_of% (og z57_r2.eq_1) := og rfl
def z57_r3 : List POper := [Q 8 (.load true 6 false (V 3)),Q 9 (.call .snap 179 [(V 8)]),M 5 9]
@[simp] theorem z57_r3_go : type_of% (og z57_r3.eq_1) := og rfl
def z57_r4 : List POper := [M 10 5,Q 11 (.arith .neq (V 10) (I 0))]
@[simp] theorem z57_r4_go : type_of% (og z57_r4.eq_1) := og rfl
def z57_r5 : List POper := [M 12 5,M 4 12]
@[simp] theorem z57_r5_go : type_of% (og z57_r5.eq_1) := og rfl
def z57_r6 : List POper := [FA 13 0 3,LD 14 13]
@[simp] theorem z57_r6_go : type_of% (og z57_r6.eq_1) := og rfl
def z57_r7 : List POper := [Q 16 (.arith .eql (V 14) (I 1)),M 15 16]
@[simp] theorem z57_r7_go : type_of% (og z57_r7.eq_1) := og rfl
def z57_r8 : List POper := [M 17 0,FA 18 1 3,LD 19 18,Q 20 (.call .std 180 [(V 17), (V 19)]),M 4 20]
@[simp] theorem z57_r8_go : type_of% (og z57_r8.eq_1) := og rfl
def z57_r9 : List POper := [Q 22 (.arith .eql (V 14) (I 2)),M 21 22]
@[simp] theorem z57_r9_go : type_of% (og z57_r9.eq_1) := og rfl
def z57_r10 : List POper := [M 23 0,FA 24 2 3,LD 25 24,Q 26 (.call .std 181 [(V 23), (V 25)]),M 4 26]
@[simp] theorem z57_r10_go : type_of% (og z57_r10.eq_1) := og rfl
def z57_r11 : List POper := [M 27 0,Q 28 (.load true 6 false (V 3)),Q 29 (.call .std 182 [(V 27), (V 28)]),M 4 29]
@[simp] theorem z57_r11_go : type_of% (og z57_r11.eq_1) := og rfl
def z57 : PCodeFn :=
  ⟨2, [.tmp 4],
  (.seq (.region z57_r0) (.seq (.seq (.clr [(6, 7)] (.region z57_r1)) (.cond (V 7) (.seq (.region z57_r2) .ret) .skip)) (.seq (.seq (.clr [(8, 10)] (.region z57_r3)) (.seq (.clr [(10, 11)] (.region z57_r4)) (.cond (V 11) (.seq (.clr [(12, 13)] (.region z57_r5)) .ret) .skip))) (.seq (.seq (.clr [(13, 14)] (.region z57_r6)) (.block 0 (.seq (.clr [(16, 17)] (.region z57_r7)) (.cond (V 15) (.seq (.clr [(17, 21)] (.region z57_r8)) .ret) (.seq (.clr [(22, 23)] (.region z57_r9)) (.cond (V 21) (.seq (.clr [(23, 27)] (.region z57_r10)) .ret) .skip)))))) (.seq (.clr [(27, 30)] (.region z57_r11)) .ret))))), true⟩

def z50_r0 : List POper := [Q 2 (.mov (I 0))]
@[simp] theorem z50_r0_go : type_of% (og z50_r0.eq_1) := og rfl
def z50_r1 : List POper := [M 3 0,Q 4 (.eqn false .p (V 3))]
@[simp] theorem z50_r1_go : type_of% (og z50_r1.eq_1) := og rfl
def z50_r2 : List POper := [Q 2 (.mov (I 0))]
@[simp] theorem z50_r2_go : type_of% (og z50_r2.eq_1) := og rfl
def z50_r3 : List POper := [M 5 0,NK' 6 5,FA 7 0 6,LD 8 7,Q 9 (.len false (V 8)),M 2 9]
@[simp] theorem z50_r3_go : type_of% (og z50_r3.eq_1) := og rfl
def z50 : PCodeFn :=
  ⟨1, [.tmp 2],
  (.seq (.region z50_r0) (.seq (.seq (.clr [(3, 4)] (.region z50_r1)) (.cond (V 4) (.seq (.region z50_r2) .ret) .skip)) (.seq (.clr [(5, 10)] (.region z50_r3)) .ret))), false⟩

def z66_r0 : List POper := [Q 0 (.mov ff')]
@[simp] theorem z66_r0_go : type_of% (og z66_r0.eq_1) := og rfl
def z66_r1 : List POper := [Q 10 (.call .std 68 []),M 1 10]
@[simp] theorem z66_r1_go : type_of% (og z66_r1.eq_1) := og rfl
def z66_r2 : List POper := [M 11 1,Q 12 (.eqn false .p (V 11))]
@[simp] theorem z66_r2_go : type_of% (og z66_r2.eq_1) := og rfl
def z66_r3 : List POper := [Q 0 (.mov ff')]
@[simp] theorem z66_r3_go : type_of% (og z66_r3.eq_1) := og rfl
def z66_r4 : List POper := [Q 13 (.build [(.str []), (.str [])] [(0, 1, (.cst (.str [97]))), (1, 1, (.cst (.str [120])))]),Q 14 (.bsl false (.agg [(.str []), (.str [])]) 1 [(0, (V 13))]),Q 15 (.build [(.int .i64 0), .nils, .nils, .nils, (.int .i64 0), (.int .i64 0)] [(0, 1, (I 1)), (1, 1, (V 14))]),Q 2 (.alloc false [(.int .i64 0), .nils, .nils, .nils, (.int .i64 0), (.int .i64 0)]),QN (.store 6 (V 2) (V 15))]
@[simp] theorem z66_r4_go : type_of% (og z66_r4.eq_1) := og rfl
def z66_r5 : List POper := [M 16 1,Q 17 (.load true 6 false (V 2)),Q 18 (.callb 2 70 [(V 16), (V 17)]),M 19 1,Q 20 (.loadb 2 true 6 (V 2)),Q 21 (.call .std 70 [(V 19), (V 20)]),M 22 1,Q 23 (.call .pur 74 [(I 0), (I 10), (I 1)]),Q 24 (.call .std 70 [(V 22), (V 23)]),M 3 18,M 4 21,M 5 24]
@[simp] theorem z66_r5_go : type_of% (og z66_r5.eq_1) := og rfl
def z66_r6 : List POper := [M 25 1,Q 26 (.call .pur 74 [(I 0), (I 10), (I 2)]),Q 27 (.call .std 70 [(V 25), (V 26)]),M 28 1,Q 29 (.bsl false (.int .i64 0) 1 [(0, (I 0))]),Q 30 (.build [(.int .i64 0), .nils, .nils, .nils, (.int .i64 0), (.int .i64 0)] [(0, 1, (I 3)), (3, 1, (V 29)), (4, 1, (I 10)), (5, 1, (I 10))]),Q 31 (.call .std 70 [(V 28), (V 30)]),M 6 27,M 7 31]
@[simp] theorem z66_r6_go : type_of% (og z66_r6.eq_1) := og rfl
def z66_r7 : List POper := [M 33 1,Q 34 (.call .std 193 [(V 33), (I 0)]),M 32 34,EX 35 0 32,EX 36 1 32,M 8 35,M 9 36]
@[simp] theorem z66_r7_go : type_of% (og z66_r7.eq_1) := og rfl
def z66_r8 : List POper := [M 37 3,Q 38 (.arith .eql (V 37) (I 0)),M 39 38,QG (some 40) (.mov (V 4)) 39 true,QG (some 41) (.arith .eql (V 40) (I 10)) 39 true,Q 42 (.pick (V 39) (V 41) ff'),M 43 42,QG (some 44) (.mov (V 5)) 43 true,QG (some 45) (.arith .eql (V 44) (I 0)) 43 true,Q 46 (.pick (V 43) (V 45) ff'),M 47 46,QG (some 48) (.mov (V 6)) 47 true,QG (some 49) (.arith .eql (V 48) (I 13)) 47 true,Q 50 (.pick (V 47) (V 49) ff'),M 51 50,QG (some 52) (.mov (V 7)) 51 true,QG (some 53) (.arith .eql (V 52) (I 0)) 51 true,Q 54 (.pick (V 51) (V 53) ff'),M 55 54,QG (some 56) (.mov (V 8)) 55 true,QG (some 57) (.arith .eql (V 56) (I (-1))) 55 true,Q 58 (.pick (V 55) (V 57) ff'),M 59 58,QG (some 60) (.mov (V 9)) 59 true,QG (some 61) (.arith .eql (V 60) (I 0)) 59 true,Q 62 (.pick (V 59) (V 61) ff'),M 63 62,QG (some 64) (.mov (V 1)) 63 true,QG (some 65) (.call .std 188 [(V 64)]) 63 true,QG (some 66) (.arith .eql (V 65) (I 1)) 63 true,Q 67 (.pick (V 63) (V 66) ff'),M 68 67,QG (some 69) (.mov (V 1)) 68 true,QG (some 70) (.call .std 189 [(V 69)]) 68 true,QG (some 71) (.arith .eql (V 70) (I 0)) 68 true,Q 72 (.pick (V 68) (V 71) ff'),M 73 72,QG (some 74) (.mov (V 1)) 73 true,QG (some 75) (.call .pur 74 [(I 0), (I 5), (I 1)]) 73 true,QG (some 76) (.call .std 70 [(V 74), (V 75)]) 73 true,QG (some 77) (.arith .eql (V 76) (I 0)) 73 true,Q 78 (.pick (V 73) (V 77) ff'),M 0 78]
@[simp] theorem z66_r8_go : type_of% (og z66_r8.eq_1) := og rfl
def z66 : PCodeFn :=
  ⟨0, [.tmp 0],
  (.seq (.region z66_r0) (.seq (.clr [(10, 11)] (.region z66_r1)) (.seq (.seq (.clr [(11, 12)] (.region z66_r2)) (.cond (V 12) (.seq (.region z66_r3) .ret) .skip)) (.seq (.clr [(13, 16)] (.region z66_r4)) (.seq (.clr [(16, 25)] (.region z66_r5)) (.seq (.clr [(25, 32)] (.region z66_r6)) (.seq (.clr [(32, 37)] (.region z66_r7)) (.seq (.clr [(37, 79)] (.region z66_r8)) .ret)))))))), false⟩

def z32_r0 : List POper := [Q 8 (.mov (.cst .nils)),Q 9 (.mov (I 0))]
@[simp] theorem z32_r0_go : type_of% (og z32_r0.eq_1) := og rfl
def z32_r1 : List POper := [M 16 0,M 17 1,Q 18 (.call .std 291 [(V 16), (V 17)]),M 15 18,EX 19 0 15,EX 20 1 15,Q 10 (.alloc false [.nils, .nils]),QN (.store 2 (V 10) (V 19)),M 11 20]
@[simp] theorem z32_r1_go : type_of% (og z32_r1.eq_1) := og rfl
def z32_r2 : List POper := [M 21 11,Q 22 (.arith .neq (V 21) (I 0))]
@[simp] theorem z32_r2_go : type_of% (og z32_r2.eq_1) := og rfl
def z32_r3 : List POper := [M 23 11,Q 8 (.mov (.cst .nils)),M 9 23]
@[simp] theorem z32_r3_go : type_of% (og z32_r3.eq_1) := og rfl
def z32_r4 : List POper := [Q 12 (.mov (.cst .nils))]
@[simp] theorem z32_r4_go : type_of% (og z32_r4.eq_1) := og rfl
def z32_r5 : List POper := [FA 24 1 10,LD 25 24,Q 26 (.len false (V 25)),Q 27 (.mov (I 0))]
@[simp] theorem z32_r5_go : type_of% (og z32_r5.eq_1) := og rfl
def z32_r6 : List POper := [Q 28 (.arith .lss (V 27) (V 26))]
@[simp] theorem z32_r6_go : type_of% (og z32_r6.eq_1) := og rfl
def z32_r7 : List POper := [Q 29 (.iaddr 2 (V 25) (V 27)),Q 30 (.load true 2 false (V 29)),Q 14 (.alloc false [(.int .i64 0), (.int .i64 0)]),QN (.store 2 (V 14) (V 30))]
@[simp] theorem z32_r7_go : type_of% (og z32_r7.eq_1) := og rfl
def z32_r8 : List POper := [FA 31 0 14,LD 32 31,M 33 2,Q 34 (.arith .geq (V 32) (V 33)),M 35 34,QG (some 36) (.faddr 0 (V 14)) 35 true,QG (some 37) (.load false 1 false (V 36)) 35 true,QG (some 38) (.mov (V 3)) 35 true,QG (some 39) (.arith .leq (V 37) (V 38)) 35 true,Q 40 (.pick (V 35) (V 39) ff')]
@[simp] theorem z32_r8_go : type_of% (og z32_r8.eq_1) := og rfl
def z32_r9 : List POper := [M 41 12,Q 42 (.load true 2 false (V 14)),Q 43 (.bsl false (.agg [(.int .i64 0), (.int .i64 0)]) 1 [(0, (V 42))]),Q 44 (.app 2 16 (V 41) (V 43)),M 12 44]
@[simp] theorem z32_r9_go : type_of% (og z32_r9.eq_1) := og rfl
def z32_r10 : List POper := [Q 45 (.arith .add (V 27) (I 1)),M 27 45]
@[simp] theorem z32_r10_go : type_of% (og z32_r10.eq_1) := og rfl
def z32_l0 : PCode :=
  (.seq (.region z32_r6) (.seq (.cond (V 28) .skip (.exit 0)) (.seq (.block 1 (.seq (.clr [(29, 31)] (.region z32_r7)) (.seq (.clr [(31, 40)] (.region z32_r8)) (.cond (V 40) (.clr [(41, 45)] (.region z32_r9)) .skip)))) (.clr [(45, 46)] (.region z32_r10)))))
@[simp] theorem z32_l0_go : type_of% (cg z32_l0.eq_1) := cg rfl
def z32_r11 : List POper := [M 46 12,M 8 46,Q 9 (.mov (I 0))]
@[simp] theorem z32_r11_go : type_of% (og z32_r11.eq_1) := og rfl
def z32 : PCodeFn :=
  ⟨4, [.tmp 8, .tmp 9],
  (.seq (.region z32_r0) (.seq (.clr [(15, 21)] (.region z32_r1)) (.seq (.seq (.clr [(21, 22)] (.region z32_r2)) (.cond (V 22) (.seq (.clr [(23, 24)] (.region z32_r3)) .ret) .skip)) (.seq (.region z32_r4) (.seq (.seq (.clr [(24, 25)] (.region z32_r5)) (.block 0 (.loop z32_l0))) (.seq (.clr [(46, 47)] (.region z32_r11)) .ret)))))), false⟩

def z40_r0 : List POper := [Q 2 (.mov (I 0))]
@[simp] theorem z40_r0_go : type_of% (og z40_r0.eq_1) := og rfl
def z40_r1 : List POper := [M 3 0,Q 4 (.eqn false .p (V 3))]
@[simp] theorem z40_r1_go : type_of% (og z40_r1.eq_1) := og rfl
def z40_r2 : List POper := [Q 2 (.mov (I 0))]
@[simp] theorem z40_r2_go : type_of% (og z40_r2.eq_1) := og rfl
def z40_r3 : List POper := [M 5 0,NK' 6 5,FA 7 2 6,LD 8 7,M 2 8]
@[simp] theorem z40_r3_go : type_of% (og z40_r3.eq_1) := og rfl
def z40 : PCodeFn :=
  ⟨1, [.tmp 2],
  (.seq (.region z40_r0) (.seq (.seq (.clr [(3, 4)] (.region z40_r1)) (.cond (V 4) (.seq (.region z40_r2) .ret) .skip)) (.seq (.clr [(5, 9)] (.region z40_r3)) .ret))), false⟩

def z80_r0 : List POper := [Q 4 (.mov ff')]
@[simp] theorem z80_r0_go : type_of% (og z80_r0.eq_1) := og rfl
def z80_r1 : List POper := [M 6 0,Q 7 (.len false (V 6)),M 8 1,Q 9 (.len false (V 8)),Q 10 (.arith .neq (V 7) (V 9))]
@[simp] theorem z80_r1_go : type_of% (og z80_r1.eq_1) := og rfl
def z80_r2 : List POper := [Q 4 (.mov ff')]
@[simp] theorem z80_r2_go : type_of% (og z80_r2.eq_1) := og rfl
def z80_r3 : List POper := [Q 5 (.mov (I 0))]
@[simp] theorem z80_r3_go : type_of% (og z80_r3.eq_1) := og rfl
def z80_r4 : List POper := [M 11 5,M 12 0,Q 13 (.len false (V 12)),Q 14 (.arith .lss (V 11) (V 13))]
@[simp] theorem z80_r4_go : type_of% (og z80_r4.eq_1) := og rfl
def z80_r6 : List POper := [M 17 0,M 18 5,Q 19 (.iaddr 2 (V 17) (V 18)),Q 20 (.load true 2 true (V 19)),M 21 1,M 22 5,Q 23 (.iaddr 2 (V 21) (V 22)),Q 24 (.load true 2 true (V 23)),Q 25 (.eqs true 2 (V 20) (V 24))]
@[simp] theorem z80_r6_go : type_of% (og z80_r6.eq_1) := og rfl
def z80_r7 : List POper := [Q 4 (.mov ff')]
@[simp] theorem z80_r7_go : type_of% (og z80_r7.eq_1) := og rfl
def z80_r5 : List POper := [M 15 5,Q 16 (.arith .add (V 15) (I 1)),M 5 16]
@[simp] theorem z80_r5_go : type_of% (og z80_r5.eq_1) := og rfl
def z80_l0 : PCode :=
  (.seq (.seq (.clr [(11, 14)] (.region z80_r4)) (.cond (V 14) .skip (.exit 0))) (.seq (.block 1 (.seq (.clr [(17, 25)] (.region z80_r6)) (.cond (V 25) (.seq (.region z80_r7) .ret) .skip))) (.clr [(15, 17)] (.region z80_r5))))
@[simp] theorem z80_l0_go : type_of% (cg z80_l0.eq_1) := cg rfl
def z80_r8 : List POper := [Q 4 (.mov tt')]
@[simp] theorem z80_r8_go : type_of% (og z80_r8.eq_1) := og rfl
def z80 : PCodeFn :=
  ⟨2, [.tmp 4],
  (.seq (.region z80_r0) (.seq (.seq (.clr [(6, 10)] (.region z80_r1)) (.cond (V 10) (.seq (.region z80_r2) .ret) .skip)) (.seq (.seq (.region z80_r3) (.block 0 (.loop z80_l0))) (.seq (.region z80_r8) .ret)))), false⟩

def z74_r0 : List POper := [Q 4 (.mov ff')]
@[simp] theorem z74_r0_go : type_of% (og z74_r0.eq_1) := og rfl
def z74_r1 : List POper := [M 6 0,Q 7 (.len false (V 6)),M 8 1,Q 9 (.len false (V 8)),Q 10 (.arith .neq (V 7) (V 9))]
@[simp] theorem z74_r1_go : type_of% (og z74_r1.eq_1) := og rfl
def z74_r2 : List POper := [Q 4 (.mov ff')]
@[simp] theorem z74_r2_go : type_of% (og z74_r2.eq_1) := og rfl
def z74_r3 : List POper := [Q 5 (.mov (I 0))]
@[simp] theorem z74_r3_go : type_of% (og z74_r3.eq_1) := og rfl
def z74_r4 : List POper := [M 11 5,M 12 0,Q 13 (.len false (V 12)),Q 14 (.arith .lss (V 11) (V 13))]
@[simp] theorem z74_r4_go : type_of% (og z74_r4.eq_1) := og rfl
def z74_r6 : List POper := [M 17 0,M 18 5,Q 19 (.iaddr 2 (V 17) (V 18)),FA 20 0 19,Q 21 (.load false 1 true (V 20)),M 22 1,M 23 5,Q 24 (.iaddr 2 (V 22) (V 23)),FA 25 0 24,Q 26 (.load false 1 true (V 25)),Q 27 (.call .std 26 [(V 21), (V 26)]),Q 28 (.un .not (V 27)),M 29 28,QG (some 30) (.mov (V 0)) 29 false,QG (some 31) (.mov (V 5)) 29 false,QG (some 32) (.iaddr 2 (V 30) (V 31)) 29 false,QG (some 33) (.faddr 1 (V 32)) 29 false,QG (some 34) (.load false 1 true (V 33)) 29 false,QG (some 35) (.mov (V 1)) 29 false,QG (some 36) (.mov (V 5)) 29 false,QG (some 37) (.iaddr 2 (V 35) (V 36)) 29 false,QG (some 38) (.faddr 1 (V 37)) 29 false,QG (some 39) (.load false 1 true (V 38)) 29 false,QG (some 40) (.call .std 177 [(V 34), (V 39)]) 29 false,QG (some 41) (.un .not (V 40)) 29 false,Q 42 (.pick (V 29) tt' (V 41))]
@[simp] theorem z74_r6_go : type_of% (og z74_r6.eq_1) := og rfl
def z74_r7 : List POper := [Q 4 (.mov ff')]
@[simp] theorem z74_r7_go : type_of% (og z74_r7.eq_1) := og rfl
def z74_r5 : List POper := [M 15 5,Q 16 (.arith .add (V 15) (I 1)),M 5 16]
@[simp] theorem z74_r5_go : type_of% (og z74_r5.eq_1) := og rfl
def z74_l0 : PCode :=
  (.seq (.seq (.clr [(11, 14)] (.region z74_r4)) (.cond (V 14) .skip (.exit 0))) (.seq (.block 1 (.seq (.clr [(17, 42)] (.region z74_r6)) (.cond (V 42) (.seq (.region z74_r7) .ret) .skip))) (.clr [(15, 17)] (.region z74_r5))))
@[simp] theorem z74_l0_go : type_of% (cg z74_l0.eq_1) := cg rfl
def z74_r8 : List POper := [Q 4 (.mov tt')]
@[simp] theorem z74_r8_go : type_of% (og z74_r8.eq_1) := og rfl
def z74 : PCodeFn :=
  ⟨2, [.tmp 4],
  (.seq (.region z74_r0) (.seq (.seq (.clr [(6, 10)] (.region z74_r1)) (.cond (V 10) (.seq (.region z74_r2) .ret) .skip)) (.seq (.seq (.region z74_r3) (.block 0 (.loop z74_l0))) (.seq (.region z74_r8) .ret)))), false⟩

def z36_r0 : List POper := [Q 2 (.mov (.cst .nils))]
@[simp] theorem z36_r0_go : type_of% (og z36_r0.eq_1) := og rfl
def z36_r1 : List POper := [M 4 0,Q 5 (.eqn false .p (V 4))]
@[simp] theorem z36_r1_go : type_of% (og z36_r1.eq_1) := og rfl
def z36_r2 : List POper := [Q 2 (.mov (.cst .nils))]
@[simp] theorem z36_r2_go : type_of% (og z36_r2.eq_1) := og rfl
def z36_r3 : List POper := [M 6 0,NK' 7 6,FA 8 0 7,LD 9 8,Q 10 (.call .std 187 [(V 9)]),Q 11 (.call .std 284 [(V 10), (.cst (.fn 285 []))]),M 3 11]
@[simp] theorem z36_r3_go : type_of% (og z36_r3.eq_1) := og rfl
def z36_r4 : List POper := [M 12 3,Q 13 (.call .std 286 [(V 12), (.cst (.fn 287 []))])]
@[simp] theorem z36_r4_go : type_of% (og z36_r4.eq_1) := og rfl
def z36_r5 : List POper := [M 14 3,M 2 14]
@[simp] theorem z36_r5_go : type_of% (og z36_r5.eq_1) := og rfl
def z36 : PCodeFn :=
  ⟨1, [.tmp 2],
  (.seq (.region z36_r0) (.seq (.seq (.clr [(4, 5)] (.region z36_r1)) (.cond (V 5) (.seq (.region z36_r2) .ret) .skip)) (.seq (.clr [(6, 12)] (.region z36_r3)) (.seq (.clr [(12, 14)] (.region z36_r4)) (.seq (.clr [(14, 15)] (.region z36_r5)) .ret))))), false⟩

def z81_r0 : List POper := [Q 1 (.box false (V 0)),Q 2 (.alloc false [(.int .i64 0), .nils, .nils, .nils, (.int .i64 0), (.int .i64 0)])]
@[simp] theorem z81_r0_go : type_of% (og z81_r0.eq_1) := og rfl
def z81_r1 : List POper := [Q 3 (.emp0),FA 4 1 1,LD 5 4,Q 6 (.gapp 2 32 (V 3) (V 5)),FA 7 1 1,QN (.store 1 (V 7) (V 6))]
@[simp] theorem z81_r1_go : type_of% (og z81_r1.eq_1) := og rfl
def z81_r2 : List POper := [Q 8 (.emp0),FA 9 2 1,LD 10 9,Q 11 (.gapp 3 24 (V 8) (V 10)),FA 12 2 1,QN (.store 1 (V 12) (V 11))]
@[simp] theorem z81_r2_go : type_of% (og z81_r2.eq_1) := og rfl
def z81_r3 : List POper := [Q 13 (.bsl false (.int .i64 0) 0 []),FA 14 3 1,LD 15 14,Q 16 (.app 1 8 (V 13) (V 15)),FA 17 3 1,QN (.store 1 (V 17) (V 16))]
@[simp] theorem z81_r3_go : type_of% (og z81_r3.eq_1) := og rfl
def z81_r4 : List POper := [Q 18 (.load true 6 false (V 1)),QN (.store 6 (V 2) (V 18))]
@[simp] theorem z81_r4_go : type_of% (og z81_r4.eq_1) := og rfl
def z81 : PCodeFn :=
  ⟨1, [.cell 2 true 6],
  (.seq (.region z81_r0) (.seq (.clr [(3, 8)] (.region z81_r1)) (.seq (.clr [(8, 13)] (.region z81_r2)) (.seq (.clr [(13, 18)] (.region z81_r3)) (.seq (.clr [(18, 19)] (.region z81_r4)) .ret))))), true⟩

def z88_r0 : List POper := [Q 3 (.box true (V 1)),Q 4 (.mov (.cst .nils)),Q 5 (.mov (I 0))]
@[simp] theorem z88_r0_go : type_of% (og z88_r0.eq_1) := og rfl
def z88_r1 : List POper := [Q 12 (.load true 6 false (V 3)),Q 13 (.call .std 183 [(V 12)]),M 6 13]
@[simp] theorem z88_r1_go : type_of% (og z88_r1.eq_1) := og rfl
def z88_r2 : List POper := [M 14 6,Q 15 (.arith .neq (V 14) (I 0))]
@[simp] theorem z88_r2_go : type_of% (og z88_r2.eq_1) := og rfl
def z88_r3 : List POper := [M 16 0,M 17 6,M 4 16,M 5 17]
@[simp] theorem z88_r3_go : type_of% (og z88_r3.eq_1) := og rfl
def z88_r4 : List POper := [Q 18 (.emp0),M 19 0,Q 20 (.gapp 2 48 (V 18) (V 19)),M 7 20]
@[simp] theorem z88_r4_go : type_of% (og z88_r4.eq_1) := og rfl
def z88_r5 : List POper := [FA 21 0 3,LD 22 21]
@[simp] theorem z88_r5_go : type_of% (og z88_r5.eq_1) := og rfl
def z88_r6 : List POper := [Q 24 (.arith .eql (V 22) (I 1)),M 23 24]
@[simp] theorem z88_r6_go : type_of% (og z88_r6.eq_1) := og rfl
def z88_r7 : List POper := [M 25 0,FA 26 1 3,LD 27 26,Q 28 (.call .std 184 [(V 25), (V 27)]),Q 29 (.arith .geq (V 28) (I 0))]
@[simp] theorem z88_r7_go : type_of% (og z88_r7.eq_1) := og rfl
def z88_r8 : List POper := [M 30 0,M 4 30,Q 5 (.mov (I 10))]
@[simp] theorem z88_r8_go : type_of% (og z88_r8.eq_1) := og rfl
def z88_r9 : List POper := [M 31 0,Q 32 (.len false (V 31)),Q 33 (.arith .geq (V 32) (I 256))]
@[simp] theorem z88_r9_go : type_of% (og z88_r9.eq_1) := og rfl
def z88_r10 : List POper := [M 34 0,M 4 34,Q 5 (.mov (I 3))]
@[simp] theorem z88_r10_go : type_of% (og z88_r10.eq_1) := og rfl
def z88_r11 : List POper := [M 35 7,Q 36 (.bsl false (.agg [(.str []), (.str [])]) 0 []),FA 37 1 3,LD 38 37,Q 39 (.app 2 32 (V 36) (V 38)),Q 40 (.build [.nils, .nils] [(0, 1, (V 39))]),Q 41 (.bsl false (.agg [.nils, .nils]) 1 [(0, (V 40))]),Q 42 (.gapp 2 48 (V 35) (V 41)),M 4 42,Q 5 (.mov (I 0))]
@[simp] theorem z88_r11_go : type_of% (og z88_r11.eq_1) := og rfl
def z88_r12 : List POper := [Q 44 (.arith .eql (V 22) (I 2)),M 43 44]
@[simp] theorem z88_r12_go : type_of% (og z88_r12.eq_1) := og rfl
def z88_r13 : List POper := [M 45 0,Q 46 (.call .std 169 [(V 45)]),M 8 46]
@[simp] theorem z88_r13_go : type_of% (og z88_r13.eq_1) := og rfl
def z88_r14 : List POper := [Q 9 (.mov (I 0))]
@[simp] theorem z88_r14_go : type_of% (og z88_r14.eq_1) := og rfl
def z88_r15 : List POper := [M 47 9,FA 48 2 3,LD 49 48,Q 50 (.len false (V 49)),Q 51 (.arith .lss (V 47) (V 50))]
@[simp] theorem z88_r15_go : type_of% (og z88_r15.eq_1) := og rfl
def z88_r17 : List POper := [FA 54 2 3,LD 55 54,M 56 9,Q 57 (.iaddr 3 (V 55) (V 56)),Q 58 (.load true 3 false (V 57)),Q 10 (.alloc false [(.int .i64 0), (.int .i64 0), (.int .i64 0)]),QN (.store 3 (V 10) (V 58))]
@[simp] theorem z88_r17_go : type_of% (og z88_r17.eq_1) := og rfl
def z88_r18 : List POper := [FA 59 0 10,LD 60 59,M 61 0,Q 62 (.len false (V 61)),Q 63 (.arith .geq (V 60) (V 62))]
@[simp] theorem z88_r18_go : type_of% (og z88_r18.eq_1) := og rfl
def z88_r19 : List POper := [M 64 0,M 4 64,Q 5 (.mov (I 9))]
@[simp] theorem z88_r19_go : type_of% (og z88_r19.eq_1) := og rfl
def z88_r20 : List POper := [M 65 8,Q 66 (.arith .geq (V 65) (I 65536))]
@[simp] theorem z88_r20_go : type_of% (og z88_r20.eq_1) := og rfl
def z88_r21 : List POper := [M 67 0,M 4 67,Q 5 (.mov (I 3))]
@[simp] theorem z88_r21_go : type_of% (og z88_r21.eq_1) := og rfl
def z88_r22 : List POper := [FA 68 1 10,FA 69 0 68,LD 70 69,M 71 7,FA 72 0 10,LD 73 72,Q 74 (.iaddr 2 (V 71) (V 73)),Q 75 (.load true 2 false (V 74)),Q 76 (.call .keep 185 [(V 75)]),Q 77 (.arith .leq (V 70) (V 76))]
@[simp] theorem z88_r22_go : type_of% (og z88_r22.eq_1) := og rfl
def z88_r23 : List POper := [M 78 0,M 4 78,Q 5 (.mov (I 13))]
@[simp] theorem z88_r23_go : type_of% (og z88_r23.eq_1) := og rfl
def z88_r24 : List POper := [M 79 7,FA 80 0 10,LD 81 80,M 83 7,FA 84 0 10,LD 85 84,Q 86 (.iaddr 2 (V 83) (V 85)),FA 87 1 86,LD 88 87,FA 90 1 10,Q 91 (.load true 2 false (V 90)),Q 82 (.bsl false (.agg [(.int .i64 0), (.int .i64 0)]) 0 []),Q 89 (.app 2 16 (V 82) (V 88)),Q 92 (.bsl true (.agg [(.int .i64 0), (.int .i64 0)]) 1 [(0, (V 91))]),Q 93 (.app 2 16 (V 89) (V 92)),Q 94 (.iaddr 2 (V 79) (V 81)),FA 95 1 94,QN (.store 1 (V 95) (V 93))]
@[simp] theorem z88_r24_go : type_of% (og z88_r24.eq_1) := og rfl
def z88_r25 : List POper := [M 96 8,Q 97 (.arith .add (V 96) (I 1)),M 8 97]
@[simp] theorem z88_r25_go : type_of% (og z88_r25.eq_1) := og rfl
def z88_r16 : List POper := [M 52 9,Q 53 (.arith .add (V 52) (I 1)),M 9 53]
@[simp] theorem z88_r16_go : type_of% (og z88_r16.eq_1) := og rfl
def z88_l0 : PCode :=
  (.seq (.seq (.clr [(47, 51)] (.region z88_r15)) (.cond (V 51) .skip (.exit 1))) (.seq (.block 2 (.seq (.clr [(54, 59)] (.region z88_r17)) (.seq (.seq (.clr [(59, 63)] (.region z88_r18)) (.cond (V 63) (.seq (.clr [(64, 65)] (.region z88_r19)) .ret) .skip)) (.seq (.seq (.clr [(65, 66)] (.region z88_r20)) (.cond (V 66) (.seq (.clr [(67, 68)] (.region z88_r21)) .ret) .skip)) (.seq (.seq (.clr [(68, 77)] (.region z88_r22)) (.cond (V 77) (.seq (.clr [(78, 79)] (.region z88_r23)) .ret) .skip)) (.seq (.clr [(79, 96)] (.region z88_r24)) (.clr [(96, 98)] (.region z88_r25)))))))) (.clr [(52, 54)] (.region z88_r16))))
@[simp] theorem z88_l0_go : type_of% (cg z88_l0.eq_1) := cg rfl
def z88_r26 : List POper := [M 98 7,M 4 98,Q 5 (.mov (I 0))]
@[simp] theorem z88_r26_go : type_of% (og z88_r26.eq_1) := og rfl
def z88_r27 : List POper := [Q 11 (.mov (I 0))]
@[simp] theorem z88_r27_go : type_of% (og z88_r27.eq_1) := og rfl
def z88_r28 : List POper := [M 99 11,FA 100 3 3,LD 101 100,Q 102 (.len false (V 101)),Q 103 (.arith .lss (V 99) (V 102))]
@[simp] theorem z88_r28_go : type_of% (og z88_r28.eq_1) := og rfl
def z88_r30 : List POper := [FA 106 3 3,LD 107 106,M 108 11,Q 109 (.iaddr 1 (V 107) (V 108)),LD 110 109,M 111 0,Q 112 (.len false (V 111)),Q 113 (.arith .geq (V 110) (V 112))]
@[simp] theorem z88_r30_go : type_of% (og z88_r30.eq_1) := og rfl
def z88_r31 : List POper := [M 114 0,M 4 114,Q 5 (.mov (I 9))]
@[simp] theorem z88_r31_go : type_of% (og z88_r31.eq_1) := og rfl
def z88_r32 : List POper := [M 115 7,FA 116 3 3,Q 117 (.load false 1 true (V 116)),M 118 11,Q 119 (.iaddr 1 (V 117) (V 118)),Q 120 (.load false 1 true (V 119)),M 121 7,FA 122 3 3,Q 123 (.load false 1 true (V 122)),M 124 11,Q 125 (.iaddr 1 (V 123) (V 124)),Q 126 (.load false 1 true (V 125)),Q 127 (.iaddr 2 (V 121) (V 126)),FA 128 1 127,LD 129 128,FA 130 4 3,Q 131 (.load false 1 true (V 130)),FA 132 5 3,Q 133 (.load false 1 true (V 132)),Q 134 (.call .std 186 [(V 129), (V 131), (V 133)]),Q 135 (.iaddr 2 (V 115) (V 120)),FA 136 1 135,QN (.store 1 (V 136) (V 134))]
@[simp] theorem z88_r32_go : type_of% (og z88_r32.eq_1) := og rfl
def z88_r29 : List POper := [M 104 11,Q 105 (.arith .add (V 104) (I 1)),M 11 105]
@[simp] theorem z88_r29_go : type_of% (og z88_r29.eq_1) := og rfl
def z88_l1 : PCode :=
  (.seq (.seq (.clr [(99, 103)] (.region z88_r28)) (.cond (V 103) .skip (.exit 3))) (.seq (.block 4 (.seq (.seq (.clr [(106, 113)] (.region z88_r30)) (.cond (V 113) (.seq (.clr [(114, 115)] (.region z88_r31)) .ret) .skip)) (.clr [(115, 137)] (.region z88_r32)))) (.clr [(104, 106)] (.region z88_r29))))
@[simp] theorem z88_l1_go : type_of% (cg z88_l1.eq_1) := cg rfl
def z88_r33 : List POper := [M 137 7,M 4 137,Q 5 (.mov (I 0))]
@[simp] theorem z88_r33_go : type_of% (og z88_r33.eq_1) := og rfl
def z88 : PCodeFn :=
  ⟨2, [.tmp 4, .tmp 5],
  (.seq (.region z88_r0) (.seq (.seq (.clr [(12, 14)] (.region z88_r1)) (.seq (.clr [(14, 15)] (.region z88_r2)) (.cond (V 15) (.seq (.clr [(16, 18)] (.region z88_r3)) .ret) .skip))) (.seq (.clr [(18, 21)] (.region z88_r4)) (.seq (.seq (.clr [(21, 22)] (.region z88_r5)) (.block 0 (.seq (.clr [(24, 25)] (.region z88_r6)) (.cond (V 23) (.seq (.seq (.clr [(25, 29)] (.region z88_r7)) (.cond (V 29) (.seq (.clr [(30, 31)] (.region z88_r8)) .ret) .skip)) (.seq (.seq (.clr [(31, 33)] (.region z88_r9)) (.cond (V 33) (.seq (.clr [(34, 35)] (.region z88_r10)) .ret) .skip)) (.seq (.clr [(35, 43)] (.region z88_r11)) .ret))) (.seq (.clr [(44, 45)] (.region z88_r12)) (.cond (V 43) (.seq (.clr [(45, 47)] (.region z88_r13)) (.seq (.seq (.region z88_r14) (.block 1 (.loop z88_l0))) (.seq (.clr [(98, 99)] (.region z88_r26)) .ret))) .skip)))))) (.seq (.seq (.region z88_r27) (.block 3 (.loop z88_l1))) (.seq (.clr [(137, 138)] (.region z88_r33)) .ret)))))), false⟩

def z68_r0 : List POper := [Q 1 (.box true (V 0))]
@[simp] theorem z68_r0_go : type_of% (og z68_r0.eq_1) := og rfl
def z68_r1 : List POper := [Q 2 (.mov (I 0))]
@[simp] theorem z68_r1_go : type_of% (og z68_r1.eq_1) := og rfl
def z68_r2 : List POper := [M 4 2,FA 5 1 1,LD 6 5,Q 7 (.len false (V 6)),Q 8 (.arith .lss (V 4) (V 7))]
@[simp] theorem z68_r2_go : type_of% (og z68_r2.eq_1) := og rfl
def z68_r4 : List POper := [FA 11 1 1,LD 12 11,M 13 2,Q 14 (.build [(.str []), (.str [])] [(0, 1, (.cst (.str [122, 122]))), (1, 1, (.cst (.str [115, 112, 111, 105, 108, 116])))]),Q 15 (.iaddr 2 (V 12) (V 13)),QN (.store 2 (V 15) (V 14))]
@[simp] theorem z68_r4_go : type_of% (og z68_r4.eq_1) := og rfl
def z68_r3 : List POper := [M 9 2,Q 10 (.arith .add (V 9) (I 1)),M 2 10]
@[simp] theorem z68_r3_go : type_of% (og z68_r3.eq_1) := og rfl
def z68_l0 : PCode :=
  (.seq (.seq (.clr [(4, 8)] (.region z68_r2)) (.cond (V 8) .skip (.exit 0))) (.seq (.block 1 (.clr [(11, 16)] (.region z68_r4))) (.clr [(9, 11)] (.region z68_r3))))
@[simp] theorem z68_l0_go : type_of% (cg z68_l0.eq_1) := cg rfl
def z68_r5 : List POper := [Q 3 (.mov (I 0))]
@[simp] theorem z68_r5_go : type_of% (og z68_r5.eq_1) := og rfl
def z68_r6 : List POper := [M 16 3,FA 17 2 1,LD 18 17,Q 19 (.len false (V 18)),Q 20 (.arith .lss (V 16) (V 19))]
@[simp] theorem z68_r6_go : type_of% (og z68_r6.eq_1) := og rfl
def z68_r8 : List POper := [FA 23 2 1,LD 24 23,M 25 3,Q 26 (.build [(.int .i64 0), (.int .i64 0)] [(0, 1, (I 9)), (1, 1, (I 9))]),Q 27 (.build [(.int .i64 0), (.int .i64 0), (.int .i64 0)] [(0, 1, (I 9)), (1, 2, (V 26))]),Q 28 (.iaddr 3 (V 24) (V 25)),QN (.store 3 (V 28) (V 27))]
@[simp] theorem z68_r8_go : type_of% (og z68_r8.eq_1) := og rfl
def z68_r7 : List POper := [M 21 3,Q 22 (.arith .add (V 21) (I 1)),M 3 22]
@[simp] theorem z68_r7_go : type_of% (og z68_r7.eq_1) := og rfl
def z68_l1 : PCode :=
  (.seq (.seq (.clr [(16, 20)] (.region z68_r6)) (.cond (V 20) .skip (.exit 2))) (.seq (.block 3 (.clr [(23, 29)] (.region z68_r8))) (.clr [(21, 23)] (.region z68_r7))))
@[simp] theorem z68_l1_go : type_of% (cg z68_l1.eq_1) := cg rfl
def z68 : PCodeFn :=
  ⟨1, [],
  (.seq (.region z68_r0) (.seq (.seq (.region z68_r1) (.block 0 (.loop z68_l0))) (.seq (.region z68_r5) (.block 2 (.loop z68_l1))))), true⟩

def z44_r0 : List POper := [Q 2 (.mov (.cst .nilp))]
@[simp] theorem z44_r0_go : type_of% (og z44_r0.eq_1) := og rfl
def z44_r1 : List POper := [M 6 0,Q 7 (.eqn false .p (V 6))]
@[simp] theorem z44_r1_go : type_of% (og z44_r1.eq_1) := og rfl
def z44_r2 : List POper := [Q 2 (.mov (.cst .nilp))]
@[simp] theorem z44_r2_go : type_of% (og z44_r2.eq_1) := og rfl
def z44_r3 : List POper := [Q 8 (.call .std 68 []),M 3 8]
@[simp] theorem z44_r3_go : type_of% (og z44_r3.eq_1) := og rfl
def z44_r4 : List POper := [M 9 0,NK' 10 9,FA 11 0 10,LD 12 11,Q 13 (.call .std 187 [(V 12)]),Q 14 (.len false (V 13)),Q 15 (.mov (I 0))]
@[simp] theorem z44_r4_go : type_of% (og z44_r4.eq_1) := og rfl
def z44_r5 : List POper := [Q 16 (.arith .lss (V 15) (V 14))]
@[simp] theorem z44_r5_go : type_of% (og z44_r5.eq_1) := og rfl
def z44_r6 : List POper := [Q 17 (.iaddr 2 (V 13) (V 15)),Q 18 (.load true 2 false (V 17)),Q 5 (.alloc false [.nils, .nils]),QN (.store 2 (V 5) (V 18))]
@[simp] theorem z44_r6_go : type_of% (og z44_r6.eq_1) := og rfl
def z44_r7 : List POper := [M 19 3,NK' 20 19,FA 21 1 20,LD 22 21,FA 23 0 5,LD 24 23,Q 25 (.call .pur 24 [(V 24)]),M 26 3,NK' 27 26,FA 28 0 27,LD 29 28,Q 30 (.len false (V 29)),QN (.mset true (V 22) (V 25) (V 30))]
@[simp] theorem z44_r7_go : type_of% (og z44_r7.eq_1) := og rfl
def z44_r8 : List POper := [M 31 3,M 32 3,NK' 33 32,FA 34 0 33,LD 35 34,Q 36 (.load true 2 false (V 5)),Q 37 (.bsl false (.agg [.nils, .nils]) 1 [(0, (V 36))]),Q 38 (.gapp 2 48 (V 35) (V 37)),NK' 39 31,FA 40 0 39,QN (.store 1 (V 40) (V 38))]
@[simp] theorem z44_r8_go : type_of% (og z44_r8.eq_1) := og rfl
def z44_r9 : List POper := [M 41 3,NK' 42 41,FA 43 2 42,LD 44 43,FA 45 1 5,LD 46 45,Q 47 (.len false (V 46)),Q 48 (.arith .add (V 44) (V 47)),NK' 49 41,FA 50 2 49,QN (.store 1 (V 50) (V 48))]
@[simp] theorem z44_r9_go : type_of% (og z44_r9.eq_1) := og rfl
def z44_r10 : List POper := [Q 51 (.arith .add (V 15) (I 1)),M 15 51]
@[simp] theorem z44_r10_go : type_of% (og z44_r10.eq_1) := og rfl
def z44_l0 : PCode :=
  (.seq (.region z44_r5) (.seq (.cond (V 16) .skip (.exit 0)) (.seq (.block 1 (.seq (.clr [(17, 19)] (.region z44_r6)) (.seq (.clr [(19, 31)] (.region z44_r7)) (.seq (.clr [(31, 41)] (.region z44_r8)) (.clr [(41, 51)] (.region z44_r9)))))) (.clr [(51, 52)] (.region z44_r10)))))
@[simp] theorem z44_l0_go : type_of% (cg z44_l0.eq_1) := cg rfl
def z44_r11 : List POper := [M 52 3,M 2 52]
@[simp] theorem z44_r11_go : type_of% (og z44_r11.eq_1) := og rfl
def z44 : PCodeFn :=
  ⟨1, [.tmp 2],
  (.seq (.region z44_r0) (.seq (.seq (.clr [(6, 7)] (.region z44_r1)) (.cond (V 7) (.seq (.region z44_r2) .ret) .skip)) (.seq (.clr [(8, 9)] (.region z44_r3)) (.seq (.seq (.clr [(9, 13)] (.region z44_r4)) (.block 0 (.loop z44_l0))) (.seq (.clr [(52, 53)] (.region z44_r11)) .ret))))), true⟩

def z82_r0 : List POper := [Q 6 (.alloc false [(.int .i64 0), .nils, .nils, .nils, (.int .i64 0), (.int .i64 0)])]
@[simp] theorem z82_r0_go : type_of% (og z82_r0.eq_1) := og rfl
def z82_r1 : List POper := [M 7 0,M 8 1,M 9 2,Q 10 (.build [(.int .i64 0), (.int .i64 0)] [(0, 1, (V 8)), (1, 1, (V 9))]),Q 11 (.build [(.int .i64 0), (.int .i64 0), (.int .i64 0)] [(0, 1, (V 7)), (1, 2, (V 10))]),Q 12 (.bsl false (.agg [(.int .i64 0), (.int .i64 0), (.int .i64 0)]) 1 [(0, (V 11))]),Q 13 (.build [(.int .i64 0), .nils, .nils, .nils, (.int .i64 0), (.int .i64 0)] [(0, 1, (I 2)), (2, 1, (V 12))]),QN (.store 6 (V 6) (V 13))]
@[simp] theorem z82_r1_go : type_of% (og z82_r1.eq_1) := og rfl
def z82 : PCodeFn :=
  ⟨3, [.cell 6 true 6],
  (.seq (.region z82_r0) (.seq (.clr [(7, 14)] (.region z82_r1)) .ret)), false⟩

def z76_r0 : List POper := [Q 8 (.mov ff')]
@[simp] theorem z76_r0_go : type_of% (og z76_r0.eq_1) := og rfl
def z76_r1 : List POper := [M 10 0,Q 11 (.call .std 188 [(V 10)]),M 12 1,Q 13 (.len false (V 12)),Q 14 (.arith .neq (V 11) (V 13)),M 15 14,QG (some 16) (.mov (V 0)) 15 false,QG (some 17) (.call .std 189 [(V 16)]) 15 false,QG (some 18) (.mov (V 1)) 15 false,QG (some 19) (.call .std 169 [(V 18)]) 15 false,QG (some 20) (.arith .neq (V 17) (V 19)) 15 false,Q 21 (.pick (V 15) tt' (V 20)),M 22 21,QG (some 23) (.mov (V 0)) 22 false,QG (some 24) (.call .std 190 [(V 23)]) 22 false,QG (some 25) (.mov (V 1)) 22 false,QG (some 26) (.call .std 191 [(V 25)]) 22 false,QG (some 27) (.call .std 170 [(V 24), (V 26)]) 22 false,QG (some 28) (.un .not (V 27)) 22 false,Q 29 (.pick (V 22) tt' (V 28))]
@[simp] theorem z76_r1_go : type_of% (og z76_r1.eq_1) := og rfl
def z76_r2 : List POper := [Q 8 (.mov ff')]
@[simp] theorem z76_r2_go : type_of% (og z76_r2.eq_1) := og rfl
def z76_r3 : List POper := [Q 9 (.mov (I (-1)))]
@[simp] theorem z76_r3_go : type_of% (og z76_r3.eq_1) := og rfl
def z76_r4 : List POper := [M 30 9,M 31 1,Q 32 (.len false (V 31)),Q 33 (.arith .leq (V 30) (V 32))]
@[simp] theorem z76_r4_go : type_of% (og z76_r4.eq_1) := og rfl
def z76_r6 : List POper := [M 36 0,M 37 1,M 38 9,M 39 2,M 40 3,Q 41 (.call .std 192 [(V 36), (V 37), (V 38), (V 39), (V 40)]),Q 42 (.un .not (V 41))]
@[simp] theorem z76_r6_go : type_of% (og z76_r6.eq_1) := og rfl
def z76_r7 : List POper := [Q 8 (.mov ff')]
@[simp] theorem z76_r7_go : type_of% (og z76_r7.eq_1) := og rfl
def z76_r5 : List POper := [M 34 9,Q 35 (.arith .add (V 34) (I 1)),M 9 35]
@[simp] theorem z76_r5_go : type_of% (og z76_r5.eq_1) := og rfl
def z76_l0 : PCode :=
  (.seq (.seq (.clr [(30, 33)] (.region z76_r4)) (.cond (V 33) .skip (.exit 0))) (.seq (.block 1 (.seq (.clr [(36, 42)] (.region z76_r6)) (.cond (V 42) (.seq (.region z76_r7) .ret) .skip))) (.clr [(34, 36)] (.region z76_r5))))
@[simp] theorem z76_l0_go : type_of% (cg z76_l0.eq_1) := cg rfl
def z76_r8 : List POper := [Q 8 (.mov tt')]
@[simp] theorem z76_r8_go : type_of% (og z76_r8.eq_1) := og rfl
def z76 : PCodeFn :=
  ⟨4, [.tmp 8],
  (.seq (.region z76_r0) (.seq (.seq (.clr [(10, 29)] (.region z76_r1)) (.cond (V 29) (.seq (.region z76_r2) .ret) .skip)) (.seq (.seq (.region z76_r3) (.block 0 (.loop z76_l0))) (.seq (.region z76_r8) .ret)))), false⟩

def z83_r0 : List POper := [Q 1 (.box true (V 0)),Q 2 (.mov (I 0))]
@[simp] theorem z83_r0_go : type_of% (og z83_r0.eq_1) := og rfl
def z83_r1 : List POper := [FA 4 1 1,LD 5 4,Q 6 (.len false (V 5)),FA 7 2 1,LD 8 7,Q 9 (.len false (V 8)),FA 10 3 1,LD 11 10,Q 12 (.len false (V 11)),FA 13 4 1,LD 14 13,FA 15 5 1,LD 16 15,Q 17 (.build [(.int .i64 0), (.int .i64 0), (.int .i64 0), (.int .i64 0), (.int .i64 0)] [(0, 1, (V 6)), (1, 1, (V 9)), (2, 1, (V 12)), (3, 1, (V 14)), (4, 1, (V 16))]),Q 3 (.alloc false [(.int .i64 0), (.int .i64 0), (.int .i64 0), (.int .i64 0), (.int .i64 0)]),QN (.store 5 (V 3) (V 17))]
@[simp] theorem z83_r1_go : type_of% (og z83_r1.eq_1) := og rfl
def z83_r2 : List POper := [FA 19 0 1,LD 20 19,Q 21 (.arith .eql (V 20) (I 1)),M 22 21,QG (some 23) (.load true 5 false (V 3)) 22 true,QG (some 24) (.faddr 0 (V 3)) 22 true,QG (some 25) (.load false 1 false (V 24)) 22 true,QG (some 26) (.build [(.int .i64 0), (.int .i64 0), (.int .i64 0), (.int .i64 0), (.int .i64 0)] [(0, 1, (V 25))]) 22 true,QG (some 27) (.eqs false 5 (V 23) (V 26)) 22 true,Q 28 (.pick (V 22) (V 27) ff'),M 18 28]
@[simp] theorem z83_r2_go : type_of% (og z83_r2.eq_1) := og rfl
def z83_r3 : List POper := [FA 29 1 1,LD 30 29,Q 31 (.call .std 40 [(V 30)]),M 2 31]
@[simp] theorem z83_r3_go : type_of% (og z83_r3.eq_1) := og rfl
def z83_r4 : List POper := [FA 33 0 1,LD 34 33,Q 35 (.arith .eql (V 34) (I 2)),M 36 35,QG (some 37) (.load true 5 false (V 3)) 36 true,QG (some 38) (.faddr 1 (V 3)) 36 true,QG (some 39) (.load false 1 false (V 38)) 36 true,QG (some 40) (.build [(.int .i64 0), (.int .i64 0), (.int .i64 0), (.int .i64 0), (.int .i64 0)] [(1, 1, (V 39))]) 36 true,QG (some 41) (.eqs false 5 (V 37) (V 40)) 36 true,Q 42 (.pick (V 36) (V 41) ff'),M 32 42]
@[simp] theorem z83_r4_go : type_of% (og z83_r4.eq_1) := og rfl
def z83_r5 : List POper := [FA 43 2 1,LD 44 43,Q 45 (.call .std 275 [(V 44)]),M 2 45]
@[simp] theorem z83_r5_go : type_of% (og z83_r5.eq_1) := og rfl
def z83_r6 : List POper := [FA 47 0 1,LD 48 47,Q 49 (.arith .eql (V 48) (I 3)),M 50 49,QG (some 51) (.load true 5 false (V 3)) 50 true,QG (some 52) (.faddr 2 (V 3)) 50 true,QG (some 53) (.load false 1 false (V 52)) 50 true,QG (some 54) (.faddr 3 (V 3)) 50 true,QG (some 55) (.load false 1 false (V 54)) 50 true,QG (some 56) (.faddr 4 (V 3)) 50 true,QG (some 57) (.load false 1 false (V 56)) 50 true,QG (some 58) (.build [(.int .i64 0), (.int .i64 0), (.int .i64 0), (.int .i64 0), (.int .i64 0)] [(2, 1, (V 53)), (3, 1, (V 55)), (4, 1, (V 57))]) 50 true,QG (some 59) (.eqs false 5 (V 51) (V 58)) 50 true,Q 60 (.pick (V 50) (V 59) ff'),M 46 60]
@[simp] theorem z83_r6_go : type_of% (og z83_r6.eq_1) := og rfl
def z83_r7 : List POper := [Q 61 (.load true 6 false (V 1)),Q 62 (.call .std 276 [(V 61)]),M 2 62]
@[simp] theorem z83_r7_go : type_of% (og z83_r7.eq_1) := og rfl
def z83_r8 : List POper := [Q 2 (.mov (I 2))]
@[simp] theorem z83_r8_go : type_of% (og z83_r8.eq_1) := og rfl
def z83 : PCodeFn :=
  ⟨1, [.tmp 2],
  (.seq (.region z83_r0) (.seq (.clr [(4, 18)] (.region z83_r1)) (.seq (.block 0 (.seq (.clr [(19, 29)] (.region z83_r2)) (.cond (V 18) (.seq (.clr [(29, 32)] (.region z83_r3)) .ret) (.seq (.clr [(33, 43)] (.region z83_r4)) (.cond (V 32) (.seq (.clr [(43, 46)] (.region z83_r5)) .ret) (.seq (.clr [(47, 61)] (.region z83_r6)) (.cond (V 46) (.seq (.clr [(61, 63)] (.region z83_r7)) .ret) .skip))))))) (.seq (.region z83_r8) .ret)))), false⟩

def z47_r0 : List POper := [Q 4 (.mov (I 0))]
@[simp] theorem z47_r0_go : type_of% (og z47_r0.eq_1) := og rfl
def z47_r1 : List POper := [M 8 1,Q 9 (.call .snap 24 [(V 8)]),M 5 9]
@[simp] theorem z47_r1_go : type_of% (og z47_r1.eq_1) := og rfl
def z47_r2 : List POper := [M 11 0,NK' 12 11,FA 13 1 12,LD 14 13,M 15 5,Q 16 (.mlk true true (.int .i64 0) (V 14) (V 15)),M 10 16,EX 17 0 10,EX 18 1 10,M 6 17,M 7 18]
@[simp] theorem z47_r2_go : type_of% (og z47_r2.eq_1) := og rfl
def z47_r3 : List POper := [M 19 7]
@[simp] theorem z47_r3_go : type_of% (og z47_r3.eq_1) := og rfl
def z47_r4 : List POper := [Q 4 (.mov (I 10))]
@[simp] theorem z47_r4_go : type_of% (og z47_r4.eq_1) := og rfl
def z47_r5 : List POper := [M 20 0,NK' 21 20,FA 22 0 21,LD 23 22,Q 24 (.len false (V 23)),Q 25 (.arith .geq (V 24) (I 256))]
@[simp] theorem z47_r5_go : type_of% (og z47_r5.eq_1) := og rfl
def z47_r6 : List POper := [Q 4 (.mov (I 3))]
@[simp] theorem z47_r6_go : type_of% (og z47_r6.eq_1) := og rfl
def z47_r7 : List POper := [M 26 0,NK' 27 26,FA 28 1 27,LD 29 28,M 30 5,M 31 0,NK' 32 31,FA 33 0 32,LD 34 33,Q 35 (.len false (V 34)),QN (.mset true (V 29) (V 30) (V 35))]
@[simp] theorem z47_r7_go : type_of% (og z47_r7.eq_1) := og rfl
def z47_r8 : List POper := [M 36 0,M 37 0,NK' 38 37,FA 39 0 38,LD 40 39,M 41 1,Q 42 (.call .keep 130 [(V 41)]),Q 43 (.build [.nils, .nils] [(0, 1, (V 42))]),Q 44 (.bsl false (.agg [.nils, .nils]) 1 [(0, (V 43))]),Q 45 (.gapp 2 48 (V 40) (V 44)),NK' 46 36,FA 47 0 46,QN (.store 1 (V 47) (V 45))]
@[simp] theorem z47_r8_go : type_of% (og z47_r8.eq_1) := og rfl
def z47_r9 : List POper := [Q 4 (.mov (I 0))]
@[simp] theorem z47_r9_go : type_of% (og z47_r9.eq_1) := og rfl
def z47 : PCodeFn :=
  ⟨2, [.tmp 4],
  (.seq (.region z47_r0) (.seq (.clr [(8, 10)] (.region z47_r1)) (.seq (.seq (.clr [(6, 7), (10, 19)] (.region z47_r2)) (.seq (.region z47_r3) (.cond (V 19) (.seq (.region z47_r4) .ret) .skip))) (.seq (.seq (.clr [(20, 25)] (.region z47_r5)) (.cond (V 25) (.seq (.region z47_r6) .ret) .skip)) (.seq (.clr [(26, 36)] (.region z47_r7)) (.seq (.clr [(36, 48)] (.region z47_r8)) (.seq (.region z47_r9) .ret))))))), true⟩

def head_Head_rows_r0 : List POper := [Q 2 (.box false (V 0)),Q 3 (.box false (V 1)),Q 4 (.alloc false [(.int .i64 0)])]
@[simp] theorem head_Head_rows_r0_go : type_of% (og head_Head_rows_r0.eq_1) := og rfl
def head_Head_rows_r1 : List POper := [Q 5 (.alloc false [(.int .i64 0)]),QN (.store 1 (V 5) (I 0))]
@[simp] theorem head_Head_rows_r1_go : type_of% (og head_Head_rows_r1.eq_1) := og rfl
def head_Head_rows_r3 : List POper := [LD 10 3,Q 11 (.len false (V 10)),Q 12 (.mov (I 0))]
@[simp] theorem head_Head_rows_r3_go : type_of% (og head_Head_rows_r3.eq_1) := og rfl
def head_Head_rows_r4 : List POper := [Q 13 (.arith .lss (V 12) (V 11))]
@[simp] theorem head_Head_rows_r4_go : type_of% (og head_Head_rows_r4.eq_1) := og rfl
def head_Head_rows_r5 : List POper := [Q 14 (.iaddr 3 (V 10) (V 12)),Q 15 (.load true 3 false (V 14)),Q 7 (.alloc false [(.int .i64 0), (.int .i64 0), (.int .i64 0)]),QN (.store 3 (V 7) (V 15))]
@[simp] theorem head_Head_rows_r5_go : type_of% (og head_Head_rows_r5.eq_1) := og rfl
def head_Head_rows_r6 : List POper := [FA 17 0 7,LD 18 17,LD 19 2,NK' 20 19,FA 21 0 20,LD 22 21,Q 23 (.len false (V 22)),Q 24 (.arith .geq (V 18) (V 23)),M 16 24]
@[simp] theorem head_Head_rows_r6_go : type_of% (og head_Head_rows_r6.eq_1) := og rfl
def head_Head_rows_r7 : List POper := [QN (.store 1 (V 4) (I 9))]
@[simp] theorem head_Head_rows_r7_go : type_of% (og head_Head_rows_r7.eq_1) := og rfl
def head_Head_rows_r8 : List POper := [LD 26 2,NK' 27 26,FA 28 2 27,LD 29 28,Q 30 (.arith .geq (V 29) (I 65536)),M 25 30]
@[simp] theorem head_Head_rows_r8_go : type_of% (og head_Head_rows_r8.eq_1) := og rfl
def head_Head_rows_r9 : List POper := [QN (.store 1 (V 4) (I 3))]
@[simp] theorem head_Head_rows_r9_go : type_of% (og head_Head_rows_r9.eq_1) := og rfl
def head_Head_rows_r10 : List POper := [FA 32 1 7,FA 33 0 32,LD 34 33,LD 35 2,NK' 36 35,FA 37 0 36,LD 38 37,FA 39 0 7,LD 40 39,Q 41 (.iaddr 2 (V 38) (V 40)),FA 42 1 41,LD 43 42,Q 44 (.call .keep 278 [(V 43)]),Q 45 (.arith .leq (V 34) (V 44)),M 31 45]
@[simp] theorem head_Head_rows_r10_go : type_of% (og head_Head_rows_r10.eq_1) := og rfl
def head_Head_rows_r11 : List POper := [QN (.store 1 (V 4) (I 13))]
@[simp] theorem head_Head_rows_r11_go : type_of% (og head_Head_rows_r11.eq_1) := og rfl
def head_Head_rows_r12 : List POper := [LD 46 2,NK' 47 46,FA 48 0 47,LD 49 48,FA 50 0 7,LD 51 50,Q 52 (.iaddr 2 (V 49) (V 51)),M 8 52]
@[simp] theorem head_Head_rows_r12_go : type_of% (og head_Head_rows_r12.eq_1) := og rfl
def head_Head_rows_r13 : List POper := [M 53 8,M 54 8,NK' 55 54,FA 56 1 55,LD 57 56,FA 58 1 7,Q 59 (.load true 2 false (V 58)),Q 60 (.bsl false (.agg [(.int .i64 0), (.int .i64 0)]) 1 [(0, (V 59))]),Q 61 (.gapp 2 16 (V 57) (V 60)),NK' 62 53,FA 63 1 62,QN (.store 1 (V 63) (V 61))]
@[simp] theorem head_Head_rows_r13_go : type_of% (og head_Head_rows_r13.eq_1) := og rfl
def head_Head_rows_r14 : List POper := [LD 64 2,NK' 65 64,FA 66 2 65,LD 67 66,Q 68 (.arith .add (V 67) (I 1)),NK' 69 64,FA 70 2 69,QN (.store 1 (V 70) (V 68))]
@[simp] theorem head_Head_rows_r14_go : type_of% (og head_Head_rows_r14.eq_1) := og rfl
def head_Head_rows_r15 : List POper := [LD 71 5,Q 72 (.arith .add (V 71) (I 1)),QN (.store 1 (V 5) (V 72))]
@[simp] theorem head_Head_rows_r15_go : type_of% (og head_Head_rows_r15.eq_1) := og rfl
def head_Head_rows_r16 : List POper := [Q 73 (.arith .add (V 12) (I 1)),M 12 73]
@[simp] theorem head_Head_rows_r16_go : type_of% (og head_Head_rows_r16.eq_1) := og rfl
def head_Head_rows_l0 : PCode :=
  (.seq (.region head_Head_rows_r4) (.seq (.cond (V 13) .skip (.exit 0)) (.seq (.block 1 (.seq (.clr [(14, 16)] (.region head_Head_rows_r5)) (.seq (.block 2 (.seq (.clr [(17, 25)] (.region head_Head_rows_r6)) (.cond (V 16) (.seq (.region head_Head_rows_r7) .ret) (.seq (.clr [(26, 31)] (.region head_Head_rows_r8)) (.cond (V 25) (.seq (.region head_Head_rows_r9) .ret) (.seq (.clr [(32, 46)] (.region head_Head_rows_r10)) (.cond (V 31) (.seq (.region head_Head_rows_r11) .ret) .skip))))))) (.seq (.clr [(46, 53)] (.region head_Head_rows_r12)) (.seq (.clr [(53, 64)] (.region head_Head_rows_r13)) (.seq (.clr [(64, 71)] (.region head_Head_rows_r14)) (.clr [(71, 73)] (.region head_Head_rows_r15)))))))) (.clr [(73, 74)] (.region head_Head_rows_r16)))))
@[simp] theorem head_Head_rows_l0_go : type_of% (cg head_Head_rows_l0.eq_1) := cg rfl
def head_Head_rows_r17 : List POper := [QN (.store 1 (V 4) (I 0))]
@[simp] theorem head_Head_rows_r17_go : type_of% (og head_Head_rows_r17.eq_1) := og rfl
def head_Head_rows : PDef :=
  ⟨2, [.cell 4 false 1],
  [(.region head_Head_rows_r0), (.region head_Head_rows_r1)],⟨some 9, .mkfn 277 [(.tmp 4), (.tmp 5), (.tmp 2), (.tmp 3)], none⟩, 9,
  (.seq (.seq (.region head_Head_rows_r3) (.block 0 (.loop head_Head_rows_l0))) (.seq (.region head_Head_rows_r17) .ret)), true⟩

def z35_r0 : List POper := [Q 3 (.box false (V 1)),Q 4 (.mov (I 0))]
@[simp] theorem z35_r0_go : type_of% (og z35_r0.eq_1) := og rfl
def z35_r1 : List POper := [FA 9 3 3,LD 10 9,FA 11 3 3,LD 12 11,Q 13 (.len false (V 12)),Q 14 (.arith .sub (V 13) (I 1)),Q 15 (.iaddr 1 (V 10) (V 14)),LD 16 15,M 17 0,NK' 18 17,FA 19 0 18,LD 20 19,Q 21 (.len false (V 20)),Q 22 (.arith .geq (V 16) (V 21))]
@[simp] theorem z35_r1_go : type_of% (og z35_r1.eq_1) := og rfl
def z35_r2 : List POper := [Q 4 (.mov (I 9))]
@[simp] theorem z35_r2_go : type_of% (og z35_r2.eq_1) := og rfl
def z35_r3 : List POper := [FA 23 3 3,LD 24 23,Q 25 (.len false (V 24)),Q 26 (.mov (I 0))]
@[simp] theorem z35_r3_go : type_of% (og z35_r3.eq_1) := og rfl
def z35_r4 : List POper := [Q 27 (.arith .lss (V 26) (V 25))]
@[simp] theorem z35_r4_go : type_of% (og z35_r4.eq_1) := og rfl
def z35_r5 : List POper := [Q 28 (.iaddr 1 (V 24) (V 26)),LD 29 28,M 6 29]
@[simp] theorem z35_r5_go : type_of% (og z35_r5.eq_1) := og rfl
def z35_r6 : List POper := [M 30 0,NK' 31 30,FA 32 0 31,LD 33 32,M 34 6,Q 35 (.iaddr 2 (V 33) (V 34)),M 7 35]
@[simp] theorem z35_r6_go : type_of% (og z35_r6.eq_1) := og rfl
def z35_r7 : List POper := [M 36 7,NK' 37 36,FA 38 1 37,LD 39 38,Q 40 (.len false (V 39)),M 8 40]
@[simp] theorem z35_r7_go : type_of% (og z35_r7.eq_1) := og rfl
def z35_r8 : List POper := [M 41 7,M 42 7,NK' 43 42,FA 44 1 43,LD 45 44,Q 46 (.mkfn 280 [(V 3)]),Q 47 (.call .std 279 [(V 45), (V 46)]),NK' 48 41,FA 49 1 48,QN (.store 1 (V 49) (V 47))]
@[simp] theorem z35_r8_go : type_of% (og z35_r8.eq_1) := og rfl
def z35_r9 : List POper := [M 50 0,NK' 51 50,FA 52 2 51,LD 53 52,M 54 8,M 55 7,NK' 56 55,FA 57 1 56,LD 58 57,Q 59 (.len false (V 58)),Q 60 (.arith .sub (V 54) (V 59)),Q 61 (.arith .sub (V 53) (V 60)),NK' 62 50,FA 63 2 62,QN (.store 1 (V 63) (V 61))]
@[simp] theorem z35_r9_go : type_of% (og z35_r9.eq_1) := og rfl
def z35_r10 : List POper := [Q 64 (.arith .add (V 26) (I 1)),M 26 64]
@[simp] theorem z35_r10_go : type_of% (og z35_r10.eq_1) := og rfl
def z35_l0 : PCode :=
  (.seq (.region z35_r4) (.seq (.cond (V 27) .skip (.exit 0)) (.seq (.block 1 (.seq (.clr [(28, 30)] (.region z35_r5)) (.seq (.clr [(30, 36)] (.region z35_r6)) (.seq (.clr [(36, 41)] (.region z35_r7)) (.seq (.clr [(41, 50)] (.region z35_r8)) (.clr [(50, 64)] (.region z35_r9))))))) (.clr [(64, 65)] (.region z35_r10)))))
@[simp] theorem z35_l0_go : type_of% (cg z35_l0.eq_1) := cg rfl
def z35_r11 : List POper := [Q 4 (.mov (I 0))]
@[simp] theorem z35_r11_go : type_of% (og z35_r11.eq_1) := og rfl
def z35 : PCodeFn :=
  ⟨2, [.tmp 4],
  (.seq (.region z35_r0) (.seq (.seq (.clr [(9, 22)] (.region z35_r1)) (.cond (V 22) (.seq (.region z35_r2) .ret) .skip)) (.seq (.seq (.clr [(23, 24)] (.region z35_r3)) (.block 0 (.loop z35_l0))) (.seq (.region z35_r11) .ret)))), true⟩

def z45_r0 : List POper := [Q 4 (.mov (I 0)),Q 5 (.mov (I 0))]
@[simp] theorem z45_r0_go : type_of% (og z45_r0.eq_1) := og rfl
def z45_r1 : List POper := [M 9 0,M 10 1,Q 11 (.call .std 291 [(V 9), (V 10)]),M 8 11,EX 12 0 8,EX 13 1 8,Q 6 (.alloc false [.nils, .nils]),QN (.store 2 (V 6) (V 12)),M 7 13]
@[simp] theorem z45_r1_go : type_of% (og z45_r1.eq_1) := og rfl
def z45_r2 : List POper := [M 14 7,Q 15 (.arith .neq (V 14) (I 0))]
@[simp] theorem z45_r2_go : type_of% (og z45_r2.eq_1) := og rfl
def z45_r3 : List POper := [M 16 7,Q 4 (.mov (I 0)),M 5 16]
@[simp] theorem z45_r3_go : type_of% (og z45_r3.eq_1) := og rfl
def z45_r4 : List POper := [FA 17 1 6,LD 18 17,Q 19 (.call .std 278 [(V 18)]),M 4 19,Q 5 (.mov (I 0))]
@[simp] theorem z45_r4_go : type_of% (og z45_r4.eq_1) := og rfl
def z45 : PCodeFn :=
  ⟨2, [.tmp 4, .tmp 5],
  (.seq (.region z45_r0) (.seq (.clr [(8, 14)] (.region z45_r1)) (.seq (.seq (.clr [(14, 15)] (.region z45_r2)) (.cond (V 15) (.seq (.clr [(16, 17)] (.region z45_r3)) .ret) .skip)) (.seq (.clr [(17, 20)] (.region z45_r4)) .ret)))), false⟩

def z56_r0 : List POper := [Q 4 (.alloc false [.nils, .nils]),Q 5 (.mov (I 0))]
@[simp] theorem z56_r0_go : type_of% (og z56_r0.eq_1) := og rfl
def z56_r1 : List POper := [M 7 0,Q 8 (.eqn false .p (V 7)),M 6 8]
@[simp] theorem z56_r1_go : type_of% (og z56_r1.eq_1) := og rfl
def z56_r2 : List POper := [Q 9 (.build [.nils, .nils] []),QN (.store 2 (V 4) (V 9)),Q 5 (.mov (I 1))]
@[simp] theorem z56_r2_go : type_of% (og z56_r2.eq_1) := og rfl
def z56_r3 : List POper := [M 11 1,Q 12 (.arith .lss (V 11) (I 0)),M 13 12,QG (some 14) (.mov (V 1)) 13 false,QG (some 15) (.mov (V 0)) 13 false,QG (some 16) (.nilck (V 15)) 13 false,QG (some 17) (.faddr 0 (V 16)) 13 false,QG (some 18) (.load false 1 false (V 17)) 13 false,QG (some 19) (.len false (V 18)) 13 false,QG (some 20) (.arith .geq (V 14) (V 19)) 13 false,Q 21 (.pick (V 13) tt' (V 20)),M 10 21]
@[simp] theorem z56_r3_go : type_of% (og z56_r3.eq_1) := og rfl
def z56_r4 : List POper := [Q 22 (.build [.nils, .nils] []),QN (.store 2 (V 4) (V 22)),Q 5 (.mov (I 9))]
@[simp] theorem z56_r4_go : type_of% (og z56_r4.eq_1) := og rfl
def z56_r5 : List POper := [M 23 0,NK' 24 23,FA 25 0 24,LD 26 25,M 27 1,Q 28 (.iaddr 2 (V 26) (V 27)),Q 29 (.load true 2 false (V 28)),QN (.store 2 (V 4) (V 29)),Q 5 (.mov (I 0))]
@[simp] theorem z56_r5_go : type_of% (og z56_r5.eq_1) := og rfl
def z56 : PCodeFn :=
  ⟨2, [.cell 4 true 2, .tmp 5],
  (.seq (.region z56_r0) (.seq (.block 0 (.seq (.clr [(7, 9)] (.region z56_r1)) (.cond (V 6) (.seq (.clr [(9, 10)] (.region z56_r2)) .ret) (.seq (.clr [(11, 22)] (.region z56_r3)) (.cond (V 10) (.seq (.clr [(22, 23)] (.region z56_r4)) .ret) .skip))))) (.seq (.clr [(23, 30)] (.region z56_r5)) .ret))), true⟩

def z78_r0 : List POper := [Q 4 (.mov ff')]
@[simp] theorem z78_r0_go : type_of% (og z78_r0.eq_1) := og rfl
def z78_r1 : List POper := [M 5 0,M 6 1,Q 7 (.call .std 102 [(V 5), (V 6)]),Q 8 (.arith .eql (V 7) (I 0)),M 4 8]
@[simp] theorem z78_r1_go : type_of% (og z78_r1.eq_1) := og rfl
def z78 : PCodeFn :=
  ⟨2, [.tmp 4],
  (.seq (.region z78_r0) (.seq (.clr [(5, 9)] (.region z78_r1)) .ret)), false⟩

def z17_r0 : List POper := [Q 4 (.mov (.cst .nils))]
@[simp] theorem z17_r0_go : type_of% (og z17_r0.eq_1) := og rfl
def z17_r1 : List POper := [M 8 0,M 9 1,Q 10 (.call .std 345 [(V 8), (V 9)]),M 5 10]
@[simp] theorem z17_r1_go : type_of% (og z17_r1.eq_1) := og rfl
def z17_r2 : List POper := [M 11 5,Q 12 (.arith .eql (V 11) (I (-1)))]
@[simp] theorem z17_r2_go : type_of% (og z17_r2.eq_1) := og rfl
def z17_r3 : List POper := [M 13 0,M 4 13]
@[simp] theorem z17_r3_go : type_of% (og z17_r3.eq_1) := og rfl
def z17_r4 : List POper := [M 14 5,Q 15 (.arith .add (V 14) (I 1)),M 6 15]
@[simp] theorem z17_r4_go : type_of% (og z17_r4.eq_1) := og rfl
def z17_r5 : List POper := [M 16 6,M 17 0,Q 18 (.len false (V 17)),Q 19 (.arith .lss (V 16) (V 18))]
@[simp] theorem z17_r5_go : type_of% (og z17_r5.eq_1) := og rfl
def z17_r7 : List POper := [M 22 0,M 23 6,Q 24 (.iaddr 2 (V 22) (V 23)),Q 25 (.load true 2 false (V 24)),Q 7 (.alloc false [.nils, .nils]),QN (.store 2 (V 7) (V 25))]
@[simp] theorem z17_r7_go : type_of% (og z17_r7.eq_1) := og rfl
def z17_r8 : List POper := [M 26 1,Q 27 (.load true 2 false (V 7)),Q 28 (.callv .std (V 26) [(V 27)]),Q 29 (.un .not (V 28))]
@[simp] theorem z17_r8_go : type_of% (og z17_r8.eq_1) := og rfl
def z17_r9 : List POper := [M 30 0,M 31 5,Q 32 (.load true 2 false (V 7)),Q 33 (.iaddr 2 (V 30) (V 31)),QN (.store 2 (V 33) (V 32))]
@[simp] theorem z17_r9_go : type_of% (og z17_r9.eq_1) := og rfl
def z17_r10 : List POper := [M 34 5,Q 35 (.arith .add (V 34) (I 1)),M 5 35]
@[simp] theorem z17_r10_go : type_of% (og z17_r10.eq_1) := og rfl
def z17_r6 : List POper := [M 20 6,Q 21 (.arith .add (V 20) (I 1)),M 6 21]
@[simp] theorem z17_r6_go : type_of% (og z17_r6.eq_1) := og rfl
def z17_l0 : PCode :=
  (.seq (.seq (.clr [(16, 19)] (.region z17_r5)) (.cond (V 19) .skip (.exit 0))) (.seq (.block 1 (.seq (.clr [(22, 26)] (.region z17_r7)) (.seq (.clr [(26, 29)] (.region z17_r8)) (.cond (V 29) (.seq (.clr [(30, 34)] (.region z17_r9)) (.clr [(34, 36)] (.region z17_r10))) .skip)))) (.clr [(20, 22)] (.region z17_r6))))
@[simp] theorem z17_l0_go : type_of% (cg z17_l0.eq_1) := cg rfl
def z17_r11 : List POper := [M 36 0,M 37 5,Q 38 (.slc 2 (some (V 37)) none (V 36)),QN (.gclr 2 [.nils, .nils] (V 38))]
@[simp] theorem z17_r11_go : type_of% (og z17_r11.eq_1) := og rfl
def z17_r12 : List POper := [M 39 0,M 40 5,Q 41 (.slc 2 none (some (V 40)) (V 39)),M 4 41]
@[simp] theorem z17_r12_go : type_of% (og z17_r12.eq_1) := og rfl
def z17 : PCodeFn :=
  ⟨2, [.tmp 4],
  (.seq (.region z17_r0) (.seq (.clr [(8, 11)] (.region z17_r1)) (.seq (.seq (.clr [(11, 12)] (.region z17_r2)) (.cond (V 12) (.seq (.clr [(13, 14)] (.region z17_r3)) .ret) .skip)) (.seq (.seq (.clr [(14, 16)] (.region z17_r4)) (.block 0 (.loop z17_l0))) (.seq (.clr [(36, 39)] (.region z17_r11)) (.seq (.clr [(39, 42)] (.region z17_r12)) .ret)))))), true⟩

def z70_r0 : List POper := [Q 2 (.mov (.cst .nils))]
@[simp] theorem z70_r0_go : type_of% (og z70_r0.eq_1) := og rfl
def z70_r1 : List POper := [Q 3 (.mov (.cst .nils))]
@[simp] theorem z70_r1_go : type_of% (og z70_r1.eq_1) := og rfl
def z70_r2 : List POper := [M 6 0,Q 7 (.len false (V 6)),Q 8 (.mov (I 0))]
@[simp] theorem z70_r2_go : type_of% (og z70_r2.eq_1) := og rfl
def z70_r3 : List POper := [Q 9 (.arith .lss (V 8) (V 7))]
@[simp] theorem z70_r3_go : type_of% (og z70_r3.eq_1) := og rfl
def z70_r4 : List POper := [Q 10 (.iaddr 2 (V 6) (V 8)),Q 11 (.load true 2 false (V 10)),Q 5 (.alloc false [.nils, .nils]),QN (.store 2 (V 5) (V 11))]
@[simp] theorem z70_r4_go : type_of% (og z70_r4.eq_1) := og rfl
def z70_r5 : List POper := [M 12 3,FA 13 0 5,LD 14 13,Q 15 (.call .pur 130 [(V 14)]),FA 16 1 5,LD 17 16,Q 18 (.call .std 283 [(V 17)]),Q 19 (.build [.nils, .nils] [(0, 1, (V 15)), (1, 1, (V 18))]),Q 20 (.bsl false (.agg [.nils, .nils]) 1 [(0, (V 19))]),Q 21 (.gapp 2 48 (V 12) (V 20)),M 3 21]
@[simp] theorem z70_r5_go : type_of% (og z70_r5.eq_1) := og rfl
def z70_r6 : List POper := [Q 22 (.arith .add (V 8) (I 1)),M 8 22]
@[simp] theorem z70_r6_go : type_of% (og z70_r6.eq_1) := og rfl
def z70_l0 : PCode :=
  (.seq (.region z70_r3) (.seq (.cond (V 9) .skip (.exit 0)) (.seq (.block 1 (.seq (.clr [(10, 12)] (.region z70_r4)) (.clr [(12, 22)] (.region z70_r5)))) (.clr [(22, 23)] (.region z70_r6)))))
@[simp] theorem z70_l0_go : type_of% (cg z70_l0.eq_1) := cg rfl
def z70_r7 : List POper := [M 23 3,M 2 23]
@[simp] theorem z70_r7_go : type_of% (og z70_r7.eq_1) := og rfl
def z70 : PCodeFn :=
  ⟨1, [.tmp 2],
  (.seq (.region z70_r0) (.seq (.region z70_r1) (.seq (.seq (.region z70_r2) (.block 0 (.loop z70_l0))) (.seq (.clr [(23, 24)] (.region z70_r7)) .ret)))), true⟩

def z31_r0 : List POper := [Q 1 (.box true (V 0)),Q 2 (.mov ff')]
@[simp] theorem z31_r0_go : type_of% (og z31_r0.eq_1) := og rfl
def z31_r1 : List POper := [FA 3 1 1,LD 4 3,Q 5 (.len false (V 4)),Q 6 (.arith .eql (V 5) (I 0)),M 2 6]
@[simp] theorem z31_r1_go : type_of% (og z31_r1.eq_1) := og rfl
def z31 : PCodeFn :=
  ⟨1, [.tmp 2],
  (.seq (.region z31_r0) (.seq (.clr [(3, 7)] (.region z31_r1)) .ret)), false⟩

def z20_r0 : List POper := [M 5 0,Q 6 (.len false (V 5)),M 4 6]
@[simp] theorem z20_r0_go : type_of% (og z20_r0.eq_1) := og rfl
def z20_r1 : List POper := [M 7 0,M 8 4,M 9 4,Q 10 (.toInt .u64 (V 9)),Q 11 (.call .pur 317 [(V 10)]),M 12 1,Q 13 (.call .std 346 [(V 7), (I 0), (V 8), (V 11), (V 12)])]
@[simp] theorem z20_r1_go : type_of% (og z20_r1.eq_1) := og rfl
def z20 : PCodeFn :=
  ⟨2, [],
  (.seq (.clr [(5, 7)] (.region z20_r0)) (.clr [(7, 14)] (.region z20_r1))), true⟩

def z27_r0 : List POper := [Q 2 (.box true (V 0)),Q 3 (.box true (V 1)),Q 4 (.mov (I 0))]
@[simp] theorem z27_r0_go : type_of% (og z27_r0.eq_1) := og rfl
def z27_r1 : List POper := [FA 5 0 2,LD 6 5,FA 7 0 3,LD 8 7,Q 9 (.call .std 28 [(V 6), (V 8)]),M 4 9]
@[simp] theorem z27_r1_go : type_of% (og z27_r1.eq_1) := og rfl
def z27 : PCodeFn :=
  ⟨2, [.tmp 4],
  (.seq (.region z27_r0) (.seq (.clr [(5, 10)] (.region z27_r1)) .ret)), false⟩

def z53_r0 : List POper := [Q 4 (.mov (I 0))]
@[simp] theorem z53_r0_go : type_of% (og z53_r0.eq_1) := og rfl
def z53_r1 : List POper := [M 5 0,M 6 1,Q 7 (.call .std 103 [(V 5), (V 6), (.cst (.fn 104 []))]),M 4 7]
@[simp] theorem z53_r1_go : type_of% (og z53_r1.eq_1) := og rfl
def z53 : PCodeFn :=
  ⟨2, [.tmp 4],
  (.seq (.region z53_r0) (.seq (.clr [(5, 8)] (.region z53_r1)) .ret)), false⟩

def z69_r0 : List POper := [Q 1 (.box true (V 0)),Q 2 (.mov (I 0))]
@[simp] theorem z69_r0_go : type_of% (og z69_r0.eq_1) := og rfl
def z69_r1 : List POper := [FA 4 0 1,LD 5 4,Q 6 (.arith .lss (V 5) (I 1)),M 7 6,QG (some 8) (.faddr 0 (V 1)) 7 false,QG (some 9) (.load false 1 false (V 8)) 7 false,QG (some 10) (.arith .gtr (V 9) (I 3)) 7 false,Q 11 (.pick (V 7) tt' (V 10)),M 12 11,QG (some 13) (.faddr 0 (V 1)) 12 false,QG (some 14) (.load false 1 false (V 13)) 12 false,QG (some 15) (.arith .neq (V 14) (I 1)) 12 false,QG (some 16) (.mov (V 15)) 12 false,QG (some 17) (.faddr 1 (V 1)) 16 true,QG (some 18) (.load false 1 false (V 17)) 16 true,QG (some 19) (.len false (V 18)) 16 true,QG (some 20) (.arith .gtr (V 19) (I 0)) 16 true,QG (some 21) (.pick (V 16) (V 20) ff') 12 false,Q 22 (.pick (V 12) tt' (V 21)),M 23 22,QG (some 24) (.faddr 0 (V 1)) 23 false,QG (some 25) (.load false 1 false (V 24)) 23 false,QG (some 26) (.arith .neq (V 25) (I 2)) 23 false,QG (some 27) (.mov (V 26)) 23 false,QG (some 28) (.faddr 2 (V 1)) 27 true,QG (some 29) (.load false 1 false (V 28)) 27 true,QG (some 30) (.len false (V 29)) 27 true,QG (some 31) (.arith .gtr (V 30) (I 0)) 27 true,QG (some 32) (.pick (V 27) (V 31) ff') 23 false,Q 33 (.pick (V 23) tt' (V 32)),M 34 33,QG (some 35) (.faddr 0 (V 1)) 34 false,QG (some 36) (.load false 1 false (V 35)) 34 false,QG (some 37) (.arith .neq (V 36) (I 3)) 34 false,QG (some 38) (.mov (V 37)) 34 false,QG (some 39) (.faddr 3 (V 1)) 38 true,QG (some 40) (.load false 1 false (V 39)) 38 true,QG (some 41) (.len false (V 40)) 38 true,QG (some 42) (.arith .gtr (V 41) (I 0)) 38 true,QG (some 43) (.mov (V 42)) 38 true,QG (some 44) (.faddr 4 (V 1)) 43 false,QG (some 45) (.load false 1 false (V 44)) 43 false,QG (some 46) (.arith .neq (V 45) (I 0)) 43 false,QG (some 47) (.pick (V 43) tt' (V 46)) 38 true,QG (some 48) (.mov (V 47)) 38 true,QG (some 49) (.faddr 5 (V 1)) 48 false,QG (some 50) (.load false 1 false (V 49)) 48 false,QG (some 51) (.arith .neq (V 50) (I 0)) 48 false,QG (some 52) (.pick (V 48) tt' (V 51)) 38 true,QG (some 53) (.pick (V 38) (V 52) ff') 34 false,Q 54 (.pick (V 34) tt' (V 53))]
@[simp] theorem z69_r1_go : type_of% (og z69_r1.eq_1) := og rfl
def z69_r2 : List POper := [Q 2 (.mov (I 2))]
@[simp] theorem z69_r2_go : type_of% (og z69_r2.eq_1) := og rfl
def z69_r3 : List POper := [FA 55 0 1,LD 56 55]
@[simp] theorem z69_r3_go : type_of% (og z69_r3.eq_1) := og rfl
def z69_r4 : List POper := [Q 58 (.arith .eql (V 56) (I 1)),M 57 58]
@[simp] theorem z69_r4_go : type_of% (og z69_r4.eq_1) := og rfl
def z69_r5 : List POper := [FA 59 1 1,LD 60 59,Q 61 (.call .std 98 [(V 60)]),M 2 61]
@[simp] theorem z69_r5_go : type_of% (og z69_r5.eq_1) := og rfl
def z69_r6 : List POper := [Q 63 (.arith .eql (V 56) (I 2)),M 62 63]
@[simp] theorem z69_r6_go : type_of% (og z69_r6.eq_1) := og rfl
def z69_r7 : List POper := [FA 64 2 1,LD 65 64,Q 66 (.call .std 281 [(V 65)]),M 2 66]
@[simp] theorem z69_r7_go : type_of% (og z69_r7.eq_1) := og rfl
def z69_r8 : List POper := [FA 67 3 1,LD 68 67,Q 69 (.call .std 282 [(V 68)]),M 3 69]
@[simp] theorem z69_r8_go : type_of% (og z69_r8.eq_1) := og rfl
def z69_r9 : List POper := [M 71 3,Q 72 (.arith .neq (V 71) (I 0)),M 70 72]
@[simp] theorem z69_r9_go : type_of% (og z69_r9.eq_1) := og rfl
def z69_r10 : List POper := [M 73 3,M 2 73]
@[simp] theorem z69_r10_go : type_of% (og z69_r10.eq_1) := og rfl
def z69_r11 : List POper := [FA 75 3 1,LD 76 75,Q 77 (.len false (V 76)),Q 78 (.arith .eql (V 77) (I 0)),M 74 78]
@[simp] theorem z69_r11_go : type_of% (og z69_r11.eq_1) := og rfl
def z69_r12 : List POper := [Q 2 (.mov (I 2))]
@[simp] theorem z69_r12_go : type_of% (og z69_r12.eq_1) := og rfl
def z69_r13 : List POper := [FA 80 4 1,LD 81 80,Q 82 (.arith .lss (V 81) (I 0)),M 83 82,QG (some 84) (.faddr 5 (V 1)) 83 false,QG (some 85) (.load false 1 false (V 84)) 83 false,QG (some 86) (.arith .gtr (V 85) (I 1099511627776)) 83 false,Q 87 (.pick (V 83) tt' (V 86)),M 79 87]
@[simp] theorem z69_r13_go : type_of% (og z69_r13.eq_1) := og rfl
def z69_r14 : List POper := [Q 2 (.mov (I 11))]
@[simp] theorem z69_r14_go : type_of% (og z69_r14.eq_1) := og rfl
def z69_r15 : List POper := [FA 89 4 1,LD 90 89,FA 91 5 1,LD 92 91,Q 93 (.arith .gtr (V 90) (V 92)),M 88 93]
@[simp] theorem z69_r15_go : type_of% (og z69_r15.eq_1) := og rfl
def z69_r16 : List POper := [Q 2 (.mov (I 13))]
@[simp] theorem z69_r16_go : type_of% (og z69_r16.eq_1) := og rfl
def z69_r17 : List POper := [Q 2 (.mov (I 0))]
@[simp] theorem z69_r17_go : type_of% (og z69_r17.eq_1) := og rfl
def z69 : PCodeFn :=
  ⟨1, [.tmp 2],
  (.seq (.region z69_r0) (.seq (.seq (.clr [(4, 54)] (.region z69_r1)) (.cond (V 54) (.seq (.region z69_r2) .ret) .skip)) (.seq (.seq (.clr [(55, 56)] (.region z69_r3)) (.block 0 (.seq (.clr [(58, 59)] (.region z69_r4)) (.cond (V 57) (.seq (.clr [(59, 62)] (.region z69_r5)) .ret) (.seq (.clr [(63, 64)] (.region z69_r6)) (.cond (V 62) (.seq (.clr [(64, 67)] (.region z69_r7)) .ret) .skip)))))) (.seq (.clr [(67, 70)] (.region z69_r8)) (.seq (.block 1 (.seq (.clr [(71, 73)] (.region z69_r9)) (.cond (V 70) (.seq (.clr [(73, 74)] (.region z69_r10)) .ret) (.seq (.clr [(75, 79)] (.region z69_r11)) (.cond (V 74) (.seq (.region z69_r12) .ret) (.seq (.clr [(80, 88)] (.region z69_r13)) (.cond (V 79) (.seq (.region z69_r14) .ret) (.seq (.clr [(89, 94)] (.region z69_r15)) (.cond (V 88) (.seq (.region z69_r16) .ret) .skip))))))))) (.seq (.region z69_r17) .ret)))))), false⟩

def z90_r0 : List POper := [Q 4 (.mov (I 0))]
@[simp] theorem z90_r0_go : type_of% (og z90_r0.eq_1) := og rfl
def z90_r1 : List POper := [Q 5 (.mov (I 0))]
@[simp] theorem z90_r1_go : type_of% (og z90_r1.eq_1) := og rfl
def z90_r2 : List POper := [M 6 5,M 7 0,Q 8 (.len false (V 7)),Q 9 (.arith .lss (V 6) (V 8))]
@[simp] theorem z90_r2_go : type_of% (og z90_r2.eq_1) := og rfl
def z90_r4 : List POper := [M 12 0,M 13 5,Q 14 (.iaddr 2 (V 12) (V 13)),FA 15 0 14,LD 16 15,M 17 1,Q 18 (.call .std 26 [(V 16), (V 17)])]
@[simp] theorem z90_r4_go : type_of% (og z90_r4.eq_1) := og rfl
def z90_r5 : List POper := [M 19 5,M 4 19]
@[simp] theorem z90_r5_go : type_of% (og z90_r5.eq_1) := og rfl
def z90_r3 : List POper := [M 10 5,Q 11 (.arith .add (V 10) (I 1)),M 5 11]
@[simp] theorem z90_r3_go : type_of% (og z90_r3.eq_1) := og rfl
def z90_l0 : PCode :=
  (.seq (.seq (.clr [(6, 9)] (.region z90_r2)) (.cond (V 9) .skip (.exit 0))) (.seq (.block 1 (.seq (.clr [(12, 18)] (.region z90_r4)) (.cond (V 18) (.seq (.clr [(19, 20)] (.region z90_r5)) .ret) .skip))) (.clr [(10, 12)] (.region z90_r3))))
@[simp] theorem z90_l0_go : type_of% (cg z90_l0.eq_1) := cg rfl
def z90_r6 : List POper := [Q 4 (.mov (I (-1)))]
@[simp] theorem z90_r6_go : type_of% (og z90_r6.eq_1) := og rfl
def z90 : PCodeFn :=
  ⟨2, [.tmp 4],
  (.seq (.region z90_r0) (.seq (.seq (.region z90_r1) (.block 0 (.loop z90_l0))) (.seq (.region z90_r6) .ret))), false⟩

def z65_r0 : List POper := [Q 2 (.mov (I 0))]
@[simp] theorem z65_r0_go : type_of% (og z65_r0.eq_1) := og rfl
def z65_r1 : List POper := [Q 3 (.mov (I 0))]
@[simp] theorem z65_r1_go : type_of% (og z65_r1.eq_1) := og rfl
def z65_r2 : List POper := [Q 4 (.mov (I 0))]
@[simp] theorem z65_r2_go : type_of% (og z65_r2.eq_1) := og rfl
def z65_r3 : List POper := [M 5 4,M 6 0,Q 7 (.len false (V 6)),Q 8 (.arith .lss (V 5) (V 7)),M 9 8,QG (some 10) (.mov (V 3)) 9 true,QG (some 11) (.arith .leq (V 10) (I 65536)) 9 true,Q 12 (.pick (V 9) (V 11) ff')]
@[simp] theorem z65_r3_go : type_of% (og z65_r3.eq_1) := og rfl
def z65_r5 : List POper := [M 15 3,M 16 0,M 17 4,Q 18 (.iaddr 2 (V 16) (V 17)),FA 19 1 18,LD 20 19,Q 21 (.len false (V 20)),Q 22 (.arith .add (V 15) (V 21)),M 3 22]
@[simp] theorem z65_r5_go : type_of% (og z65_r5.eq_1) := og rfl
def z65_r4 : List POper := [M 13 4,Q 14 (.arith .add (V 13) (I 1)),M 4 14]
@[simp] theorem z65_r4_go : type_of% (og z65_r4.eq_1) := og rfl
def z65_l0 : PCode :=
  (.seq (.seq (.clr [(5, 12)] (.region z65_r3)) (.cond (V 12) .skip (.exit 0))) (.seq (.block 1 (.clr [(15, 23)] (.region z65_r5))) (.clr [(13, 15)] (.region z65_r4))))
@[simp] theorem z65_l0_go : type_of% (cg z65_l0.eq_1) := cg rfl
def z65_r6 : List POper := [M 23 3,M 2 23]
@[simp] theorem z65_r6_go : type_of% (og z65_r6.eq_1) := og rfl
def z65 : PCodeFn :=
  ⟨1, [.tmp 2],
  (.seq (.region z65_r0) (.seq (.region z65_r1) (.seq (.seq (.region z65_r2) (.block 0 (.loop z65_l0))) (.seq (.clr [(23, 24)] (.region z65_r6)) .ret)))), false⟩

def z73_r0 : List POper := [Q 1 (.box true (V 0)),Q 2 (.mov (I 0))]
@[simp] theorem z73_r0_go : type_of% (og z73_r0.eq_1) := og rfl
def z73_r1 : List POper := [FA 3 1 1,LD 4 3,Q 5 (.len false (V 4)),Q 6 (.arith .eql (V 5) (I 0))]
@[simp] theorem z73_r1_go : type_of% (og z73_r1.eq_1) := og rfl
def z73_r2 : List POper := [Q 2 (.mov (I (-1)))]
@[simp] theorem z73_r2_go : type_of% (og z73_r2.eq_1) := og rfl
def z73_r3 : List POper := [FA 7 1 1,LD 8 7,FA 9 1 1,LD 10 9,Q 11 (.len false (V 10)),Q 12 (.arith .sub (V 11) (I 1)),Q 13 (.iaddr 2 (V 8) (V 12)),FA 14 0 13,LD 15 14,M 2 15]
@[simp] theorem z73_r3_go : type_of% (og z73_r3.eq_1) := og rfl
def z73 : PCodeFn :=
  ⟨1, [.tmp 2],
  (.seq (.region z73_r0) (.seq (.seq (.clr [(3, 6)] (.region z73_r1)) (.cond (V 6) (.seq (.region z73_r2) .ret) .skip)) (.seq (.clr [(7, 16)] (.region z73_r3)) .ret))), false⟩

def z49_r0 : List POper := [Q 6 (.mov (.cst .nils))]
@[simp] theorem z49_r0_go : type_of% (og z49_r0.eq_1) := og rfl
def z49_r1 : List POper := [Q 7 (.mov (.cst .nils))]
@[simp] theorem z49_r1_go : type_of% (og z49_r1.eq_1) := og rfl
def z49_r2 : List POper := [Q 8 (.mov (I 0))]
@[simp] theorem z49_r2_go : type_of% (og z49_r2.eq_1) := og rfl
def z49_r3 : List POper := [M 9 8,M 10 0,Q 11 (.len false (V 10)),Q 12 (.arith .lss (V 9) (V 11))]
@[simp] theorem z49_r3_go : type_of% (og z49_r3.eq_1) := og rfl
def z49_r5 : List POper := [M 15 0,M 16 8,Q 17 (.iaddr 2 (V 15) (V 16)),FA 18 0 17,LD 19 18,M 20 1,Q 21 (.arith .lss (V 19) (V 20)),M 22 21,QG (some 23) (.mov (V 0)) 22 false,QG (some 24) (.mov (V 8)) 22 false,QG (some 25) (.iaddr 2 (V 23) (V 24)) 22 false,QG (some 26) (.faddr 0 (V 25)) 22 false,QG (some 27) (.load false 1 false (V 26)) 22 false,QG (some 28) (.mov (V 2)) 22 false,QG (some 29) (.arith .gtr (V 27) (V 28)) 22 false,Q 30 (.pick (V 22) tt' (V 29))]
@[simp] theorem z49_r5_go : type_of% (og z49_r5.eq_1) := og rfl
def z49_r6 : List POper := [M 31 7,M 32 0,M 33 8,Q 34 (.iaddr 2 (V 32) (V 33)),Q 35 (.load true 2 false (V 34)),Q 36 (.bsl false (.agg [(.int .i64 0), (.int .i64 0)]) 1 [(0, (V 35))]),Q 37 (.app 2 16 (V 31) (V 36)),M 7 37]
@[simp] theorem z49_r6_go : type_of% (og z49_r6.eq_1) := og rfl
def z49_r4 : List POper := [M 13 8,Q 14 (.arith .add (V 13) (I 1)),M 8 14]
@[simp] theorem z49_r4_go : type_of% (og z49_r4.eq_1) := og rfl
def z49_l0 : PCode :=
  (.seq (.seq (.clr [(9, 12)] (.region z49_r3)) (.cond (V 12) .skip (.exit 0))) (.seq (.block 1 (.seq (.clr [(15, 30)] (.region z49_r5)) (.cond (V 30) (.clr [(31, 38)] (.region z49_r6)) .skip))) (.clr [(13, 15)] (.region z49_r4))))
@[simp] theorem z49_l0_go : type_of% (cg z49_l0.eq_1) := cg rfl
def z49_r7 : List POper := [M 38 7,M 6 38]
@[simp] theorem z49_r7_go : type_of% (og z49_r7.eq_1) := og rfl
def z49 : PCodeFn :=
  ⟨3, [.tmp 6],
  (.seq (.region z49_r0) (.seq (.region z49_r1) (.seq (.seq (.region z49_r2) (.block 0 (.loop z49_l0))) (.seq (.clr [(38, 39)] (.region z49_r7)) .ret)))), false⟩

def z67_r0 : List POper := [Q 2 (.mov (.cst (.str [])))]
@[simp] theorem z67_r0_go : type_of% (og z67_r0.eq_1) := og rfl
def z67_r1 : List POper := [Q 3 (.mov (.cst .nils))]
@[simp] theorem z67_r1_go : type_of% (og z67_r1.eq_1) := og rfl
def z67_r2 : List POper := [M 6 0,Q 7 (.len false (V 6)),Q 8 (.mov (I 0))]
@[simp] theorem z67_r2_go : type_of% (og z67_r2.eq_1) := og rfl
def z67_r3 : List POper := [Q 9 (.arith .lss (V 8) (V 7))]
@[simp] theorem z67_r3_go : type_of% (og z67_r3.eq_1) := og rfl
def z67_r4 : List POper := [Q 10 (.iaddr 2 (V 6) (V 8)),Q 11 (.load true 2 false (V 10)),Q 5 (.alloc false [(.str []), (.str [])]),QN (.store 2 (V 5) (V 11))]
@[simp] theorem z67_r4_go : type_of% (og z67_r4.eq_1) := og rfl
def z67_r5 : List POper := [M 12 3,FA 13 0 5,LD 14 13,Q 15 (.arith .add (V 14) (.cst (.str [61]))),FA 16 1 5,LD 17 16,Q 18 (.call .pur 99 [(V 17)]),Q 19 (.arith .add (V 15) (V 18)),Q 20 (.bsl false (.str []) 1 [(0, (V 19))]),Q 21 (.app 1 16 (V 12) (V 20)),M 3 21]
@[simp] theorem z67_r5_go : type_of% (og z67_r5.eq_1) := og rfl
def z67_r6 : List POper := [Q 22 (.arith .add (V 8) (I 1)),M 8 22]
@[simp] theorem z67_r6_go : type_of% (og z67_r6.eq_1) := og rfl
def z67_l0 : PCode :=
  (.seq (.region z67_r3) (.seq (.cond (V 9) .skip (.exit 0)) (.seq (.block 1 (.seq (.clr [(10, 12)] (.region z67_r4)) (.clr [(12, 22)] (.region z67_r5)))) (.clr [(22, 23)] (.region z67_r6)))))
@[simp] theorem z67_l0_go : type_of% (cg z67_l0.eq_1) := cg rfl
def z67_r7 : List POper := [M 23 3,Q 24 (.call .std 100 [(V 23), (.cst (.str [44, 32]))]),Q 25 (.arith .add (.cst (.str [123])) (V 24)),Q 26 (.arith .add (V 25) (.cst (.str [125]))),M 2 26]
@[simp] theorem z67_r7_go : type_of% (og z67_r7.eq_1) := og rfl
def z67 : PCodeFn :=
  ⟨1, [.tmp 2],
  (.seq (.region z67_r0) (.seq (.region z67_r1) (.seq (.seq (.region z67_r2) (.block 0 (.loop z67_l0))) (.seq (.clr [(23, 27)] (.region z67_r7)) .ret)))), false⟩

def z58_r0 : List POper := [Q 2 (.mov (.cst .nils))]
@[simp] theorem z58_r0_go : type_of% (og z58_r0.eq_1) := og rfl
def z58_r1 : List POper := [Q 3 (.mov (.cst .nils))]
@[simp] theorem z58_r1_go : type_of% (og z58_r1.eq_1) := og rfl
def z58_r2 : List POper := [Q 4 (.mov (I 0))]
@[simp] theorem z58_r2_go : type_of% (og z58_r2.eq_1) := og rfl
def z58_r3 : List POper := [M 7 4,M 8 0,Q 9 (.len false (V 8)),Q 10 (.arith .lss (V 7) (V 9))]
@[simp] theorem z58_r3_go : type_of% (og z58_r3.eq_1) := og rfl
def z58_r5 : List POper := [M 13 0,M 14 4,Q 15 (.iaddr 2 (V 13) (V 14)),FA 16 1 15,LD 17 16,Q 18 (.len false (V 17)),Q 19 (.arith .eql (V 18) (I 0))]
@[simp] theorem z58_r5_go : type_of% (og z58_r5.eq_1) := og rfl
def z58_r6 : List POper := [Q 5 (.mov (I 0))]
@[simp] theorem z58_r6_go : type_of% (og z58_r6.eq_1) := og rfl
def z58_r7 : List POper := [M 20 5,M 21 3,Q 22 (.len false (V 21)),Q 23 (.arith .lss (V 20) (V 22)),M 24 23,QG (some 25) (.mov (V 3)) 24 true,QG (some 26) (.mov (V 5)) 24 true,QG (some 27) (.iaddr 2 (V 25) (V 26)) 24 true,QG (some 28) (.faddr 0 (V 27)) 24 true,QG (some 29) (.load false 1 true (V 28)) 24 true,QG (some 30) (.mov (V 0)) 24 true,QG (some 31) (.mov (V 4)) 24 true,QG (some 32) (.iaddr 2 (V 30) (V 31)) 24 true,QG (some 33) (.faddr 0 (V 32)) 24 true,QG (some 34) (.load false 1 true (V 33)) 24 true,QG (some 35) (.call .std 102 [(V 29), (V 34)]) 24 true,QG (some 36) (.arith .lss (V 35) (I 0)) 24 true,Q 37 (.pick (V 24) (V 36) ff')]
@[simp] theorem z58_r7_go : type_of% (og z58_r7.eq_1) := og rfl
def z58_r8 : List POper := [M 38 5,Q 39 (.arith .add (V 38) (I 1)),M 5 39]
@[simp] theorem z58_r8_go : type_of% (og z58_r8.eq_1) := og rfl
def z58_l1 : PCode :=
  (.seq (.seq (.clr [(20, 37)] (.region z58_r7)) (.cond (V 37) .skip (.exit 2))) (.block 3 (.clr [(38, 40)] (.region z58_r8))))
@[simp] theorem z58_l1_go : type_of% (cg z58_l1.eq_1) := cg rfl
def z58_r9 : List POper := [Q 40 (.bsl false (.agg [.nils, .nils]) 0 []),M 41 3,M 42 5,Q 43 (.slc 2 none (some (V 42)) (V 41)),Q 44 (.app 2 48 (V 40) (V 43)),M 6 44]
@[simp] theorem z58_r9_go : type_of% (og z58_r9.eq_1) := og rfl
def z58_r10 : List POper := [M 45 6,M 46 0,M 47 4,Q 48 (.iaddr 2 (V 46) (V 47)),Q 49 (.load true 2 false (V 48)),Q 50 (.bsl false (.agg [.nils, .nils]) 1 [(0, (V 49))]),Q 51 (.app 2 48 (V 45) (V 50)),M 6 51]
@[simp] theorem z58_r10_go : type_of% (og z58_r10.eq_1) := og rfl
def z58_r11 : List POper := [M 52 6,M 53 3,M 54 5,Q 55 (.slc 2 (some (V 54)) none (V 53)),Q 56 (.app 2 48 (V 52) (V 55)),M 3 56]
@[simp] theorem z58_r11_go : type_of% (og z58_r11.eq_1) := og rfl
def z58_r4 : List POper := [M 11 4,Q 12 (.arith .add (V 11) (I 1)),M 4 12]
@[simp] theorem z58_r4_go : type_of% (og z58_r4.eq_1) := og rfl
def z58_l0 : PCode :=
  (.seq (.seq (.clr [(7, 10)] (.region z58_r3)) (.cond (V 10) .skip (.exit 0))) (.seq (.block 1 (.seq (.seq (.clr [(13, 19)] (.region z58_r5)) (.cond (V 19) (.exit 1) .skip)) (.seq (.region z58_r6) (.seq (.block 2 (.loop z58_l1)) (.seq (.clr [(40, 45)] (.region z58_r9)) (.seq (.clr [(45, 52)] (.region z58_r10)) (.clr [(52, 57)] (.region z58_r11)))))))) (.clr [(11, 13)] (.region z58_r4))))
@[simp] theorem z58_l0_go : type_of% (cg z58_l0.eq_1) := cg rfl
def z58_r12 : List POper := [M 57 3,M 2 57]
@[simp] theorem z58_r12_go : type_of% (og z58_r12.eq_1) := og rfl
def z58 : PCodeFn :=
  ⟨1, [.tmp 2],
  (.seq (.region z58_r0) (.seq (.region z58_r1) (.seq (.seq (.region z58_r2) (.block 0 (.loop z58_l0))) (.seq (.clr [(57, 58)] (.region z58_r12)) .ret)))), false⟩

def z86_r0 : List POper := [Q 10 (.mov ff')]
@[simp] theorem z86_r0_go : type_of% (og z86_r0.eq_1) := og rfl
def z86_r1 : List POper := [M 20 0,M 21 2,Q 22 (.call .std 288 [(V 20), (V 21)]),M 19 22,EX 23 0 19,EX 24 1 19,M 11 23,M 12 24]
@[simp] theorem z86_r1_go : type_of% (og z86_r1.eq_1) := og rfl
def z86_r2 : List POper := [M 26 0,M 27 2,Q 28 (.call .std 193 [(V 26), (V 27)]),M 25 28,EX 29 0 25,EX 30 1 25,M 13 29,M 14 30]
@[simp] theorem z86_r2_go : type_of% (og z86_r2.eq_1) := og rfl
def z86_r3 : List POper := [M 32 0,M 33 2,M 34 3,M 35 4,Q 36 (.call .std 289 [(V 32), (V 33), (V 34), (V 35)]),M 31 36,EX 37 0 31,EX 38 1 31,M 15 37,M 16 38]
@[simp] theorem z86_r3_go : type_of% (og z86_r3.eq_1) := og rfl
def z86_r4 : List POper := [M 39 2,Q 40 (.arith .lss (V 39) (I 0)),M 41 40,QG (some 42) (.mov (V 2)) 41 false,QG (some 43) (.mov (V 1)) 41 false,QG (some 44) (.len false (V 43)) 41 false,QG (some 45) (.arith .geq (V 42) (V 44)) 41 false,Q 46 (.pick (V 41) tt' (V 45))]
@[simp] theorem z86_r4_go : type_of% (og z86_r4.eq_1) := og rfl
def z86_r5 : List POper := [M 47 11,Q 48 (.len false (V 47)),Q 49 (.arith .eql (V 48) (I 0)),M 50 49,QG (some 51) (.mov (V 12)) 50 true,QG (some 52) (.arith .eql (V 51) (I 9)) 50 true,Q 53 (.pick (V 50) (V 52) ff'),M 54 53,QG (some 55) (.mov (V 13)) 54 true,QG (some 56) (.arith .eql (V 55) (I 0)) 54 true,Q 57 (.pick (V 54) (V 56) ff'),M 58 57,QG (some 59) (.mov (V 14)) 58 true,QG (some 60) (.arith .eql (V 59) (I 9)) 58 true,Q 61 (.pick (V 58) (V 60) ff'),M 62 61,QG (some 63) (.mov (V 15)) 62 true,QG (some 64) (.len false (V 63)) 62 true,QG (some 65) (.arith .eql (V 64) (I 0)) 62 true,Q 66 (.pick (V 62) (V 65) ff'),M 67 66,QG (some 68) (.mov (V 16)) 67 true,QG (some 69) (.arith .eql (V 68) (I 9)) 67 true,Q 70 (.pick (V 67) (V 69) ff'),M 10 70]
@[simp] theorem z86_r5_go : type_of% (og z86_r5.eq_1) := og rfl
def z86_r6 : List POper := [M 72 0,M 73 11,Q 74 (.call .std 290 [(V 72), (V 73)]),M 71 74,EX 75 0 71,EX 76 1 71,M 17 75,M 18 76]
@[simp] theorem z86_r6_go : type_of% (og z86_r6.eq_1) := og rfl
def z86_r7 : List POper := [M 77 11,M 78 1,M 79 2,Q 80 (.iaddr 2 (V 78) (V 79)),FA 81 0 80,LD 82 81,Q 83 (.call .std 26 [(V 77), (V 82)]),M 84 83,QG (some 85) (.mov (V 12)) 84 true,QG (some 86) (.arith .eql (V 85) (I 0)) 84 true,Q 87 (.pick (V 84) (V 86) ff'),M 88 87,QG (some 89) (.mov (V 13)) 88 true,QG (some 90) (.mov (V 1)) 88 true,QG (some 91) (.mov (V 2)) 88 true,QG (some 92) (.iaddr 2 (V 90) (V 91)) 88 true,QG (some 93) (.load true 2 false (V 92)) 88 true,QG (some 94) (.call .std 185 [(V 93)]) 88 true,QG (some 95) (.arith .eql (V 89) (V 94)) 88 true,Q 96 (.pick (V 88) (V 95) ff'),M 97 96,QG (some 98) (.mov (V 14)) 97 true,QG (some 99) (.arith .eql (V 98) (I 0)) 97 true,Q 100 (.pick (V 97) (V 99) ff'),M 101 100,QG (some 102) (.mov (V 15)) 101 true,QG (some 103) (.mov (V 1)) 101 true,QG (some 104) (.mov (V 2)) 101 true,QG (some 105) (.iaddr 2 (V 103) (V 104)) 101 true,QG (some 106) (.faddr 1 (V 105)) 101 true,QG (some 107) (.load false 1 false (V 106)) 101 true,QG (some 108) (.mov (V 3)) 101 true,QG (some 109) (.mov (V 4)) 101 true,QG (some 110) (.call .std 178 [(V 107), (V 108), (V 109)]) 101 true,QG (some 111) (.call .std 177 [(V 102), (V 110)]) 101 true,Q 112 (.pick (V 101) (V 111) ff'),M 113 112,QG (some 114) (.mov (V 16)) 113 true,QG (some 115) (.arith .eql (V 114) (I 0)) 113 true,Q 116 (.pick (V 113) (V 115) ff'),M 117 116,QG (some 118) (.mov (V 17)) 117 true,QG (some 119) (.mov (V 2)) 117 true,QG (some 120) (.arith .eql (V 118) (V 119)) 117 true,Q 121 (.pick (V 117) (V 120) ff'),M 122 121,QG (some 123) (.mov (V 18)) 122 true,QG (some 124) (.arith .eql (V 123) (I 0)) 122 true,Q 125 (.pick (V 122) (V 124) ff'),M 10 125]
@[simp] theorem z86_r7_go : type_of% (og z86_r7.eq_1) := og rfl
def z86 : PCodeFn :=
  ⟨5, [.tmp 10],
  (.seq (.region z86_r0) (.seq (.clr [(19, 25)] (.region z86_r1)) (.seq (.clr [(25, 31)] (.region z86_r2)) (.seq (.clr [(31, 39)] (.region z86_r3)) (.seq (.seq (.clr [(39, 46)] (.region z86_r4)) (.cond (V 46) (.seq (.clr [(47, 71)] (.region z86_r5)) .ret) .skip)) (.seq (.clr [(71, 77)] (.region z86_r6)) (.seq (.clr [(77, 126)] (.region z86_r7)) .ret))))))), false⟩

def z61_r0 : List POper := [Q 2 (.mov (I 0))]
@[simp] theorem z61_r0_go : type_of% (og z61_r0.eq_1) := og rfl
def z61_r1 : List POper := [M 5 0,Q 6 (.len false (V 5)),Q 7 (.arith .gtr (V 6) (I 8))]
@[simp] theorem z61_r1_go : type_of% (og z61_r1.eq_1) := og rfl
def z61_r2 : List POper := [Q 2 (.mov (I 3))]
@[simp] theorem z61_r2_go : type_of% (og z61_r2.eq_1) := og rfl
def z61_r3 : List POper := [M 8 0,Q 9 (.len false (V 8)),Q 10 (.mov (I 0))]
@[simp] theorem z61_r3_go : type_of% (og z61_r3.eq_1) := og rfl
def z61_r4 : List POper := [Q 11 (.arith .lss (V 10) (V 9))]
@[simp] theorem z61_r4_go : type_of% (og z61_r4.eq_1) := og rfl
def z61_r5 : List POper := [M 12 10,Q 13 (.iaddr 2 (V 8) (V 10)),Q 14 (.load true 2 false (V 13)),Q 4 (.alloc false [(.str []), (.str [])]),M 3 12,QN (.store 2 (V 4) (V 14))]
@[simp] theorem z61_r5_go : type_of% (og z61_r5.eq_1) := og rfl
def z61_r6 : List POper := [FA 16 0 4,LD 17 16,Q 18 (.call .pur 121 [(V 17)]),Q 19 (.un .not (V 18)),M 15 19]
@[simp] theorem z61_r6_go : type_of% (og z61_r6.eq_1) := og rfl
def z61_r7 : List POper := [Q 2 (.mov (I 8))]
@[simp] theorem z61_r7_go : type_of% (og z61_r7.eq_1) := og rfl
def z61_r8 : List POper := [FA 21 1 4,LD 22 21,Q 23 (.arith .eql (V 22) (.cst (.str []))),M 20 23]
@[simp] theorem z61_r8_go : type_of% (og z61_r8.eq_1) := og rfl
def z61_r9 : List POper := [Q 2 (.mov (I 2))]
@[simp] theorem z61_r9_go : type_of% (og z61_r9.eq_1) := og rfl
def z61_r10 : List POper := [FA 25 1 4,LD 26 25,Q 27 (.len true (V 26)),Q 28 (.arith .gtr (V 27) (I 64)),M 24 28]
@[simp] theorem z61_r10_go : type_of% (og z61_r10.eq_1) := og rfl
def z61_r11 : List POper := [Q 2 (.mov (I 3))]
@[simp] theorem z61_r11_go : type_of% (og z61_r11.eq_1) := og rfl
def z61_r12 : List POper := [M 30 3,Q 31 (.arith .gtr (V 30) (I 0)),M 32 31,QG (some 33) (.faddr 0 (V 4)) 32 true,QG (some 34) (.load false 1 false (V 33)) 32 true,QG (some 35) (.mov (V 0)) 32 true,QG (some 36) (.mov (V 3)) 32 true,QG (some 37) (.arith .sub (V 36) (I 1)) 32 true,QG (some 38) (.iaddr 2 (V 35) (V 37)) 32 true,QG (some 39) (.faddr 0 (V 38)) 32 true,QG (some 40) (.load false 1 true (V 39)) 32 true,QG (some 41) (.arith .leq (V 34) (V 40)) 32 true,Q 42 (.pick (V 32) (V 41) ff'),M 29 42]
@[simp] theorem z61_r12_go : type_of% (og z61_r12.eq_1) := og rfl
def z61_r13 : List POper := [Q 2 (.mov (I 13))]
@[simp] theorem z61_r13_go : type_of% (og z61_r13.eq_1) := og rfl
def z61_r14 : List POper := [Q 43 (.arith .add (V 10) (I 1)),M 10 43]
@[simp] theorem z61_r14_go : type_of% (og z61_r14.eq_1) := og rfl
def z61_l0 : PCode :=
  (.seq (.region z61_r4) (.seq (.cond (V 11) .skip (.exit 0)) (.seq (.block 1 (.seq (.clr [(12, 15)] (.region z61_r5)) (.block 2 (.seq (.clr [(16, 20)] (.region z61_r6)) (.cond (V 15) (.seq (.region z61_r7) .ret) (.seq (.clr [(21, 24)] (.region z61_r8)) (.cond (V 20) (.seq (.region z61_r9) .ret) (.seq (.clr [(25, 29)] (.region z61_r10)) (.cond (V 24) (.seq (.region z61_r11) .ret) (.seq (.clr [(30, 43)] (.region z61_r12)) (.cond (V 29) (.seq (.region z61_r13) .ret) .skip))))))))))) (.clr [(43, 44)] (.region z61_r14)))))
@[simp] theorem z61_l0_go : type_of% (cg z61_l0.eq_1) := cg rfl
def z61_r15 : List POper := [Q 2 (.mov (I 0))]
@[simp] theorem z61_r15_go : type_of% (og z61_r15.eq_1) := og rfl
def z61 : PCodeFn :=
  ⟨1, [.tmp 2],
  (.seq (.region z61_r0) (.seq (.seq (.clr [(5, 7)] (.region z61_r1)) (.cond (V 7) (.seq (.region z61_r2) .ret) .skip)) (.seq (.seq (.region z61_r3) (.block 0 (.loop z61_l0))) (.seq (.region z61_r15) .ret)))), false⟩

def z51_r0 : List POper := [Q 2 (.mov (I 0))]
@[simp] theorem z51_r0_go : type_of% (og z51_r0.eq_1) := og rfl
def z51_r1 : List POper := [M 5 0,Q 6 (.len false (V 5)),Q 7 (.arith .lss (V 6) (I 1)),M 8 7,QG (some 9) (.mov (V 0)) 8 false,QG (some 10) (.len false (V 9)) 8 false,QG (some 11) (.arith .gtr (V 10) (I 64)) 8 false,Q 12 (.pick (V 8) tt' (V 11))]
@[simp] theorem z51_r1_go : type_of% (og z51_r1.eq_1) := og rfl
def z51_r2 : List POper := [Q 2 (.mov (I 2))]
@[simp] theorem z51_r2_go : type_of% (og z51_r2.eq_1) := og rfl
def z51_r3 : List POper := [M 13 0,Q 14 (.len false (V 13)),Q 15 (.mov (I 0))]
@[simp] theorem z51_r3_go : type_of% (og z51_r3.eq_1) := og rfl
def z51_r4 : List POper := [Q 16 (.arith .lss (V 15) (V 14))]
@[simp] theorem z51_r4_go : type_of% (og z51_r4.eq_1) := og rfl
def z51_r5 : List POper := [Q 17 (.iaddr 3 (V 13) (V 15)),Q 18 (.load true 3 false (V 17)),Q 4 (.alloc false [(.int .i64 0), (.int .i64 0), (.int .i64 0)]),QN (.store 3 (V 4) (V 18))]
@[simp] theorem z51_r5_go : type_of% (og z51_r5.eq_1) := og rfl
def z51_r6 : List POper := [FA 19 0 4,LD 20 19,Q 21 (.arith .lss (V 20) (I 0)),M 22 21,QG (some 23) (.faddr 0 (V 4)) 22 false,QG (some 24) (.load false 1 false (V 23)) 22 false,QG (some 25) (.arith .gtr (V 24) (I 1099511627776)) 22 false,Q 26 (.pick (V 22) tt' (V 25))]
@[simp] theorem z51_r6_go : type_of% (og z51_r6.eq_1) := og rfl
def z51_r7 : List POper := [Q 2 (.mov (I 2))]
@[simp] theorem z51_r7_go : type_of% (og z51_r7.eq_1) := og rfl
def z51_r8 : List POper := [FA 27 1 4,Q 28 (.load true 2 false (V 27)),Q 29 (.bsl false (.agg [(.int .i64 0), (.int .i64 0)]) 1 [(0, (V 28))]),Q 30 (.call .std 154 [(V 29)]),Q 31 (.arith .neq (V 30) (I 0))]
@[simp] theorem z51_r8_go : type_of% (og z51_r8.eq_1) := og rfl
def z51_r9 : List POper := [Q 2 (.mov (I 11))]
@[simp] theorem z51_r9_go : type_of% (og z51_r9.eq_1) := og rfl
def z51_r10 : List POper := [Q 32 (.arith .add (V 15) (I 1)),M 15 32]
@[simp] theorem z51_r10_go : type_of% (og z51_r10.eq_1) := og rfl
def z51_l0 : PCode :=
  (.seq (.region z51_r4) (.seq (.cond (V 16) .skip (.exit 0)) (.seq (.block 1 (.seq (.clr [(17, 19)] (.region z51_r5)) (.seq (.seq (.clr [(19, 26)] (.region z51_r6)) (.cond (V 26) (.seq (.region z51_r7) .ret) .skip)) (.seq (.clr [(27, 31)] (.region z51_r8)) (.cond (V 31) (.seq (.region z51_r9) .ret) .skip))))) (.clr [(32, 33)] (.region z51_r10)))))
@[simp] theorem z51_l0_go : type_of% (cg z51_l0.eq_1) := cg rfl
def z51_r11 : List POper := [Q 2 (.mov (I 0))]
@[simp] theorem z51_r11_go : type_of% (og z51_r11.eq_1) := og rfl
def z51 : PCodeFn :=
  ⟨1, [.tmp 2],
  (.seq (.region z51_r0) (.seq (.seq (.clr [(5, 12)] (.region z51_r1)) (.cond (V 12) (.seq (.region z51_r2) .ret) .skip)) (.seq (.seq (.region z51_r3) (.block 0 (.loop z51_l0))) (.seq (.region z51_r11) .ret)))), false⟩

def z43_r0 : List POper := [Q 1 (.box true (V 0)),Q 2 (.mov (I 0))]
@[simp] theorem z43_r0_go : type_of% (og z43_r0.eq_1) := og rfl
def z43_r1 : List POper := [FA 4 3 1,LD 5 4,Q 6 (.call .std 318 [(V 5)]),M 3 6]
@[simp] theorem z43_r1_go : type_of% (og z43_r1.eq_1) := og rfl
def z43_r2 : List POper := [M 7 3,Q 8 (.arith .neq (V 7) (I 0))]
@[simp] theorem z43_r2_go : type_of% (og z43_r2.eq_1) := og rfl
def z43_r3 : List POper := [M 9 3,M 2 9]
@[simp] theorem z43_r3_go : type_of% (og z43_r3.eq_1) := og rfl
def z43_r4 : List POper := [FA 11 3 1,LD 12 11,Q 13 (.len false (V 12)),Q 14 (.arith .eql (V 13) (I 0)),M 10 14]
@[simp] theorem z43_r4_go : type_of% (og z43_r4.eq_1) := og rfl
def z43_r5 : List POper := [Q 2 (.mov (I 2))]
@[simp] theorem z43_r5_go : type_of% (og z43_r5.eq_1) := og rfl
def z43_r6 : List POper := [FA 16 4 1,LD 17 16,Q 18 (.arith .lss (V 17) (I 0)),M 19 18,QG (some 20) (.faddr 5 (V 1)) 19 false,QG (some 21) (.load false 1 false (V 20)) 19 false,QG (some 22) (.arith .gtr (V 21) (I 1099511627776)) 19 false,Q 23 (.pick (V 19) tt' (V 22)),M 15 23]
@[simp] theorem z43_r6_go : type_of% (og z43_r6.eq_1) := og rfl
def z43_r7 : List POper := [Q 2 (.mov (I 11))]
@[simp] theorem z43_r7_go : type_of% (og z43_r7.eq_1) := og rfl
def z43_r8 : List POper := [FA 25 4 1,LD 26 25,FA 27 5 1,LD 28 27,Q 29 (.arith .gtr (V 26) (V 28)),M 24 29]
@[simp] theorem z43_r8_go : type_of% (og z43_r8.eq_1) := og rfl
def z43_r9 : List POper := [Q 2 (.mov (I 13))]
@[simp] theorem z43_r9_go : type_of% (og z43_r9.eq_1) := og rfl
def z43_r10 : List POper := [Q 2 (.mov (I 0))]
@[simp] theorem z43_r10_go : type_of% (og z43_r10.eq_1) := og rfl
def z43 : PCodeFn :=
  ⟨1, [.tmp 2],
  (.seq (.region z43_r0) (.seq (.seq (.clr [(4, 7)] (.region z43_r1)) (.seq (.clr [(7, 8)] (.region z43_r2)) (.cond (V 8) (.seq (.clr [(9, 10)] (.region z43_r3)) .ret) .skip))) (.seq (.block 0 (.seq (.clr [(11, 15)] (.region z43_r4)) (.cond (V 10) (.seq (.region z43_r5) .ret) (.seq (.clr [(16, 24)] (.region z43_r6)) (.cond (V 15) (.seq (.region z43_r7) .ret) (.seq (.clr [(25, 30)] (.region z43_r8)) (.cond (V 24) (.seq (.region z43_r9) .ret) .skip))))))) (.seq (.region z43_r10) .ret)))), false⟩

def z28_r0 : List POper := [Q 2 (.mov (.cst .nils))]
@[simp] theorem z28_r0_go : type_of% (og z28_r0.eq_1) := og rfl
def z28_r1 : List POper := [M 3 0,Q 4 (.eqn false .s (V 3))]
@[simp] theorem z28_r1_go : type_of% (og z28_r1.eq_1) := og rfl
def z28_r2 : List POper := [Q 2 (.mov (.cst .nils))]
@[simp] theorem z28_r2_go : type_of% (og z28_r2.eq_1) := og rfl
def z28_r3 : List POper := [Q 5 (.bsl false (.agg [(.str []), (.str [])]) 0 []),M 6 0,Q 7 (.app 2 32 (V 5) (V 6)),M 2 7]
@[simp] theorem z28_r3_go : type_of% (og z28_r3.eq_1) := og rfl
def z28 : PCodeFn :=
  ⟨1, [.tmp 2],
  (.seq (.region z28_r0) (.seq (.seq (.clr [(3, 4)] (.region z28_r1)) (.cond (V 4) (.seq (.region z28_r2) .ret) .skip)) (.seq (.clr [(5, 8)] (.region z28_r3)) .ret))), false⟩

def z34_r0 : List POper := [LD 5 0,Q 6 (.arith .neq (V 5) (I 0)),M 7 6,QG (some 8) (.load false 1 false (V 1)) 7 true,QG (some 9) (.arith .gtr (V 8) (I 0)) 7 true,Q 10 (.pick (V 7) (V 9) ff')]
@[simp] theorem z34_r0_go : type_of% (og z34_r0.eq_1) := og rfl
def z34_r2 : List POper := [LD 13 2,NK' 14 13,FA 15 0 14,LD 16 15,LD 17 3,LD 18 1,Q 19 (.arith .sub (V 18) (I 1)),Q 20 (.iaddr 3 (V 17) (V 19)),FA 21 0 20,LD 22 21,Q 23 (.iaddr 2 (V 16) (V 22)),M 4 23]
@[simp] theorem z34_r2_go : type_of% (og z34_r2.eq_1) := og rfl
def z34_r3 : List POper := [M 24 4,M 25 4,NK' 26 25,FA 27 1 26,LD 28 27,M 29 4,NK' 30 29,FA 31 1 30,LD 32 31,Q 33 (.len false (V 32)),Q 34 (.arith .sub (V 33) (I 1)),Q 35 (.slc 2 none (some (V 34)) (V 28)),NK' 36 24,FA 37 1 36,QN (.store 1 (V 37) (V 35))]
@[simp] theorem z34_r3_go : type_of% (og z34_r3.eq_1) := og rfl
def z34_r4 : List POper := [LD 38 2,NK' 39 38,FA 40 2 39,LD 41 40,Q 42 (.arith .sub (V 41) (I 1)),NK' 43 38,FA 44 2 43,QN (.store 1 (V 44) (V 42))]
@[simp] theorem z34_r4_go : type_of% (og z34_r4.eq_1) := og rfl
def z34_r1 : List POper := [LD 11 1,Q 12 (.arith .sub (V 11) (I 1)),QN (.store 1 (V 1) (V 12))]
@[simp] theorem z34_r1_go : type_of% (og z34_r1.eq_1) := og rfl
def z34_l0 : PCode :=
  (.seq (.seq (.clr [(5, 10)] (.region z34_r0)) (.cond (V 10) .skip (.exit 0))) (.seq (.block 1 (.seq (.clr [(13, 24)] (.region z34_r2)) (.seq (.clr [(24, 38)] (.region z34_r3)) (.clr [(38, 45)] (.region z34_r4))))) (.clr [(11, 13)] (.region z34_r1))))
@[simp] theorem z34_l0_go : type_of% (cg z34_l0.eq_1) := cg rfl
def z34 : PCodeFn :=
  ⟨4, [],
  (.block 0 (.loop z34_l0)), true⟩

def z84_r0 : List POper := [Q 2 (.mov (I 0))]
@[simp] theorem z84_r0_go : type_of% (og z84_r0.eq_1) := og rfl
def z84_r1 : List POper := [M 3 0,Q 4 (.len false (V 3)),Q 5 (.arith .eql (V 4) (I 0))]
@[simp] theorem z84_r1_go : type_of% (og z84_r1.eq_1) := og rfl
def z84_r2 : List POper := [Q 2 (.mov (I (-1)))]
@[simp] theorem z84_r2_go : type_of% (og z84_r2.eq_1) := og rfl
def z84_r3 : List POper := [M 6 0,M 7 0,Q 8 (.len false (V 7)),Q 9 (.arith .sub (V 8) (I 1)),Q 10 (.iaddr 2 (V 6) (V 9)),FA 11 0 10,LD 12 11,M 2 12]
@[simp] theorem z84_r3_go : type_of% (og z84_r3.eq_1) := og rfl
def z84 : PCodeFn :=
  ⟨1, [.tmp 2],
  (.seq (.region z84_r0) (.seq (.seq (.clr [(3, 5)] (.region z84_r1)) (.cond (V 5) (.seq (.region z84_r2) .ret) .skip)) (.seq (.clr [(6, 13)] (.region z84_r3)) .ret))), false⟩

def z16_r0 : List POper := [Q 4 (.mov (.cst .nils))]
@[simp] theorem z16_r0_go : type_of% (og z16_r0.eq_1) := og rfl
def z16_r1 : List POper := [M 8 0,M 9 1,Q 10 (.call .std 344 [(V 8), (V 9)]),M 5 10]
@[simp] theorem z16_r1_go : type_of% (og z16_r1.eq_1) := og rfl
def z16_r2 : List POper := [M 11 5,Q 12 (.arith .eql (V 11) (I (-1)))]
@[simp] theorem z16_r2_go : type_of% (og z16_r2.eq_1) := og rfl
def z16_r3 : List POper := [M 13 0,M 4 13]
@[simp] theorem z16_r3_go : type_of% (og z16_r3.eq_1) := og rfl
def z16_r4 : List POper := [M 14 5,Q 15 (.arith .add (V 14) (I 1)),M 6 15]
@[simp] theorem z16_r4_go : type_of% (og z16_r4.eq_1) := og rfl
def z16_r5 : List POper := [M 16 6,M 17 0,Q 18 (.len false (V 17)),Q 19 (.arith .lss (V 16) (V 18))]
@[simp] theorem z16_r5_go : type_of% (og z16_r5.eq_1) := og rfl
def z16_r7 : List POper := [M 22 0,M 23 6,Q 24 (.iaddr 2 (V 22) (V 23)),Q 25 (.load true 2 false (V 24)),Q 7 (.alloc false [(.int .i64 0), (.int .i64 0)]),QN (.store 2 (V 7) (V 25))]
@[simp] theorem z16_r7_go : type_of% (og z16_r7.eq_1) := og rfl
def z16_r8 : List POper := [M 26 1,Q 27 (.load true 2 false (V 7)),Q 28 (.callv .std (V 26) [(V 27)]),Q 29 (.un .not (V 28))]
@[simp] theorem z16_r8_go : type_of% (og z16_r8.eq_1) := og rfl
def z16_r9 : List POper := [M 30 0,M 31 5,Q 32 (.load true 2 false (V 7)),Q 33 (.iaddr 2 (V 30) (V 31)),QN (.store 2 (V 33) (V 32))]
@[simp] theorem z16_r9_go : type_of% (og z16_r9.eq_1) := og rfl
def z16_r10 : List POper := [M 34 5,Q 35 (.arith .add (V 34) (I 1)),M 5 35]
@[simp] theorem z16_r10_go : type_of% (og z16_r10.eq_1) := og rfl
def z16_r6 : List POper := [M 20 6,Q 21 (.arith .add (V 20) (I 1)),M 6 21]
@[simp] theorem z16_r6_go : type_of% (og z16_r6.eq_1) := og rfl
def z16_l0 : PCode :=
  (.seq (.seq (.clr [(16, 19)] (.region z16_r5)) (.cond (V 19) .skip (.exit 0))) (.seq (.block 1 (.seq (.clr [(22, 26)] (.region z16_r7)) (.seq (.clr [(26, 29)] (.region z16_r8)) (.cond (V 29) (.seq (.clr [(30, 34)] (.region z16_r9)) (.clr [(34, 36)] (.region z16_r10))) .skip)))) (.clr [(20, 22)] (.region z16_r6))))
@[simp] theorem z16_l0_go : type_of% (cg z16_l0.eq_1) := cg rfl
def z16_r11 : List POper := [M 36 0,M 37 5,Q 38 (.slc 2 (some (V 37)) none (V 36)),QN (.gclr 2 [(.int .i64 0), (.int .i64 0)] (V 38))]
@[simp] theorem z16_r11_go : type_of% (og z16_r11.eq_1) := og rfl
def z16_r12 : List POper := [M 39 0,M 40 5,Q 41 (.slc 2 none (some (V 40)) (V 39)),M 4 41]
@[simp] theorem z16_r12_go : type_of% (og z16_r12.eq_1) := og rfl
def z16 : PCodeFn :=
  ⟨2, [.tmp 4],
  (.seq (.region z16_r0) (.seq (.clr [(8, 11)] (.region z16_r1)) (.seq (.seq (.clr [(11, 12)] (.region z16_r2)) (.cond (V 12) (.seq (.clr [(13, 14)] (.region z16_r3)) .ret) .skip)) (.seq (.seq (.clr [(14, 16)] (.region z16_r4)) (.block 0 (.loop z16_l0))) (.seq (.clr [(36, 39)] (.region z16_r11)) (.seq (.clr [(39, 42)] (.region z16_r12)) .ret)))))), true⟩

def z30_r0 : List POper := [Q 2 (.box true (V 0)),Q 3 (.mov ff')]
@[simp] theorem z30_r0_go : type_of% (og z30_r0.eq_1) := og rfl
def z30_r1 : List POper := [FA 4 0 2,LD 5 4,FA 6 4 1,LD 7 6,Q 8 (.arith .geq (V 5) (V 7)),M 9 8,QG (some 10) (.faddr 0 (V 2)) 9 true,QG (some 11) (.load false 1 false (V 10)) 9 true,QG (some 12) (.faddr 5 (V 1)) 9 true,QG (some 13) (.load false 1 false (V 12)) 9 true,QG (some 14) (.arith .leq (V 11) (V 13)) 9 true,Q 15 (.pick (V 9) (V 14) ff'),M 3 15]
@[simp] theorem z30_r1_go : type_of% (og z30_r1.eq_1) := og rfl
def z30 : PCodeFn :=
  ⟨2, [.tmp 3],
  (.seq (.region z30_r0) (.seq (.clr [(4, 16)] (.region z30_r1)) .ret)), false⟩

def z54_r0 : List POper := [Q 4 (.mov (I 0))]
@[simp] theorem z54_r0_go : type_of% (og z54_r0.eq_1) := og rfl
def z54_r1 : List POper := [Q 5 (.mov (I 0))]
@[simp] theorem z54_r1_go : type_of% (og z54_r1.eq_1) := og rfl
def z54_r2 : List POper := [M 8 5,M 9 0,Q 10 (.len false (V 9)),Q 11 (.arith .lss (V 8) (V 10)),M 12 11,QG (some 13) (.mov (V 5)) 12 true,QG (some 14) (.mov (V 1)) 12 true,QG (some 15) (.len false (V 14)) 12 true,QG (some 16) (.arith .lss (V 13) (V 15)) 12 true,Q 17 (.pick (V 12) (V 16) ff')]
@[simp] theorem z54_r2_go : type_of% (og z54_r2.eq_1) := og rfl
def z54_r4 : List POper := [M 20 0,M 21 5,Q 22 (.iaddr 2 (V 20) (V 21)),FA 23 0 22,Q 24 (.load false 1 true (V 23)),M 25 1,M 26 5,Q 27 (.iaddr 2 (V 25) (V 26)),FA 28 0 27,Q 29 (.load false 1 true (V 28)),Q 30 (.call .pur 216 [(V 24), (V 29)]),M 6 30]
@[simp] theorem z54_r4_go : type_of% (og z54_r4.eq_1) := og rfl
def z54_r5 : List POper := [M 31 6,Q 32 (.arith .neq (V 31) (I 0))]
@[simp] theorem z54_r5_go : type_of% (og z54_r5.eq_1) := og rfl
def z54_r6 : List POper := [M 33 6,M 4 33]
@[simp] theorem z54_r6_go : type_of% (og z54_r6.eq_1) := og rfl
def z54_r7 : List POper := [M 34 0,M 35 5,Q 36 (.iaddr 2 (V 34) (V 35)),FA 37 1 36,Q 38 (.load false 1 true (V 37)),M 39 1,M 40 5,Q 41 (.iaddr 2 (V 39) (V 40)),FA 42 1 41,Q 43 (.load false 1 true (V 42)),Q 44 (.call .pur 216 [(V 38), (V 43)]),M 7 44]
@[simp] theorem z54_r7_go : type_of% (og z54_r7.eq_1) := og rfl
def z54_r8 : List POper := [M 45 7,Q 46 (.arith .neq (V 45) (I 0))]
@[simp] theorem z54_r8_go : type_of% (og z54_r8.eq_1) := og rfl
def z54_r9 : List POper := [M 47 7,M 4 47]
@[simp] theorem z54_r9_go : type_of% (og z54_r9.eq_1) := og rfl
def z54_r3 : List POper := [M 18 5,Q 19 (.arith .add (V 18) (I 1)),M 5 19]
@[simp] theorem z54_r3_go : type_of% (og z54_r3.eq_1) := og rfl
def z54_l0 : PCode :=
  (.seq (.seq (.clr [(8, 17)] (.region z54_r2)) (.cond (V 17) .skip (.exit 0))) (.seq (.block 1 (.seq (.seq (.clr [(20, 31)] (.region z54_r4)) (.seq (.clr [(31, 32)] (.region z54_r5)) (.cond (V 32) (.seq (.clr [(33, 34)] (.region z54_r6)) .ret) .skip))) (.seq (.clr [(34, 45)] (.region z54_r7)) (.seq (.clr [(45, 46)] (.region z54_r8)) (.cond (V 46) (.seq (.clr [(47, 48)] (.region z54_r9)) .ret) .skip))))) (.clr [(18, 20)] (.region z54_r3))))
@[simp] theorem z54_l0_go : type_of% (cg z54_l0.eq_1) := cg rfl
def z54_r10 : List POper := [M 48 0,Q 49 (.len false (V 48)),M 50 1,Q 51 (.len false (V 50)),Q 52 (.arith .lss (V 49) (V 51))]
@[simp] theorem z54_r10_go : type_of% (og z54_r10.eq_1) := og rfl
def z54_r11 : List POper := [Q 4 (.mov (I (-1)))]
@[simp] theorem z54_r11_go : type_of% (og z54_r11.eq_1) := og rfl
def z54_r12 : List POper := [M 53 0,Q 54 (.len false (V 53)),M 55 1,Q 56 (.len false (V 55)),Q 57 (.arith .gtr (V 54) (V 56))]
@[simp] theorem z54_r12_go : type_of% (og z54_r12.eq_1) := og rfl
def z54_r13 : List POper := [Q 4 (.mov (I 1))]
@[simp] theorem z54_r13_go : type_of% (og z54_r13.eq_1) := og rfl
def z54_r14 : List POper := [Q 4 (.mov (I 0))]
@[simp] theorem z54_r14_go : type_of% (og z54_r14.eq_1) := og rfl
def z54 : PCodeFn :=
  ⟨2, [.tmp 4],
  (.seq (.region z54_r0) (.seq (.seq (.region z54_r1) (.block 0 (.loop z54_l0))) (.seq (.seq (.clr [(48, 52)] (.region z54_r10)) (.cond (V 52) (.seq (.region z54_r11) .ret) .skip)) (.seq (.seq (.clr [(53, 57)] (.region z54_r12)) (.cond (V 57) (.seq (.region z54_r13) .ret) .skip)) (.seq (.region z54_r14) .ret))))), false⟩

end Ps
