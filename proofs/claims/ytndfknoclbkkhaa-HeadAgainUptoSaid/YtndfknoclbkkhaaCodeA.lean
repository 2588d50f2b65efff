/- The functions' code, as the pure semantics has it: printed by program. -/
import Derived.Test.YtndfknoclbkkhaaWalk
namespace Ps
open Go
set_option maxRecDepth 10000
variable (T : Tbl) (K : List Kt) (fr : Fr) (S : St)

def law13_HeadAgain_r0 : List POper := [Q 2 (.mov ff')]
@[simp] theorem law13_HeadAgain_r0_go : type_of% (ops_go law13_HeadAgain_r0.eq_1 T K fr S) := ops_go law13_HeadAgain_r0.eq_1 T K fr S
def law13_HeadAgain_r1 : List POper := [Q 6 (.call .std 68 []),Q 7 (.call .std 68 []),M 3 6,M 4 7]
@[simp] theorem law13_HeadAgain_r1_go : type_of% (ops_go law13_HeadAgain_r1.eq_1 T K fr S) := ops_go law13_HeadAgain_r1.eq_1 T K fr S
def law13_HeadAgain_r2 : List POper := [M 8 3,Q 9 (.eqn false .p (V 8)),M 10 9,QG (some 11) (.mov (V 4)) 10 false,QG (some 12) (.eqn false .p (V 11)) 10 false,Q 13 (.pick (V 10) tt' (V 12))]
@[simp] theorem law13_HeadAgain_r2_go : type_of% (ops_go law13_HeadAgain_r2.eq_1 T K fr S) := ops_go law13_HeadAgain_r2.eq_1 T K fr S
def law13_HeadAgain_r3 : List POper := [Q 2 (.mov ff')]
@[simp] theorem law13_HeadAgain_r3_go : type_of% (ops_go law13_HeadAgain_r3.eq_1 T K fr S) := ops_go law13_HeadAgain_r3.eq_1 T K fr S
def law13_HeadAgain_r4 : List POper := [Q 5 (.mov (I 0))]
@[simp] theorem law13_HeadAgain_r4_go : type_of% (ops_go law13_HeadAgain_r4.eq_1 T K fr S) := ops_go law13_HeadAgain_r4.eq_1 T K fr S
def law13_HeadAgain_r5 : List POper := [M 14 5,M 15 0,Q 16 (.len false (V 15)),Q 17 (.arith .lss (V 14) (V 16)),M 18 17,QG (some 19) (.mov (V 5)) 18 true,QG (some 20) (.arith .lss (V 19) (I 60)) 18 true,Q 21 (.pick (V 18) (V 20) ff')]
@[simp] theorem law13_HeadAgain_r5_go : type_of% (ops_go law13_HeadAgain_r5.eq_1 T K fr S) := ops_go law13_HeadAgain_r5.eq_1 T K fr S
def law13_HeadAgain_r7 : List POper := [M 24 3,M 25 0,M 26 5,Q 27 (.iaddr 6 (V 25) (V 26)),Q 28 (.load true 6 false (V 27)),Q 29 (.call .std 70 [(V 24), (V 28)]),Q 30 (.arith .eql (V 29) (I 0)),M 31 30,QG (some 32) (.mov (V 4)) 31 true,QG (some 33) (.mov (V 0)) 31 true,QG (some 34) (.mov (V 5)) 31 true,QG (some 35) (.iaddr 6 (V 33) (V 34)) 31 true,QG (some 36) (.load true 6 false (V 35)) 31 true,QG (some 37) (.call .std 70 [(V 32), (V 36)]) 31 true,QG (some 38) (.arith .neq (V 37) (I 0)) 31 true,Q 39 (.pick (V 31) (V 38) ff')]
@[simp] theorem law13_HeadAgain_r7_go : type_of% (ops_go law13_HeadAgain_r7.eq_1 T K fr S) := ops_go law13_HeadAgain_r7.eq_1 T K fr S
def law13_HeadAgain_r8 : List POper := [Q 2 (.mov ff')]
@[simp] theorem law13_HeadAgain_r8_go : type_of% (ops_go law13_HeadAgain_r8.eq_1 T K fr S) := ops_go law13_HeadAgain_r8.eq_1 T K fr S
def law13_HeadAgain_r6 : List POper := [M 22 5,Q 23 (.arith .add (V 22) (I 1)),M 5 23]
@[simp] theorem law13_HeadAgain_r6_go : type_of% (ops_go law13_HeadAgain_r6.eq_1 T K fr S) := ops_go law13_HeadAgain_r6.eq_1 T K fr S
def law13_HeadAgain_l0 : PCode :=
  (.seq (.seq (.clr [(14, 21)] (.region law13_HeadAgain_r5)) (.cond (V 21) .skip (.exit 0))) (.seq (.block 1 (.seq (.clr [(24, 39)] (.region law13_HeadAgain_r7)) (.cond (V 39) (.seq (.region law13_HeadAgain_r8) .ret) .skip))) (.clr [(22, 24)] (.region law13_HeadAgain_r6))))
@[simp] theorem law13_HeadAgain_l0_go : type_of% (code_go law13_HeadAgain_l0.eq_1 T K fr S) := code_go law13_HeadAgain_l0.eq_1 T K fr S
def law13_HeadAgain_r9 : List POper := [M 40 3,Q 41 (.call .std 188 [(V 40)]),M 42 4,Q 43 (.call .std 188 [(V 42)]),Q 44 (.arith .eql (V 41) (V 43)),M 45 44,QG (some 46) (.mov (V 3)) 45 true,QG (some 47) (.call .std 189 [(V 46)]) 45 true,QG (some 48) (.mov (V 4)) 45 true,QG (some 49) (.call .std 189 [(V 48)]) 45 true,QG (some 50) (.arith .eql (V 47) (V 49)) 45 true,Q 51 (.pick (V 45) (V 50) ff'),M 52 51,QG (some 53) (.mov (V 3)) 52 true,QG (some 54) (.call .std 190 [(V 53)]) 52 true,QG (some 55) (.mov (V 4)) 52 true,QG (some 56) (.call .std 190 [(V 55)]) 52 true,QG (some 57) (.call .std 170 [(V 54), (V 56)]) 52 true,Q 58 (.pick (V 52) (V 57) ff'),M 59 58,QG (some 60) (.call .pur 76 []) 59 true,Q 61 (.pick (V 59) (V 60) ff'),M 2 61]
@[simp] theorem law13_HeadAgain_r9_go : type_of% (ops_go law13_HeadAgain_r9.eq_1 T K fr S) := ops_go law13_HeadAgain_r9.eq_1 T K fr S
def law13_HeadAgain : PCodeFn :=
  ⟨1, [.tmp 2],
  (.seq (.region law13_HeadAgain_r0) (.seq (.clr [(6, 8)] (.region law13_HeadAgain_r1)) (.seq (.seq (.clr [(8, 13)] (.region law13_HeadAgain_r2)) (.cond (V 13) (.seq (.region law13_HeadAgain_r3) .ret) .skip)) (.seq (.seq (.region law13_HeadAgain_r4) (.block 0 (.loop law13_HeadAgain_l0))) (.seq (.clr [(40, 62)] (.region law13_HeadAgain_r9)) .ret))))), false⟩

def head_New_r0 : List POper := [Q 0 (.mov (.cst .nilp))]
@[simp] theorem head_New_r0_go : type_of% (ops_go head_New_r0.eq_1 T K fr S) := ops_go head_New_r0.eq_1 T K fr S
def head_New_r1 : List POper := [Q 1 (.mkm),Q 2 (.build [.nils, .nilm, (.int .i64 0)] [(1, 1, (V 1))]),Q 3 (.box false (V 2)),M 0 3]
@[simp] theorem head_New_r1_go : type_of% (ops_go head_New_r1.eq_1 T K fr S) := ops_go head_New_r1.eq_1 T K fr S
def head_New : PCodeFn :=
  ⟨0, [.tmp 0],
  (.seq (.region head_New_r0) (.seq (.clr [(1, 4)] (.region head_New_r1)) .ret)), false⟩

def head_Head_Do_r0 : List POper := [Q 3 (.box true (V 1)),Q 4 (.mov (I 0))]
@[simp] theorem head_Head_Do_r0_go : type_of% (ops_go head_Head_Do_r0.eq_1 T K fr S) := ops_go head_Head_Do_r0.eq_1 T K fr S
def head_Head_Do_r1 : List POper := [M 6 0,Q 7 (.eqn false .p (V 6))]
@[simp] theorem head_Head_Do_r1_go : type_of% (ops_go head_Head_Do_r1.eq_1 T K fr S) := ops_go head_Head_Do_r1.eq_1 T K fr S
def head_Head_Do_r2 : List POper := [Q 4 (.mov (I 1))]
@[simp] theorem head_Head_Do_r2_go : type_of% (ops_go head_Head_Do_r2.eq_1 T K fr S) := ops_go head_Head_Do_r2.eq_1 T K fr S
def head_Head_Do_r3 : List POper := [Q 8 (.load true 6 false (V 3)),Q 9 (.call .std 179 [(V 8)]),M 5 9]
@[simp] theorem head_Head_Do_r3_go : type_of% (ops_go head_Head_Do_r3.eq_1 T K fr S) := ops_go head_Head_Do_r3.eq_1 T K fr S
def head_Head_Do_r4 : List POper := [M 10 5,Q 11 (.arith .neq (V 10) (I 0))]
@[simp] theorem head_Head_Do_r4_go : type_of% (ops_go head_Head_Do_r4.eq_1 T K fr S) := ops_go head_Head_Do_r4.eq_1 T K fr S
def head_Head_Do_r5 : List POper := [M 12 5,M 4 12]
@[simp] theorem head_Head_Do_r5_go : type_of% (ops_go head_Head_Do_r5.eq_1 T K fr S) := ops_go head_Head_Do_r5.eq_1 T K fr S
def head_Head_Do_r6 : List POper := [FA 13 0 3,LD 14 13]
@[simp] theorem head_Head_Do_r6_go : type_of% (ops_go head_Head_Do_r6.eq_1 T K fr S) := ops_go head_Head_Do_r6.eq_1 T K fr S
def head_Head_Do_r7 : List POper := [Q 16 (.arith .eql (V 14) (I 1)),M 15 16]
@[simp] theorem head_Head_Do_r7_go : type_of% (ops_go head_Head_Do_r7.eq_1 T K fr S) := ops_go head_Head_Do_r7.eq_1 T K fr S
def head_Head_Do_r8 : List POper := [M 17 0,FA 18 1 3,LD 19 18,Q 20 (.call .std 180 [(V 17), (V 19)]),M 4 20]
@[simp] theorem head_Head_Do_r8_go : type_of% (ops_go head_Head_Do_r8.eq_1 T K fr S) := ops_go head_Head_Do_r8.eq_1 T K fr S
def head_Head_Do_r9 : List POper := [Q 22 (.arith .eql (V 14) (I 2)),M 21 22]
@[simp] theorem head_Head_Do_r9_go : type_of% (ops_go head_Head_Do_r9.eq_1 T K fr S) := ops_go head_Head_Do_r9.eq_1 T K fr S
def head_Head_Do_r10 : List POper := [M 23 0,FA 24 2 3,LD 25 24,Q 26 (.call .std 181 [(V 23), (V 25)]),M 4 26]
@[simp] theorem head_Head_Do_r10_go : type_of% (ops_go head_Head_Do_r10.eq_1 T K fr S) := ops_go head_Head_Do_r10.eq_1 T K fr S
def head_Head_Do_r11 : List POper := [M 27 0,Q 28 (.load true 6 false (V 3)),Q 29 (.call .std 182 [(V 27), (V 28)]),M 4 29]
@[simp] theorem head_Head_Do_r11_go : type_of% (ops_go head_Head_Do_r11.eq_1 T K fr S) := ops_go head_Head_Do_r11.eq_1 T K fr S
def head_Head_Do : PCodeFn :=
  ⟨2, [.tmp 4],
  (.seq (.region head_Head_Do_r0) (.seq (.seq (.clr [(6, 7)] (.region head_Head_Do_r1)) (.cond (V 7) (.seq (.region head_Head_Do_r2) .ret) .skip)) (.seq (.seq (.clr [(8, 10)] (.region head_Head_Do_r3)) (.seq (.clr [(10, 11)] (.region head_Head_Do_r4)) (.cond (V 11) (.seq (.clr [(12, 13)] (.region head_Head_Do_r5)) .ret) .skip))) (.seq (.seq (.clr [(13, 14)] (.region head_Head_Do_r6)) (.block 0 (.seq (.clr [(16, 17)] (.region head_Head_Do_r7)) (.cond (V 15) (.seq (.clr [(17, 21)] (.region head_Head_Do_r8)) .ret) (.seq (.clr [(22, 23)] (.region head_Head_Do_r9)) (.cond (V 21) (.seq (.clr [(23, 27)] (.region head_Head_Do_r10)) .ret) .skip)))))) (.seq (.clr [(27, 30)] (.region head_Head_Do_r11)) .ret))))), true⟩

def head_Head_Len_r0 : List POper := [Q 2 (.mov (I 0))]
@[simp] theorem head_Head_Len_r0_go : type_of% (ops_go head_Head_Len_r0.eq_1 T K fr S) := ops_go head_Head_Len_r0.eq_1 T K fr S
def head_Head_Len_r1 : List POper := [M 3 0,Q 4 (.eqn false .p (V 3))]
@[simp] theorem head_Head_Len_r1_go : type_of% (ops_go head_Head_Len_r1.eq_1 T K fr S) := ops_go head_Head_Len_r1.eq_1 T K fr S
def head_Head_Len_r2 : List POper := [Q 2 (.mov (I 0))]
@[simp] theorem head_Head_Len_r2_go : type_of% (ops_go head_Head_Len_r2.eq_1 T K fr S) := ops_go head_Head_Len_r2.eq_1 T K fr S
def head_Head_Len_r3 : List POper := [M 5 0,NK' 6 5,FA 7 0 6,LD 8 7,Q 9 (.len false (V 8)),M 2 9]
@[simp] theorem head_Head_Len_r3_go : type_of% (ops_go head_Head_Len_r3.eq_1 T K fr S) := ops_go head_Head_Len_r3.eq_1 T K fr S
def head_Head_Len : PCodeFn :=
  ⟨1, [.tmp 2],
  (.seq (.region head_Head_Len_r0) (.seq (.seq (.clr [(3, 4)] (.region head_Head_Len_r1)) (.cond (V 4) (.seq (.region head_Head_Len_r2) .ret) .skip)) (.seq (.clr [(5, 10)] (.region head_Head_Len_r3)) .ret))), false⟩

def law13_lives_r0 : List POper := [Q 0 (.mov ff')]
@[simp] theorem law13_lives_r0_go : type_of% (ops_go law13_lives_r0.eq_1 T K fr S) := ops_go law13_lives_r0.eq_1 T K fr S
def law13_lives_r1 : List POper := [Q 10 (.call .std 68 []),M 1 10]
@[simp] theorem law13_lives_r1_go : type_of% (ops_go law13_lives_r1.eq_1 T K fr S) := ops_go law13_lives_r1.eq_1 T K fr S
def law13_lives_r2 : List POper := [M 11 1,Q 12 (.eqn false .p (V 11))]
@[simp] theorem law13_lives_r2_go : type_of% (ops_go law13_lives_r2.eq_1 T K fr S) := ops_go law13_lives_r2.eq_1 T K fr S
def law13_lives_r3 : List POper := [Q 0 (.mov ff')]
@[simp] theorem law13_lives_r3_go : type_of% (ops_go law13_lives_r3.eq_1 T K fr S) := ops_go law13_lives_r3.eq_1 T K fr S
def law13_lives_r4 : List POper := [Q 13 (.build [(.str []), (.str [])] [(0, 1, (.cst (.str [97]))), (1, 1, (.cst (.str [120])))]),Q 14 (.bsl false (.agg [(.str []), (.str [])]) 1 [(0, (V 13))]),Q 15 (.build [(.int .i64 0), .nils, .nils, .nils, (.int .i64 0), (.int .i64 0)] [(0, 1, (I 1)), (1, 1, (V 14))]),Q 2 (.alloc false [(.int .i64 0), .nils, .nils, .nils, (.int .i64 0), (.int .i64 0)]),QN (.store 6 (V 2) (V 15))]
@[simp] theorem law13_lives_r4_go : type_of% (ops_go law13_lives_r4.eq_1 T K fr S) := ops_go law13_lives_r4.eq_1 T K fr S
def law13_lives_r5 : List POper := [M 16 1,Q 17 (.load true 6 false (V 2)),Q 18 (.callb 2 70 [(V 16), (V 17)]),M 19 1,Q 20 (.loadb 2 true 6 (V 2)),Q 21 (.call .std 70 [(V 19), (V 20)]),M 22 1,Q 23 (.call .pur 74 [(I 0), (I 10), (I 1)]),Q 24 (.call .std 70 [(V 22), (V 23)]),M 3 18,M 4 21,M 5 24]
@[simp] theorem law13_lives_r5_go : type_of% (ops_go law13_lives_r5.eq_1 T K fr S) := ops_go law13_lives_r5.eq_1 T K fr S
def law13_lives_r6 : List POper := [M 25 1,Q 26 (.call .pur 74 [(I 0), (I 10), (I 2)]),Q 27 (.call .std 70 [(V 25), (V 26)]),M 28 1,Q 29 (.bsl false (.int .i64 0) 1 [(0, (I 0))]),Q 30 (.build [(.int .i64 0), .nils, .nils, .nils, (.int .i64 0), (.int .i64 0)] [(0, 1, (I 3)), (3, 1, (V 29)), (4, 1, (I 10)), (5, 1, (I 10))]),Q 31 (.call .std 70 [(V 28), (V 30)]),M 6 27,M 7 31]
@[simp] theorem law13_lives_r6_go : type_of% (ops_go law13_lives_r6.eq_1 T K fr S) := ops_go law13_lives_r6.eq_1 T K fr S
def law13_lives_r7 : List POper := [M 33 1,Q 34 (.call .std 193 [(V 33), (I 0)]),M 32 34,EX 35 0 32,EX 36 1 32,M 8 35,M 9 36]
@[simp] theorem law13_lives_r7_go : type_of% (ops_go law13_lives_r7.eq_1 T K fr S) := ops_go law13_lives_r7.eq_1 T K fr S
def law13_lives_r8 : List POper := [M 37 3,Q 38 (.arith .eql (V 37) (I 0)),M 39 38,QG (some 40) (.mov (V 4)) 39 true,QG (some 41) (.arith .eql (V 40) (I 10)) 39 true,Q 42 (.pick (V 39) (V 41) ff'),M 43 42,QG (some 44) (.mov (V 5)) 43 true,QG (some 45) (.arith .eql (V 44) (I 0)) 43 true,Q 46 (.pick (V 43) (V 45) ff'),M 47 46,QG (some 48) (.mov (V 6)) 47 true,QG (some 49) (.arith .eql (V 48) (I 13)) 47 true,Q 50 (.pick (V 47) (V 49) ff'),M 51 50,QG (some 52) (.mov (V 7)) 51 true,QG (some 53) (.arith .eql (V 52) (I 0)) 51 true,Q 54 (.pick (V 51) (V 53) ff'),M 55 54,QG (some 56) (.mov (V 8)) 55 true,QG (some 57) (.arith .eql (V 56) (I (-1))) 55 true,Q 58 (.pick (V 55) (V 57) ff'),M 59 58,QG (some 60) (.mov (V 9)) 59 true,QG (some 61) (.arith .eql (V 60) (I 0)) 59 true,Q 62 (.pick (V 59) (V 61) ff'),M 63 62,QG (some 64) (.mov (V 1)) 63 true,QG (some 65) (.call .std 188 [(V 64)]) 63 true,QG (some 66) (.arith .eql (V 65) (I 1)) 63 true,Q 67 (.pick (V 63) (V 66) ff'),M 68 67,QG (some 69) (.mov (V 1)) 68 true,QG (some 70) (.call .std 189 [(V 69)]) 68 true,QG (some 71) (.arith .eql (V 70) (I 0)) 68 true,Q 72 (.pick (V 68) (V 71) ff'),M 73 72,QG (some 74) (.mov (V 1)) 73 true,QG (some 75) (.call .pur 74 [(I 0), (I 5), (I 1)]) 73 true,QG (some 76) (.call .std 70 [(V 74), (V 75)]) 73 true,QG (some 77) (.arith .eql (V 76) (I 0)) 73 true,Q 78 (.pick (V 73) (V 77) ff'),M 0 78]
@[simp] theorem law13_lives_r8_go : type_of% (ops_go law13_lives_r8.eq_1 T K fr S) := ops_go law13_lives_r8.eq_1 T K fr S
def law13_lives : PCodeFn :=
  ⟨0, [.tmp 0],
  (.seq (.region law13_lives_r0) (.seq (.clr [(10, 11)] (.region law13_lives_r1)) (.seq (.seq (.clr [(11, 12)] (.region law13_lives_r2)) (.cond (V 12) (.seq (.region law13_lives_r3) .ret) .skip)) (.seq (.clr [(13, 16)] (.region law13_lives_r4)) (.seq (.clr [(16, 25)] (.region law13_lives_r5)) (.seq (.clr [(25, 32)] (.region law13_lives_r6)) (.seq (.clr [(32, 37)] (.region law13_lives_r7)) (.seq (.clr [(37, 79)] (.region law13_lives_r8)) .ret)))))))), false⟩

def head_Head_Count_r0 : List POper := [Q 2 (.mov (I 0))]
@[simp] theorem head_Head_Count_r0_go : type_of% (ops_go head_Head_Count_r0.eq_1 T K fr S) := ops_go head_Head_Count_r0.eq_1 T K fr S
def head_Head_Count_r1 : List POper := [M 3 0,Q 4 (.eqn false .p (V 3))]
@[simp] theorem head_Head_Count_r1_go : type_of% (ops_go head_Head_Count_r1.eq_1 T K fr S) := ops_go head_Head_Count_r1.eq_1 T K fr S
def head_Head_Count_r2 : List POper := [Q 2 (.mov (I 0))]
@[simp] theorem head_Head_Count_r2_go : type_of% (ops_go head_Head_Count_r2.eq_1 T K fr S) := ops_go head_Head_Count_r2.eq_1 T K fr S
def head_Head_Count_r3 : List POper := [M 5 0,NK' 6 5,FA 7 2 6,LD 8 7,M 2 8]
@[simp] theorem head_Head_Count_r3_go : type_of% (ops_go head_Head_Count_r3.eq_1 T K fr S) := ops_go head_Head_Count_r3.eq_1 T K fr S
def head_Head_Count : PCodeFn :=
  ⟨1, [.tmp 2],
  (.seq (.region head_Head_Count_r0) (.seq (.seq (.clr [(3, 4)] (.region head_Head_Count_r1)) (.cond (V 4) (.seq (.region head_Head_Count_r2) .ret) .skip)) (.seq (.clr [(5, 9)] (.region head_Head_Count_r3)) .ret))), false⟩

def ref05_Same_r0 : List POper := [Q 4 (.mov ff')]
@[simp] theorem ref05_Same_r0_go : type_of% (ops_go ref05_Same_r0.eq_1 T K fr S) := ops_go ref05_Same_r0.eq_1 T K fr S
def ref05_Same_r1 : List POper := [M 6 0,Q 7 (.len false (V 6)),M 8 1,Q 9 (.len false (V 8)),Q 10 (.arith .neq (V 7) (V 9))]
@[simp] theorem ref05_Same_r1_go : type_of% (ops_go ref05_Same_r1.eq_1 T K fr S) := ops_go ref05_Same_r1.eq_1 T K fr S
def ref05_Same_r2 : List POper := [Q 4 (.mov ff')]
@[simp] theorem ref05_Same_r2_go : type_of% (ops_go ref05_Same_r2.eq_1 T K fr S) := ops_go ref05_Same_r2.eq_1 T K fr S
def ref05_Same_r3 : List POper := [Q 5 (.mov (I 0))]
@[simp] theorem ref05_Same_r3_go : type_of% (ops_go ref05_Same_r3.eq_1 T K fr S) := ops_go ref05_Same_r3.eq_1 T K fr S
def ref05_Same_r4 : List POper := [M 11 5,M 12 0,Q 13 (.len false (V 12)),Q 14 (.arith .lss (V 11) (V 13))]
@[simp] theorem ref05_Same_r4_go : type_of% (ops_go ref05_Same_r4.eq_1 T K fr S) := ops_go ref05_Same_r4.eq_1 T K fr S
def ref05_Same_r6 : List POper := [M 17 0,M 18 5,Q 19 (.iaddr 2 (V 17) (V 18)),Q 20 (.load true 2 true (V 19)),M 21 1,M 22 5,Q 23 (.iaddr 2 (V 21) (V 22)),Q 24 (.load true 2 true (V 23)),Q 25 (.eqs true 2 (V 20) (V 24))]
@[simp] theorem ref05_Same_r6_go : type_of% (ops_go ref05_Same_r6.eq_1 T K fr S) := ops_go ref05_Same_r6.eq_1 T K fr S
def ref05_Same_r7 : List POper := [Q 4 (.mov ff')]
@[simp] theorem ref05_Same_r7_go : type_of% (ops_go ref05_Same_r7.eq_1 T K fr S) := ops_go ref05_Same_r7.eq_1 T K fr S
def ref05_Same_r5 : List POper := [M 15 5,Q 16 (.arith .add (V 15) (I 1)),M 5 16]
@[simp] theorem ref05_Same_r5_go : type_of% (ops_go ref05_Same_r5.eq_1 T K fr S) := ops_go ref05_Same_r5.eq_1 T K fr S
def ref05_Same_l0 : PCode :=
  (.seq (.seq (.clr [(11, 14)] (.region ref05_Same_r4)) (.cond (V 14) .skip (.exit 0))) (.seq (.block 1 (.seq (.clr [(17, 25)] (.region ref05_Same_r6)) (.cond (V 25) (.seq (.region ref05_Same_r7) .ret) .skip))) (.clr [(15, 17)] (.region ref05_Same_r5))))
@[simp] theorem ref05_Same_l0_go : type_of% (code_go ref05_Same_l0.eq_1 T K fr S) := code_go ref05_Same_l0.eq_1 T K fr S
def ref05_Same_r8 : List POper := [Q 4 (.mov tt')]
@[simp] theorem ref05_Same_r8_go : type_of% (ops_go ref05_Same_r8.eq_1 T K fr S) := ops_go ref05_Same_r8.eq_1 T K fr S
def ref05_Same : PCodeFn :=
  ⟨2, [.tmp 4],
  (.seq (.region ref05_Same_r0) (.seq (.seq (.clr [(6, 10)] (.region ref05_Same_r1)) (.cond (V 10) (.seq (.region ref05_Same_r2) .ret) .skip)) (.seq (.seq (.region ref05_Same_r3) (.block 0 (.loop ref05_Same_l0))) (.seq (.region ref05_Same_r8) .ret)))), false⟩

def ref12_Same_r0 : List POper := [Q 4 (.mov ff')]
@[simp] theorem ref12_Same_r0_go : type_of% (ops_go ref12_Same_r0.eq_1 T K fr S) := ops_go ref12_Same_r0.eq_1 T K fr S
def ref12_Same_r1 : List POper := [M 6 0,Q 7 (.len false (V 6)),M 8 1,Q 9 (.len false (V 8)),Q 10 (.arith .neq (V 7) (V 9))]
@[simp] theorem ref12_Same_r1_go : type_of% (ops_go ref12_Same_r1.eq_1 T K fr S) := ops_go ref12_Same_r1.eq_1 T K fr S
def ref12_Same_r2 : List POper := [Q 4 (.mov ff')]
@[simp] theorem ref12_Same_r2_go : type_of% (ops_go ref12_Same_r2.eq_1 T K fr S) := ops_go ref12_Same_r2.eq_1 T K fr S
def ref12_Same_r3 : List POper := [Q 5 (.mov (I 0))]
@[simp] theorem ref12_Same_r3_go : type_of% (ops_go ref12_Same_r3.eq_1 T K fr S) := ops_go ref12_Same_r3.eq_1 T K fr S
def ref12_Same_r4 : List POper := [M 11 5,M 12 0,Q 13 (.len false (V 12)),Q 14 (.arith .lss (V 11) (V 13))]
@[simp] theorem ref12_Same_r4_go : type_of% (ops_go ref12_Same_r4.eq_1 T K fr S) := ops_go ref12_Same_r4.eq_1 T K fr S
def ref12_Same_r6 : List POper := [M 17 0,M 18 5,Q 19 (.iaddr 2 (V 17) (V 18)),FA 20 0 19,Q 21 (.load false 1 true (V 20)),M 22 1,M 23 5,Q 24 (.iaddr 2 (V 22) (V 23)),FA 25 0 24,Q 26 (.load false 1 true (V 25)),Q 27 (.call .std 26 [(V 21), (V 26)]),Q 28 (.un .not (V 27)),M 29 28,QG (some 30) (.mov (V 0)) 29 false,QG (some 31) (.mov (V 5)) 29 false,QG (some 32) (.iaddr 2 (V 30) (V 31)) 29 false,QG (some 33) (.faddr 1 (V 32)) 29 false,QG (some 34) (.load false 1 true (V 33)) 29 false,QG (some 35) (.mov (V 1)) 29 false,QG (some 36) (.mov (V 5)) 29 false,QG (some 37) (.iaddr 2 (V 35) (V 36)) 29 false,QG (some 38) (.faddr 1 (V 37)) 29 false,QG (some 39) (.load false 1 true (V 38)) 29 false,QG (some 40) (.call .std 177 [(V 34), (V 39)]) 29 false,QG (some 41) (.un .not (V 40)) 29 false,Q 42 (.pick (V 29) tt' (V 41))]
@[simp] theorem ref12_Same_r6_go : type_of% (ops_go ref12_Same_r6.eq_1 T K fr S) := ops_go ref12_Same_r6.eq_1 T K fr S
def ref12_Same_r7 : List POper := [Q 4 (.mov ff')]
@[simp] theorem ref12_Same_r7_go : type_of% (ops_go ref12_Same_r7.eq_1 T K fr S) := ops_go ref12_Same_r7.eq_1 T K fr S
def ref12_Same_r5 : List POper := [M 15 5,Q 16 (.arith .add (V 15) (I 1)),M 5 16]
@[simp] theorem ref12_Same_r5_go : type_of% (ops_go ref12_Same_r5.eq_1 T K fr S) := ops_go ref12_Same_r5.eq_1 T K fr S
def ref12_Same_l0 : PCode :=
  (.seq (.seq (.clr [(11, 14)] (.region ref12_Same_r4)) (.cond (V 14) .skip (.exit 0))) (.seq (.block 1 (.seq (.clr [(17, 42)] (.region ref12_Same_r6)) (.cond (V 42) (.seq (.region ref12_Same_r7) .ret) .skip))) (.clr [(15, 17)] (.region ref12_Same_r5))))
@[simp] theorem ref12_Same_l0_go : type_of% (code_go ref12_Same_l0.eq_1 T K fr S) := code_go ref12_Same_l0.eq_1 T K fr S
def ref12_Same_r8 : List POper := [Q 4 (.mov tt')]
@[simp] theorem ref12_Same_r8_go : type_of% (ops_go ref12_Same_r8.eq_1 T K fr S) := ops_go ref12_Same_r8.eq_1 T K fr S
def ref12_Same : PCodeFn :=
  ⟨2, [.tmp 4],
  (.seq (.region ref12_Same_r0) (.seq (.seq (.clr [(6, 10)] (.region ref12_Same_r1)) (.cond (V 10) (.seq (.region ref12_Same_r2) .ret) .skip)) (.seq (.seq (.region ref12_Same_r3) (.block 0 (.loop ref12_Same_l0))) (.seq (.region ref12_Same_r8) .ret)))), false⟩

def head_Head_Series_r0 : List POper := [Q 2 (.mov (.cst .nils))]
@[simp] theorem head_Head_Series_r0_go : type_of% (ops_go head_Head_Series_r0.eq_1 T K fr S) := ops_go head_Head_Series_r0.eq_1 T K fr S
def head_Head_Series_r1 : List POper := [M 4 0,Q 5 (.eqn false .p (V 4))]
@[simp] theorem head_Head_Series_r1_go : type_of% (ops_go head_Head_Series_r1.eq_1 T K fr S) := ops_go head_Head_Series_r1.eq_1 T K fr S
def head_Head_Series_r2 : List POper := [Q 2 (.mov (.cst .nils))]
@[simp] theorem head_Head_Series_r2_go : type_of% (ops_go head_Head_Series_r2.eq_1 T K fr S) := ops_go head_Head_Series_r2.eq_1 T K fr S
def head_Head_Series_r3 : List POper := [M 6 0,NK' 7 6,FA 8 0 7,LD 9 8,Q 10 (.call .std 187 [(V 9)]),Q 11 (.call .std 284 [(V 10), (.cst (.fn 285 []))]),M 3 11]
@[simp] theorem head_Head_Series_r3_go : type_of% (ops_go head_Head_Series_r3.eq_1 T K fr S) := ops_go head_Head_Series_r3.eq_1 T K fr S
def head_Head_Series_r4 : List POper := [M 12 3,Q 13 (.call .std 286 [(V 12), (.cst (.fn 287 []))])]
@[simp] theorem head_Head_Series_r4_go : type_of% (ops_go head_Head_Series_r4.eq_1 T K fr S) := ops_go head_Head_Series_r4.eq_1 T K fr S
def head_Head_Series_r5 : List POper := [M 14 3,M 2 14]
@[simp] theorem head_Head_Series_r5_go : type_of% (ops_go head_Head_Series_r5.eq_1 T K fr S) := ops_go head_Head_Series_r5.eq_1 T K fr S
def head_Head_Series : PCodeFn :=
  ⟨1, [.tmp 2],
  (.seq (.region head_Head_Series_r0) (.seq (.seq (.clr [(4, 5)] (.region head_Head_Series_r1)) (.cond (V 5) (.seq (.region head_Head_Series_r2) .ret) .skip)) (.seq (.clr [(6, 12)] (.region head_Head_Series_r3)) (.seq (.clr [(12, 14)] (.region head_Head_Series_r4)) (.seq (.clr [(14, 15)] (.region head_Head_Series_r5)) .ret))))), false⟩

def law13_row_r0 : List POper := [Q 6 (.alloc false [(.int .i64 0), .nils, .nils, .nils, (.int .i64 0), (.int .i64 0)])]
@[simp] theorem law13_row_r0_go : type_of% (ops_go law13_row_r0.eq_1 T K fr S) := ops_go law13_row_r0.eq_1 T K fr S
def law13_row_r1 : List POper := [M 7 0,M 8 1,M 9 2,Q 10 (.build [(.int .i64 0), (.int .i64 0)] [(0, 1, (V 8)), (1, 1, (V 9))]),Q 11 (.build [(.int .i64 0), (.int .i64 0), (.int .i64 0)] [(0, 1, (V 7)), (1, 2, (V 10))]),Q 12 (.bsl false (.agg [(.int .i64 0), (.int .i64 0), (.int .i64 0)]) 1 [(0, (V 11))]),Q 13 (.build [(.int .i64 0), .nils, .nils, .nils, (.int .i64 0), (.int .i64 0)] [(0, 1, (I 2)), (2, 1, (V 12))]),QN (.store 6 (V 6) (V 13))]
@[simp] theorem law13_row_r1_go : type_of% (ops_go law13_row_r1.eq_1 T K fr S) := ops_go law13_row_r1.eq_1 T K fr S
def law13_row : PCodeFn :=
  ⟨3, [.cell 6 true 6],
  (.seq (.region law13_row_r0) (.seq (.clr [(7, 14)] (.region law13_row_r1)) .ret)), false⟩

def wal_Check_r0 : List POper := [Q 1 (.box true (V 0)),Q 2 (.mov (I 0))]
@[simp] theorem wal_Check_r0_go : type_of% (ops_go wal_Check_r0.eq_1 T K fr S) := ops_go wal_Check_r0.eq_1 T K fr S
def wal_Check_r1 : List POper := [FA 4 1 1,LD 5 4,Q 6 (.len false (V 5)),FA 7 2 1,LD 8 7,Q 9 (.len false (V 8)),FA 10 3 1,LD 11 10,Q 12 (.len false (V 11)),FA 13 4 1,LD 14 13,FA 15 5 1,LD 16 15,Q 17 (.build [(.int .i64 0), (.int .i64 0), (.int .i64 0), (.int .i64 0), (.int .i64 0)] [(0, 1, (V 6)), (1, 1, (V 9)), (2, 1, (V 12)), (3, 1, (V 14)), (4, 1, (V 16))]),Q 3 (.alloc false [(.int .i64 0), (.int .i64 0), (.int .i64 0), (.int .i64 0), (.int .i64 0)]),QN (.store 5 (V 3) (V 17))]
@[simp] theorem wal_Check_r1_go : type_of% (ops_go wal_Check_r1.eq_1 T K fr S) := ops_go wal_Check_r1.eq_1 T K fr S
def wal_Check_r2 : List POper := [FA 19 0 1,LD 20 19,Q 21 (.arith .eql (V 20) (I 1)),M 22 21,QG (some 23) (.load true 5 false (V 3)) 22 true,QG (some 24) (.faddr 0 (V 3)) 22 true,QG (some 25) (.load false 1 false (V 24)) 22 true,QG (some 26) (.build [(.int .i64 0), (.int .i64 0), (.int .i64 0), (.int .i64 0), (.int .i64 0)] [(0, 1, (V 25))]) 22 true,QG (some 27) (.eqs false 5 (V 23) (V 26)) 22 true,Q 28 (.pick (V 22) (V 27) ff'),M 18 28]
@[simp] theorem wal_Check_r2_go : type_of% (ops_go wal_Check_r2.eq_1 T K fr S) := ops_go wal_Check_r2.eq_1 T K fr S
def wal_Check_r3 : List POper := [FA 29 1 1,LD 30 29,Q 31 (.call .std 40 [(V 30)]),M 2 31]
@[simp] theorem wal_Check_r3_go : type_of% (ops_go wal_Check_r3.eq_1 T K fr S) := ops_go wal_Check_r3.eq_1 T K fr S
def wal_Check_r4 : List POper := [FA 33 0 1,LD 34 33,Q 35 (.arith .eql (V 34) (I 2)),M 36 35,QG (some 37) (.load true 5 false (V 3)) 36 true,QG (some 38) (.faddr 1 (V 3)) 36 true,QG (some 39) (.load false 1 false (V 38)) 36 true,QG (some 40) (.build [(.int .i64 0), (.int .i64 0), (.int .i64 0), (.int .i64 0), (.int .i64 0)] [(1, 1, (V 39))]) 36 true,QG (some 41) (.eqs false 5 (V 37) (V 40)) 36 true,Q 42 (.pick (V 36) (V 41) ff'),M 32 42]
@[simp] theorem wal_Check_r4_go : type_of% (ops_go wal_Check_r4.eq_1 T K fr S) := ops_go wal_Check_r4.eq_1 T K fr S
def wal_Check_r5 : List POper := [FA 43 2 1,LD 44 43,Q 45 (.call .std 275 [(V 44)]),M 2 45]
@[simp] theorem wal_Check_r5_go : type_of% (ops_go wal_Check_r5.eq_1 T K fr S) := ops_go wal_Check_r5.eq_1 T K fr S
def wal_Check_r6 : List POper := [FA 47 0 1,LD 48 47,Q 49 (.arith .eql (V 48) (I 3)),M 50 49,QG (some 51) (.load true 5 false (V 3)) 50 true,QG (some 52) (.faddr 2 (V 3)) 50 true,QG (some 53) (.load false 1 false (V 52)) 50 true,QG (some 54) (.faddr 3 (V 3)) 50 true,QG (some 55) (.load false 1 false (V 54)) 50 true,QG (some 56) (.faddr 4 (V 3)) 50 true,QG (some 57) (.load false 1 false (V 56)) 50 true,QG (some 58) (.build [(.int .i64 0), (.int .i64 0), (.int .i64 0), (.int .i64 0), (.int .i64 0)] [(2, 1, (V 53)), (3, 1, (V 55)), (4, 1, (V 57))]) 50 true,QG (some 59) (.eqs false 5 (V 51) (V 58)) 50 true,Q 60 (.pick (V 50) (V 59) ff'),M 46 60]
@[simp] theorem wal_Check_r6_go : type_of% (ops_go wal_Check_r6.eq_1 T K fr S) := ops_go wal_Check_r6.eq_1 T K fr S
def wal_Check_r7 : List POper := [Q 61 (.load true 6 false (V 1)),Q 62 (.call .std 276 [(V 61)]),M 2 62]
@[simp] theorem wal_Check_r7_go : type_of% (ops_go wal_Check_r7.eq_1 T K fr S) := ops_go wal_Check_r7.eq_1 T K fr S
def wal_Check_r8 : List POper := [Q 2 (.mov (I 2))]
@[simp] theorem wal_Check_r8_go : type_of% (ops_go wal_Check_r8.eq_1 T K fr S) := ops_go wal_Check_r8.eq_1 T K fr S
def wal_Check : PCodeFn :=
  ⟨1, [.tmp 2],
  (.seq (.region wal_Check_r0) (.seq (.clr [(4, 18)] (.region wal_Check_r1)) (.seq (.block 0 (.seq (.clr [(19, 29)] (.region wal_Check_r2)) (.cond (V 18) (.seq (.clr [(29, 32)] (.region wal_Check_r3)) .ret) (.seq (.clr [(33, 43)] (.region wal_Check_r4)) (.cond (V 32) (.seq (.clr [(43, 46)] (.region wal_Check_r5)) .ret) (.seq (.clr [(47, 61)] (.region wal_Check_r6)) (.cond (V 46) (.seq (.clr [(61, 63)] (.region wal_Check_r7)) .ret) .skip))))))) (.seq (.region wal_Check_r8) .ret)))), false⟩

def head_Head_add_r0 : List POper := [Q 4 (.mov (I 0))]
@[simp] theorem head_Head_add_r0_go : type_of% (ops_go head_Head_add_r0.eq_1 T K fr S) := ops_go head_Head_add_r0.eq_1 T K fr S
def head_Head_add_r1 : List POper := [M 8 1,Q 9 (.call .std 24 [(V 8)]),M 5 9]
@[simp] theorem head_Head_add_r1_go : type_of% (ops_go head_Head_add_r1.eq_1 T K fr S) := ops_go head_Head_add_r1.eq_1 T K fr S
def head_Head_add_r2 : List POper := [M 11 0,NK' 12 11,FA 13 1 12,LD 14 13,M 15 5,Q 16 (.mlk true true (.int .i64 0) (V 14) (V 15)),M 10 16,EX 17 0 10,EX 18 1 10,M 6 17,M 7 18]
@[simp] theorem head_Head_add_r2_go : type_of% (ops_go head_Head_add_r2.eq_1 T K fr S) := ops_go head_Head_add_r2.eq_1 T K fr S
def head_Head_add_r3 : List POper := [M 19 7]
@[simp] theorem head_Head_add_r3_go : type_of% (ops_go head_Head_add_r3.eq_1 T K fr S) := ops_go head_Head_add_r3.eq_1 T K fr S
def head_Head_add_r4 : List POper := [Q 4 (.mov (I 10))]
@[simp] theorem head_Head_add_r4_go : type_of% (ops_go head_Head_add_r4.eq_1 T K fr S) := ops_go head_Head_add_r4.eq_1 T K fr S
def head_Head_add_r5 : List POper := [M 20 0,NK' 21 20,FA 22 0 21,LD 23 22,Q 24 (.len false (V 23)),Q 25 (.arith .geq (V 24) (I 256))]
@[simp] theorem head_Head_add_r5_go : type_of% (ops_go head_Head_add_r5.eq_1 T K fr S) := ops_go head_Head_add_r5.eq_1 T K fr S
def head_Head_add_r6 : List POper := [Q 4 (.mov (I 3))]
@[simp] theorem head_Head_add_r6_go : type_of% (ops_go head_Head_add_r6.eq_1 T K fr S) := ops_go head_Head_add_r6.eq_1 T K fr S
def head_Head_add_r7 : List POper := [M 26 0,NK' 27 26,FA 28 1 27,LD 29 28,M 30 5,M 31 0,NK' 32 31,FA 33 0 32,LD 34 33,Q 35 (.len false (V 34)),QN (.mset true (V 29) (V 30) (V 35))]
@[simp] theorem head_Head_add_r7_go : type_of% (ops_go head_Head_add_r7.eq_1 T K fr S) := ops_go head_Head_add_r7.eq_1 T K fr S
def head_Head_add_r8 : List POper := [M 36 0,M 37 0,NK' 38 37,FA 39 0 38,LD 40 39,M 41 1,Q 42 (.call .keep 130 [(V 41)]),Q 43 (.build [.nils, .nils] [(0, 1, (V 42))]),Q 44 (.bsl false (.agg [.nils, .nils]) 1 [(0, (V 43))]),Q 45 (.gapp 2 48 (V 40) (V 44)),NK' 46 36,FA 47 0 46,QN (.store 1 (V 47) (V 45))]
@[simp] theorem head_Head_add_r8_go : type_of% (ops_go head_Head_add_r8.eq_1 T K fr S) := ops_go head_Head_add_r8.eq_1 T K fr S
def head_Head_add_r9 : List POper := [Q 4 (.mov (I 0))]
@[simp] theorem head_Head_add_r9_go : type_of% (ops_go head_Head_add_r9.eq_1 T K fr S) := ops_go head_Head_add_r9.eq_1 T K fr S
def head_Head_add : PCodeFn :=
  ⟨2, [.tmp 4],
  (.seq (.region head_Head_add_r0) (.seq (.clr [(8, 10)] (.region head_Head_add_r1)) (.seq (.seq (.clr [(6, 7), (10, 19)] (.region head_Head_add_r2)) (.seq (.region head_Head_add_r3) (.cond (V 19) (.seq (.region head_Head_add_r4) .ret) .skip))) (.seq (.seq (.clr [(20, 25)] (.region head_Head_add_r5)) (.cond (V 25) (.seq (.region head_Head_add_r6) .ret) .skip)) (.seq (.clr [(26, 36)] (.region head_Head_add_r7)) (.seq (.clr [(36, 48)] (.region head_Head_add_r8)) (.seq (.region head_Head_add_r9) .ret))))))), true⟩

def head_Head_rows_r0 : List POper := [Q 2 (.box false (V 0)),Q 3 (.box false (V 1)),Q 4 (.alloc false [(.int .i64 0)])]
@[simp] theorem head_Head_rows_r0_go : type_of% (ops_go head_Head_rows_r0.eq_1 T K fr S) := ops_go head_Head_rows_r0.eq_1 T K fr S
def head_Head_rows_r1 : List POper := [Q 5 (.alloc false [(.int .i64 0)]),QN (.store 1 (V 5) (I 0))]
@[simp] theorem head_Head_rows_r1_go : type_of% (ops_go head_Head_rows_r1.eq_1 T K fr S) := ops_go head_Head_rows_r1.eq_1 T K fr S
def head_Head_rows_r3 : List POper := [LD 10 3,Q 11 (.len false (V 10)),Q 12 (.mov (I 0))]
@[simp] theorem head_Head_rows_r3_go : type_of% (ops_go head_Head_rows_r3.eq_1 T K fr S) := ops_go head_Head_rows_r3.eq_1 T K fr S
def head_Head_rows_r4 : List POper := [Q 13 (.arith .lss (V 12) (V 11))]
@[simp] theorem head_Head_rows_r4_go : type_of% (ops_go head_Head_rows_r4.eq_1 T K fr S) := ops_go head_Head_rows_r4.eq_1 T K fr S
def head_Head_rows_r5 : List POper := [Q 14 (.iaddr 3 (V 10) (V 12)),Q 15 (.load true 3 false (V 14)),Q 7 (.alloc false [(.int .i64 0), (.int .i64 0), (.int .i64 0)]),QN (.store 3 (V 7) (V 15))]
@[simp] theorem head_Head_rows_r5_go : type_of% (ops_go head_Head_rows_r5.eq_1 T K fr S) := ops_go head_Head_rows_r5.eq_1 T K fr S
def head_Head_rows_r6 : List POper := [FA 17 0 7,LD 18 17,LD 19 2,NK' 20 19,FA 21 0 20,LD 22 21,Q 23 (.len false (V 22)),Q 24 (.arith .geq (V 18) (V 23)),M 16 24]
@[simp] theorem head_Head_rows_r6_go : type_of% (ops_go head_Head_rows_r6.eq_1 T K fr S) := ops_go head_Head_rows_r6.eq_1 T K fr S
def head_Head_rows_r7 : List POper := [QN (.store 1 (V 4) (I 9))]
@[simp] theorem head_Head_rows_r7_go : type_of% (ops_go head_Head_rows_r7.eq_1 T K fr S) := ops_go head_Head_rows_r7.eq_1 T K fr S
def head_Head_rows_r8 : List POper := [LD 26 2,NK' 27 26,FA 28 2 27,LD 29 28,Q 30 (.arith .geq (V 29) (I 65536)),M 25 30]
@[simp] theorem head_Head_rows_r8_go : type_of% (ops_go head_Head_rows_r8.eq_1 T K fr S) := ops_go head_Head_rows_r8.eq_1 T K fr S
def head_Head_rows_r9 : List POper := [QN (.store 1 (V 4) (I 3))]
@[simp] theorem head_Head_rows_r9_go : type_of% (ops_go head_Head_rows_r9.eq_1 T K fr S) := ops_go head_Head_rows_r9.eq_1 T K fr S
def head_Head_rows_r10 : List POper := [FA 32 1 7,FA 33 0 32,LD 34 33,LD 35 2,NK' 36 35,FA 37 0 36,LD 38 37,FA 39 0 7,LD 40 39,Q 41 (.iaddr 2 (V 38) (V 40)),FA 42 1 41,LD 43 42,Q 44 (.call .keep 278 [(V 43)]),Q 45 (.arith .leq (V 34) (V 44)),M 31 45]
@[simp] theorem head_Head_rows_r10_go : type_of% (ops_go head_Head_rows_r10.eq_1 T K fr S) := ops_go head_Head_rows_r10.eq_1 T K fr S
def head_Head_rows_r11 : List POper := [QN (.store 1 (V 4) (I 13))]
@[simp] theorem head_Head_rows_r11_go : type_of% (ops_go head_Head_rows_r11.eq_1 T K fr S) := ops_go head_Head_rows_r11.eq_1 T K fr S
def head_Head_rows_r12 : List POper := [LD 46 2,NK' 47 46,FA 48 0 47,LD 49 48,FA 50 0 7,LD 51 50,Q 52 (.iaddr 2 (V 49) (V 51)),M 8 52]
@[simp] theorem head_Head_rows_r12_go : type_of% (ops_go head_Head_rows_r12.eq_1 T K fr S) := ops_go head_Head_rows_r12.eq_1 T K fr S
def head_Head_rows_r13 : List POper := [M 53 8,M 54 8,NK' 55 54,FA 56 1 55,LD 57 56,FA 58 1 7,Q 59 (.load true 2 false (V 58)),Q 60 (.bsl false (.agg [(.int .i64 0), (.int .i64 0)]) 1 [(0, (V 59))]),Q 61 (.gapp 2 16 (V 57) (V 60)),NK' 62 53,FA 63 1 62,QN (.store 1 (V 63) (V 61))]
@[simp] theorem head_Head_rows_r13_go : type_of% (ops_go head_Head_rows_r13.eq_1 T K fr S) := ops_go head_Head_rows_r13.eq_1 T K fr S
def head_Head_rows_r14 : List POper := [LD 64 2,NK' 65 64,FA 66 2 65,LD 67 66,Q 68 (.arith .add (V 67) (I 1)),NK' 69 64,FA 70 2 69,QN (.store 1 (V 70) (V 68))]
@[simp] theorem head_Head_rows_r14_go : type_of% (ops_go head_Head_rows_r14.eq_1 T K fr S) := ops_go head_Head_rows_r14.eq_1 T K fr S
def head_Head_rows_r15 : List POper := [LD 71 5,Q 72 (.arith .add (V 71) (I 1)),QN (.store 1 (V 5) (V 72))]
@[simp] theorem head_Head_rows_r15_go : type_of% (ops_go head_Head_rows_r15.eq_1 T K fr S) := ops_go head_Head_rows_r15.eq_1 T K fr S
def head_Head_rows_r16 : List POper := [Q 73 (.arith .add (V 12) (I 1)),M 12 73]
@[simp] theorem head_Head_rows_r16_go : type_of% (ops_go head_Head_rows_r16.eq_1 T K fr S) := ops_go head_Head_rows_r16.eq_1 T K fr S
def head_Head_rows_l0 : PCode :=
  (.seq (.region head_Head_rows_r4) (.seq (.cond (V 13) .skip (.exit 0)) (.seq (.block 1 (.seq (.clr [(14, 16)] (.region head_Head_rows_r5)) (.seq (.block 2 (.seq (.clr [(17, 25)] (.region head_Head_rows_r6)) (.cond (V 16) (.seq (.region head_Head_rows_r7) .ret) (.seq (.clr [(26, 31)] (.region head_Head_rows_r8)) (.cond (V 25) (.seq (.region head_Head_rows_r9) .ret) (.seq (.clr [(32, 46)] (.region head_Head_rows_r10)) (.cond (V 31) (.seq (.region head_Head_rows_r11) .ret) .skip))))))) (.seq (.clr [(46, 53)] (.region head_Head_rows_r12)) (.seq (.clr [(53, 64)] (.region head_Head_rows_r13)) (.seq (.clr [(64, 71)] (.region head_Head_rows_r14)) (.clr [(71, 73)] (.region head_Head_rows_r15)))))))) (.clr [(73, 74)] (.region head_Head_rows_r16)))))
@[simp] theorem head_Head_rows_l0_go : type_of% (code_go head_Head_rows_l0.eq_1 T K fr S) := code_go head_Head_rows_l0.eq_1 T K fr S
def head_Head_rows_r17 : List POper := [QN (.store 1 (V 4) (I 0))]
@[simp] theorem head_Head_rows_r17_go : type_of% (ops_go head_Head_rows_r17.eq_1 T K fr S) := ops_go head_Head_rows_r17.eq_1 T K fr S
def head_Head_rows : PDef :=
  ⟨2, [.cell 4 false 1],
  [(.region head_Head_rows_r0), (.region head_Head_rows_r1)],⟨some 9, .mkfn 277 [(.tmp 4), (.tmp 5), (.tmp 2), (.tmp 3)], none⟩, 9,
  (.seq (.seq (.region head_Head_rows_r3) (.block 0 (.loop head_Head_rows_l0))) (.seq (.region head_Head_rows_r17) .ret)), true⟩

def head_Head_remove_r0 : List POper := [Q 3 (.box false (V 1)),Q 4 (.mov (I 0))]
@[simp] theorem head_Head_remove_r0_go : type_of% (ops_go head_Head_remove_r0.eq_1 T K fr S) := ops_go head_Head_remove_r0.eq_1 T K fr S
def head_Head_remove_r1 : List POper := [FA 9 3 3,LD 10 9,FA 11 3 3,LD 12 11,Q 13 (.len false (V 12)),Q 14 (.arith .sub (V 13) (I 1)),Q 15 (.iaddr 1 (V 10) (V 14)),LD 16 15,M 17 0,NK' 18 17,FA 19 0 18,LD 20 19,Q 21 (.len false (V 20)),Q 22 (.arith .geq (V 16) (V 21))]
@[simp] theorem head_Head_remove_r1_go : type_of% (ops_go head_Head_remove_r1.eq_1 T K fr S) := ops_go head_Head_remove_r1.eq_1 T K fr S
def head_Head_remove_r2 : List POper := [Q 4 (.mov (I 9))]
@[simp] theorem head_Head_remove_r2_go : type_of% (ops_go head_Head_remove_r2.eq_1 T K fr S) := ops_go head_Head_remove_r2.eq_1 T K fr S
def head_Head_remove_r3 : List POper := [FA 23 3 3,LD 24 23,Q 25 (.len false (V 24)),Q 26 (.mov (I 0))]
@[simp] theorem head_Head_remove_r3_go : type_of% (ops_go head_Head_remove_r3.eq_1 T K fr S) := ops_go head_Head_remove_r3.eq_1 T K fr S
def head_Head_remove_r4 : List POper := [Q 27 (.arith .lss (V 26) (V 25))]
@[simp] theorem head_Head_remove_r4_go : type_of% (ops_go head_Head_remove_r4.eq_1 T K fr S) := ops_go head_Head_remove_r4.eq_1 T K fr S
def head_Head_remove_r5 : List POper := [Q 28 (.iaddr 1 (V 24) (V 26)),LD 29 28,M 6 29]
@[simp] theorem head_Head_remove_r5_go : type_of% (ops_go head_Head_remove_r5.eq_1 T K fr S) := ops_go head_Head_remove_r5.eq_1 T K fr S
def head_Head_remove_r6 : List POper := [M 30 0,NK' 31 30,FA 32 0 31,LD 33 32,M 34 6,Q 35 (.iaddr 2 (V 33) (V 34)),M 7 35]
@[simp] theorem head_Head_remove_r6_go : type_of% (ops_go head_Head_remove_r6.eq_1 T K fr S) := ops_go head_Head_remove_r6.eq_1 T K fr S
def head_Head_remove_r7 : List POper := [M 36 7,NK' 37 36,FA 38 1 37,LD 39 38,Q 40 (.len false (V 39)),M 8 40]
@[simp] theorem head_Head_remove_r7_go : type_of% (ops_go head_Head_remove_r7.eq_1 T K fr S) := ops_go head_Head_remove_r7.eq_1 T K fr S
def head_Head_remove_r8 : List POper := [M 41 7,M 42 7,NK' 43 42,FA 44 1 43,LD 45 44,Q 46 (.mkfn 280 [(V 3)]),Q 47 (.call .std 279 [(V 45), (V 46)]),NK' 48 41,FA 49 1 48,QN (.store 1 (V 49) (V 47))]
@[simp] theorem head_Head_remove_r8_go : type_of% (ops_go head_Head_remove_r8.eq_1 T K fr S) := ops_go head_Head_remove_r8.eq_1 T K fr S
def head_Head_remove_r9 : List POper := [M 50 0,NK' 51 50,FA 52 2 51,LD 53 52,M 54 8,M 55 7,NK' 56 55,FA 57 1 56,LD 58 57,Q 59 (.len false (V 58)),Q 60 (.arith .sub (V 54) (V 59)),Q 61 (.arith .sub (V 53) (V 60)),NK' 62 50,FA 63 2 62,QN (.store 1 (V 63) (V 61))]
@[simp] theorem head_Head_remove_r9_go : type_of% (ops_go head_Head_remove_r9.eq_1 T K fr S) := ops_go head_Head_remove_r9.eq_1 T K fr S
def head_Head_remove_r10 : List POper := [Q 64 (.arith .add (V 26) (I 1)),M 26 64]
@[simp] theorem head_Head_remove_r10_go : type_of% (ops_go head_Head_remove_r10.eq_1 T K fr S) := ops_go head_Head_remove_r10.eq_1 T K fr S
def head_Head_remove_l0 : PCode :=
  (.seq (.region head_Head_remove_r4) (.seq (.cond (V 27) .skip (.exit 0)) (.seq (.block 1 (.seq (.clr [(28, 30)] (.region head_Head_remove_r5)) (.seq (.clr [(30, 36)] (.region head_Head_remove_r6)) (.seq (.clr [(36, 41)] (.region head_Head_remove_r7)) (.seq (.clr [(41, 50)] (.region head_Head_remove_r8)) (.clr [(50, 64)] (.region head_Head_remove_r9))))))) (.clr [(64, 65)] (.region head_Head_remove_r10)))))
@[simp] theorem head_Head_remove_l0_go : type_of% (code_go head_Head_remove_l0.eq_1 T K fr S) := code_go head_Head_remove_l0.eq_1 T K fr S
def head_Head_remove_r11 : List POper := [Q 4 (.mov (I 0))]
@[simp] theorem head_Head_remove_r11_go : type_of% (ops_go head_Head_remove_r11.eq_1 T K fr S) := ops_go head_Head_remove_r11.eq_1 T K fr S
def head_Head_remove : PCodeFn :=
  ⟨2, [.tmp 4],
  (.seq (.region head_Head_remove_r0) (.seq (.seq (.clr [(9, 22)] (.region head_Head_remove_r1)) (.cond (V 22) (.seq (.region head_Head_remove_r2) .ret) .skip)) (.seq (.seq (.clr [(23, 24)] (.region head_Head_remove_r3)) (.block 0 (.loop head_Head_remove_l0))) (.seq (.region head_Head_remove_r11) .ret)))), true⟩

def head_Head_Last_r0 : List POper := [Q 4 (.mov (I 0)),Q 5 (.mov (I 0))]
@[simp] theorem head_Head_Last_r0_go : type_of% (ops_go head_Head_Last_r0.eq_1 T K fr S) := ops_go head_Head_Last_r0.eq_1 T K fr S
def head_Head_Last_r1 : List POper := [M 9 0,M 10 1,Q 11 (.call .std 291 [(V 9), (V 10)]),M 8 11,EX 12 0 8,EX 13 1 8,Q 6 (.alloc false [.nils, .nils]),QN (.store 2 (V 6) (V 12)),M 7 13]
@[simp] theorem head_Head_Last_r1_go : type_of% (ops_go head_Head_Last_r1.eq_1 T K fr S) := ops_go head_Head_Last_r1.eq_1 T K fr S
def head_Head_Last_r2 : List POper := [M 14 7,Q 15 (.arith .neq (V 14) (I 0))]
@[simp] theorem head_Head_Last_r2_go : type_of% (ops_go head_Head_Last_r2.eq_1 T K fr S) := ops_go head_Head_Last_r2.eq_1 T K fr S
def head_Head_Last_r3 : List POper := [M 16 7,Q 4 (.mov (I 0)),M 5 16]
@[simp] theorem head_Head_Last_r3_go : type_of% (ops_go head_Head_Last_r3.eq_1 T K fr S) := ops_go head_Head_Last_r3.eq_1 T K fr S
def head_Head_Last_r4 : List POper := [FA 17 1 6,LD 18 17,Q 19 (.call .std 278 [(V 18)]),M 4 19,Q 5 (.mov (I 0))]
@[simp] theorem head_Head_Last_r4_go : type_of% (ops_go head_Head_Last_r4.eq_1 T K fr S) := ops_go head_Head_Last_r4.eq_1 T K fr S
def head_Head_Last : PCodeFn :=
  ⟨2, [.tmp 4, .tmp 5],
  (.seq (.region head_Head_Last_r0) (.seq (.clr [(8, 14)] (.region head_Head_Last_r1)) (.seq (.seq (.clr [(14, 15)] (.region head_Head_Last_r2)) (.cond (V 15) (.seq (.clr [(16, 17)] (.region head_Head_Last_r3)) .ret) .skip)) (.seq (.clr [(17, 20)] (.region head_Head_Last_r4)) .ret)))), false⟩

def head_Head_at_r0 : List POper := [Q 4 (.alloc false [.nils, .nils]),Q 5 (.mov (I 0))]
@[simp] theorem head_Head_at_r0_go : type_of% (ops_go head_Head_at_r0.eq_1 T K fr S) := ops_go head_Head_at_r0.eq_1 T K fr S
def head_Head_at_r1 : List POper := [M 7 0,Q 8 (.eqn false .p (V 7)),M 6 8]
@[simp] theorem head_Head_at_r1_go : type_of% (ops_go head_Head_at_r1.eq_1 T K fr S) := ops_go head_Head_at_r1.eq_1 T K fr S
def head_Head_at_r2 : List POper := [Q 9 (.build [.nils, .nils] []),QN (.store 2 (V 4) (V 9)),Q 5 (.mov (I 1))]
@[simp] theorem head_Head_at_r2_go : type_of% (ops_go head_Head_at_r2.eq_1 T K fr S) := ops_go head_Head_at_r2.eq_1 T K fr S
def head_Head_at_r3 : List POper := [M 11 1,Q 12 (.arith .lss (V 11) (I 0)),M 13 12,QG (some 14) (.mov (V 1)) 13 false,QG (some 15) (.mov (V 0)) 13 false,QG (some 16) (.nilck (V 15)) 13 false,QG (some 17) (.faddr 0 (V 16)) 13 false,QG (some 18) (.load false 1 false (V 17)) 13 false,QG (some 19) (.len false (V 18)) 13 false,QG (some 20) (.arith .geq (V 14) (V 19)) 13 false,Q 21 (.pick (V 13) tt' (V 20)),M 10 21]
@[simp] theorem head_Head_at_r3_go : type_of% (ops_go head_Head_at_r3.eq_1 T K fr S) := ops_go head_Head_at_r3.eq_1 T K fr S
def head_Head_at_r4 : List POper := [Q 22 (.build [.nils, .nils] []),QN (.store 2 (V 4) (V 22)),Q 5 (.mov (I 9))]
@[simp] theorem head_Head_at_r4_go : type_of% (ops_go head_Head_at_r4.eq_1 T K fr S) := ops_go head_Head_at_r4.eq_1 T K fr S
def head_Head_at_r5 : List POper := [M 23 0,NK' 24 23,FA 25 0 24,LD 26 25,M 27 1,Q 28 (.iaddr 2 (V 26) (V 27)),Q 29 (.load true 2 false (V 28)),QN (.store 2 (V 4) (V 29)),Q 5 (.mov (I 0))]
@[simp] theorem head_Head_at_r5_go : type_of% (ops_go head_Head_at_r5.eq_1 T K fr S) := ops_go head_Head_at_r5.eq_1 T K fr S
def head_Head_at : PCodeFn :=
  ⟨2, [.cell 4 true 2, .tmp 5],
  (.seq (.region head_Head_at_r0) (.seq (.block 0 (.seq (.clr [(7, 9)] (.region head_Head_at_r1)) (.cond (V 6) (.seq (.clr [(9, 10)] (.region head_Head_at_r2)) .ret) (.seq (.clr [(11, 22)] (.region head_Head_at_r3)) (.cond (V 10) (.seq (.clr [(22, 23)] (.region head_Head_at_r4)) .ret) .skip))))) (.seq (.clr [(23, 30)] (.region head_Head_at_r5)) .ret))), false⟩

def ref06_Same_r0 : List POper := [Q 4 (.mov ff')]
@[simp] theorem ref06_Same_r0_go : type_of% (ops_go ref06_Same_r0.eq_1 T K fr S) := ops_go ref06_Same_r0.eq_1 T K fr S
def ref06_Same_r1 : List POper := [M 5 0,M 6 1,Q 7 (.call .std 102 [(V 5), (V 6)]),Q 8 (.arith .eql (V 7) (I 0)),M 4 8]
@[simp] theorem ref06_Same_r1_go : type_of% (ops_go ref06_Same_r1.eq_1 T K fr S) := ops_go ref06_Same_r1.eq_1 T K fr S
def ref06_Same : PCodeFn :=
  ⟨2, [.tmp 4],
  (.seq (.region ref06_Same_r0) (.seq (.clr [(5, 9)] (.region ref06_Same_r1)) .ret)), false⟩

def slices_DeleteFunc_Series_r0 : List POper := [Q 4 (.mov (.cst .nils))]
@[simp] theorem slices_DeleteFunc_Series_r0_go : type_of% (ops_go slices_DeleteFunc_Series_r0.eq_1 T K fr S) := ops_go slices_DeleteFunc_Series_r0.eq_1 T K fr S
def slices_DeleteFunc_Series_r1 : List POper := [M 8 0,M 9 1,Q 10 (.call .std 345 [(V 8), (V 9)]),M 5 10]
@[simp] theorem slices_DeleteFunc_Series_r1_go : type_of% (ops_go slices_DeleteFunc_Series_r1.eq_1 T K fr S) := ops_go slices_DeleteFunc_Series_r1.eq_1 T K fr S
def slices_DeleteFunc_Series_r2 : List POper := [M 11 5,Q 12 (.arith .eql (V 11) (I (-1)))]
@[simp] theorem slices_DeleteFunc_Series_r2_go : type_of% (ops_go slices_DeleteFunc_Series_r2.eq_1 T K fr S) := ops_go slices_DeleteFunc_Series_r2.eq_1 T K fr S
def slices_DeleteFunc_Series_r3 : List POper := [M 13 0,M 4 13]
@[simp] theorem slices_DeleteFunc_Series_r3_go : type_of% (ops_go slices_DeleteFunc_Series_r3.eq_1 T K fr S) := ops_go slices_DeleteFunc_Series_r3.eq_1 T K fr S
def slices_DeleteFunc_Series_r4 : List POper := [M 14 5,Q 15 (.arith .add (V 14) (I 1)),M 6 15]
@[simp] theorem slices_DeleteFunc_Series_r4_go : type_of% (ops_go slices_DeleteFunc_Series_r4.eq_1 T K fr S) := ops_go slices_DeleteFunc_Series_r4.eq_1 T K fr S
def slices_DeleteFunc_Series_r5 : List POper := [M 16 6,M 17 0,Q 18 (.len false (V 17)),Q 19 (.arith .lss (V 16) (V 18))]
@[simp] theorem slices_DeleteFunc_Series_r5_go : type_of% (ops_go slices_DeleteFunc_Series_r5.eq_1 T K fr S) := ops_go slices_DeleteFunc_Series_r5.eq_1 T K fr S
def slices_DeleteFunc_Series_r7 : List POper := [M 22 0,M 23 6,Q 24 (.iaddr 2 (V 22) (V 23)),Q 25 (.load true 2 false (V 24)),Q 7 (.alloc false [.nils, .nils]),QN (.store 2 (V 7) (V 25))]
@[simp] theorem slices_DeleteFunc_Series_r7_go : type_of% (ops_go slices_DeleteFunc_Series_r7.eq_1 T K fr S) := ops_go slices_DeleteFunc_Series_r7.eq_1 T K fr S
def slices_DeleteFunc_Series_r8 : List POper := [M 26 1,Q 27 (.load true 2 false (V 7)),Q 28 (.callv .std (V 26) [(V 27)]),Q 29 (.un .not (V 28))]
@[simp] theorem slices_DeleteFunc_Series_r8_go : type_of% (ops_go slices_DeleteFunc_Series_r8.eq_1 T K fr S) := ops_go slices_DeleteFunc_Series_r8.eq_1 T K fr S
def slices_DeleteFunc_Series_r9 : List POper := [M 30 0,M 31 5,Q 32 (.load true 2 false (V 7)),Q 33 (.iaddr 2 (V 30) (V 31)),QN (.store 2 (V 33) (V 32))]
@[simp] theorem slices_DeleteFunc_Series_r9_go : type_of% (ops_go slices_DeleteFunc_Series_r9.eq_1 T K fr S) := ops_go slices_DeleteFunc_Series_r9.eq_1 T K fr S
def slices_DeleteFunc_Series_r10 : List POper := [M 34 5,Q 35 (.arith .add (V 34) (I 1)),M 5 35]
@[simp] theorem slices_DeleteFunc_Series_r10_go : type_of% (ops_go slices_DeleteFunc_Series_r10.eq_1 T K fr S) := ops_go slices_DeleteFunc_Series_r10.eq_1 T K fr S
def slices_DeleteFunc_Series_r6 : List POper := [M 20 6,Q 21 (.arith .add (V 20) (I 1)),M 6 21]
@[simp] theorem slices_DeleteFunc_Series_r6_go : type_of% (ops_go slices_DeleteFunc_Series_r6.eq_1 T K fr S) := ops_go slices_DeleteFunc_Series_r6.eq_1 T K fr S
def slices_DeleteFunc_Series_l0 : PCode :=
  (.seq (.seq (.clr [(16, 19)] (.region slices_DeleteFunc_Series_r5)) (.cond (V 19) .skip (.exit 0))) (.seq (.block 1 (.seq (.clr [(22, 26)] (.region slices_DeleteFunc_Series_r7)) (.seq (.clr [(26, 29)] (.region slices_DeleteFunc_Series_r8)) (.cond (V 29) (.seq (.clr [(30, 34)] (.region slices_DeleteFunc_Series_r9)) (.clr [(34, 36)] (.region slices_DeleteFunc_Series_r10))) .skip)))) (.clr [(20, 22)] (.region slices_DeleteFunc_Series_r6))))
@[simp] theorem slices_DeleteFunc_Series_l0_go : type_of% (code_go slices_DeleteFunc_Series_l0.eq_1 T K fr S) := code_go slices_DeleteFunc_Series_l0.eq_1 T K fr S
def slices_DeleteFunc_Series_r11 : List POper := [M 36 0,M 37 5,Q 38 (.slc 2 (some (V 37)) none (V 36)),QN (.gclr 2 [.nils, .nils] (V 38))]
@[simp] theorem slices_DeleteFunc_Series_r11_go : type_of% (ops_go slices_DeleteFunc_Series_r11.eq_1 T K fr S) := ops_go slices_DeleteFunc_Series_r11.eq_1 T K fr S
def slices_DeleteFunc_Series_r12 : List POper := [M 39 0,M 40 5,Q 41 (.slc 2 none (some (V 40)) (V 39)),M 4 41]
@[simp] theorem slices_DeleteFunc_Series_r12_go : type_of% (ops_go slices_DeleteFunc_Series_r12.eq_1 T K fr S) := ops_go slices_DeleteFunc_Series_r12.eq_1 T K fr S
def slices_DeleteFunc_Series : PCodeFn :=
  ⟨2, [.tmp 4],
  (.seq (.region slices_DeleteFunc_Series_r0) (.seq (.clr [(8, 11)] (.region slices_DeleteFunc_Series_r1)) (.seq (.seq (.clr [(11, 12)] (.region slices_DeleteFunc_Series_r2)) (.cond (V 12) (.seq (.clr [(13, 14)] (.region slices_DeleteFunc_Series_r3)) .ret) .skip)) (.seq (.seq (.clr [(14, 16)] (.region slices_DeleteFunc_Series_r4)) (.block 0 (.loop slices_DeleteFunc_Series_l0))) (.seq (.clr [(36, 39)] (.region slices_DeleteFunc_Series_r11)) (.seq (.clr [(39, 42)] (.region slices_DeleteFunc_Series_r12)) .ret)))))), true⟩

def head_copied_r0 : List POper := [Q 2 (.mov (.cst .nils))]
@[simp] theorem head_copied_r0_go : type_of% (ops_go head_copied_r0.eq_1 T K fr S) := ops_go head_copied_r0.eq_1 T K fr S
def head_copied_r1 : List POper := [Q 3 (.mov (.cst .nils))]
@[simp] theorem head_copied_r1_go : type_of% (ops_go head_copied_r1.eq_1 T K fr S) := ops_go head_copied_r1.eq_1 T K fr S
def head_copied_r2 : List POper := [M 6 0,Q 7 (.len false (V 6)),Q 8 (.mov (I 0))]
@[simp] theorem head_copied_r2_go : type_of% (ops_go head_copied_r2.eq_1 T K fr S) := ops_go head_copied_r2.eq_1 T K fr S
def head_copied_r3 : List POper := [Q 9 (.arith .lss (V 8) (V 7))]
@[simp] theorem head_copied_r3_go : type_of% (ops_go head_copied_r3.eq_1 T K fr S) := ops_go head_copied_r3.eq_1 T K fr S
def head_copied_r4 : List POper := [Q 10 (.iaddr 2 (V 6) (V 8)),Q 11 (.load true 2 false (V 10)),Q 5 (.alloc false [.nils, .nils]),QN (.store 2 (V 5) (V 11))]
@[simp] theorem head_copied_r4_go : type_of% (ops_go head_copied_r4.eq_1 T K fr S) := ops_go head_copied_r4.eq_1 T K fr S
def head_copied_r5 : List POper := [M 12 3,FA 13 0 5,LD 14 13,Q 15 (.call .pur 130 [(V 14)]),FA 16 1 5,LD 17 16,Q 18 (.call .std 283 [(V 17)]),Q 19 (.build [.nils, .nils] [(0, 1, (V 15)), (1, 1, (V 18))]),Q 20 (.bsl false (.agg [.nils, .nils]) 1 [(0, (V 19))]),Q 21 (.gapp 2 48 (V 12) (V 20)),M 3 21]
@[simp] theorem head_copied_r5_go : type_of% (ops_go head_copied_r5.eq_1 T K fr S) := ops_go head_copied_r5.eq_1 T K fr S
def head_copied_r6 : List POper := [Q 22 (.arith .add (V 8) (I 1)),M 8 22]
@[simp] theorem head_copied_r6_go : type_of% (ops_go head_copied_r6.eq_1 T K fr S) := ops_go head_copied_r6.eq_1 T K fr S
def head_copied_l0 : PCode :=
  (.seq (.region head_copied_r3) (.seq (.cond (V 9) .skip (.exit 0)) (.seq (.block 1 (.seq (.clr [(10, 12)] (.region head_copied_r4)) (.clr [(12, 22)] (.region head_copied_r5)))) (.clr [(22, 23)] (.region head_copied_r6)))))
@[simp] theorem head_copied_l0_go : type_of% (code_go head_copied_l0.eq_1 T K fr S) := code_go head_copied_l0.eq_1 T K fr S
def head_copied_r7 : List POper := [M 23 3,M 2 23]
@[simp] theorem head_copied_r7_go : type_of% (ops_go head_copied_r7.eq_1 T K fr S) := ops_go head_copied_r7.eq_1 T K fr S
def head_copied : PCodeFn :=
  ⟨1, [.tmp 2],
  (.seq (.region head_copied_r0) (.seq (.region head_copied_r1) (.seq (.seq (.region head_copied_r2) (.block 0 (.loop head_copied_l0))) (.seq (.clr [(23, 24)] (.region head_copied_r7)) .ret)))), true⟩

def head_Head_Series_1_r0 : List POper := [Q 1 (.box true (V 0)),Q 2 (.mov ff')]
@[simp] theorem head_Head_Series_1_r0_go : type_of% (ops_go head_Head_Series_1_r0.eq_1 T K fr S) := ops_go head_Head_Series_1_r0.eq_1 T K fr S
def head_Head_Series_1_r1 : List POper := [FA 3 1 1,LD 4 3,Q 5 (.len false (V 4)),Q 6 (.arith .eql (V 5) (I 0)),M 2 6]
@[simp] theorem head_Head_Series_1_r1_go : type_of% (ops_go head_Head_Series_1_r1.eq_1 T K fr S) := ops_go head_Head_Series_1_r1.eq_1 T K fr S
def head_Head_Series_1 : PCodeFn :=
  ⟨1, [.tmp 2],
  (.seq (.region head_Head_Series_1_r0) (.seq (.clr [(3, 7)] (.region head_Head_Series_1_r1)) .ret)), false⟩

def slices_SortFunc_Series_r0 : List POper := [M 5 0,Q 6 (.len false (V 5)),M 4 6]
@[simp] theorem slices_SortFunc_Series_r0_go : type_of% (ops_go slices_SortFunc_Series_r0.eq_1 T K fr S) := ops_go slices_SortFunc_Series_r0.eq_1 T K fr S
def slices_SortFunc_Series_r1 : List POper := [M 7 0,M 8 4,M 9 4,Q 10 (.toInt .u64 (V 9)),Q 11 (.call .pur 317 [(V 10)]),M 12 1,Q 13 (.call .std 346 [(V 7), (I 0), (V 8), (V 11), (V 12)])]
@[simp] theorem slices_SortFunc_Series_r1_go : type_of% (ops_go slices_SortFunc_Series_r1.eq_1 T K fr S) := ops_go slices_SortFunc_Series_r1.eq_1 T K fr S
def slices_SortFunc_Series : PCodeFn :=
  ⟨2, [],
  (.seq (.clr [(5, 7)] (.region slices_SortFunc_Series_r0)) (.clr [(7, 14)] (.region slices_SortFunc_Series_r1))), true⟩

def head_Head_Series_2_r0 : List POper := [Q 2 (.box true (V 0)),Q 3 (.box true (V 1)),Q 4 (.mov (I 0))]
@[simp] theorem head_Head_Series_2_r0_go : type_of% (ops_go head_Head_Series_2_r0.eq_1 T K fr S) := ops_go head_Head_Series_2_r0.eq_1 T K fr S
def head_Head_Series_2_r1 : List POper := [FA 5 0 2,LD 6 5,FA 7 0 3,LD 8 7,Q 9 (.call .std 28 [(V 6), (V 8)]),M 4 9]
@[simp] theorem head_Head_Series_2_r1_go : type_of% (ops_go head_Head_Series_2_r1.eq_1 T K fr S) := ops_go head_Head_Series_2_r1.eq_1 T K fr S
def head_Head_Series_2 : PCodeFn :=
  ⟨2, [.tmp 4],
  (.seq (.region head_Head_Series_2_r0) (.seq (.clr [(5, 10)] (.region head_Head_Series_2_r1)) .ret)), false⟩

def label_Compare_r0 : List POper := [Q 4 (.mov (I 0))]
@[simp] theorem label_Compare_r0_go : type_of% (ops_go label_Compare_r0.eq_1 T K fr S) := ops_go label_Compare_r0.eq_1 T K fr S
def label_Compare_r1 : List POper := [M 5 0,M 6 1,Q 7 (.call .std 103 [(V 5), (V 6), (.cst (.fn 104 []))]),M 4 7]
@[simp] theorem label_Compare_r1_go : type_of% (ops_go label_Compare_r1.eq_1 T K fr S) := ops_go label_Compare_r1.eq_1 T K fr S
def label_Compare : PCodeFn :=
  ⟨2, [.tmp 4],
  (.seq (.region label_Compare_r0) (.seq (.clr [(5, 8)] (.region label_Compare_r1)) .ret)), false⟩

def label_Print_r0 : List POper := [Q 2 (.mov (.cst (.str [])))]
@[simp] theorem label_Print_r0_go : type_of% (ops_go label_Print_r0.eq_1 T K fr S) := ops_go label_Print_r0.eq_1 T K fr S
def label_Print_r1 : List POper := [Q 3 (.mov (.cst .nils))]
@[simp] theorem label_Print_r1_go : type_of% (ops_go label_Print_r1.eq_1 T K fr S) := ops_go label_Print_r1.eq_1 T K fr S
def label_Print_r2 : List POper := [M 6 0,Q 7 (.len false (V 6)),Q 8 (.mov (I 0))]
@[simp] theorem label_Print_r2_go : type_of% (ops_go label_Print_r2.eq_1 T K fr S) := ops_go label_Print_r2.eq_1 T K fr S
def label_Print_r3 : List POper := [Q 9 (.arith .lss (V 8) (V 7))]
@[simp] theorem label_Print_r3_go : type_of% (ops_go label_Print_r3.eq_1 T K fr S) := ops_go label_Print_r3.eq_1 T K fr S
def label_Print_r4 : List POper := [Q 10 (.iaddr 2 (V 6) (V 8)),Q 11 (.load true 2 false (V 10)),Q 5 (.alloc false [(.str []), (.str [])]),QN (.store 2 (V 5) (V 11))]
@[simp] theorem label_Print_r4_go : type_of% (ops_go label_Print_r4.eq_1 T K fr S) := ops_go label_Print_r4.eq_1 T K fr S
def label_Print_r5 : List POper := [M 12 3,FA 13 0 5,LD 14 13,Q 15 (.arith .add (V 14) (.cst (.str [61]))),FA 16 1 5,LD 17 16,Q 18 (.call .pur 99 [(V 17)]),Q 19 (.arith .add (V 15) (V 18)),Q 20 (.bsl false (.str []) 1 [(0, (V 19))]),Q 21 (.app 1 16 (V 12) (V 20)),M 3 21]
@[simp] theorem label_Print_r5_go : type_of% (ops_go label_Print_r5.eq_1 T K fr S) := ops_go label_Print_r5.eq_1 T K fr S
def label_Print_r6 : List POper := [Q 22 (.arith .add (V 8) (I 1)),M 8 22]
@[simp] theorem label_Print_r6_go : type_of% (ops_go label_Print_r6.eq_1 T K fr S) := ops_go label_Print_r6.eq_1 T K fr S
def label_Print_l0 : PCode :=
  (.seq (.region label_Print_r3) (.seq (.cond (V 9) .skip (.exit 0)) (.seq (.block 1 (.seq (.clr [(10, 12)] (.region label_Print_r4)) (.clr [(12, 22)] (.region label_Print_r5)))) (.clr [(22, 23)] (.region label_Print_r6)))))
@[simp] theorem label_Print_l0_go : type_of% (code_go label_Print_l0.eq_1 T K fr S) := code_go label_Print_l0.eq_1 T K fr S
def label_Print_r7 : List POper := [M 23 3,Q 24 (.call .std 100 [(V 23), (.cst (.str [44, 32]))]),Q 25 (.arith .add (.cst (.str [123])) (V 24)),Q 26 (.arith .add (V 25) (.cst (.str [125]))),M 2 26]
@[simp] theorem label_Print_r7_go : type_of% (ops_go label_Print_r7.eq_1 T K fr S) := ops_go label_Print_r7.eq_1 T K fr S
def label_Print : PCodeFn :=
  ⟨1, [.tmp 2],
  (.seq (.region label_Print_r0) (.seq (.region label_Print_r1) (.seq (.seq (.region label_Print_r2) (.block 0 (.loop label_Print_l0))) (.seq (.clr [(23, 27)] (.region label_Print_r7)) .ret)))), false⟩

def label_Check_r0 : List POper := [Q 2 (.mov (I 0))]
@[simp] theorem label_Check_r0_go : type_of% (ops_go label_Check_r0.eq_1 T K fr S) := ops_go label_Check_r0.eq_1 T K fr S
def label_Check_r1 : List POper := [M 5 0,Q 6 (.len false (V 5)),Q 7 (.arith .gtr (V 6) (I 8))]
@[simp] theorem label_Check_r1_go : type_of% (ops_go label_Check_r1.eq_1 T K fr S) := ops_go label_Check_r1.eq_1 T K fr S
def label_Check_r2 : List POper := [Q 2 (.mov (I 3))]
@[simp] theorem label_Check_r2_go : type_of% (ops_go label_Check_r2.eq_1 T K fr S) := ops_go label_Check_r2.eq_1 T K fr S
def label_Check_r3 : List POper := [M 8 0,Q 9 (.len false (V 8)),Q 10 (.mov (I 0))]
@[simp] theorem label_Check_r3_go : type_of% (ops_go label_Check_r3.eq_1 T K fr S) := ops_go label_Check_r3.eq_1 T K fr S
def label_Check_r4 : List POper := [Q 11 (.arith .lss (V 10) (V 9))]
@[simp] theorem label_Check_r4_go : type_of% (ops_go label_Check_r4.eq_1 T K fr S) := ops_go label_Check_r4.eq_1 T K fr S
def label_Check_r5 : List POper := [M 12 10,Q 13 (.iaddr 2 (V 8) (V 10)),Q 14 (.load true 2 false (V 13)),Q 4 (.alloc false [(.str []), (.str [])]),M 3 12,QN (.store 2 (V 4) (V 14))]
@[simp] theorem label_Check_r5_go : type_of% (ops_go label_Check_r5.eq_1 T K fr S) := ops_go label_Check_r5.eq_1 T K fr S
def label_Check_r6 : List POper := [FA 16 0 4,LD 17 16,Q 18 (.call .pur 121 [(V 17)]),Q 19 (.un .not (V 18)),M 15 19]
@[simp] theorem label_Check_r6_go : type_of% (ops_go label_Check_r6.eq_1 T K fr S) := ops_go label_Check_r6.eq_1 T K fr S
def label_Check_r7 : List POper := [Q 2 (.mov (I 8))]
@[simp] theorem label_Check_r7_go : type_of% (ops_go label_Check_r7.eq_1 T K fr S) := ops_go label_Check_r7.eq_1 T K fr S
def label_Check_r8 : List POper := [FA 21 1 4,LD 22 21,Q 23 (.arith .eql (V 22) (.cst (.str []))),M 20 23]
@[simp] theorem label_Check_r8_go : type_of% (ops_go label_Check_r8.eq_1 T K fr S) := ops_go label_Check_r8.eq_1 T K fr S
def label_Check_r9 : List POper := [Q 2 (.mov (I 2))]
@[simp] theorem label_Check_r9_go : type_of% (ops_go label_Check_r9.eq_1 T K fr S) := ops_go label_Check_r9.eq_1 T K fr S
def label_Check_r10 : List POper := [FA 25 1 4,LD 26 25,Q 27 (.len true (V 26)),Q 28 (.arith .gtr (V 27) (I 64)),M 24 28]
@[simp] theorem label_Check_r10_go : type_of% (ops_go label_Check_r10.eq_1 T K fr S) := ops_go label_Check_r10.eq_1 T K fr S
def label_Check_r11 : List POper := [Q 2 (.mov (I 3))]
@[simp] theorem label_Check_r11_go : type_of% (ops_go label_Check_r11.eq_1 T K fr S) := ops_go label_Check_r11.eq_1 T K fr S
def label_Check_r12 : List POper := [M 30 3,Q 31 (.arith .gtr (V 30) (I 0)),M 32 31,QG (some 33) (.faddr 0 (V 4)) 32 true,QG (some 34) (.load false 1 false (V 33)) 32 true,QG (some 35) (.mov (V 0)) 32 true,QG (some 36) (.mov (V 3)) 32 true,QG (some 37) (.arith .sub (V 36) (I 1)) 32 true,QG (some 38) (.iaddr 2 (V 35) (V 37)) 32 true,QG (some 39) (.faddr 0 (V 38)) 32 true,QG (some 40) (.load false 1 true (V 39)) 32 true,QG (some 41) (.arith .leq (V 34) (V 40)) 32 true,Q 42 (.pick (V 32) (V 41) ff'),M 29 42]
@[simp] theorem label_Check_r12_go : type_of% (ops_go label_Check_r12.eq_1 T K fr S) := ops_go label_Check_r12.eq_1 T K fr S
def label_Check_r13 : List POper := [Q 2 (.mov (I 13))]
@[simp] theorem label_Check_r13_go : type_of% (ops_go label_Check_r13.eq_1 T K fr S) := ops_go label_Check_r13.eq_1 T K fr S
def label_Check_r14 : List POper := [Q 43 (.arith .add (V 10) (I 1)),M 10 43]
@[simp] theorem label_Check_r14_go : type_of% (ops_go label_Check_r14.eq_1 T K fr S) := ops_go label_Check_r14.eq_1 T K fr S
def label_Check_l0 : PCode :=
  (.seq (.region label_Check_r4) (.seq (.cond (V 11) .skip (.exit 0)) (.seq (.block 1 (.seq (.clr [(12, 15)] (.region label_Check_r5)) (.block 2 (.seq (.clr [(16, 20)] (.region label_Check_r6)) (.cond (V 15) (.seq (.region label_Check_r7) .ret) (.seq (.clr [(21, 24)] (.region label_Check_r8)) (.cond (V 20) (.seq (.region label_Check_r9) .ret) (.seq (.clr [(25, 29)] (.region label_Check_r10)) (.cond (V 24) (.seq (.region label_Check_r11) .ret) (.seq (.clr [(30, 43)] (.region label_Check_r12)) (.cond (V 29) (.seq (.region label_Check_r13) .ret) .skip))))))))))) (.clr [(43, 44)] (.region label_Check_r14)))))
@[simp] theorem label_Check_l0_go : type_of% (code_go label_Check_l0.eq_1 T K fr S) := code_go label_Check_l0.eq_1 T K fr S
def label_Check_r15 : List POper := [Q 2 (.mov (I 0))]
@[simp] theorem label_Check_r15_go : type_of% (ops_go label_Check_r15.eq_1 T K fr S) := ops_go label_Check_r15.eq_1 T K fr S
def label_Check : PCodeFn :=
  ⟨1, [.tmp 2],
  (.seq (.region label_Check_r0) (.seq (.seq (.clr [(5, 7)] (.region label_Check_r1)) (.cond (V 7) (.seq (.region label_Check_r2) .ret) .skip)) (.seq (.seq (.region label_Check_r3) (.block 0 (.loop label_Check_l0))) (.seq (.region label_Check_r15) .ret)))), false⟩

def wal_checkRows_r0 : List POper := [Q 2 (.mov (I 0))]
@[simp] theorem wal_checkRows_r0_go : type_of% (ops_go wal_checkRows_r0.eq_1 T K fr S) := ops_go wal_checkRows_r0.eq_1 T K fr S
def wal_checkRows_r1 : List POper := [M 5 0,Q 6 (.len false (V 5)),Q 7 (.arith .lss (V 6) (I 1)),M 8 7,QG (some 9) (.mov (V 0)) 8 false,QG (some 10) (.len false (V 9)) 8 false,QG (some 11) (.arith .gtr (V 10) (I 64)) 8 false,Q 12 (.pick (V 8) tt' (V 11))]
@[simp] theorem wal_checkRows_r1_go : type_of% (ops_go wal_checkRows_r1.eq_1 T K fr S) := ops_go wal_checkRows_r1.eq_1 T K fr S
def wal_checkRows_r2 : List POper := [Q 2 (.mov (I 2))]
@[simp] theorem wal_checkRows_r2_go : type_of% (ops_go wal_checkRows_r2.eq_1 T K fr S) := ops_go wal_checkRows_r2.eq_1 T K fr S
def wal_checkRows_r3 : List POper := [M 13 0,Q 14 (.len false (V 13)),Q 15 (.mov (I 0))]
@[simp] theorem wal_checkRows_r3_go : type_of% (ops_go wal_checkRows_r3.eq_1 T K fr S) := ops_go wal_checkRows_r3.eq_1 T K fr S
def wal_checkRows_r4 : List POper := [Q 16 (.arith .lss (V 15) (V 14))]
@[simp] theorem wal_checkRows_r4_go : type_of% (ops_go wal_checkRows_r4.eq_1 T K fr S) := ops_go wal_checkRows_r4.eq_1 T K fr S
def wal_checkRows_r5 : List POper := [Q 17 (.iaddr 3 (V 13) (V 15)),Q 18 (.load true 3 false (V 17)),Q 4 (.alloc false [(.int .i64 0), (.int .i64 0), (.int .i64 0)]),QN (.store 3 (V 4) (V 18))]
@[simp] theorem wal_checkRows_r5_go : type_of% (ops_go wal_checkRows_r5.eq_1 T K fr S) := ops_go wal_checkRows_r5.eq_1 T K fr S
def wal_checkRows_r6 : List POper := [FA 19 0 4,LD 20 19,Q 21 (.arith .lss (V 20) (I 0)),M 22 21,QG (some 23) (.faddr 0 (V 4)) 22 false,QG (some 24) (.load false 1 false (V 23)) 22 false,QG (some 25) (.arith .gtr (V 24) (I 1099511627776)) 22 false,Q 26 (.pick (V 22) tt' (V 25))]
@[simp] theorem wal_checkRows_r6_go : type_of% (ops_go wal_checkRows_r6.eq_1 T K fr S) := ops_go wal_checkRows_r6.eq_1 T K fr S
def wal_checkRows_r7 : List POper := [Q 2 (.mov (I 2))]
@[simp] theorem wal_checkRows_r7_go : type_of% (ops_go wal_checkRows_r7.eq_1 T K fr S) := ops_go wal_checkRows_r7.eq_1 T K fr S
def wal_checkRows_r8 : List POper := [FA 27 1 4,Q 28 (.load true 2 false (V 27)),Q 29 (.bsl false (.agg [(.int .i64 0), (.int .i64 0)]) 1 [(0, (V 28))]),Q 30 (.call .std 154 [(V 29)]),Q 31 (.arith .neq (V 30) (I 0))]
@[simp] theorem wal_checkRows_r8_go : type_of% (ops_go wal_checkRows_r8.eq_1 T K fr S) := ops_go wal_checkRows_r8.eq_1 T K fr S
def wal_checkRows_r9 : List POper := [Q 2 (.mov (I 11))]
@[simp] theorem wal_checkRows_r9_go : type_of% (ops_go wal_checkRows_r9.eq_1 T K fr S) := ops_go wal_checkRows_r9.eq_1 T K fr S
def wal_checkRows_r10 : List POper := [Q 32 (.arith .add (V 15) (I 1)),M 15 32]
@[simp] theorem wal_checkRows_r10_go : type_of% (ops_go wal_checkRows_r10.eq_1 T K fr S) := ops_go wal_checkRows_r10.eq_1 T K fr S
def wal_checkRows_l0 : PCode :=
  (.seq (.region wal_checkRows_r4) (.seq (.cond (V 16) .skip (.exit 0)) (.seq (.block 1 (.seq (.clr [(17, 19)] (.region wal_checkRows_r5)) (.seq (.seq (.clr [(19, 26)] (.region wal_checkRows_r6)) (.cond (V 26) (.seq (.region wal_checkRows_r7) .ret) .skip)) (.seq (.clr [(27, 31)] (.region wal_checkRows_r8)) (.cond (V 31) (.seq (.region wal_checkRows_r9) .ret) .skip))))) (.clr [(32, 33)] (.region wal_checkRows_r10)))))
@[simp] theorem wal_checkRows_l0_go : type_of% (code_go wal_checkRows_l0.eq_1 T K fr S) := code_go wal_checkRows_l0.eq_1 T K fr S
def wal_checkRows_r11 : List POper := [Q 2 (.mov (I 0))]
@[simp] theorem wal_checkRows_r11_go : type_of% (ops_go wal_checkRows_r11.eq_1 T K fr S) := ops_go wal_checkRows_r11.eq_1 T K fr S
def wal_checkRows : PCodeFn :=
  ⟨1, [.tmp 2],
  (.seq (.region wal_checkRows_r0) (.seq (.seq (.clr [(5, 12)] (.region wal_checkRows_r1)) (.cond (V 12) (.seq (.region wal_checkRows_r2) .ret) .skip)) (.seq (.seq (.region wal_checkRows_r3) (.block 0 (.loop wal_checkRows_l0))) (.seq (.region wal_checkRows_r11) .ret)))), false⟩

def wal_checkDelete_r0 : List POper := [Q 1 (.box true (V 0)),Q 2 (.mov (I 0))]
@[simp] theorem wal_checkDelete_r0_go : type_of% (ops_go wal_checkDelete_r0.eq_1 T K fr S) := ops_go wal_checkDelete_r0.eq_1 T K fr S
def wal_checkDelete_r1 : List POper := [FA 4 3 1,LD 5 4,Q 6 (.call .std 318 [(V 5)]),M 3 6]
@[simp] theorem wal_checkDelete_r1_go : type_of% (ops_go wal_checkDelete_r1.eq_1 T K fr S) := ops_go wal_checkDelete_r1.eq_1 T K fr S
def wal_checkDelete_r2 : List POper := [M 7 3,Q 8 (.arith .neq (V 7) (I 0))]
@[simp] theorem wal_checkDelete_r2_go : type_of% (ops_go wal_checkDelete_r2.eq_1 T K fr S) := ops_go wal_checkDelete_r2.eq_1 T K fr S
def wal_checkDelete_r3 : List POper := [M 9 3,M 2 9]
@[simp] theorem wal_checkDelete_r3_go : type_of% (ops_go wal_checkDelete_r3.eq_1 T K fr S) := ops_go wal_checkDelete_r3.eq_1 T K fr S
def wal_checkDelete_r4 : List POper := [FA 11 3 1,LD 12 11,Q 13 (.len false (V 12)),Q 14 (.arith .eql (V 13) (I 0)),M 10 14]
@[simp] theorem wal_checkDelete_r4_go : type_of% (ops_go wal_checkDelete_r4.eq_1 T K fr S) := ops_go wal_checkDelete_r4.eq_1 T K fr S
def wal_checkDelete_r5 : List POper := [Q 2 (.mov (I 2))]
@[simp] theorem wal_checkDelete_r5_go : type_of% (ops_go wal_checkDelete_r5.eq_1 T K fr S) := ops_go wal_checkDelete_r5.eq_1 T K fr S
def wal_checkDelete_r6 : List POper := [FA 16 4 1,LD 17 16,Q 18 (.arith .lss (V 17) (I 0)),M 19 18,QG (some 20) (.faddr 5 (V 1)) 19 false,QG (some 21) (.load false 1 false (V 20)) 19 false,QG (some 22) (.arith .gtr (V 21) (I 1099511627776)) 19 false,Q 23 (.pick (V 19) tt' (V 22)),M 15 23]
@[simp] theorem wal_checkDelete_r6_go : type_of% (ops_go wal_checkDelete_r6.eq_1 T K fr S) := ops_go wal_checkDelete_r6.eq_1 T K fr S
def wal_checkDelete_r7 : List POper := [Q 2 (.mov (I 11))]
@[simp] theorem wal_checkDelete_r7_go : type_of% (ops_go wal_checkDelete_r7.eq_1 T K fr S) := ops_go wal_checkDelete_r7.eq_1 T K fr S
def wal_checkDelete_r8 : List POper := [FA 25 4 1,LD 26 25,FA 27 5 1,LD 28 27,Q 29 (.arith .gtr (V 26) (V 28)),M 24 29]
@[simp] theorem wal_checkDelete_r8_go : type_of% (ops_go wal_checkDelete_r8.eq_1 T K fr S) := ops_go wal_checkDelete_r8.eq_1 T K fr S
def wal_checkDelete_r9 : List POper := [Q 2 (.mov (I 13))]
@[simp] theorem wal_checkDelete_r9_go : type_of% (ops_go wal_checkDelete_r9.eq_1 T K fr S) := ops_go wal_checkDelete_r9.eq_1 T K fr S
def wal_checkDelete_r10 : List POper := [Q 2 (.mov (I 0))]
@[simp] theorem wal_checkDelete_r10_go : type_of% (ops_go wal_checkDelete_r10.eq_1 T K fr S) := ops_go wal_checkDelete_r10.eq_1 T K fr S
def wal_checkDelete : PCodeFn :=
  ⟨1, [.tmp 2],
  (.seq (.region wal_checkDelete_r0) (.seq (.seq (.clr [(4, 7)] (.region wal_checkDelete_r1)) (.seq (.clr [(7, 8)] (.region wal_checkDelete_r2)) (.cond (V 8) (.seq (.clr [(9, 10)] (.region wal_checkDelete_r3)) .ret) .skip))) (.seq (.block 0 (.seq (.clr [(11, 15)] (.region wal_checkDelete_r4)) (.cond (V 10) (.seq (.region wal_checkDelete_r5) .ret) (.seq (.clr [(16, 24)] (.region wal_checkDelete_r6)) (.cond (V 15) (.seq (.region wal_checkDelete_r7) .ret) (.seq (.clr [(25, 30)] (.region wal_checkDelete_r8)) (.cond (V 24) (.seq (.region wal_checkDelete_r9) .ret) .skip))))))) (.seq (.region wal_checkDelete_r10) .ret)))), false⟩

def slices_Clone_Label_r0 : List POper := [Q 2 (.mov (.cst .nils))]
@[simp] theorem slices_Clone_Label_r0_go : type_of% (ops_go slices_Clone_Label_r0.eq_1 T K fr S) := ops_go slices_Clone_Label_r0.eq_1 T K fr S
def slices_Clone_Label_r1 : List POper := [M 3 0,Q 4 (.eqn false .s (V 3))]
@[simp] theorem slices_Clone_Label_r1_go : type_of% (ops_go slices_Clone_Label_r1.eq_1 T K fr S) := ops_go slices_Clone_Label_r1.eq_1 T K fr S
def slices_Clone_Label_r2 : List POper := [Q 2 (.mov (.cst .nils))]
@[simp] theorem slices_Clone_Label_r2_go : type_of% (ops_go slices_Clone_Label_r2.eq_1 T K fr S) := ops_go slices_Clone_Label_r2.eq_1 T K fr S
def slices_Clone_Label_r3 : List POper := [Q 5 (.bsl false (.agg [(.str []), (.str [])]) 0 []),M 6 0,Q 7 (.app 2 32 (V 5) (V 6)),M 2 7]
@[simp] theorem slices_Clone_Label_r3_go : type_of% (ops_go slices_Clone_Label_r3.eq_1 T K fr S) := ops_go slices_Clone_Label_r3.eq_1 T K fr S
def slices_Clone_Label : PCodeFn :=
  ⟨1, [.tmp 2],
  (.seq (.region slices_Clone_Label_r0) (.seq (.seq (.clr [(3, 4)] (.region slices_Clone_Label_r1)) (.cond (V 4) (.seq (.region slices_Clone_Label_r2) .ret) .skip)) (.seq (.clr [(5, 8)] (.region slices_Clone_Label_r3)) .ret))), false⟩

def head_Head_rows_1_r0 : List POper := [LD 5 0,Q 6 (.arith .neq (V 5) (I 0)),M 7 6,QG (some 8) (.load false 1 false (V 1)) 7 true,QG (some 9) (.arith .gtr (V 8) (I 0)) 7 true,Q 10 (.pick (V 7) (V 9) ff')]
@[simp] theorem head_Head_rows_1_r0_go : type_of% (ops_go head_Head_rows_1_r0.eq_1 T K fr S) := ops_go head_Head_rows_1_r0.eq_1 T K fr S
def head_Head_rows_1_r2 : List POper := [LD 13 2,NK' 14 13,FA 15 0 14,LD 16 15,LD 17 3,LD 18 1,Q 19 (.arith .sub (V 18) (I 1)),Q 20 (.iaddr 3 (V 17) (V 19)),FA 21 0 20,LD 22 21,Q 23 (.iaddr 2 (V 16) (V 22)),M 4 23]
@[simp] theorem head_Head_rows_1_r2_go : type_of% (ops_go head_Head_rows_1_r2.eq_1 T K fr S) := ops_go head_Head_rows_1_r2.eq_1 T K fr S
def head_Head_rows_1_r3 : List POper := [M 24 4,M 25 4,NK' 26 25,FA 27 1 26,LD 28 27,M 29 4,NK' 30 29,FA 31 1 30,LD 32 31,Q 33 (.len false (V 32)),Q 34 (.arith .sub (V 33) (I 1)),Q 35 (.slc 2 none (some (V 34)) (V 28)),NK' 36 24,FA 37 1 36,QN (.store 1 (V 37) (V 35))]
@[simp] theorem head_Head_rows_1_r3_go : type_of% (ops_go head_Head_rows_1_r3.eq_1 T K fr S) := ops_go head_Head_rows_1_r3.eq_1 T K fr S
def head_Head_rows_1_r4 : List POper := [LD 38 2,NK' 39 38,FA 40 2 39,LD 41 40,Q 42 (.arith .sub (V 41) (I 1)),NK' 43 38,FA 44 2 43,QN (.store 1 (V 44) (V 42))]
@[simp] theorem head_Head_rows_1_r4_go : type_of% (ops_go head_Head_rows_1_r4.eq_1 T K fr S) := ops_go head_Head_rows_1_r4.eq_1 T K fr S
def head_Head_rows_1_r1 : List POper := [LD 11 1,Q 12 (.arith .sub (V 11) (I 1)),QN (.store 1 (V 1) (V 12))]
@[simp] theorem head_Head_rows_1_r1_go : type_of% (ops_go head_Head_rows_1_r1.eq_1 T K fr S) := ops_go head_Head_rows_1_r1.eq_1 T K fr S
def head_Head_rows_1_l0 : PCode :=
  (.seq (.seq (.clr [(5, 10)] (.region head_Head_rows_1_r0)) (.cond (V 10) .skip (.exit 0))) (.seq (.block 1 (.seq (.clr [(13, 24)] (.region head_Head_rows_1_r2)) (.seq (.clr [(24, 38)] (.region head_Head_rows_1_r3)) (.clr [(38, 45)] (.region head_Head_rows_1_r4))))) (.clr [(11, 13)] (.region head_Head_rows_1_r1))))
@[simp] theorem head_Head_rows_1_l0_go : type_of% (code_go head_Head_rows_1_l0.eq_1 T K fr S) := code_go head_Head_rows_1_l0.eq_1 T K fr S
def head_Head_rows_1 : PCodeFn :=
  ⟨4, [],
  (.block 0 (.loop head_Head_rows_1_l0)), true⟩

def head_last_r0 : List POper := [Q 2 (.mov (I 0))]
@[simp] theorem head_last_r0_go : type_of% (ops_go head_last_r0.eq_1 T K fr S) := ops_go head_last_r0.eq_1 T K fr S
def head_last_r1 : List POper := [M 3 0,Q 4 (.len false (V 3)),Q 5 (.arith .eql (V 4) (I 0))]
@[simp] theorem head_last_r1_go : type_of% (ops_go head_last_r1.eq_1 T K fr S) := ops_go head_last_r1.eq_1 T K fr S
def head_last_r2 : List POper := [Q 2 (.mov (I (-1)))]
@[simp] theorem head_last_r2_go : type_of% (ops_go head_last_r2.eq_1 T K fr S) := ops_go head_last_r2.eq_1 T K fr S
def head_last_r3 : List POper := [M 6 0,M 7 0,Q 8 (.len false (V 7)),Q 9 (.arith .sub (V 8) (I 1)),Q 10 (.iaddr 2 (V 6) (V 9)),FA 11 0 10,LD 12 11,M 2 12]
@[simp] theorem head_last_r3_go : type_of% (ops_go head_last_r3.eq_1 T K fr S) := ops_go head_last_r3.eq_1 T K fr S
def head_last : PCodeFn :=
  ⟨1, [.tmp 2],
  (.seq (.region head_last_r0) (.seq (.seq (.clr [(3, 5)] (.region head_last_r1)) (.cond (V 5) (.seq (.region head_last_r2) .ret) .skip)) (.seq (.clr [(6, 13)] (.region head_last_r3)) .ret))), false⟩

def slices_DeleteFunc_Sample_r0 : List POper := [Q 4 (.mov (.cst .nils))]
@[simp] theorem slices_DeleteFunc_Sample_r0_go : type_of% (ops_go slices_DeleteFunc_Sample_r0.eq_1 T K fr S) := ops_go slices_DeleteFunc_Sample_r0.eq_1 T K fr S
def slices_DeleteFunc_Sample_r1 : List POper := [M 8 0,M 9 1,Q 10 (.call .std 344 [(V 8), (V 9)]),M 5 10]
@[simp] theorem slices_DeleteFunc_Sample_r1_go : type_of% (ops_go slices_DeleteFunc_Sample_r1.eq_1 T K fr S) := ops_go slices_DeleteFunc_Sample_r1.eq_1 T K fr S
def slices_DeleteFunc_Sample_r2 : List POper := [M 11 5,Q 12 (.arith .eql (V 11) (I (-1)))]
@[simp] theorem slices_DeleteFunc_Sample_r2_go : type_of% (ops_go slices_DeleteFunc_Sample_r2.eq_1 T K fr S) := ops_go slices_DeleteFunc_Sample_r2.eq_1 T K fr S
def slices_DeleteFunc_Sample_r3 : List POper := [M 13 0,M 4 13]
@[simp] theorem slices_DeleteFunc_Sample_r3_go : type_of% (ops_go slices_DeleteFunc_Sample_r3.eq_1 T K fr S) := ops_go slices_DeleteFunc_Sample_r3.eq_1 T K fr S
def slices_DeleteFunc_Sample_r4 : List POper := [M 14 5,Q 15 (.arith .add (V 14) (I 1)),M 6 15]
@[simp] theorem slices_DeleteFunc_Sample_r4_go : type_of% (ops_go slices_DeleteFunc_Sample_r4.eq_1 T K fr S) := ops_go slices_DeleteFunc_Sample_r4.eq_1 T K fr S
def slices_DeleteFunc_Sample_r5 : List POper := [M 16 6,M 17 0,Q 18 (.len false (V 17)),Q 19 (.arith .lss (V 16) (V 18))]
@[simp] theorem slices_DeleteFunc_Sample_r5_go : type_of% (ops_go slices_DeleteFunc_Sample_r5.eq_1 T K fr S) := ops_go slices_DeleteFunc_Sample_r5.eq_1 T K fr S
def slices_DeleteFunc_Sample_r7 : List POper := [M 22 0,M 23 6,Q 24 (.iaddr 2 (V 22) (V 23)),Q 25 (.load true 2 false (V 24)),Q 7 (.alloc false [(.int .i64 0), (.int .i64 0)]),QN (.store 2 (V 7) (V 25))]
@[simp] theorem slices_DeleteFunc_Sample_r7_go : type_of% (ops_go slices_DeleteFunc_Sample_r7.eq_1 T K fr S) := ops_go slices_DeleteFunc_Sample_r7.eq_1 T K fr S
def slices_DeleteFunc_Sample_r8 : List POper := [M 26 1,Q 27 (.load true 2 false (V 7)),Q 28 (.callv .std (V 26) [(V 27)]),Q 29 (.un .not (V 28))]
@[simp] theorem slices_DeleteFunc_Sample_r8_go : type_of% (ops_go slices_DeleteFunc_Sample_r8.eq_1 T K fr S) := ops_go slices_DeleteFunc_Sample_r8.eq_1 T K fr S
def slices_DeleteFunc_Sample_r9 : List POper := [M 30 0,M 31 5,Q 32 (.load true 2 false (V 7)),Q 33 (.iaddr 2 (V 30) (V 31)),QN (.store 2 (V 33) (V 32))]
@[simp] theorem slices_DeleteFunc_Sample_r9_go : type_of% (ops_go slices_DeleteFunc_Sample_r9.eq_1 T K fr S) := ops_go slices_DeleteFunc_Sample_r9.eq_1 T K fr S
def slices_DeleteFunc_Sample_r10 : List POper := [M 34 5,Q 35 (.arith .add (V 34) (I 1)),M 5 35]
@[simp] theorem slices_DeleteFunc_Sample_r10_go : type_of% (ops_go slices_DeleteFunc_Sample_r10.eq_1 T K fr S) := ops_go slices_DeleteFunc_Sample_r10.eq_1 T K fr S
def slices_DeleteFunc_Sample_r6 : List POper := [M 20 6,Q 21 (.arith .add (V 20) (I 1)),M 6 21]
@[simp] theorem slices_DeleteFunc_Sample_r6_go : type_of% (ops_go slices_DeleteFunc_Sample_r6.eq_1 T K fr S) := ops_go slices_DeleteFunc_Sample_r6.eq_1 T K fr S
def slices_DeleteFunc_Sample_l0 : PCode :=
  (.seq (.seq (.clr [(16, 19)] (.region slices_DeleteFunc_Sample_r5)) (.cond (V 19) .skip (.exit 0))) (.seq (.block 1 (.seq (.clr [(22, 26)] (.region slices_DeleteFunc_Sample_r7)) (.seq (.clr [(26, 29)] (.region slices_DeleteFunc_Sample_r8)) (.cond (V 29) (.seq (.clr [(30, 34)] (.region slices_DeleteFunc_Sample_r9)) (.clr [(34, 36)] (.region slices_DeleteFunc_Sample_r10))) .skip)))) (.clr [(20, 22)] (.region slices_DeleteFunc_Sample_r6))))
@[simp] theorem slices_DeleteFunc_Sample_l0_go : type_of% (code_go slices_DeleteFunc_Sample_l0.eq_1 T K fr S) := code_go slices_DeleteFunc_Sample_l0.eq_1 T K fr S
def slices_DeleteFunc_Sample_r11 : List POper := [M 36 0,M 37 5,Q 38 (.slc 2 (some (V 37)) none (V 36)),QN (.gclr 2 [(.int .i64 0), (.int .i64 0)] (V 38))]
@[simp] theorem slices_DeleteFunc_Sample_r11_go : type_of% (ops_go slices_DeleteFunc_Sample_r11.eq_1 T K fr S) := ops_go slices_DeleteFunc_Sample_r11.eq_1 T K fr S
def slices_DeleteFunc_Sample_r12 : List POper := [M 39 0,M 40 5,Q 41 (.slc 2 none (some (V 40)) (V 39)),M 4 41]
@[simp] theorem slices_DeleteFunc_Sample_r12_go : type_of% (ops_go slices_DeleteFunc_Sample_r12.eq_1 T K fr S) := ops_go slices_DeleteFunc_Sample_r12.eq_1 T K fr S
def slices_DeleteFunc_Sample : PCodeFn :=
  ⟨2, [.tmp 4],
  (.seq (.region slices_DeleteFunc_Sample_r0) (.seq (.clr [(8, 11)] (.region slices_DeleteFunc_Sample_r1)) (.seq (.seq (.clr [(11, 12)] (.region slices_DeleteFunc_Sample_r2)) (.cond (V 12) (.seq (.clr [(13, 14)] (.region slices_DeleteFunc_Sample_r3)) .ret) .skip)) (.seq (.seq (.clr [(14, 16)] (.region slices_DeleteFunc_Sample_r4)) (.block 0 (.loop slices_DeleteFunc_Sample_l0))) (.seq (.clr [(36, 39)] (.region slices_DeleteFunc_Sample_r11)) (.seq (.clr [(39, 42)] (.region slices_DeleteFunc_Sample_r12)) .ret)))))), false⟩

def head_Head_remove_1_r0 : List POper := [Q 2 (.box true (V 0)),Q 3 (.mov ff')]
@[simp] theorem head_Head_remove_1_r0_go : type_of% (ops_go head_Head_remove_1_r0.eq_1 T K fr S) := ops_go head_Head_remove_1_r0.eq_1 T K fr S
def head_Head_remove_1_r1 : List POper := [FA 4 0 2,LD 5 4,FA 6 4 1,LD 7 6,Q 8 (.arith .geq (V 5) (V 7)),M 9 8,QG (some 10) (.faddr 0 (V 2)) 9 true,QG (some 11) (.load false 1 false (V 10)) 9 true,QG (some 12) (.faddr 5 (V 1)) 9 true,QG (some 13) (.load false 1 false (V 12)) 9 true,QG (some 14) (.arith .leq (V 11) (V 13)) 9 true,Q 15 (.pick (V 9) (V 14) ff'),M 3 15]
@[simp] theorem head_Head_remove_1_r1_go : type_of% (ops_go head_Head_remove_1_r1.eq_1 T K fr S) := ops_go head_Head_remove_1_r1.eq_1 T K fr S
def head_Head_remove_1 : PCodeFn :=
  ⟨2, [.tmp 3],
  (.seq (.region head_Head_remove_1_r0) (.seq (.clr [(4, 16)] (.region head_Head_remove_1_r1)) .ret)), false⟩

def ref06_Compare_r0 : List POper := [Q 4 (.mov (I 0))]
@[simp] theorem ref06_Compare_r0_go : type_of% (ops_go ref06_Compare_r0.eq_1 T K fr S) := ops_go ref06_Compare_r0.eq_1 T K fr S
def ref06_Compare_r1 : List POper := [Q 5 (.mov (I 0))]
@[simp] theorem ref06_Compare_r1_go : type_of% (ops_go ref06_Compare_r1.eq_1 T K fr S) := ops_go ref06_Compare_r1.eq_1 T K fr S
def ref06_Compare_r2 : List POper := [M 8 5,M 9 0,Q 10 (.len false (V 9)),Q 11 (.arith .lss (V 8) (V 10)),M 12 11,QG (some 13) (.mov (V 5)) 12 true,QG (some 14) (.mov (V 1)) 12 true,QG (some 15) (.len false (V 14)) 12 true,QG (some 16) (.arith .lss (V 13) (V 15)) 12 true,Q 17 (.pick (V 12) (V 16) ff')]
@[simp] theorem ref06_Compare_r2_go : type_of% (ops_go ref06_Compare_r2.eq_1 T K fr S) := ops_go ref06_Compare_r2.eq_1 T K fr S
def ref06_Compare_r4 : List POper := [M 20 0,M 21 5,Q 22 (.iaddr 2 (V 20) (V 21)),FA 23 0 22,Q 24 (.load false 1 true (V 23)),M 25 1,M 26 5,Q 27 (.iaddr 2 (V 25) (V 26)),FA 28 0 27,Q 29 (.load false 1 true (V 28)),Q 30 (.call .pur 216 [(V 24), (V 29)]),M 6 30]
@[simp] theorem ref06_Compare_r4_go : type_of% (ops_go ref06_Compare_r4.eq_1 T K fr S) := ops_go ref06_Compare_r4.eq_1 T K fr S
def ref06_Compare_r5 : List POper := [M 31 6,Q 32 (.arith .neq (V 31) (I 0))]
@[simp] theorem ref06_Compare_r5_go : type_of% (ops_go ref06_Compare_r5.eq_1 T K fr S) := ops_go ref06_Compare_r5.eq_1 T K fr S
def ref06_Compare_r6 : List POper := [M 33 6,M 4 33]
@[simp] theorem ref06_Compare_r6_go : type_of% (ops_go ref06_Compare_r6.eq_1 T K fr S) := ops_go ref06_Compare_r6.eq_1 T K fr S
def ref06_Compare_r7 : List POper := [M 34 0,M 35 5,Q 36 (.iaddr 2 (V 34) (V 35)),FA 37 1 36,Q 38 (.load false 1 true (V 37)),M 39 1,M 40 5,Q 41 (.iaddr 2 (V 39) (V 40)),FA 42 1 41,Q 43 (.load false 1 true (V 42)),Q 44 (.call .pur 216 [(V 38), (V 43)]),M 7 44]
@[simp] theorem ref06_Compare_r7_go : type_of% (ops_go ref06_Compare_r7.eq_1 T K fr S) := ops_go ref06_Compare_r7.eq_1 T K fr S
def ref06_Compare_r8 : List POper := [M 45 7,Q 46 (.arith .neq (V 45) (I 0))]
@[simp] theorem ref06_Compare_r8_go : type_of% (ops_go ref06_Compare_r8.eq_1 T K fr S) := ops_go ref06_Compare_r8.eq_1 T K fr S
def ref06_Compare_r9 : List POper := [M 47 7,M 4 47]
@[simp] theorem ref06_Compare_r9_go : type_of% (ops_go ref06_Compare_r9.eq_1 T K fr S) := ops_go ref06_Compare_r9.eq_1 T K fr S
def ref06_Compare_r3 : List POper := [M 18 5,Q 19 (.arith .add (V 18) (I 1)),M 5 19]
@[simp] theorem ref06_Compare_r3_go : type_of% (ops_go ref06_Compare_r3.eq_1 T K fr S) := ops_go ref06_Compare_r3.eq_1 T K fr S
def ref06_Compare_l0 : PCode :=
  (.seq (.seq (.clr [(8, 17)] (.region ref06_Compare_r2)) (.cond (V 17) .skip (.exit 0))) (.seq (.block 1 (.seq (.seq (.clr [(20, 31)] (.region ref06_Compare_r4)) (.seq (.clr [(31, 32)] (.region ref06_Compare_r5)) (.cond (V 32) (.seq (.clr [(33, 34)] (.region ref06_Compare_r6)) .ret) .skip))) (.seq (.clr [(34, 45)] (.region ref06_Compare_r7)) (.seq (.clr [(45, 46)] (.region ref06_Compare_r8)) (.cond (V 46) (.seq (.clr [(47, 48)] (.region ref06_Compare_r9)) .ret) .skip))))) (.clr [(18, 20)] (.region ref06_Compare_r3))))
@[simp] theorem ref06_Compare_l0_go : type_of% (code_go ref06_Compare_l0.eq_1 T K fr S) := code_go ref06_Compare_l0.eq_1 T K fr S
def ref06_Compare_r10 : List POper := [M 48 0,Q 49 (.len false (V 48)),M 50 1,Q 51 (.len false (V 50)),Q 52 (.arith .lss (V 49) (V 51))]
@[simp] theorem ref06_Compare_r10_go : type_of% (ops_go ref06_Compare_r10.eq_1 T K fr S) := ops_go ref06_Compare_r10.eq_1 T K fr S
def ref06_Compare_r11 : List POper := [Q 4 (.mov (I (-1)))]
@[simp] theorem ref06_Compare_r11_go : type_of% (ops_go ref06_Compare_r11.eq_1 T K fr S) := ops_go ref06_Compare_r11.eq_1 T K fr S
def ref06_Compare_r12 : List POper := [M 53 0,Q 54 (.len false (V 53)),M 55 1,Q 56 (.len false (V 55)),Q 57 (.arith .gtr (V 54) (V 56))]
@[simp] theorem ref06_Compare_r12_go : type_of% (ops_go ref06_Compare_r12.eq_1 T K fr S) := ops_go ref06_Compare_r12.eq_1 T K fr S
def ref06_Compare_r13 : List POper := [Q 4 (.mov (I 1))]
@[simp] theorem ref06_Compare_r13_go : type_of% (ops_go ref06_Compare_r13.eq_1 T K fr S) := ops_go ref06_Compare_r13.eq_1 T K fr S
def ref06_Compare_r14 : List POper := [Q 4 (.mov (I 0))]
@[simp] theorem ref06_Compare_r14_go : type_of% (ops_go ref06_Compare_r14.eq_1 T K fr S) := ops_go ref06_Compare_r14.eq_1 T K fr S
def ref06_Compare : PCodeFn :=
  ⟨2, [.tmp 4],
  (.seq (.region ref06_Compare_r0) (.seq (.seq (.region ref06_Compare_r1) (.block 0 (.loop ref06_Compare_l0))) (.seq (.seq (.clr [(48, 52)] (.region ref06_Compare_r10)) (.cond (V 52) (.seq (.region ref06_Compare_r11) .ret) .skip)) (.seq (.seq (.clr [(53, 57)] (.region ref06_Compare_r12)) (.cond (V 57) (.seq (.region ref06_Compare_r13) .ret) .skip)) (.seq (.region ref06_Compare_r14) .ret))))), false⟩

def slices_IndexFunc_Series_r0 : List POper := [Q 4 (.mov (I 0))]
@[simp] theorem slices_IndexFunc_Series_r0_go : type_of% (ops_go slices_IndexFunc_Series_r0.eq_1 T K fr S) := ops_go slices_IndexFunc_Series_r0.eq_1 T K fr S
def slices_IndexFunc_Series_r1 : List POper := [M 6 0,Q 7 (.len false (V 6)),Q 8 (.mov (I 0))]
@[simp] theorem slices_IndexFunc_Series_r1_go : type_of% (ops_go slices_IndexFunc_Series_r1.eq_1 T K fr S) := ops_go slices_IndexFunc_Series_r1.eq_1 T K fr S
def slices_IndexFunc_Series_r2 : List POper := [Q 9 (.arith .lss (V 8) (V 7))]
@[simp] theorem slices_IndexFunc_Series_r2_go : type_of% (ops_go slices_IndexFunc_Series_r2.eq_1 T K fr S) := ops_go slices_IndexFunc_Series_r2.eq_1 T K fr S
def slices_IndexFunc_Series_r3 : List POper := [M 10 8,M 5 10]
@[simp] theorem slices_IndexFunc_Series_r3_go : type_of% (ops_go slices_IndexFunc_Series_r3.eq_1 T K fr S) := ops_go slices_IndexFunc_Series_r3.eq_1 T K fr S
def slices_IndexFunc_Series_r4 : List POper := [M 11 1,M 12 0,M 13 5,Q 14 (.iaddr 2 (V 12) (V 13)),Q 15 (.load true 2 false (V 14)),Q 16 (.callv .std (V 11) [(V 15)])]
@[simp] theorem slices_IndexFunc_Series_r4_go : type_of% (ops_go slices_IndexFunc_Series_r4.eq_1 T K fr S) := ops_go slices_IndexFunc_Series_r4.eq_1 T K fr S
def slices_IndexFunc_Series_r5 : List POper := [M 17 5,M 4 17]
@[simp] theorem slices_IndexFunc_Series_r5_go : type_of% (ops_go slices_IndexFunc_Series_r5.eq_1 T K fr S) := ops_go slices_IndexFunc_Series_r5.eq_1 T K fr S
def slices_IndexFunc_Series_r6 : List POper := [Q 18 (.arith .add (V 8) (I 1)),M 8 18]
@[simp] theorem slices_IndexFunc_Series_r6_go : type_of% (ops_go slices_IndexFunc_Series_r6.eq_1 T K fr S) := ops_go slices_IndexFunc_Series_r6.eq_1 T K fr S
def slices_IndexFunc_Series_l0 : PCode :=
  (.seq (.region slices_IndexFunc_Series_r2) (.seq (.cond (V 9) .skip (.exit 0)) (.seq (.block 1 (.seq (.clr [(10, 11)] (.region slices_IndexFunc_Series_r3)) (.seq (.clr [(11, 16)] (.region slices_IndexFunc_Series_r4)) (.cond (V 16) (.seq (.clr [(17, 18)] (.region slices_IndexFunc_Series_r5)) .ret) .skip)))) (.clr [(18, 19)] (.region slices_IndexFunc_Series_r6)))))
@[simp] theorem slices_IndexFunc_Series_l0_go : type_of% (code_go slices_IndexFunc_Series_l0.eq_1 T K fr S) := code_go slices_IndexFunc_Series_l0.eq_1 T K fr S
def slices_IndexFunc_Series_r7 : List POper := [Q 4 (.mov (I (-1)))]
@[simp] theorem slices_IndexFunc_Series_r7_go : type_of% (ops_go slices_IndexFunc_Series_r7.eq_1 T K fr S) := ops_go slices_IndexFunc_Series_r7.eq_1 T K fr S
def slices_IndexFunc_Series : PCodeFn :=
  ⟨2, [.tmp 4],
  (.seq (.region slices_IndexFunc_Series_r0) (.seq (.seq (.clr [(6, 7)] (.region slices_IndexFunc_Series_r1)) (.block 0 (.loop slices_IndexFunc_Series_l0))) (.seq (.region slices_IndexFunc_Series_r7) .ret))), false⟩

def slices_Clone_Sample_r0 : List POper := [Q 2 (.mov (.cst .nils))]
@[simp] theorem slices_Clone_Sample_r0_go : type_of% (ops_go slices_Clone_Sample_r0.eq_1 T K fr S) := ops_go slices_Clone_Sample_r0.eq_1 T K fr S
def slices_Clone_Sample_r1 : List POper := [M 3 0,Q 4 (.eqn false .s (V 3))]
@[simp] theorem slices_Clone_Sample_r1_go : type_of% (ops_go slices_Clone_Sample_r1.eq_1 T K fr S) := ops_go slices_Clone_Sample_r1.eq_1 T K fr S
def slices_Clone_Sample_r2 : List POper := [Q 2 (.mov (.cst .nils))]
@[simp] theorem slices_Clone_Sample_r2_go : type_of% (ops_go slices_Clone_Sample_r2.eq_1 T K fr S) := ops_go slices_Clone_Sample_r2.eq_1 T K fr S
def slices_Clone_Sample_r3 : List POper := [Q 5 (.bsl false (.agg [(.int .i64 0), (.int .i64 0)]) 0 []),M 6 0,Q 7 (.app 2 16 (V 5) (V 6)),M 2 7]
@[simp] theorem slices_Clone_Sample_r3_go : type_of% (ops_go slices_Clone_Sample_r3.eq_1 T K fr S) := ops_go slices_Clone_Sample_r3.eq_1 T K fr S
def slices_Clone_Sample : PCodeFn :=
  ⟨1, [.tmp 2],
  (.seq (.region slices_Clone_Sample_r0) (.seq (.seq (.clr [(3, 4)] (.region slices_Clone_Sample_r1)) (.cond (V 4) (.seq (.region slices_Clone_Sample_r2) .ret) .skip)) (.seq (.clr [(5, 8)] (.region slices_Clone_Sample_r3)) .ret))), false⟩

def slices_pdqsortCmpFunc_Series_r0 : List POper := [Q 10 (.mov tt')]
@[simp] theorem slices_pdqsortCmpFunc_Series_r0_go : type_of% (ops_go slices_pdqsortCmpFunc_Series_r0.eq_1 T K fr S) := ops_go slices_pdqsortCmpFunc_Series_r0.eq_1 T K fr S
def slices_pdqsortCmpFunc_Series_r1 : List POper := [Q 11 (.mov tt')]
@[simp] theorem slices_pdqsortCmpFunc_Series_r1_go : type_of% (ops_go slices_pdqsortCmpFunc_Series_r1.eq_1 T K fr S) := ops_go slices_pdqsortCmpFunc_Series_r1.eq_1 T K fr S
def slices_pdqsortCmpFunc_Series_r2 : List POper := [M 21 2,M 22 1,Q 23 (.arith .sub (V 21) (V 22)),M 12 23]
@[simp] theorem slices_pdqsortCmpFunc_Series_r2_go : type_of% (ops_go slices_pdqsortCmpFunc_Series_r2.eq_1 T K fr S) := ops_go slices_pdqsortCmpFunc_Series_r2.eq_1 T K fr S
def slices_pdqsortCmpFunc_Series_r3 : List POper := [M 24 12,Q 25 (.arith .leq (V 24) (I 12))]
@[simp] theorem slices_pdqsortCmpFunc_Series_r3_go : type_of% (ops_go slices_pdqsortCmpFunc_Series_r3.eq_1 T K fr S) := ops_go slices_pdqsortCmpFunc_Series_r3.eq_1 T K fr S
def slices_pdqsortCmpFunc_Series_r4 : List POper := [M 26 0,M 27 1,M 28 2,M 29 4,Q 30 (.call .std 381 [(V 26), (V 27), (V 28), (V 29)])]
@[simp] theorem slices_pdqsortCmpFunc_Series_r4_go : type_of% (ops_go slices_pdqsortCmpFunc_Series_r4.eq_1 T K fr S) := ops_go slices_pdqsortCmpFunc_Series_r4.eq_1 T K fr S
def slices_pdqsortCmpFunc_Series_r5 : List POper := [M 31 3,Q 32 (.arith .eql (V 31) (I 0))]
@[simp] theorem slices_pdqsortCmpFunc_Series_r5_go : type_of% (ops_go slices_pdqsortCmpFunc_Series_r5.eq_1 T K fr S) := ops_go slices_pdqsortCmpFunc_Series_r5.eq_1 T K fr S
def slices_pdqsortCmpFunc_Series_r6 : List POper := [M 33 0,M 34 1,M 35 2,M 36 4,Q 37 (.call .std 382 [(V 33), (V 34), (V 35), (V 36)])]
@[simp] theorem slices_pdqsortCmpFunc_Series_r6_go : type_of% (ops_go slices_pdqsortCmpFunc_Series_r6.eq_1 T K fr S) := ops_go slices_pdqsortCmpFunc_Series_r6.eq_1 T K fr S
def slices_pdqsortCmpFunc_Series_r7 : List POper := [M 38 10,Q 39 (.un .not (V 38))]
@[simp] theorem slices_pdqsortCmpFunc_Series_r7_go : type_of% (ops_go slices_pdqsortCmpFunc_Series_r7.eq_1 T K fr S) := ops_go slices_pdqsortCmpFunc_Series_r7.eq_1 T K fr S
def slices_pdqsortCmpFunc_Series_r8 : List POper := [M 40 0,M 41 1,M 42 2,M 43 4,Q 44 (.call .std 383 [(V 40), (V 41), (V 42), (V 43)])]
@[simp] theorem slices_pdqsortCmpFunc_Series_r8_go : type_of% (ops_go slices_pdqsortCmpFunc_Series_r8.eq_1 T K fr S) := ops_go slices_pdqsortCmpFunc_Series_r8.eq_1 T K fr S
def slices_pdqsortCmpFunc_Series_r9 : List POper := [M 45 3,Q 46 (.arith .sub (V 45) (I 1)),M 3 46]
@[simp] theorem slices_pdqsortCmpFunc_Series_r9_go : type_of% (ops_go slices_pdqsortCmpFunc_Series_r9.eq_1 T K fr S) := ops_go slices_pdqsortCmpFunc_Series_r9.eq_1 T K fr S
def slices_pdqsortCmpFunc_Series_r10 : List POper := [M 48 0,M 49 1,M 50 2,M 51 4,Q 52 (.call .std 384 [(V 48), (V 49), (V 50), (V 51)]),M 47 52,EX 53 0 47,EX 54 1 47,M 13 53,M 14 54]
@[simp] theorem slices_pdqsortCmpFunc_Series_r10_go : type_of% (ops_go slices_pdqsortCmpFunc_Series_r10.eq_1 T K fr S) := ops_go slices_pdqsortCmpFunc_Series_r10.eq_1 T K fr S
def slices_pdqsortCmpFunc_Series_r11 : List POper := [M 55 14,Q 56 (.arith .eql (V 55) (I 2))]
@[simp] theorem slices_pdqsortCmpFunc_Series_r11_go : type_of% (ops_go slices_pdqsortCmpFunc_Series_r11.eq_1 T K fr S) := ops_go slices_pdqsortCmpFunc_Series_r11.eq_1 T K fr S
def slices_pdqsortCmpFunc_Series_r12 : List POper := [M 57 0,M 58 1,M 59 2,M 60 4,Q 61 (.call .std 385 [(V 57), (V 58), (V 59), (V 60)])]
@[simp] theorem slices_pdqsortCmpFunc_Series_r12_go : type_of% (ops_go slices_pdqsortCmpFunc_Series_r12.eq_1 T K fr S) := ops_go slices_pdqsortCmpFunc_Series_r12.eq_1 T K fr S
def slices_pdqsortCmpFunc_Series_r13 : List POper := [M 62 2,Q 63 (.arith .sub (V 62) (I 1)),M 64 13,M 65 1,Q 66 (.arith .sub (V 64) (V 65)),Q 67 (.arith .sub (V 63) (V 66)),M 13 67]
@[simp] theorem slices_pdqsortCmpFunc_Series_r13_go : type_of% (ops_go slices_pdqsortCmpFunc_Series_r13.eq_1 T K fr S) := ops_go slices_pdqsortCmpFunc_Series_r13.eq_1 T K fr S
def slices_pdqsortCmpFunc_Series_r14 : List POper := [Q 14 (.mov (I 1))]
@[simp] theorem slices_pdqsortCmpFunc_Series_r14_go : type_of% (ops_go slices_pdqsortCmpFunc_Series_r14.eq_1 T K fr S) := ops_go slices_pdqsortCmpFunc_Series_r14.eq_1 T K fr S
def slices_pdqsortCmpFunc_Series_r15 : List POper := [M 68 10,M 69 68,QG (some 70) (.mov (V 11)) 69 true,Q 71 (.pick (V 69) (V 70) ff'),M 72 71,QG (some 73) (.mov (V 14)) 72 true,QG (some 74) (.arith .eql (V 73) (I 1)) 72 true,Q 75 (.pick (V 72) (V 74) ff')]
@[simp] theorem slices_pdqsortCmpFunc_Series_r15_go : type_of% (ops_go slices_pdqsortCmpFunc_Series_r15.eq_1 T K fr S) := ops_go slices_pdqsortCmpFunc_Series_r15.eq_1 T K fr S
def slices_pdqsortCmpFunc_Series_r16 : List POper := [M 76 0,M 77 1,M 78 2,M 79 4,Q 80 (.call .std 386 [(V 76), (V 77), (V 78), (V 79)])]
@[simp] theorem slices_pdqsortCmpFunc_Series_r16_go : type_of% (ops_go slices_pdqsortCmpFunc_Series_r16.eq_1 T K fr S) := ops_go slices_pdqsortCmpFunc_Series_r16.eq_1 T K fr S
def slices_pdqsortCmpFunc_Series_r17 : List POper := [M 81 1,Q 82 (.arith .gtr (V 81) (I 0)),M 83 82,QG (some 84) (.mov (V 4)) 83 true,QG (some 85) (.mov (V 0)) 83 true,QG (some 86) (.mov (V 1)) 83 true,QG (some 87) (.arith .sub (V 86) (I 1)) 83 true,QG (some 88) (.iaddr 2 (V 85) (V 87)) 83 true,QG (some 89) (.load true 2 false (V 88)) 83 true,QG (some 90) (.mov (V 0)) 83 true,QG (some 91) (.mov (V 13)) 83 true,QG (some 92) (.iaddr 2 (V 90) (V 91)) 83 true,QG (some 93) (.load true 2 false (V 92)) 83 true,QG (some 94) (.callv .std (V 84) [(V 89), (V 93)]) 83 true,QG (some 95) (.arith .lss (V 94) (I 0)) 83 true,QG (some 96) (.un .not (V 95)) 83 true,Q 97 (.pick (V 83) (V 96) ff')]
@[simp] theorem slices_pdqsortCmpFunc_Series_r17_go : type_of% (ops_go slices_pdqsortCmpFunc_Series_r17.eq_1 T K fr S) := ops_go slices_pdqsortCmpFunc_Series_r17.eq_1 T K fr S
def slices_pdqsortCmpFunc_Series_r18 : List POper := [M 98 0,M 99 1,M 100 2,M 101 13,M 102 4,Q 103 (.call .std 387 [(V 98), (V 99), (V 100), (V 101), (V 102)]),M 15 103]
@[simp] theorem slices_pdqsortCmpFunc_Series_r18_go : type_of% (ops_go slices_pdqsortCmpFunc_Series_r18.eq_1 T K fr S) := ops_go slices_pdqsortCmpFunc_Series_r18.eq_1 T K fr S
def slices_pdqsortCmpFunc_Series_r19 : List POper := [M 104 15,M 1 104]
@[simp] theorem slices_pdqsortCmpFunc_Series_r19_go : type_of% (ops_go slices_pdqsortCmpFunc_Series_r19.eq_1 T K fr S) := ops_go slices_pdqsortCmpFunc_Series_r19.eq_1 T K fr S
def slices_pdqsortCmpFunc_Series_r20 : List POper := [M 106 0,M 107 1,M 108 2,M 109 13,M 110 4,Q 111 (.call .std 388 [(V 106), (V 107), (V 108), (V 109), (V 110)]),M 105 111,EX 112 0 105,EX 113 1 105,M 16 112,M 17 113]
@[simp] theorem slices_pdqsortCmpFunc_Series_r20_go : type_of% (ops_go slices_pdqsortCmpFunc_Series_r20.eq_1 T K fr S) := ops_go slices_pdqsortCmpFunc_Series_r20.eq_1 T K fr S
def slices_pdqsortCmpFunc_Series_r21 : List POper := [M 114 17,M 11 114]
@[simp] theorem slices_pdqsortCmpFunc_Series_r21_go : type_of% (ops_go slices_pdqsortCmpFunc_Series_r21.eq_1 T K fr S) := ops_go slices_pdqsortCmpFunc_Series_r21.eq_1 T K fr S
def slices_pdqsortCmpFunc_Series_r22 : List POper := [M 115 16,M 116 1,Q 117 (.arith .sub (V 115) (V 116)),M 118 2,M 119 16,Q 120 (.arith .sub (V 118) (V 119)),M 18 117,M 19 120]
@[simp] theorem slices_pdqsortCmpFunc_Series_r22_go : type_of% (ops_go slices_pdqsortCmpFunc_Series_r22.eq_1 T K fr S) := ops_go slices_pdqsortCmpFunc_Series_r22.eq_1 T K fr S
def slices_pdqsortCmpFunc_Series_r23 : List POper := [M 121 12,Q 122 (.arith .quo (V 121) (I 8)),M 20 122]
@[simp] theorem slices_pdqsortCmpFunc_Series_r23_go : type_of% (ops_go slices_pdqsortCmpFunc_Series_r23.eq_1 T K fr S) := ops_go slices_pdqsortCmpFunc_Series_r23.eq_1 T K fr S
def slices_pdqsortCmpFunc_Series_r24 : List POper := [M 123 18,M 124 19,Q 125 (.arith .lss (V 123) (V 124))]
@[simp] theorem slices_pdqsortCmpFunc_Series_r24_go : type_of% (ops_go slices_pdqsortCmpFunc_Series_r24.eq_1 T K fr S) := ops_go slices_pdqsortCmpFunc_Series_r24.eq_1 T K fr S
def slices_pdqsortCmpFunc_Series_r25 : List POper := [M 126 18,M 127 20,Q 128 (.arith .geq (V 126) (V 127)),M 10 128]
@[simp] theorem slices_pdqsortCmpFunc_Series_r25_go : type_of% (ops_go slices_pdqsortCmpFunc_Series_r25.eq_1 T K fr S) := ops_go slices_pdqsortCmpFunc_Series_r25.eq_1 T K fr S
def slices_pdqsortCmpFunc_Series_r26 : List POper := [M 129 0,M 130 1,M 131 16,M 132 3,M 133 4,Q 134 (.call .std 346 [(V 129), (V 130), (V 131), (V 132), (V 133)])]
@[simp] theorem slices_pdqsortCmpFunc_Series_r26_go : type_of% (ops_go slices_pdqsortCmpFunc_Series_r26.eq_1 T K fr S) := ops_go slices_pdqsortCmpFunc_Series_r26.eq_1 T K fr S
def slices_pdqsortCmpFunc_Series_r27 : List POper := [M 135 16,Q 136 (.arith .add (V 135) (I 1)),M 1 136]
@[simp] theorem slices_pdqsortCmpFunc_Series_r27_go : type_of% (ops_go slices_pdqsortCmpFunc_Series_r27.eq_1 T K fr S) := ops_go slices_pdqsortCmpFunc_Series_r27.eq_1 T K fr S
def slices_pdqsortCmpFunc_Series_r28 : List POper := [M 137 19,M 138 20,Q 139 (.arith .geq (V 137) (V 138)),M 10 139]
@[simp] theorem slices_pdqsortCmpFunc_Series_r28_go : type_of% (ops_go slices_pdqsortCmpFunc_Series_r28.eq_1 T K fr S) := ops_go slices_pdqsortCmpFunc_Series_r28.eq_1 T K fr S
def slices_pdqsortCmpFunc_Series_r29 : List POper := [M 140 0,M 141 16,Q 142 (.arith .add (V 141) (I 1)),M 143 2,M 144 3,M 145 4,Q 146 (.call .std 346 [(V 140), (V 142), (V 143), (V 144), (V 145)])]
@[simp] theorem slices_pdqsortCmpFunc_Series_r29_go : type_of% (ops_go slices_pdqsortCmpFunc_Series_r29.eq_1 T K fr S) := ops_go slices_pdqsortCmpFunc_Series_r29.eq_1 T K fr S
def slices_pdqsortCmpFunc_Series_r30 : List POper := [M 147 16,M 2 147]
@[simp] theorem slices_pdqsortCmpFunc_Series_r30_go : type_of% (ops_go slices_pdqsortCmpFunc_Series_r30.eq_1 T K fr S) := ops_go slices_pdqsortCmpFunc_Series_r30.eq_1 T K fr S
def slices_pdqsortCmpFunc_Series_l0 : PCode :=
  (.block 1 (.seq (.clr [(21, 24)] (.region slices_pdqsortCmpFunc_Series_r2)) (.seq (.seq (.clr [(24, 25)] (.region slices_pdqsortCmpFunc_Series_r3)) (.cond (V 25) (.seq (.clr [(26, 31)] (.region slices_pdqsortCmpFunc_Series_r4)) .ret) .skip)) (.seq (.seq (.clr [(31, 32)] (.region slices_pdqsortCmpFunc_Series_r5)) (.cond (V 32) (.seq (.clr [(33, 38)] (.region slices_pdqsortCmpFunc_Series_r6)) .ret) .skip)) (.seq (.seq (.clr [(38, 39)] (.region slices_pdqsortCmpFunc_Series_r7)) (.cond (V 39) (.seq (.clr [(40, 45)] (.region slices_pdqsortCmpFunc_Series_r8)) (.clr [(45, 47)] (.region slices_pdqsortCmpFunc_Series_r9))) .skip)) (.seq (.clr [(47, 55)] (.region slices_pdqsortCmpFunc_Series_r10)) (.seq (.seq (.clr [(55, 56)] (.region slices_pdqsortCmpFunc_Series_r11)) (.cond (V 56) (.seq (.clr [(57, 62)] (.region slices_pdqsortCmpFunc_Series_r12)) (.seq (.clr [(62, 68)] (.region slices_pdqsortCmpFunc_Series_r13)) (.region slices_pdqsortCmpFunc_Series_r14))) .skip)) (.seq (.seq (.clr [(68, 75)] (.region slices_pdqsortCmpFunc_Series_r15)) (.cond (V 75) (.seq (.clr [(76, 80)] (.region slices_pdqsortCmpFunc_Series_r16)) (.cond (V 80) .ret .skip)) .skip)) (.seq (.seq (.clr [(81, 97)] (.region slices_pdqsortCmpFunc_Series_r17)) (.cond (V 97) (.seq (.clr [(98, 104)] (.region slices_pdqsortCmpFunc_Series_r18)) (.seq (.clr [(104, 105)] (.region slices_pdqsortCmpFunc_Series_r19)) (.exit 1))) .skip)) (.seq (.clr [(105, 114)] (.region slices_pdqsortCmpFunc_Series_r20)) (.seq (.clr [(114, 115)] (.region slices_pdqsortCmpFunc_Series_r21)) (.seq (.clr [(115, 121)] (.region slices_pdqsortCmpFunc_Series_r22)) (.seq (.clr [(121, 123)] (.region slices_pdqsortCmpFunc_Series_r23)) (.seq (.clr [(123, 125)] (.region slices_pdqsortCmpFunc_Series_r24)) (.cond (V 125) (.seq (.clr [(126, 129)] (.region slices_pdqsortCmpFunc_Series_r25)) (.seq (.clr [(129, 135)] (.region slices_pdqsortCmpFunc_Series_r26)) (.clr [(135, 137)] (.region slices_pdqsortCmpFunc_Series_r27)))) (.seq (.clr [(137, 140)] (.region slices_pdqsortCmpFunc_Series_r28)) (.seq (.clr [(140, 147)] (.region slices_pdqsortCmpFunc_Series_r29)) (.clr [(147, 148)] (.region slices_pdqsortCmpFunc_Series_r30)))))))))))))))))))
@[simp] theorem slices_pdqsortCmpFunc_Series_l0_go : type_of% (code_go slices_pdqsortCmpFunc_Series_l0.eq_1 T K fr S) := code_go slices_pdqsortCmpFunc_Series_l0.eq_1 T K fr S
def slices_pdqsortCmpFunc_Series : PCodeFn :=
  ⟨5, [],
  (.seq (.region slices_pdqsortCmpFunc_Series_r0) (.seq (.region slices_pdqsortCmpFunc_Series_r1) (.block 0 (.loop slices_pdqsortCmpFunc_Series_l0)))), true⟩

def math_bits_Len_r0 : List POper := [Q 2 (.mov (I 0))]
@[simp] theorem math_bits_Len_r0_go : type_of% (ops_go math_bits_Len_r0.eq_1 T K fr S) := ops_go math_bits_Len_r0.eq_1 T K fr S
def math_bits_Len_r1 : List POper := [M 3 0,Q 4 (.toInt .u32 (V 3)),Q 5 (.call .pur 372 [(V 4)]),M 2 5]
@[simp] theorem math_bits_Len_r1_go : type_of% (ops_go math_bits_Len_r1.eq_1 T K fr S) := ops_go math_bits_Len_r1.eq_1 T K fr S
def math_bits_Len_r2 : List POper := [M 6 0,Q 7 (.call .pur 373 [(V 6)]),M 2 7]
@[simp] theorem math_bits_Len_r2_go : type_of% (ops_go math_bits_Len_r2.eq_1 T K fr S) := ops_go math_bits_Len_r2.eq_1 T K fr S
def math_bits_Len : PCodeFn :=
  ⟨1, [.tmp 2],
  (.seq (.region math_bits_Len_r0) (.seq (.cond (.cst (.bool false)) (.seq (.clr [(3, 6)] (.region math_bits_Len_r1)) .ret) .skip) (.seq (.clr [(6, 8)] (.region math_bits_Len_r2)) .ret))), false⟩

def slices_CompareFunc_Label_r0 : List POper := [Q 6 (.mov (I 0))]
@[simp] theorem slices_CompareFunc_Label_r0_go : type_of% (ops_go slices_CompareFunc_Label_r0.eq_1 T K fr S) := ops_go slices_CompareFunc_Label_r0.eq_1 T K fr S
def slices_CompareFunc_Label_r1 : List POper := [M 11 0,Q 12 (.len false (V 11)),Q 13 (.mov (I 0))]
@[simp] theorem slices_CompareFunc_Label_r1_go : type_of% (ops_go slices_CompareFunc_Label_r1.eq_1 T K fr S) := ops_go slices_CompareFunc_Label_r1.eq_1 T K fr S
def slices_CompareFunc_Label_r2 : List POper := [Q 14 (.arith .lss (V 13) (V 12))]
@[simp] theorem slices_CompareFunc_Label_r2_go : type_of% (ops_go slices_CompareFunc_Label_r2.eq_1 T K fr S) := ops_go slices_CompareFunc_Label_r2.eq_1 T K fr S
def slices_CompareFunc_Label_r3 : List POper := [M 15 13,Q 16 (.iaddr 2 (V 11) (V 13)),Q 17 (.load true 2 false (V 16)),Q 8 (.alloc false [(.str []), (.str [])]),M 7 15,QN (.store 2 (V 8) (V 17))]
@[simp] theorem slices_CompareFunc_Label_r3_go : type_of% (ops_go slices_CompareFunc_Label_r3.eq_1 T K fr S) := ops_go slices_CompareFunc_Label_r3.eq_1 T K fr S
def slices_CompareFunc_Label_r4 : List POper := [M 18 7,M 19 1,Q 20 (.len false (V 19)),Q 21 (.arith .geq (V 18) (V 20))]
@[simp] theorem slices_CompareFunc_Label_r4_go : type_of% (ops_go slices_CompareFunc_Label_r4.eq_1 T K fr S) := ops_go slices_CompareFunc_Label_r4.eq_1 T K fr S
def slices_CompareFunc_Label_r5 : List POper := [Q 6 (.mov (I 1))]
@[simp] theorem slices_CompareFunc_Label_r5_go : type_of% (ops_go slices_CompareFunc_Label_r5.eq_1 T K fr S) := ops_go slices_CompareFunc_Label_r5.eq_1 T K fr S
def slices_CompareFunc_Label_r6 : List POper := [M 22 1,M 23 7,Q 24 (.iaddr 2 (V 22) (V 23)),Q 25 (.load true 2 false (V 24)),Q 9 (.alloc false [(.str []), (.str [])]),QN (.store 2 (V 9) (V 25))]
@[simp] theorem slices_CompareFunc_Label_r6_go : type_of% (ops_go slices_CompareFunc_Label_r6.eq_1 T K fr S) := ops_go slices_CompareFunc_Label_r6.eq_1 T K fr S
def slices_CompareFunc_Label_r7 : List POper := [M 26 2,Q 27 (.load true 2 false (V 8)),Q 28 (.load true 2 false (V 9)),Q 29 (.callv .std (V 26) [(V 27), (V 28)]),M 10 29]
@[simp] theorem slices_CompareFunc_Label_r7_go : type_of% (ops_go slices_CompareFunc_Label_r7.eq_1 T K fr S) := ops_go slices_CompareFunc_Label_r7.eq_1 T K fr S
def slices_CompareFunc_Label_r8 : List POper := [M 30 10,Q 31 (.arith .neq (V 30) (I 0))]
@[simp] theorem slices_CompareFunc_Label_r8_go : type_of% (ops_go slices_CompareFunc_Label_r8.eq_1 T K fr S) := ops_go slices_CompareFunc_Label_r8.eq_1 T K fr S
def slices_CompareFunc_Label_r9 : List POper := [M 32 10,M 6 32]
@[simp] theorem slices_CompareFunc_Label_r9_go : type_of% (ops_go slices_CompareFunc_Label_r9.eq_1 T K fr S) := ops_go slices_CompareFunc_Label_r9.eq_1 T K fr S
def slices_CompareFunc_Label_r10 : List POper := [Q 33 (.arith .add (V 13) (I 1)),M 13 33]
@[simp] theorem slices_CompareFunc_Label_r10_go : type_of% (ops_go slices_CompareFunc_Label_r10.eq_1 T K fr S) := ops_go slices_CompareFunc_Label_r10.eq_1 T K fr S
def slices_CompareFunc_Label_l0 : PCode :=
  (.seq (.region slices_CompareFunc_Label_r2) (.seq (.cond (V 14) .skip (.exit 0)) (.seq (.block 1 (.seq (.clr [(15, 18)] (.region slices_CompareFunc_Label_r3)) (.seq (.seq (.clr [(18, 21)] (.region slices_CompareFunc_Label_r4)) (.cond (V 21) (.seq (.region slices_CompareFunc_Label_r5) .ret) .skip)) (.seq (.clr [(22, 26)] (.region slices_CompareFunc_Label_r6)) (.seq (.clr [(26, 30)] (.region slices_CompareFunc_Label_r7)) (.seq (.clr [(30, 31)] (.region slices_CompareFunc_Label_r8)) (.cond (V 31) (.seq (.clr [(32, 33)] (.region slices_CompareFunc_Label_r9)) .ret) .skip))))))) (.clr [(33, 34)] (.region slices_CompareFunc_Label_r10)))))
@[simp] theorem slices_CompareFunc_Label_l0_go : type_of% (code_go slices_CompareFunc_Label_l0.eq_1 T K fr S) := code_go slices_CompareFunc_Label_l0.eq_1 T K fr S
def slices_CompareFunc_Label_r11 : List POper := [M 34 0,Q 35 (.len false (V 34)),M 36 1,Q 37 (.len false (V 36)),Q 38 (.arith .lss (V 35) (V 37))]
@[simp] theorem slices_CompareFunc_Label_r11_go : type_of% (ops_go slices_CompareFunc_Label_r11.eq_1 T K fr S) := ops_go slices_CompareFunc_Label_r11.eq_1 T K fr S
def slices_CompareFunc_Label_r12 : List POper := [Q 6 (.mov (I (-1)))]
@[simp] theorem slices_CompareFunc_Label_r12_go : type_of% (ops_go slices_CompareFunc_Label_r12.eq_1 T K fr S) := ops_go slices_CompareFunc_Label_r12.eq_1 T K fr S
def slices_CompareFunc_Label_r13 : List POper := [Q 6 (.mov (I 0))]
@[simp] theorem slices_CompareFunc_Label_r13_go : type_of% (ops_go slices_CompareFunc_Label_r13.eq_1 T K fr S) := ops_go slices_CompareFunc_Label_r13.eq_1 T K fr S
def slices_CompareFunc_Label : PCodeFn :=
  ⟨3, [.tmp 6],
  (.seq (.region slices_CompareFunc_Label_r0) (.seq (.seq (.region slices_CompareFunc_Label_r1) (.block 0 (.loop slices_CompareFunc_Label_l0))) (.seq (.seq (.clr [(34, 38)] (.region slices_CompareFunc_Label_r11)) (.cond (V 38) (.seq (.region slices_CompareFunc_Label_r12) .ret) .skip)) (.seq (.region slices_CompareFunc_Label_r13) .ret)))), false⟩

def label_Compare_1_r0 : List POper := [Q 2 (.box true (V 0)),Q 3 (.box true (V 1)),Q 4 (.mov (I 0))]
@[simp] theorem label_Compare_1_r0_go : type_of% (ops_go label_Compare_1_r0.eq_1 T K fr S) := ops_go label_Compare_1_r0.eq_1 T K fr S
def label_Compare_1_r1 : List POper := [FA 5 0 2,Q 6 (.load false 1 true (V 5)),FA 7 0 3,Q 8 (.load false 1 true (V 7)),Q 9 (.call .pur 106 [(V 6), (V 8)]),FA 10 1 2,Q 11 (.load false 1 true (V 10)),FA 12 1 3,Q 13 (.load false 1 true (V 12)),Q 14 (.call .pur 106 [(V 11), (V 13)]),Q 15 (.bsl false (.int .i64 0) 2 [(0, (V 9)), (1, (V 14))]),Q 16 (.call .std 105 [(V 15)]),M 4 16]
@[simp] theorem label_Compare_1_r1_go : type_of% (ops_go label_Compare_1_r1.eq_1 T K fr S) := ops_go label_Compare_1_r1.eq_1 T K fr S
def label_Compare_1 : PCodeFn :=
  ⟨2, [.tmp 4],
  (.seq (.region label_Compare_1_r0) (.seq (.clr [(5, 17)] (.region label_Compare_1_r1)) .ret)), false⟩

def cmp_Or_int_r0 : List POper := [Q 2 (.mov (I 0))]
@[simp] theorem cmp_Or_int_r0_go : type_of% (ops_go cmp_Or_int_r0.eq_1 T K fr S) := ops_go cmp_Or_int_r0.eq_1 T K fr S
def cmp_Or_int_r1 : List POper := [Q 3 (.mov (I 0))]
@[simp] theorem cmp_Or_int_r1_go : type_of% (ops_go cmp_Or_int_r1.eq_1 T K fr S) := ops_go cmp_Or_int_r1.eq_1 T K fr S
def cmp_Or_int_r2 : List POper := [M 6 0,Q 7 (.len false (V 6)),Q 8 (.mov (I 0))]
@[simp] theorem cmp_Or_int_r2_go : type_of% (ops_go cmp_Or_int_r2.eq_1 T K fr S) := ops_go cmp_Or_int_r2.eq_1 T K fr S
def cmp_Or_int_r3 : List POper := [Q 9 (.arith .lss (V 8) (V 7))]
@[simp] theorem cmp_Or_int_r3_go : type_of% (ops_go cmp_Or_int_r3.eq_1 T K fr S) := ops_go cmp_Or_int_r3.eq_1 T K fr S
def cmp_Or_int_r4 : List POper := [Q 10 (.iaddr 1 (V 6) (V 8)),LD 11 10,M 5 11]
@[simp] theorem cmp_Or_int_r4_go : type_of% (ops_go cmp_Or_int_r4.eq_1 T K fr S) := ops_go cmp_Or_int_r4.eq_1 T K fr S
def cmp_Or_int_r5 : List POper := [M 12 5,M 13 3,Q 14 (.arith .neq (V 12) (V 13))]
@[simp] theorem cmp_Or_int_r5_go : type_of% (ops_go cmp_Or_int_r5.eq_1 T K fr S) := ops_go cmp_Or_int_r5.eq_1 T K fr S
def cmp_Or_int_r6 : List POper := [M 15 5,M 2 15]
@[simp] theorem cmp_Or_int_r6_go : type_of% (ops_go cmp_Or_int_r6.eq_1 T K fr S) := ops_go cmp_Or_int_r6.eq_1 T K fr S
def cmp_Or_int_r7 : List POper := [Q 16 (.arith .add (V 8) (I 1)),M 8 16]
@[simp] theorem cmp_Or_int_r7_go : type_of% (ops_go cmp_Or_int_r7.eq_1 T K fr S) := ops_go cmp_Or_int_r7.eq_1 T K fr S
def cmp_Or_int_l0 : PCode :=
  (.seq (.region cmp_Or_int_r3) (.seq (.cond (V 9) .skip (.exit 0)) (.seq (.block 1 (.seq (.clr [(10, 12)] (.region cmp_Or_int_r4)) (.seq (.clr [(12, 14)] (.region cmp_Or_int_r5)) (.cond (V 14) (.seq (.clr [(15, 16)] (.region cmp_Or_int_r6)) .ret) .skip)))) (.clr [(16, 17)] (.region cmp_Or_int_r7)))))
@[simp] theorem cmp_Or_int_l0_go : type_of% (code_go cmp_Or_int_l0.eq_1 T K fr S) := code_go cmp_Or_int_l0.eq_1 T K fr S
def cmp_Or_int_r8 : List POper := [M 17 3,M 2 17]
@[simp] theorem cmp_Or_int_r8_go : type_of% (ops_go cmp_Or_int_r8.eq_1 T K fr S) := ops_go cmp_Or_int_r8.eq_1 T K fr S
def cmp_Or_int : PCodeFn :=
  ⟨1, [.tmp 2],
  (.seq (.region cmp_Or_int_r0) (.seq (.region cmp_Or_int_r1) (.seq (.seq (.region cmp_Or_int_r2) (.block 0 (.loop cmp_Or_int_l0))) (.seq (.clr [(17, 18)] (.region cmp_Or_int_r8)) .ret)))), false⟩

def cmp_Compare_string_r0 : List POper := [Q 4 (.mov (I 0))]
@[simp] theorem cmp_Compare_string_r0_go : type_of% (ops_go cmp_Compare_string_r0.eq_1 T K fr S) := ops_go cmp_Compare_string_r0.eq_1 T K fr S
def cmp_Compare_string_r1 : List POper := [M 7 0,Q 8 (.call .pur 217 [(V 7)]),M 5 8]
@[simp] theorem cmp_Compare_string_r1_go : type_of% (ops_go cmp_Compare_string_r1.eq_1 T K fr S) := ops_go cmp_Compare_string_r1.eq_1 T K fr S
def cmp_Compare_string_r2 : List POper := [M 9 1,Q 10 (.call .pur 217 [(V 9)]),M 6 10]
@[simp] theorem cmp_Compare_string_r2_go : type_of% (ops_go cmp_Compare_string_r2.eq_1 T K fr S) := ops_go cmp_Compare_string_r2.eq_1 T K fr S
def cmp_Compare_string_r3 : List POper := [M 11 5]
@[simp] theorem cmp_Compare_string_r3_go : type_of% (ops_go cmp_Compare_string_r3.eq_1 T K fr S) := ops_go cmp_Compare_string_r3.eq_1 T K fr S
def cmp_Compare_string_r4 : List POper := [M 12 6]
@[simp] theorem cmp_Compare_string_r4_go : type_of% (ops_go cmp_Compare_string_r4.eq_1 T K fr S) := ops_go cmp_Compare_string_r4.eq_1 T K fr S
def cmp_Compare_string_r5 : List POper := [Q 4 (.mov (I 0))]
@[simp] theorem cmp_Compare_string_r5_go : type_of% (ops_go cmp_Compare_string_r5.eq_1 T K fr S) := ops_go cmp_Compare_string_r5.eq_1 T K fr S
def cmp_Compare_string_r6 : List POper := [Q 4 (.mov (I (-1)))]
@[simp] theorem cmp_Compare_string_r6_go : type_of% (ops_go cmp_Compare_string_r6.eq_1 T K fr S) := ops_go cmp_Compare_string_r6.eq_1 T K fr S
def cmp_Compare_string_r7 : List POper := [M 13 6]
@[simp] theorem cmp_Compare_string_r7_go : type_of% (ops_go cmp_Compare_string_r7.eq_1 T K fr S) := ops_go cmp_Compare_string_r7.eq_1 T K fr S
def cmp_Compare_string_r8 : List POper := [Q 4 (.mov (I 1))]
@[simp] theorem cmp_Compare_string_r8_go : type_of% (ops_go cmp_Compare_string_r8.eq_1 T K fr S) := ops_go cmp_Compare_string_r8.eq_1 T K fr S
def cmp_Compare_string_r9 : List POper := [M 14 0,M 15 1,Q 16 (.arith .lss (V 14) (V 15))]
@[simp] theorem cmp_Compare_string_r9_go : type_of% (ops_go cmp_Compare_string_r9.eq_1 T K fr S) := ops_go cmp_Compare_string_r9.eq_1 T K fr S
def cmp_Compare_string_r10 : List POper := [Q 4 (.mov (I (-1)))]
@[simp] theorem cmp_Compare_string_r10_go : type_of% (ops_go cmp_Compare_string_r10.eq_1 T K fr S) := ops_go cmp_Compare_string_r10.eq_1 T K fr S
def cmp_Compare_string_r11 : List POper := [M 17 0,M 18 1,Q 19 (.arith .gtr (V 17) (V 18))]
@[simp] theorem cmp_Compare_string_r11_go : type_of% (ops_go cmp_Compare_string_r11.eq_1 T K fr S) := ops_go cmp_Compare_string_r11.eq_1 T K fr S
def cmp_Compare_string_r12 : List POper := [Q 4 (.mov (I 1))]
@[simp] theorem cmp_Compare_string_r12_go : type_of% (ops_go cmp_Compare_string_r12.eq_1 T K fr S) := ops_go cmp_Compare_string_r12.eq_1 T K fr S
def cmp_Compare_string_r13 : List POper := [Q 4 (.mov (I 0))]
@[simp] theorem cmp_Compare_string_r13_go : type_of% (ops_go cmp_Compare_string_r13.eq_1 T K fr S) := ops_go cmp_Compare_string_r13.eq_1 T K fr S
def cmp_Compare_string : PCodeFn :=
  ⟨2, [.tmp 4],
  (.seq (.region cmp_Compare_string_r0) (.seq (.clr [(7, 9)] (.region cmp_Compare_string_r1)) (.seq (.clr [(9, 11)] (.region cmp_Compare_string_r2)) (.seq (.seq (.region cmp_Compare_string_r3) (.cond (V 11) (.seq (.seq (.region cmp_Compare_string_r4) (.cond (V 12) (.seq (.region cmp_Compare_string_r5) .ret) .skip)) (.seq (.region cmp_Compare_string_r6) .ret)) .skip)) (.seq (.seq (.region cmp_Compare_string_r7) (.cond (V 13) (.seq (.region cmp_Compare_string_r8) .ret) .skip)) (.seq (.seq (.clr [(14, 16)] (.region cmp_Compare_string_r9)) (.cond (V 16) (.seq (.region cmp_Compare_string_r10) .ret) .skip)) (.seq (.seq (.clr [(17, 19)] (.region cmp_Compare_string_r11)) (.cond (V 19) (.seq (.region cmp_Compare_string_r12) .ret) .skip)) (.seq (.region cmp_Compare_string_r13) .ret)))))))), false⟩

def label_quoted_r0 : List POper := [Q 2 (.mov (.cst (.str [])))]
@[simp] theorem label_quoted_r0_go : type_of% (ops_go label_quoted_r0.eq_1 T K fr S) := ops_go label_quoted_r0.eq_1 T K fr S
def label_quoted_r1 : List POper := [Q 6 (.bsl false (.int .u8 0) 1 [(0, (.cst (.int .u8 34)))]),M 3 6]
@[simp] theorem label_quoted_r1_go : type_of% (ops_go label_quoted_r1.eq_1 T K fr S) := ops_go label_quoted_r1.eq_1 T K fr S
def label_quoted_r2 : List POper := [M 7 0,Q 8 (.len true (V 7)),Q 9 (.mov (I 0))]
@[simp] theorem label_quoted_r2_go : type_of% (ops_go label_quoted_r2.eq_1 T K fr S) := ops_go label_quoted_r2.eq_1 T K fr S
def label_quoted_r3 : List POper := [Q 10 (.arith .lss (V 9) (V 8))]
@[simp] theorem label_quoted_r3_go : type_of% (ops_go label_quoted_r3.eq_1 T K fr S) := ops_go label_quoted_r3.eq_1 T K fr S
def label_quoted_r4 : List POper := [M 11 9,M 4 11]
@[simp] theorem label_quoted_r4_go : type_of% (ops_go label_quoted_r4.eq_1 T K fr S) := ops_go label_quoted_r4.eq_1 T K fr S
def label_quoted_r5 : List POper := [M 12 0,M 13 4,Q 14 (.idxs (V 12) (V 13)),M 5 14]
@[simp] theorem label_quoted_r5_go : type_of% (ops_go label_quoted_r5.eq_1 T K fr S) := ops_go label_quoted_r5.eq_1 T K fr S
def label_quoted_r7 : List POper := [M 20 5,Q 21 (.arith .eql (V 20) (.cst (.int .u8 34))),M 19 21]
@[simp] theorem label_quoted_r7_go : type_of% (ops_go label_quoted_r7.eq_1 T K fr S) := ops_go label_quoted_r7.eq_1 T K fr S
def label_quoted_r8 : List POper := [M 22 5,Q 23 (.arith .eql (V 22) (.cst (.int .u8 92))),M 19 23]
@[simp] theorem label_quoted_r8_go : type_of% (ops_go label_quoted_r8.eq_1 T K fr S) := ops_go label_quoted_r8.eq_1 T K fr S
def label_quoted_r9 : List POper := [M 24 3,M 25 5,Q 26 (.bsl false (.int .u8 0) 2 [(0, (.cst (.int .u8 92))), (1, (V 25))]),Q 27 (.app 1 1 (V 24) (V 26)),M 3 27]
@[simp] theorem label_quoted_r9_go : type_of% (ops_go label_quoted_r9.eq_1 T K fr S) := ops_go label_quoted_r9.eq_1 T K fr S
def label_quoted_r10 : List POper := [M 29 5,Q 30 (.arith .lss (V 29) (.cst (.int .u8 32))),M 28 30]
@[simp] theorem label_quoted_r10_go : type_of% (ops_go label_quoted_r10.eq_1 T K fr S) := ops_go label_quoted_r10.eq_1 T K fr S
def label_quoted_r11 : List POper := [M 31 5,Q 32 (.arith .gtr (V 31) (.cst (.int .u8 126))),M 28 32]
@[simp] theorem label_quoted_r11_go : type_of% (ops_go label_quoted_r11.eq_1 T K fr S) := ops_go label_quoted_r11.eq_1 T K fr S
def label_quoted_r12 : List POper := [M 33 3,M 34 5,Q 35 (.arith .shr (V 34) (.cst (.int .u64 4))),Q 36 (.idxs (.cst (.str [48, 49, 50, 51, 52, 53, 54, 55, 56, 57, 97, 98, 99, 100, 101, 102])) (V 35)),M 37 5,Q 38 (.arith .and (V 37) (.cst (.int .u8 15))),Q 39 (.idxs (.cst (.str [48, 49, 50, 51, 52, 53, 54, 55, 56, 57, 97, 98, 99, 100, 101, 102])) (V 38)),Q 40 (.bsl false (.int .u8 0) 4 [(0, (.cst (.int .u8 92))), (1, (.cst (.int .u8 120))), (2, (V 36)), (3, (V 39))]),Q 41 (.app 1 1 (V 33) (V 40)),M 3 41]
@[simp] theorem label_quoted_r12_go : type_of% (ops_go label_quoted_r12.eq_1 T K fr S) := ops_go label_quoted_r12.eq_1 T K fr S
def label_quoted_r6 : List POper := [M 15 3,M 16 5,Q 17 (.bsl false (.int .u8 0) 1 [(0, (V 16))]),Q 18 (.app 1 1 (V 15) (V 17)),M 3 18]
@[simp] theorem label_quoted_r6_go : type_of% (ops_go label_quoted_r6.eq_1 T K fr S) := ops_go label_quoted_r6.eq_1 T K fr S
def label_quoted_r13 : List POper := [Q 42 (.arith .add (V 9) (I 1)),M 9 42]
@[simp] theorem label_quoted_r13_go : type_of% (ops_go label_quoted_r13.eq_1 T K fr S) := ops_go label_quoted_r13.eq_1 T K fr S
def label_quoted_l0 : PCode :=
  (.seq (.region label_quoted_r3) (.seq (.cond (V 10) .skip (.exit 0)) (.seq (.block 1 (.seq (.clr [(11, 12)] (.region label_quoted_r4)) (.seq (.clr [(12, 15)] (.region label_quoted_r5)) (.block 2 (.seq (.seq (.clr [(20, 22)] (.region label_quoted_r7)) (.cond (V 19) .skip (.clr [(22, 24)] (.region label_quoted_r8)))) (.cond (V 19) (.clr [(24, 28)] (.region label_quoted_r9)) (.seq (.seq (.clr [(29, 31)] (.region label_quoted_r10)) (.cond (V 28) .skip (.clr [(31, 33)] (.region label_quoted_r11)))) (.cond (V 28) (.clr [(33, 42)] (.region label_quoted_r12)) (.clr [(15, 19)] (.region label_quoted_r6)))))))))) (.clr [(42, 43)] (.region label_quoted_r13)))))
@[simp] theorem label_quoted_l0_go : type_of% (code_go label_quoted_l0.eq_1 T K fr S) := code_go label_quoted_l0.eq_1 T K fr S
def label_quoted_r14 : List POper := [M 43 3,Q 44 (.bsl false (.int .u8 0) 1 [(0, (.cst (.int .u8 34)))]),Q 45 (.app 1 1 (V 43) (V 44)),Q 46 (.toStr (V 45)),M 2 46]
@[simp] theorem label_quoted_r14_go : type_of% (ops_go label_quoted_r14.eq_1 T K fr S) := ops_go label_quoted_r14.eq_1 T K fr S
def label_quoted : PCodeFn :=
  ⟨1, [.tmp 2],
  (.seq (.region label_quoted_r0) (.seq (.clr [(6, 7)] (.region label_quoted_r1)) (.seq (.seq (.clr [(7, 8)] (.region label_quoted_r2)) (.block 0 (.loop label_quoted_l0))) (.seq (.clr [(43, 47)] (.region label_quoted_r14)) .ret)))), false⟩

def strings_Join_r0 : List POper := [Q 4 (.mov (.cst (.str [])))]
@[simp] theorem strings_Join_r0_go : type_of% (ops_go strings_Join_r0.eq_1 T K fr S) := ops_go strings_Join_r0.eq_1 T K fr S
def strings_Join_r1 : List POper := [M 11 0,Q 12 (.len false (V 11))]
@[simp] theorem strings_Join_r1_go : type_of% (ops_go strings_Join_r1.eq_1 T K fr S) := ops_go strings_Join_r1.eq_1 T K fr S
def strings_Join_r2 : List POper := [Q 14 (.arith .eql (V 12) (I 0)),M 13 14]
@[simp] theorem strings_Join_r2_go : type_of% (ops_go strings_Join_r2.eq_1 T K fr S) := ops_go strings_Join_r2.eq_1 T K fr S
def strings_Join_r3 : List POper := [Q 4 (.mov (.cst (.str [])))]
@[simp] theorem strings_Join_r3_go : type_of% (ops_go strings_Join_r3.eq_1 T K fr S) := ops_go strings_Join_r3.eq_1 T K fr S
def strings_Join_r4 : List POper := [Q 16 (.arith .eql (V 12) (I 1)),M 15 16]
@[simp] theorem strings_Join_r4_go : type_of% (ops_go strings_Join_r4.eq_1 T K fr S) := ops_go strings_Join_r4.eq_1 T K fr S
def strings_Join_r5 : List POper := [M 17 0,Q 18 (.iaddr 1 (V 17) (I 0)),LD 19 18,M 4 19]
@[simp] theorem strings_Join_r5_go : type_of% (ops_go strings_Join_r5.eq_1 T K fr S) := ops_go strings_Join_r5.eq_1 T K fr S
def strings_Join_r6 : List POper := [Q 5 (.mov (I 0))]
@[simp] theorem strings_Join_r6_go : type_of% (ops_go strings_Join_r6.eq_1 T K fr S) := ops_go strings_Join_r6.eq_1 T K fr S
def strings_Join_r7 : List POper := [M 20 1,Q 21 (.len true (V 20)),Q 22 (.arith .gtr (V 21) (I 0))]
@[simp] theorem strings_Join_r7_go : type_of% (ops_go strings_Join_r7.eq_1 T K fr S) := ops_go strings_Join_r7.eq_1 T K fr S
def strings_Join_r8 : List POper := [M 23 1,Q 24 (.len true (V 23)),M 25 0,Q 26 (.len false (V 25)),Q 27 (.arith .sub (V 26) (I 1)),Q 28 (.arith .quo (I 9223372036854775807) (V 27)),Q 29 (.arith .geq (V 24) (V 28))]
@[simp] theorem strings_Join_r8_go : type_of% (ops_go strings_Join_r8.eq_1 T K fr S) := ops_go strings_Join_r8.eq_1 T K fr S
def strings_Join_r10 : List POper := [M 31 5,M 32 1,Q 33 (.len true (V 32)),M 34 0,Q 35 (.len false (V 34)),Q 36 (.arith .sub (V 35) (I 1)),Q 37 (.arith .mul (V 33) (V 36)),Q 38 (.arith .add (V 31) (V 37)),M 5 38]
@[simp] theorem strings_Join_r10_go : type_of% (ops_go strings_Join_r10.eq_1 T K fr S) := ops_go strings_Join_r10.eq_1 T K fr S
def strings_Join_r11 : List POper := [M 39 0,Q 40 (.len false (V 39)),Q 41 (.mov (I 0))]
@[simp] theorem strings_Join_r11_go : type_of% (ops_go strings_Join_r11.eq_1 T K fr S) := ops_go strings_Join_r11.eq_1 T K fr S
def strings_Join_r12 : List POper := [Q 42 (.arith .lss (V 41) (V 40))]
@[simp] theorem strings_Join_r12_go : type_of% (ops_go strings_Join_r12.eq_1 T K fr S) := ops_go strings_Join_r12.eq_1 T K fr S
def strings_Join_r13 : List POper := [Q 43 (.iaddr 1 (V 39) (V 41)),LD 44 43,M 7 44]
@[simp] theorem strings_Join_r13_go : type_of% (ops_go strings_Join_r13.eq_1 T K fr S) := ops_go strings_Join_r13.eq_1 T K fr S
def strings_Join_r14 : List POper := [M 45 7,Q 46 (.len true (V 45)),M 47 5,Q 48 (.arith .sub (I 9223372036854775807) (V 47)),Q 49 (.arith .gtr (V 46) (V 48))]
@[simp] theorem strings_Join_r14_go : type_of% (ops_go strings_Join_r14.eq_1 T K fr S) := ops_go strings_Join_r14.eq_1 T K fr S
def strings_Join_r16 : List POper := [M 51 5,M 52 7,Q 53 (.len true (V 52)),Q 54 (.arith .add (V 51) (V 53)),M 5 54]
@[simp] theorem strings_Join_r16_go : type_of% (ops_go strings_Join_r16.eq_1 T K fr S) := ops_go strings_Join_r16.eq_1 T K fr S
def strings_Join_r17 : List POper := [Q 55 (.arith .add (V 41) (I 1)),M 41 55]
@[simp] theorem strings_Join_r17_go : type_of% (ops_go strings_Join_r17.eq_1 T K fr S) := ops_go strings_Join_r17.eq_1 T K fr S
def strings_Join_l0 : PCode :=
  (.seq (.region strings_Join_r12) (.seq (.cond (V 42) .skip (.exit 1)) (.seq (.block 2 (.seq (.clr [(43, 45)] (.region strings_Join_r13)) (.seq (.seq (.clr [(45, 49)] (.region strings_Join_r14)) (.cond (V 49) .bad .skip)) (.clr [(51, 55)] (.region strings_Join_r16))))) (.clr [(55, 56)] (.region strings_Join_r17)))))
@[simp] theorem strings_Join_l0_go : type_of% (code_go strings_Join_l0.eq_1 T K fr S) := code_go strings_Join_l0.eq_1 T K fr S
def strings_Join_r18 : List POper := [Q 8 (.alloc false [.nilp, .nils])]
@[simp] theorem strings_Join_r18_go : type_of% (ops_go strings_Join_r18.eq_1 T K fr S) := ops_go strings_Join_r18.eq_1 T K fr S
def strings_Join_r19 : List POper := [M 56 5,Q 57 (.call .std 213 [(V 8), (V 56)])]
@[simp] theorem strings_Join_r19_go : type_of% (ops_go strings_Join_r19.eq_1 T K fr S) := ops_go strings_Join_r19.eq_1 T K fr S
def strings_Join_r20 : List POper := [M 58 0,Q 59 (.iaddr 1 (V 58) (I 0)),LD 60 59,Q 61 (.call .std 214 [(V 8), (V 60)])]
@[simp] theorem strings_Join_r20_go : type_of% (ops_go strings_Join_r20.eq_1 T K fr S) := ops_go strings_Join_r20.eq_1 T K fr S
def strings_Join_r21 : List POper := [M 62 0,Q 63 (.slc 1 (some (I 1)) none (V 62)),Q 64 (.len false (V 63)),Q 65 (.mov (I 0))]
@[simp] theorem strings_Join_r21_go : type_of% (ops_go strings_Join_r21.eq_1 T K fr S) := ops_go strings_Join_r21.eq_1 T K fr S
def strings_Join_r22 : List POper := [Q 66 (.arith .lss (V 65) (V 64))]
@[simp] theorem strings_Join_r22_go : type_of% (ops_go strings_Join_r22.eq_1 T K fr S) := ops_go strings_Join_r22.eq_1 T K fr S
def strings_Join_r23 : List POper := [Q 67 (.iaddr 1 (V 63) (V 65)),LD 68 67,M 10 68]
@[simp] theorem strings_Join_r23_go : type_of% (ops_go strings_Join_r23.eq_1 T K fr S) := ops_go strings_Join_r23.eq_1 T K fr S
def strings_Join_r24 : List POper := [M 69 1,Q 70 (.call .std 214 [(V 8), (V 69)])]
@[simp] theorem strings_Join_r24_go : type_of% (ops_go strings_Join_r24.eq_1 T K fr S) := ops_go strings_Join_r24.eq_1 T K fr S
def strings_Join_r25 : List POper := [M 71 10,Q 72 (.call .std 214 [(V 8), (V 71)])]
@[simp] theorem strings_Join_r25_go : type_of% (ops_go strings_Join_r25.eq_1 T K fr S) := ops_go strings_Join_r25.eq_1 T K fr S
def strings_Join_r26 : List POper := [Q 73 (.arith .add (V 65) (I 1)),M 65 73]
@[simp] theorem strings_Join_r26_go : type_of% (ops_go strings_Join_r26.eq_1 T K fr S) := ops_go strings_Join_r26.eq_1 T K fr S
def strings_Join_l1 : PCode :=
  (.seq (.region strings_Join_r22) (.seq (.cond (V 66) .skip (.exit 3)) (.seq (.block 4 (.seq (.clr [(67, 69)] (.region strings_Join_r23)) (.seq (.clr [(69, 71)] (.region strings_Join_r24)) (.clr [(71, 73)] (.region strings_Join_r25))))) (.clr [(73, 74)] (.region strings_Join_r26)))))
@[simp] theorem strings_Join_l1_go : type_of% (code_go strings_Join_l1.eq_1 T K fr S) := code_go strings_Join_l1.eq_1 T K fr S
def strings_Join_r27 : List POper := [Q 74 (.call .std 215 [(V 8)]),M 4 74]
@[simp] theorem strings_Join_r27_go : type_of% (ops_go strings_Join_r27.eq_1 T K fr S) := ops_go strings_Join_r27.eq_1 T K fr S
def strings_Join : PCodeFn :=
  ⟨2, [.tmp 4],
  (.seq (.region strings_Join_r0) (.seq (.seq (.clr [(11, 12)] (.region strings_Join_r1)) (.block 0 (.seq (.clr [(14, 15)] (.region strings_Join_r2)) (.cond (V 13) (.seq (.region strings_Join_r3) .ret) (.seq (.clr [(16, 17)] (.region strings_Join_r4)) (.cond (V 15) (.seq (.clr [(17, 20)] (.region strings_Join_r5)) .ret) .skip)))))) (.seq (.region strings_Join_r6) (.seq (.seq (.clr [(20, 22)] (.region strings_Join_r7)) (.cond (V 22) (.seq (.seq (.clr [(23, 29)] (.region strings_Join_r8)) (.cond (V 29) .bad .skip)) (.clr [(31, 39)] (.region strings_Join_r10))) .skip)) (.seq (.seq (.region strings_Join_r11) (.block 1 (.loop strings_Join_l0))) (.seq (.region strings_Join_r18) (.seq (.clr [(56, 58)] (.region strings_Join_r19)) (.seq (.clr [(58, 62)] (.region strings_Join_r20)) (.seq (.seq (.clr [(62, 63)] (.region strings_Join_r21)) (.block 3 (.loop strings_Join_l1))) (.seq (.clr [(74, 75)] (.region strings_Join_r27)) .ret)))))))))), false⟩

def label_Name_r0 : List POper := [Q 2 (.mov ff')]
@[simp] theorem label_Name_r0_go : type_of% (ops_go label_Name_r0.eq_1 T K fr S) := ops_go label_Name_r0.eq_1 T K fr S
def label_Name_r1 : List POper := [M 5 0,Q 6 (.len true (V 5)),Q 7 (.mov (I 0))]
@[simp] theorem label_Name_r1_go : type_of% (ops_go label_Name_r1.eq_1 T K fr S) := ops_go label_Name_r1.eq_1 T K fr S
def label_Name_r2 : List POper := [Q 8 (.arith .lss (V 7) (V 6))]
@[simp] theorem label_Name_r2_go : type_of% (ops_go label_Name_r2.eq_1 T K fr S) := ops_go label_Name_r2.eq_1 T K fr S
def label_Name_r3 : List POper := [M 9 7,M 3 9]
@[simp] theorem label_Name_r3_go : type_of% (ops_go label_Name_r3.eq_1 T K fr S) := ops_go label_Name_r3.eq_1 T K fr S
def label_Name_r4 : List POper := [M 10 0,M 11 3,Q 12 (.idxs (V 10) (V 11)),M 4 12]
@[simp] theorem label_Name_r4_go : type_of% (ops_go label_Name_r4.eq_1 T K fr S) := ops_go label_Name_r4.eq_1 T K fr S
def label_Name_r6 : List POper := [M 14 4,Q 15 (.arith .geq (V 14) (.cst (.int .u8 97))),M 16 15,QG (some 17) (.mov (V 4)) 16 true,QG (some 18) (.arith .leq (V 17) (.cst (.int .u8 122))) 16 true,Q 19 (.pick (V 16) (V 18) ff'),M 13 19]
@[simp] theorem label_Name_r6_go : type_of% (ops_go label_Name_r6.eq_1 T K fr S) := ops_go label_Name_r6.eq_1 T K fr S
def label_Name_r7 : List POper := [M 20 4,Q 21 (.arith .geq (V 20) (.cst (.int .u8 65))),M 22 21,QG (some 23) (.mov (V 4)) 22 true,QG (some 24) (.arith .leq (V 23) (.cst (.int .u8 90))) 22 true,Q 25 (.pick (V 22) (V 24) ff'),M 13 25]
@[simp] theorem label_Name_r7_go : type_of% (ops_go label_Name_r7.eq_1 T K fr S) := ops_go label_Name_r7.eq_1 T K fr S
def label_Name_r8 : List POper := [M 26 4,Q 27 (.arith .eql (V 26) (.cst (.int .u8 95))),M 13 27]
@[simp] theorem label_Name_r8_go : type_of% (ops_go label_Name_r8.eq_1 T K fr S) := ops_go label_Name_r8.eq_1 T K fr S
def label_Name_r9 : List POper := [M 29 3,Q 30 (.arith .gtr (V 29) (I 0)),M 31 30,QG (some 32) (.mov (V 4)) 31 true,QG (some 33) (.arith .geq (V 32) (.cst (.int .u8 48))) 31 true,Q 34 (.pick (V 31) (V 33) ff'),M 35 34,QG (some 36) (.mov (V 4)) 35 true,QG (some 37) (.arith .leq (V 36) (.cst (.int .u8 57))) 35 true,Q 38 (.pick (V 35) (V 37) ff'),M 28 38]
@[simp] theorem label_Name_r9_go : type_of% (ops_go label_Name_r9.eq_1 T K fr S) := ops_go label_Name_r9.eq_1 T K fr S
def label_Name_r5 : List POper := [Q 2 (.mov ff')]
@[simp] theorem label_Name_r5_go : type_of% (ops_go label_Name_r5.eq_1 T K fr S) := ops_go label_Name_r5.eq_1 T K fr S
def label_Name_r10 : List POper := [Q 39 (.arith .add (V 7) (I 1)),M 7 39]
@[simp] theorem label_Name_r10_go : type_of% (ops_go label_Name_r10.eq_1 T K fr S) := ops_go label_Name_r10.eq_1 T K fr S
def label_Name_l0 : PCode :=
  (.seq (.region label_Name_r2) (.seq (.cond (V 8) .skip (.exit 0)) (.seq (.block 1 (.seq (.clr [(9, 10)] (.region label_Name_r3)) (.seq (.clr [(10, 13)] (.region label_Name_r4)) (.block 2 (.seq (.seq (.clr [(14, 20)] (.region label_Name_r6)) (.cond (V 13) .skip (.seq (.clr [(20, 26)] (.region label_Name_r7)) (.cond (V 13) .skip (.clr [(26, 28)] (.region label_Name_r8)))))) (.cond (V 13) .skip (.seq (.clr [(29, 39)] (.region label_Name_r9)) (.cond (V 28) .skip (.seq (.region label_Name_r5) .ret))))))))) (.clr [(39, 40)] (.region label_Name_r10)))))
@[simp] theorem label_Name_l0_go : type_of% (code_go label_Name_l0.eq_1 T K fr S) := code_go label_Name_l0.eq_1 T K fr S
def label_Name_r11 : List POper := [M 40 0,Q 41 (.arith .neq (V 40) (.cst (.str []))),M 42 41,QG (some 43) (.mov (V 0)) 42 true,QG (some 44) (.len true (V 43)) 42 true,QG (some 45) (.arith .leq (V 44) (I 32)) 42 true,Q 46 (.pick (V 42) (V 45) ff'),M 2 46]
@[simp] theorem label_Name_r11_go : type_of% (ops_go label_Name_r11.eq_1 T K fr S) := ops_go label_Name_r11.eq_1 T K fr S
def label_Name : PCodeFn :=
  ⟨1, [.tmp 2],
  (.seq (.region label_Name_r0) (.seq (.seq (.clr [(5, 6)] (.region label_Name_r1)) (.block 0 (.loop label_Name_l0))) (.seq (.clr [(40, 47)] (.region label_Name_r11)) .ret))), false⟩

def chunk_Check_r0 : List POper := [Q 2 (.mov (I 0))]
@[simp] theorem chunk_Check_r0_go : type_of% (ops_go chunk_Check_r0.eq_1 T K fr S) := ops_go chunk_Check_r0.eq_1 T K fr S
def chunk_Check_r1 : List POper := [M 5 0,Q 6 (.len false (V 5)),Q 7 (.arith .eql (V 6) (I 0)),M 8 7,QG (some 9) (.mov (V 0)) 8 false,QG (some 10) (.len false (V 9)) 8 false,QG (some 11) (.arith .gtr (V 10) (I 120)) 8 false,Q 12 (.pick (V 8) tt' (V 11))]
@[simp] theorem chunk_Check_r1_go : type_of% (ops_go chunk_Check_r1.eq_1 T K fr S) := ops_go chunk_Check_r1.eq_1 T K fr S
def chunk_Check_r2 : List POper := [Q 2 (.mov (I 2))]
@[simp] theorem chunk_Check_r2_go : type_of% (ops_go chunk_Check_r2.eq_1 T K fr S) := ops_go chunk_Check_r2.eq_1 T K fr S
def chunk_Check_r3 : List POper := [M 13 0,Q 14 (.len false (V 13)),Q 15 (.mov (I 0))]
@[simp] theorem chunk_Check_r3_go : type_of% (ops_go chunk_Check_r3.eq_1 T K fr S) := ops_go chunk_Check_r3.eq_1 T K fr S
def chunk_Check_r4 : List POper := [Q 16 (.arith .lss (V 15) (V 14))]
@[simp] theorem chunk_Check_r4_go : type_of% (ops_go chunk_Check_r4.eq_1 T K fr S) := ops_go chunk_Check_r4.eq_1 T K fr S
def chunk_Check_r5 : List POper := [M 17 15,Q 18 (.iaddr 2 (V 13) (V 15)),Q 19 (.load true 2 false (V 18)),Q 4 (.alloc false [(.int .i64 0), (.int .i64 0)]),M 3 17,QN (.store 2 (V 4) (V 19))]
@[simp] theorem chunk_Check_r5_go : type_of% (ops_go chunk_Check_r5.eq_1 T K fr S) := ops_go chunk_Check_r5.eq_1 T K fr S
def chunk_Check_r6 : List POper := [Q 21 (.load true 2 false (V 4)),Q 22 (.call .std 260 [(V 21)]),Q 23 (.un .not (V 22)),M 20 23]
@[simp] theorem chunk_Check_r6_go : type_of% (ops_go chunk_Check_r6.eq_1 T K fr S) := ops_go chunk_Check_r6.eq_1 T K fr S
def chunk_Check_r7 : List POper := [Q 2 (.mov (I 11))]
@[simp] theorem chunk_Check_r7_go : type_of% (ops_go chunk_Check_r7.eq_1 T K fr S) := ops_go chunk_Check_r7.eq_1 T K fr S
def chunk_Check_r8 : List POper := [M 25 3,Q 26 (.arith .gtr (V 25) (I 0)),M 27 26,QG (some 28) (.faddr 0 (V 4)) 27 true,QG (some 29) (.load false 1 false (V 28)) 27 true,QG (some 30) (.mov (V 0)) 27 true,QG (some 31) (.mov (V 3)) 27 true,QG (some 32) (.arith .sub (V 31) (I 1)) 27 true,QG (some 33) (.iaddr 2 (V 30) (V 32)) 27 true,QG (some 34) (.faddr 0 (V 33)) 27 true,QG (some 35) (.load false 1 true (V 34)) 27 true,QG (some 36) (.arith .leq (V 29) (V 35)) 27 true,Q 37 (.pick (V 27) (V 36) ff'),M 24 37]
@[simp] theorem chunk_Check_r8_go : type_of% (ops_go chunk_Check_r8.eq_1 T K fr S) := ops_go chunk_Check_r8.eq_1 T K fr S
def chunk_Check_r9 : List POper := [Q 2 (.mov (I 13))]
@[simp] theorem chunk_Check_r9_go : type_of% (ops_go chunk_Check_r9.eq_1 T K fr S) := ops_go chunk_Check_r9.eq_1 T K fr S
def chunk_Check_r10 : List POper := [Q 38 (.arith .add (V 15) (I 1)),M 15 38]
@[simp] theorem chunk_Check_r10_go : type_of% (ops_go chunk_Check_r10.eq_1 T K fr S) := ops_go chunk_Check_r10.eq_1 T K fr S
def chunk_Check_l0 : PCode :=
  (.seq (.region chunk_Check_r4) (.seq (.cond (V 16) .skip (.exit 0)) (.seq (.block 1 (.seq (.clr [(17, 20)] (.region chunk_Check_r5)) (.block 2 (.seq (.clr [(21, 24)] (.region chunk_Check_r6)) (.cond (V 20) (.seq (.region chunk_Check_r7) .ret) (.seq (.clr [(25, 38)] (.region chunk_Check_r8)) (.cond (V 24) (.seq (.region chunk_Check_r9) .ret) .skip))))))) (.clr [(38, 39)] (.region chunk_Check_r10)))))
@[simp] theorem chunk_Check_l0_go : type_of% (code_go chunk_Check_l0.eq_1 T K fr S) := code_go chunk_Check_l0.eq_1 T K fr S
def chunk_Check_r11 : List POper := [Q 2 (.mov (I 0))]
@[simp] theorem chunk_Check_r11_go : type_of% (ops_go chunk_Check_r11.eq_1 T K fr S) := ops_go chunk_Check_r11.eq_1 T K fr S
def chunk_Check : PCodeFn :=
  ⟨1, [.tmp 2],
  (.seq (.region chunk_Check_r0) (.seq (.seq (.clr [(5, 12)] (.region chunk_Check_r1)) (.cond (V 12) (.seq (.region chunk_Check_r2) .ret) .skip)) (.seq (.seq (.region chunk_Check_r3) (.block 0 (.loop chunk_Check_l0))) (.seq (.region chunk_Check_r11) .ret)))), false⟩

def posting_Check_r0 : List POper := [Q 2 (.mov (I 0))]
@[simp] theorem posting_Check_r0_go : type_of% (ops_go posting_Check_r0.eq_1 T K fr S) := ops_go posting_Check_r0.eq_1 T K fr S
def posting_Check_r1 : List POper := [M 5 0,Q 6 (.len false (V 5)),Q 7 (.arith .gtr (V 6) (I 1024))]
@[simp] theorem posting_Check_r1_go : type_of% (ops_go posting_Check_r1.eq_1 T K fr S) := ops_go posting_Check_r1.eq_1 T K fr S
def posting_Check_r2 : List POper := [Q 2 (.mov (I 3))]
@[simp] theorem posting_Check_r2_go : type_of% (ops_go posting_Check_r2.eq_1 T K fr S) := ops_go posting_Check_r2.eq_1 T K fr S
def posting_Check_r3 : List POper := [M 8 0,Q 9 (.len false (V 8)),Q 10 (.mov (I 0))]
@[simp] theorem posting_Check_r3_go : type_of% (ops_go posting_Check_r3.eq_1 T K fr S) := ops_go posting_Check_r3.eq_1 T K fr S
def posting_Check_r4 : List POper := [Q 11 (.arith .lss (V 10) (V 9))]
@[simp] theorem posting_Check_r4_go : type_of% (ops_go posting_Check_r4.eq_1 T K fr S) := ops_go posting_Check_r4.eq_1 T K fr S
def posting_Check_r5 : List POper := [M 12 10,Q 13 (.iaddr 1 (V 8) (V 10)),LD 14 13,M 3 12,M 4 14]
@[simp] theorem posting_Check_r5_go : type_of% (ops_go posting_Check_r5.eq_1 T K fr S) := ops_go posting_Check_r5.eq_1 T K fr S
def posting_Check_r6 : List POper := [M 16 4,Q 17 (.arith .lss (V 16) (I 0)),M 18 17,QG (some 19) (.mov (V 4)) 18 false,QG (some 20) (.arith .gtr (V 19) (I 1099511627776)) 18 false,Q 21 (.pick (V 18) tt' (V 20)),M 15 21]
@[simp] theorem posting_Check_r6_go : type_of% (ops_go posting_Check_r6.eq_1 T K fr S) := ops_go posting_Check_r6.eq_1 T K fr S
def posting_Check_r7 : List POper := [Q 2 (.mov (I 2))]
@[simp] theorem posting_Check_r7_go : type_of% (ops_go posting_Check_r7.eq_1 T K fr S) := ops_go posting_Check_r7.eq_1 T K fr S
def posting_Check_r8 : List POper := [M 23 3,Q 24 (.arith .gtr (V 23) (I 0)),M 25 24,QG (some 26) (.mov (V 4)) 25 true,QG (some 27) (.mov (V 0)) 25 true,QG (some 28) (.mov (V 3)) 25 true,QG (some 29) (.arith .sub (V 28) (I 1)) 25 true,QG (some 30) (.iaddr 1 (V 27) (V 29)) 25 true,QG (some 31) (.load false 1 false (V 30)) 25 true,QG (some 32) (.arith .leq (V 26) (V 31)) 25 true,Q 33 (.pick (V 25) (V 32) ff'),M 22 33]
@[simp] theorem posting_Check_r8_go : type_of% (ops_go posting_Check_r8.eq_1 T K fr S) := ops_go posting_Check_r8.eq_1 T K fr S
def posting_Check_r9 : List POper := [Q 2 (.mov (I 13))]
@[simp] theorem posting_Check_r9_go : type_of% (ops_go posting_Check_r9.eq_1 T K fr S) := ops_go posting_Check_r9.eq_1 T K fr S
def posting_Check_r10 : List POper := [Q 34 (.arith .add (V 10) (I 1)),M 10 34]
@[simp] theorem posting_Check_r10_go : type_of% (ops_go posting_Check_r10.eq_1 T K fr S) := ops_go posting_Check_r10.eq_1 T K fr S
def posting_Check_l0 : PCode :=
  (.seq (.region posting_Check_r4) (.seq (.cond (V 11) .skip (.exit 0)) (.seq (.block 1 (.seq (.clr [(12, 15)] (.region posting_Check_r5)) (.block 2 (.seq (.clr [(16, 22)] (.region posting_Check_r6)) (.cond (V 15) (.seq (.region posting_Check_r7) .ret) (.seq (.clr [(23, 34)] (.region posting_Check_r8)) (.cond (V 22) (.seq (.region posting_Check_r9) .ret) .skip))))))) (.clr [(34, 35)] (.region posting_Check_r10)))))
@[simp] theorem posting_Check_l0_go : type_of% (code_go posting_Check_l0.eq_1 T K fr S) := code_go posting_Check_l0.eq_1 T K fr S
def posting_Check_r11 : List POper := [Q 2 (.mov (I 0))]
@[simp] theorem posting_Check_r11_go : type_of% (ops_go posting_Check_r11.eq_1 T K fr S) := ops_go posting_Check_r11.eq_1 T K fr S
def posting_Check : PCodeFn :=
  ⟨1, [.tmp 2],
  (.seq (.region posting_Check_r0) (.seq (.seq (.clr [(5, 7)] (.region posting_Check_r1)) (.cond (V 7) (.seq (.region posting_Check_r2) .ret) .skip)) (.seq (.seq (.region posting_Check_r3) (.block 0 (.loop posting_Check_l0))) (.seq (.region posting_Check_r11) .ret)))), false⟩

end Ps
