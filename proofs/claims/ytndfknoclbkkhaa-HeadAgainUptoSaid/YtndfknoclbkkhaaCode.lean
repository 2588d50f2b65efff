/- The functions' code, as the pure semantics has it: printed by program. -/
import Derived.Test.YtndfknoclbkkhaaCodeA
namespace Ps
open Go
set_option maxRecDepth 10000
variable (T : Tbl) (K : List Kt) (fr : Fr) (S : St)

def slices_IndexFunc_Sample_r0 : List POper := [Q 4 (.mov (I 0))]
@[simp] theorem slices_IndexFunc_Sample_r0_go : type_of% (ops_go slices_IndexFunc_Sample_r0.eq_1 T K fr S) := ops_go slices_IndexFunc_Sample_r0.eq_1 T K fr S
def slices_IndexFunc_Sample_r1 : List POper := [M 6 0,Q 7 (.len false (V 6)),Q 8 (.mov (I 0))]
@[simp] theorem slices_IndexFunc_Sample_r1_go : type_of% (ops_go slices_IndexFunc_Sample_r1.eq_1 T K fr S) := ops_go slices_IndexFunc_Sample_r1.eq_1 T K fr S
def slices_IndexFunc_Sample_r2 : List POper := [Q 9 (.arith .lss (V 8) (V 7))]
@[simp] theorem slices_IndexFunc_Sample_r2_go : type_of% (ops_go slices_IndexFunc_Sample_r2.eq_1 T K fr S) := ops_go slices_IndexFunc_Sample_r2.eq_1 T K fr S
def slices_IndexFunc_Sample_r3 : List POper := [M 10 8,M 5 10]
@[simp] theorem slices_IndexFunc_Sample_r3_go : type_of% (ops_go slices_IndexFunc_Sample_r3.eq_1 T K fr S) := ops_go slices_IndexFunc_Sample_r3.eq_1 T K fr S
def slices_IndexFunc_Sample_r4 : List POper := [M 11 1,M 12 0,M 13 5,Q 14 (.iaddr 2 (V 12) (V 13)),Q 15 (.load true 2 false (V 14)),Q 16 (.callv .std (V 11) [(V 15)])]
@[simp] theorem slices_IndexFunc_Sample_r4_go : type_of% (ops_go slices_IndexFunc_Sample_r4.eq_1 T K fr S) := ops_go slices_IndexFunc_Sample_r4.eq_1 T K fr S
def slices_IndexFunc_Sample_r5 : List POper := [M 17 5,M 4 17]
@[simp] theorem slices_IndexFunc_Sample_r5_go : type_of% (ops_go slices_IndexFunc_Sample_r5.eq_1 T K fr S) := ops_go slices_IndexFunc_Sample_r5.eq_1 T K fr S
def slices_IndexFunc_Sample_r6 : List POper := [Q 18 (.arith .add (V 8) (I 1)),M 8 18]
@[simp] theorem slices_IndexFunc_Sample_r6_go : type_of% (ops_go slices_IndexFunc_Sample_r6.eq_1 T K fr S) := ops_go slices_IndexFunc_Sample_r6.eq_1 T K fr S
def slices_IndexFunc_Sample_l0 : PCode :=
  (.seq (.region slices_IndexFunc_Sample_r2) (.seq (.cond (V 9) .skip (.exit 0)) (.seq (.block 1 (.seq (.clr [(10, 11)] (.region slices_IndexFunc_Sample_r3)) (.seq (.clr [(11, 16)] (.region slices_IndexFunc_Sample_r4)) (.cond (V 16) (.seq (.clr [(17, 18)] (.region slices_IndexFunc_Sample_r5)) .ret) .skip)))) (.clr [(18, 19)] (.region slices_IndexFunc_Sample_r6)))))
@[simp] theorem slices_IndexFunc_Sample_l0_go : type_of% (code_go slices_IndexFunc_Sample_l0.eq_1 T K fr S) := code_go slices_IndexFunc_Sample_l0.eq_1 T K fr S
def slices_IndexFunc_Sample_r7 : List POper := [Q 4 (.mov (I (-1)))]
@[simp] theorem slices_IndexFunc_Sample_r7_go : type_of% (ops_go slices_IndexFunc_Sample_r7.eq_1 T K fr S) := ops_go slices_IndexFunc_Sample_r7.eq_1 T K fr S
def slices_IndexFunc_Sample : PCodeFn :=
  ⟨2, [.tmp 4],
  (.seq (.region slices_IndexFunc_Sample_r0) (.seq (.seq (.clr [(6, 7)] (.region slices_IndexFunc_Sample_r1)) (.block 0 (.loop slices_IndexFunc_Sample_l0))) (.seq (.region slices_IndexFunc_Sample_r7) .ret))), false⟩

def ref06_text_r0 : List POper := [Q 4 (.mov (I 0))]
@[simp] theorem ref06_text_r0_go : type_of% (ops_go ref06_text_r0.eq_1 T K fr S) := ops_go ref06_text_r0.eq_1 T K fr S
def ref06_text_r1 : List POper := [M 5 0,M 6 1,Q 7 (.arith .lss (V 5) (V 6))]
@[simp] theorem ref06_text_r1_go : type_of% (ops_go ref06_text_r1.eq_1 T K fr S) := ops_go ref06_text_r1.eq_1 T K fr S
def ref06_text_r2 : List POper := [Q 4 (.mov (I (-1)))]
@[simp] theorem ref06_text_r2_go : type_of% (ops_go ref06_text_r2.eq_1 T K fr S) := ops_go ref06_text_r2.eq_1 T K fr S
def ref06_text_r3 : List POper := [M 8 0,M 9 1,Q 10 (.arith .gtr (V 8) (V 9))]
@[simp] theorem ref06_text_r3_go : type_of% (ops_go ref06_text_r3.eq_1 T K fr S) := ops_go ref06_text_r3.eq_1 T K fr S
def ref06_text_r4 : List POper := [Q 4 (.mov (I 1))]
@[simp] theorem ref06_text_r4_go : type_of% (ops_go ref06_text_r4.eq_1 T K fr S) := ops_go ref06_text_r4.eq_1 T K fr S
def ref06_text_r5 : List POper := [Q 4 (.mov (I 0))]
@[simp] theorem ref06_text_r5_go : type_of% (ops_go ref06_text_r5.eq_1 T K fr S) := ops_go ref06_text_r5.eq_1 T K fr S
def ref06_text : PCodeFn :=
  ⟨2, [.tmp 4],
  (.seq (.region ref06_text_r0) (.seq (.seq (.clr [(5, 7)] (.region ref06_text_r1)) (.cond (V 7) (.seq (.region ref06_text_r2) .ret) .skip)) (.seq (.seq (.clr [(8, 10)] (.region ref06_text_r3)) (.cond (V 10) (.seq (.region ref06_text_r4) .ret) .skip)) (.seq (.region ref06_text_r5) .ret)))), false⟩

def slices_insertionSortCmpFunc_Series_r0 : List POper := [M 10 1,Q 11 (.arith .add (V 10) (I 1)),M 8 11]
@[simp] theorem slices_insertionSortCmpFunc_Series_r0_go : type_of% (ops_go slices_insertionSortCmpFunc_Series_r0.eq_1 T K fr S) := ops_go slices_insertionSortCmpFunc_Series_r0.eq_1 T K fr S
def slices_insertionSortCmpFunc_Series_r1 : List POper := [M 12 8,M 13 2,Q 14 (.arith .lss (V 12) (V 13))]
@[simp] theorem slices_insertionSortCmpFunc_Series_r1_go : type_of% (ops_go slices_insertionSortCmpFunc_Series_r1.eq_1 T K fr S) := ops_go slices_insertionSortCmpFunc_Series_r1.eq_1 T K fr S
def slices_insertionSortCmpFunc_Series_r3 : List POper := [M 17 8,M 9 17]
@[simp] theorem slices_insertionSortCmpFunc_Series_r3_go : type_of% (ops_go slices_insertionSortCmpFunc_Series_r3.eq_1 T K fr S) := ops_go slices_insertionSortCmpFunc_Series_r3.eq_1 T K fr S
def slices_insertionSortCmpFunc_Series_r4 : List POper := [M 18 9,M 19 1,Q 20 (.arith .gtr (V 18) (V 19)),M 21 20,QG (some 22) (.mov (V 3)) 21 true,QG (some 23) (.mov (V 0)) 21 true,QG (some 24) (.mov (V 9)) 21 true,QG (some 25) (.iaddr 2 (V 23) (V 24)) 21 true,QG (some 26) (.load true 2 false (V 25)) 21 true,QG (some 27) (.mov (V 0)) 21 true,QG (some 28) (.mov (V 9)) 21 true,QG (some 29) (.arith .sub (V 28) (I 1)) 21 true,QG (some 30) (.iaddr 2 (V 27) (V 29)) 21 true,QG (some 31) (.load true 2 false (V 30)) 21 true,QG (some 32) (.callv .std (V 22) [(V 26), (V 31)]) 21 true,QG (some 33) (.arith .lss (V 32) (I 0)) 21 true,Q 34 (.pick (V 21) (V 33) ff')]
@[simp] theorem slices_insertionSortCmpFunc_Series_r4_go : type_of% (ops_go slices_insertionSortCmpFunc_Series_r4.eq_1 T K fr S) := ops_go slices_insertionSortCmpFunc_Series_r4.eq_1 T K fr S
def slices_insertionSortCmpFunc_Series_r6 : List POper := [M 37 0,M 38 9,M 39 0,M 40 9,Q 41 (.arith .sub (V 40) (I 1)),M 42 0,M 43 9,Q 44 (.arith .sub (V 43) (I 1)),Q 45 (.iaddr 2 (V 42) (V 44)),Q 46 (.load true 2 false (V 45)),M 47 0,M 48 9,Q 49 (.iaddr 2 (V 47) (V 48)),Q 50 (.load true 2 false (V 49)),Q 51 (.iaddr 2 (V 37) (V 38)),QN (.store 2 (V 51) (V 46)),Q 52 (.iaddr 2 (V 39) (V 41)),QN (.store 2 (V 52) (V 50))]
@[simp] theorem slices_insertionSortCmpFunc_Series_r6_go : type_of% (ops_go slices_insertionSortCmpFunc_Series_r6.eq_1 T K fr S) := ops_go slices_insertionSortCmpFunc_Series_r6.eq_1 T K fr S
def slices_insertionSortCmpFunc_Series_r5 : List POper := [M 35 9,Q 36 (.arith .sub (V 35) (I 1)),M 9 36]
@[simp] theorem slices_insertionSortCmpFunc_Series_r5_go : type_of% (ops_go slices_insertionSortCmpFunc_Series_r5.eq_1 T K fr S) := ops_go slices_insertionSortCmpFunc_Series_r5.eq_1 T K fr S
def slices_insertionSortCmpFunc_Series_l1 : PCode :=
  (.seq (.seq (.clr [(18, 34)] (.region slices_insertionSortCmpFunc_Series_r4)) (.cond (V 34) .skip (.exit 2))) (.seq (.block 3 (.clr [(37, 53)] (.region slices_insertionSortCmpFunc_Series_r6))) (.clr [(35, 37)] (.region slices_insertionSortCmpFunc_Series_r5))))
@[simp] theorem slices_insertionSortCmpFunc_Series_l1_go : type_of% (code_go slices_insertionSortCmpFunc_Series_l1.eq_1 T K fr S) := code_go slices_insertionSortCmpFunc_Series_l1.eq_1 T K fr S
def slices_insertionSortCmpFunc_Series_r2 : List POper := [M 15 8,Q 16 (.arith .add (V 15) (I 1)),M 8 16]
@[simp] theorem slices_insertionSortCmpFunc_Series_r2_go : type_of% (ops_go slices_insertionSortCmpFunc_Series_r2.eq_1 T K fr S) := ops_go slices_insertionSortCmpFunc_Series_r2.eq_1 T K fr S
def slices_insertionSortCmpFunc_Series_l0 : PCode :=
  (.seq (.seq (.clr [(12, 14)] (.region slices_insertionSortCmpFunc_Series_r1)) (.cond (V 14) .skip (.exit 0))) (.seq (.block 1 (.seq (.clr [(17, 18)] (.region slices_insertionSortCmpFunc_Series_r3)) (.block 2 (.loop slices_insertionSortCmpFunc_Series_l1)))) (.clr [(15, 17)] (.region slices_insertionSortCmpFunc_Series_r2))))
@[simp] theorem slices_insertionSortCmpFunc_Series_l0_go : type_of% (code_go slices_insertionSortCmpFunc_Series_l0.eq_1 T K fr S) := code_go slices_insertionSortCmpFunc_Series_l0.eq_1 T K fr S
def slices_insertionSortCmpFunc_Series : PCodeFn :=
  ⟨4, [],
  (.seq (.clr [(10, 12)] (.region slices_insertionSortCmpFunc_Series_r0)) (.block 0 (.loop slices_insertionSortCmpFunc_Series_l0))), true⟩

def slices_heapSortCmpFunc_Series_r0 : List POper := [M 13 1,M 8 13]
@[simp] theorem slices_heapSortCmpFunc_Series_r0_go : type_of% (ops_go slices_heapSortCmpFunc_Series_r0.eq_1 T K fr S) := ops_go slices_heapSortCmpFunc_Series_r0.eq_1 T K fr S
def slices_heapSortCmpFunc_Series_r1 : List POper := [Q 9 (.mov (I 0))]
@[simp] theorem slices_heapSortCmpFunc_Series_r1_go : type_of% (ops_go slices_heapSortCmpFunc_Series_r1.eq_1 T K fr S) := ops_go slices_heapSortCmpFunc_Series_r1.eq_1 T K fr S
def slices_heapSortCmpFunc_Series_r2 : List POper := [M 14 2,M 15 1,Q 16 (.arith .sub (V 14) (V 15)),M 10 16]
@[simp] theorem slices_heapSortCmpFunc_Series_r2_go : type_of% (ops_go slices_heapSortCmpFunc_Series_r2.eq_1 T K fr S) := ops_go slices_heapSortCmpFunc_Series_r2.eq_1 T K fr S
def slices_heapSortCmpFunc_Series_r3 : List POper := [M 17 10,Q 18 (.arith .sub (V 17) (I 1)),Q 19 (.arith .quo (V 18) (I 2)),M 11 19]
@[simp] theorem slices_heapSortCmpFunc_Series_r3_go : type_of% (ops_go slices_heapSortCmpFunc_Series_r3.eq_1 T K fr S) := ops_go slices_heapSortCmpFunc_Series_r3.eq_1 T K fr S
def slices_heapSortCmpFunc_Series_r4 : List POper := [M 20 11,Q 21 (.arith .geq (V 20) (I 0))]
@[simp] theorem slices_heapSortCmpFunc_Series_r4_go : type_of% (ops_go slices_heapSortCmpFunc_Series_r4.eq_1 T K fr S) := ops_go slices_heapSortCmpFunc_Series_r4.eq_1 T K fr S
def slices_heapSortCmpFunc_Series_r6 : List POper := [M 24 0,M 25 11,M 26 10,M 27 8,M 28 3,Q 29 (.call .std 407 [(V 24), (V 25), (V 26), (V 27), (V 28)])]
@[simp] theorem slices_heapSortCmpFunc_Series_r6_go : type_of% (ops_go slices_heapSortCmpFunc_Series_r6.eq_1 T K fr S) := ops_go slices_heapSortCmpFunc_Series_r6.eq_1 T K fr S
def slices_heapSortCmpFunc_Series_r5 : List POper := [M 22 11,Q 23 (.arith .sub (V 22) (I 1)),M 11 23]
@[simp] theorem slices_heapSortCmpFunc_Series_r5_go : type_of% (ops_go slices_heapSortCmpFunc_Series_r5.eq_1 T K fr S) := ops_go slices_heapSortCmpFunc_Series_r5.eq_1 T K fr S
def slices_heapSortCmpFunc_Series_l0 : PCode :=
  (.seq (.seq (.clr [(20, 21)] (.region slices_heapSortCmpFunc_Series_r4)) (.cond (V 21) .skip (.exit 0))) (.seq (.block 1 (.clr [(24, 30)] (.region slices_heapSortCmpFunc_Series_r6))) (.clr [(22, 24)] (.region slices_heapSortCmpFunc_Series_r5))))
@[simp] theorem slices_heapSortCmpFunc_Series_l0_go : type_of% (code_go slices_heapSortCmpFunc_Series_l0.eq_1 T K fr S) := code_go slices_heapSortCmpFunc_Series_l0.eq_1 T K fr S
def slices_heapSortCmpFunc_Series_r7 : List POper := [M 30 10,Q 31 (.arith .sub (V 30) (I 1)),M 12 31]
@[simp] theorem slices_heapSortCmpFunc_Series_r7_go : type_of% (ops_go slices_heapSortCmpFunc_Series_r7.eq_1 T K fr S) := ops_go slices_heapSortCmpFunc_Series_r7.eq_1 T K fr S
def slices_heapSortCmpFunc_Series_r8 : List POper := [M 32 12,Q 33 (.arith .geq (V 32) (I 0))]
@[simp] theorem slices_heapSortCmpFunc_Series_r8_go : type_of% (ops_go slices_heapSortCmpFunc_Series_r8.eq_1 T K fr S) := ops_go slices_heapSortCmpFunc_Series_r8.eq_1 T K fr S
def slices_heapSortCmpFunc_Series_r10 : List POper := [M 36 0,M 37 8,M 38 0,M 39 8,M 40 12,Q 41 (.arith .add (V 39) (V 40)),M 42 0,M 43 8,M 44 12,Q 45 (.arith .add (V 43) (V 44)),Q 46 (.iaddr 2 (V 42) (V 45)),Q 47 (.load true 2 false (V 46)),M 48 0,M 49 8,Q 50 (.iaddr 2 (V 48) (V 49)),Q 51 (.load true 2 false (V 50)),Q 52 (.iaddr 2 (V 36) (V 37)),QN (.store 2 (V 52) (V 47)),Q 53 (.iaddr 2 (V 38) (V 41)),QN (.store 2 (V 53) (V 51))]
@[simp] theorem slices_heapSortCmpFunc_Series_r10_go : type_of% (ops_go slices_heapSortCmpFunc_Series_r10.eq_1 T K fr S) := ops_go slices_heapSortCmpFunc_Series_r10.eq_1 T K fr S
def slices_heapSortCmpFunc_Series_r11 : List POper := [M 54 0,M 55 9,M 56 12,M 57 8,M 58 3,Q 59 (.call .std 407 [(V 54), (V 55), (V 56), (V 57), (V 58)])]
@[simp] theorem slices_heapSortCmpFunc_Series_r11_go : type_of% (ops_go slices_heapSortCmpFunc_Series_r11.eq_1 T K fr S) := ops_go slices_heapSortCmpFunc_Series_r11.eq_1 T K fr S
def slices_heapSortCmpFunc_Series_r9 : List POper := [M 34 12,Q 35 (.arith .sub (V 34) (I 1)),M 12 35]
@[simp] theorem slices_heapSortCmpFunc_Series_r9_go : type_of% (ops_go slices_heapSortCmpFunc_Series_r9.eq_1 T K fr S) := ops_go slices_heapSortCmpFunc_Series_r9.eq_1 T K fr S
def slices_heapSortCmpFunc_Series_l1 : PCode :=
  (.seq (.seq (.clr [(32, 33)] (.region slices_heapSortCmpFunc_Series_r8)) (.cond (V 33) .skip (.exit 2))) (.seq (.block 3 (.seq (.clr [(36, 54)] (.region slices_heapSortCmpFunc_Series_r10)) (.clr [(54, 60)] (.region slices_heapSortCmpFunc_Series_r11)))) (.clr [(34, 36)] (.region slices_heapSortCmpFunc_Series_r9))))
@[simp] theorem slices_heapSortCmpFunc_Series_l1_go : type_of% (code_go slices_heapSortCmpFunc_Series_l1.eq_1 T K fr S) := code_go slices_heapSortCmpFunc_Series_l1.eq_1 T K fr S
def slices_heapSortCmpFunc_Series : PCodeFn :=
  ⟨4, [],
  (.seq (.clr [(13, 14)] (.region slices_heapSortCmpFunc_Series_r0)) (.seq (.region slices_heapSortCmpFunc_Series_r1) (.seq (.clr [(14, 17)] (.region slices_heapSortCmpFunc_Series_r2)) (.seq (.seq (.clr [(17, 20)] (.region slices_heapSortCmpFunc_Series_r3)) (.block 0 (.loop slices_heapSortCmpFunc_Series_l0))) (.seq (.clr [(30, 32)] (.region slices_heapSortCmpFunc_Series_r7)) (.block 2 (.loop slices_heapSortCmpFunc_Series_l1))))))), true⟩

def slices_breakPatternsCmpFunc_Series_r0 : List POper := [M 13 2,M 14 1,Q 15 (.arith .sub (V 13) (V 14)),M 8 15]
@[simp] theorem slices_breakPatternsCmpFunc_Series_r0_go : type_of% (ops_go slices_breakPatternsCmpFunc_Series_r0.eq_1 T K fr S) := ops_go slices_breakPatternsCmpFunc_Series_r0.eq_1 T K fr S
def slices_breakPatternsCmpFunc_Series_r1 : List POper := [M 16 8,Q 17 (.arith .geq (V 16) (I 8))]
@[simp] theorem slices_breakPatternsCmpFunc_Series_r1_go : type_of% (ops_go slices_breakPatternsCmpFunc_Series_r1.eq_1 T K fr S) := ops_go slices_breakPatternsCmpFunc_Series_r1.eq_1 T K fr S
def slices_breakPatternsCmpFunc_Series_r2 : List POper := [M 18 8,Q 19 (.toInt .u64 (V 18)),Q 9 (.alloc false [(.int .u64 0)]),QN (.store 1 (V 9) (V 19))]
@[simp] theorem slices_breakPatternsCmpFunc_Series_r2_go : type_of% (ops_go slices_breakPatternsCmpFunc_Series_r2.eq_1 T K fr S) := ops_go slices_breakPatternsCmpFunc_Series_r2.eq_1 T K fr S
def slices_breakPatternsCmpFunc_Series_r3 : List POper := [M 20 8,Q 21 (.call .pur 395 [(V 20)]),M 10 21]
@[simp] theorem slices_breakPatternsCmpFunc_Series_r3_go : type_of% (ops_go slices_breakPatternsCmpFunc_Series_r3.eq_1 T K fr S) := ops_go slices_breakPatternsCmpFunc_Series_r3.eq_1 T K fr S
def slices_breakPatternsCmpFunc_Series_r4 : List POper := [M 22 1,M 23 8,Q 24 (.arith .quo (V 23) (I 4)),Q 25 (.arith .mul (V 24) (I 2)),Q 26 (.arith .add (V 22) (V 25)),Q 27 (.arith .sub (V 26) (I 1)),M 11 27]
@[simp] theorem slices_breakPatternsCmpFunc_Series_r4_go : type_of% (ops_go slices_breakPatternsCmpFunc_Series_r4.eq_1 T K fr S) := ops_go slices_breakPatternsCmpFunc_Series_r4.eq_1 T K fr S
def slices_breakPatternsCmpFunc_Series_r5 : List POper := [M 28 11,M 29 1,M 30 8,Q 31 (.arith .quo (V 30) (I 4)),Q 32 (.arith .mul (V 31) (I 2)),Q 33 (.arith .add (V 29) (V 32)),Q 34 (.arith .add (V 33) (I 1)),Q 35 (.arith .leq (V 28) (V 34))]
@[simp] theorem slices_breakPatternsCmpFunc_Series_r5_go : type_of% (ops_go slices_breakPatternsCmpFunc_Series_r5.eq_1 T K fr S) := ops_go slices_breakPatternsCmpFunc_Series_r5.eq_1 T K fr S
def slices_breakPatternsCmpFunc_Series_r7 : List POper := [Q 38 (.call .std 396 [(V 9)]),M 39 10,Q 40 (.arith .sub (V 39) (.cst (.int .u64 1))),Q 41 (.arith .and (V 38) (V 40)),Q 42 (.toInt .i64 (V 41)),M 12 42]
@[simp] theorem slices_breakPatternsCmpFunc_Series_r7_go : type_of% (ops_go slices_breakPatternsCmpFunc_Series_r7.eq_1 T K fr S) := ops_go slices_breakPatternsCmpFunc_Series_r7.eq_1 T K fr S
def slices_breakPatternsCmpFunc_Series_r8 : List POper := [M 43 12,M 44 8,Q 45 (.arith .geq (V 43) (V 44))]
@[simp] theorem slices_breakPatternsCmpFunc_Series_r8_go : type_of% (ops_go slices_breakPatternsCmpFunc_Series_r8.eq_1 T K fr S) := ops_go slices_breakPatternsCmpFunc_Series_r8.eq_1 T K fr S
def slices_breakPatternsCmpFunc_Series_r9 : List POper := [M 46 12,M 47 8,Q 48 (.arith .sub (V 46) (V 47)),M 12 48]
@[simp] theorem slices_breakPatternsCmpFunc_Series_r9_go : type_of% (ops_go slices_breakPatternsCmpFunc_Series_r9.eq_1 T K fr S) := ops_go slices_breakPatternsCmpFunc_Series_r9.eq_1 T K fr S
def slices_breakPatternsCmpFunc_Series_r10 : List POper := [M 49 0,M 50 11,M 51 0,M 52 1,M 53 12,Q 54 (.arith .add (V 52) (V 53)),M 55 0,M 56 1,M 57 12,Q 58 (.arith .add (V 56) (V 57)),Q 59 (.iaddr 2 (V 55) (V 58)),Q 60 (.load true 2 false (V 59)),M 61 0,M 62 11,Q 63 (.iaddr 2 (V 61) (V 62)),Q 64 (.load true 2 false (V 63)),Q 65 (.iaddr 2 (V 49) (V 50)),QN (.store 2 (V 65) (V 60)),Q 66 (.iaddr 2 (V 51) (V 54)),QN (.store 2 (V 66) (V 64))]
@[simp] theorem slices_breakPatternsCmpFunc_Series_r10_go : type_of% (ops_go slices_breakPatternsCmpFunc_Series_r10.eq_1 T K fr S) := ops_go slices_breakPatternsCmpFunc_Series_r10.eq_1 T K fr S
def slices_breakPatternsCmpFunc_Series_r6 : List POper := [M 36 11,Q 37 (.arith .add (V 36) (I 1)),M 11 37]
@[simp] theorem slices_breakPatternsCmpFunc_Series_r6_go : type_of% (ops_go slices_breakPatternsCmpFunc_Series_r6.eq_1 T K fr S) := ops_go slices_breakPatternsCmpFunc_Series_r6.eq_1 T K fr S
def slices_breakPatternsCmpFunc_Series_l0 : PCode :=
  (.seq (.seq (.clr [(28, 35)] (.region slices_breakPatternsCmpFunc_Series_r5)) (.cond (V 35) .skip (.exit 0))) (.seq (.block 1 (.seq (.clr [(38, 43)] (.region slices_breakPatternsCmpFunc_Series_r7)) (.seq (.seq (.clr [(43, 45)] (.region slices_breakPatternsCmpFunc_Series_r8)) (.cond (V 45) (.clr [(46, 49)] (.region slices_breakPatternsCmpFunc_Series_r9)) .skip)) (.clr [(49, 67)] (.region slices_breakPatternsCmpFunc_Series_r10))))) (.clr [(36, 38)] (.region slices_breakPatternsCmpFunc_Series_r6))))
@[simp] theorem slices_breakPatternsCmpFunc_Series_l0_go : type_of% (code_go slices_breakPatternsCmpFunc_Series_l0.eq_1 T K fr S) := code_go slices_breakPatternsCmpFunc_Series_l0.eq_1 T K fr S
def slices_breakPatternsCmpFunc_Series : PCodeFn :=
  ⟨4, [],
  (.seq (.clr [(13, 16)] (.region slices_breakPatternsCmpFunc_Series_r0)) (.seq (.clr [(16, 17)] (.region slices_breakPatternsCmpFunc_Series_r1)) (.cond (V 17) (.seq (.clr [(18, 20)] (.region slices_breakPatternsCmpFunc_Series_r2)) (.seq (.clr [(20, 22)] (.region slices_breakPatternsCmpFunc_Series_r3)) (.seq (.clr [(22, 28)] (.region slices_breakPatternsCmpFunc_Series_r4)) (.block 0 (.loop slices_breakPatternsCmpFunc_Series_l0))))) .skip))), true⟩

def slices_choosePivotCmpFunc_Series_r0 : List POper := [Q 8 (.mov (I 0)),Q 9 (.mov (I 0))]
@[simp] theorem slices_choosePivotCmpFunc_Series_r0_go : type_of% (ops_go slices_choosePivotCmpFunc_Series_r0.eq_1 T K fr S) := ops_go slices_choosePivotCmpFunc_Series_r0.eq_1 T K fr S
def slices_choosePivotCmpFunc_Series_r1 : List POper := [M 15 2,M 16 1,Q 17 (.arith .sub (V 15) (V 16)),M 10 17]
@[simp] theorem slices_choosePivotCmpFunc_Series_r1_go : type_of% (ops_go slices_choosePivotCmpFunc_Series_r1.eq_1 T K fr S) := ops_go slices_choosePivotCmpFunc_Series_r1.eq_1 T K fr S
def slices_choosePivotCmpFunc_Series_r2 : List POper := [Q 11 (.alloc false [(.int .i64 0)])]
@[simp] theorem slices_choosePivotCmpFunc_Series_r2_go : type_of% (ops_go slices_choosePivotCmpFunc_Series_r2.eq_1 T K fr S) := ops_go slices_choosePivotCmpFunc_Series_r2.eq_1 T K fr S
def slices_choosePivotCmpFunc_Series_r3 : List POper := [M 18 1,M 19 10,Q 20 (.arith .quo (V 19) (I 4)),Q 21 (.arith .mul (V 20) (I 1)),Q 22 (.arith .add (V 18) (V 21)),M 12 22]
@[simp] theorem slices_choosePivotCmpFunc_Series_r3_go : type_of% (ops_go slices_choosePivotCmpFunc_Series_r3.eq_1 T K fr S) := ops_go slices_choosePivotCmpFunc_Series_r3.eq_1 T K fr S
def slices_choosePivotCmpFunc_Series_r4 : List POper := [M 23 1,M 24 10,Q 25 (.arith .quo (V 24) (I 4)),Q 26 (.arith .mul (V 25) (I 2)),Q 27 (.arith .add (V 23) (V 26)),M 13 27]
@[simp] theorem slices_choosePivotCmpFunc_Series_r4_go : type_of% (ops_go slices_choosePivotCmpFunc_Series_r4.eq_1 T K fr S) := ops_go slices_choosePivotCmpFunc_Series_r4.eq_1 T K fr S
def slices_choosePivotCmpFunc_Series_r5 : List POper := [M 28 1,M 29 10,Q 30 (.arith .quo (V 29) (I 4)),Q 31 (.arith .mul (V 30) (I 3)),Q 32 (.arith .add (V 28) (V 31)),M 14 32]
@[simp] theorem slices_choosePivotCmpFunc_Series_r5_go : type_of% (ops_go slices_choosePivotCmpFunc_Series_r5.eq_1 T K fr S) := ops_go slices_choosePivotCmpFunc_Series_r5.eq_1 T K fr S
def slices_choosePivotCmpFunc_Series_r6 : List POper := [M 33 10,Q 34 (.arith .geq (V 33) (I 8))]
@[simp] theorem slices_choosePivotCmpFunc_Series_r6_go : type_of% (ops_go slices_choosePivotCmpFunc_Series_r6.eq_1 T K fr S) := ops_go slices_choosePivotCmpFunc_Series_r6.eq_1 T K fr S
def slices_choosePivotCmpFunc_Series_r7 : List POper := [M 35 10,Q 36 (.arith .geq (V 35) (I 50))]
@[simp] theorem slices_choosePivotCmpFunc_Series_r7_go : type_of% (ops_go slices_choosePivotCmpFunc_Series_r7.eq_1 T K fr S) := ops_go slices_choosePivotCmpFunc_Series_r7.eq_1 T K fr S
def slices_choosePivotCmpFunc_Series_r8 : List POper := [M 37 0,M 38 12,M 39 3,Q 40 (.call .std 408 [(V 37), (V 38), (V 11), (V 39)]),M 12 40]
@[simp] theorem slices_choosePivotCmpFunc_Series_r8_go : type_of% (ops_go slices_choosePivotCmpFunc_Series_r8.eq_1 T K fr S) := ops_go slices_choosePivotCmpFunc_Series_r8.eq_1 T K fr S
def slices_choosePivotCmpFunc_Series_r9 : List POper := [M 41 0,M 42 13,M 43 3,Q 44 (.call .std 408 [(V 41), (V 42), (V 11), (V 43)]),M 13 44]
@[simp] theorem slices_choosePivotCmpFunc_Series_r9_go : type_of% (ops_go slices_choosePivotCmpFunc_Series_r9.eq_1 T K fr S) := ops_go slices_choosePivotCmpFunc_Series_r9.eq_1 T K fr S
def slices_choosePivotCmpFunc_Series_r10 : List POper := [M 45 0,M 46 14,M 47 3,Q 48 (.call .std 408 [(V 45), (V 46), (V 11), (V 47)]),M 14 48]
@[simp] theorem slices_choosePivotCmpFunc_Series_r10_go : type_of% (ops_go slices_choosePivotCmpFunc_Series_r10.eq_1 T K fr S) := ops_go slices_choosePivotCmpFunc_Series_r10.eq_1 T K fr S
def slices_choosePivotCmpFunc_Series_r11 : List POper := [M 49 0,M 50 12,M 51 13,M 52 14,M 53 3,Q 54 (.call .std 409 [(V 49), (V 50), (V 51), (V 52), (V 11), (V 53)]),M 13 54]
@[simp] theorem slices_choosePivotCmpFunc_Series_r11_go : type_of% (ops_go slices_choosePivotCmpFunc_Series_r11.eq_1 T K fr S) := ops_go slices_choosePivotCmpFunc_Series_r11.eq_1 T K fr S
def slices_choosePivotCmpFunc_Series_r12 : List POper := [LD 55 11]
@[simp] theorem slices_choosePivotCmpFunc_Series_r12_go : type_of% (ops_go slices_choosePivotCmpFunc_Series_r12.eq_1 T K fr S) := ops_go slices_choosePivotCmpFunc_Series_r12.eq_1 T K fr S
def slices_choosePivotCmpFunc_Series_r14 : List POper := [Q 58 (.arith .eql (V 55) (I 0)),M 57 58]
@[simp] theorem slices_choosePivotCmpFunc_Series_r14_go : type_of% (ops_go slices_choosePivotCmpFunc_Series_r14.eq_1 T K fr S) := ops_go slices_choosePivotCmpFunc_Series_r14.eq_1 T K fr S
def slices_choosePivotCmpFunc_Series_r15 : List POper := [M 59 13,M 8 59,Q 9 (.mov (I 1))]
@[simp] theorem slices_choosePivotCmpFunc_Series_r15_go : type_of% (ops_go slices_choosePivotCmpFunc_Series_r15.eq_1 T K fr S) := ops_go slices_choosePivotCmpFunc_Series_r15.eq_1 T K fr S
def slices_choosePivotCmpFunc_Series_r16 : List POper := [Q 61 (.arith .eql (V 55) (I 12)),M 60 61]
@[simp] theorem slices_choosePivotCmpFunc_Series_r16_go : type_of% (ops_go slices_choosePivotCmpFunc_Series_r16.eq_1 T K fr S) := ops_go slices_choosePivotCmpFunc_Series_r16.eq_1 T K fr S
def slices_choosePivotCmpFunc_Series_r17 : List POper := [M 62 13,M 8 62,Q 9 (.mov (I 2))]
@[simp] theorem slices_choosePivotCmpFunc_Series_r17_go : type_of% (ops_go slices_choosePivotCmpFunc_Series_r17.eq_1 T K fr S) := ops_go slices_choosePivotCmpFunc_Series_r17.eq_1 T K fr S
def slices_choosePivotCmpFunc_Series_r13 : List POper := [M 56 13,M 8 56,Q 9 (.mov (I 0))]
@[simp] theorem slices_choosePivotCmpFunc_Series_r13_go : type_of% (ops_go slices_choosePivotCmpFunc_Series_r13.eq_1 T K fr S) := ops_go slices_choosePivotCmpFunc_Series_r13.eq_1 T K fr S
def slices_choosePivotCmpFunc_Series : PCodeFn :=
  ⟨4, [.tmp 8, .tmp 9],
  (.seq (.region slices_choosePivotCmpFunc_Series_r0) (.seq (.clr [(15, 18)] (.region slices_choosePivotCmpFunc_Series_r1)) (.seq (.region slices_choosePivotCmpFunc_Series_r2) (.seq (.clr [(18, 23)] (.region slices_choosePivotCmpFunc_Series_r3)) (.seq (.clr [(23, 28)] (.region slices_choosePivotCmpFunc_Series_r4)) (.seq (.clr [(28, 33)] (.region slices_choosePivotCmpFunc_Series_r5)) (.seq (.seq (.clr [(33, 34)] (.region slices_choosePivotCmpFunc_Series_r6)) (.cond (V 34) (.seq (.seq (.clr [(35, 36)] (.region slices_choosePivotCmpFunc_Series_r7)) (.cond (V 36) (.seq (.clr [(37, 41)] (.region slices_choosePivotCmpFunc_Series_r8)) (.seq (.clr [(41, 45)] (.region slices_choosePivotCmpFunc_Series_r9)) (.clr [(45, 49)] (.region slices_choosePivotCmpFunc_Series_r10)))) .skip)) (.clr [(49, 55)] (.region slices_choosePivotCmpFunc_Series_r11))) .skip)) (.seq (.region slices_choosePivotCmpFunc_Series_r12) (.block 0 (.seq (.clr [(58, 59)] (.region slices_choosePivotCmpFunc_Series_r14)) (.cond (V 57) (.seq (.clr [(59, 60)] (.region slices_choosePivotCmpFunc_Series_r15)) .ret) (.seq (.clr [(61, 62)] (.region slices_choosePivotCmpFunc_Series_r16)) (.cond (V 60) (.seq (.clr [(62, 63)] (.region slices_choosePivotCmpFunc_Series_r17)) .ret) (.seq (.clr [(56, 57)] (.region slices_choosePivotCmpFunc_Series_r13)) .ret)))))))))))))), true⟩

def slices_reverseRangeCmpFunc_Series_r0 : List POper := [M 10 1,M 8 10]
@[simp] theorem slices_reverseRangeCmpFunc_Series_r0_go : type_of% (ops_go slices_reverseRangeCmpFunc_Series_r0.eq_1 T K fr S) := ops_go slices_reverseRangeCmpFunc_Series_r0.eq_1 T K fr S
def slices_reverseRangeCmpFunc_Series_r1 : List POper := [M 11 2,Q 12 (.arith .sub (V 11) (I 1)),M 9 12]
@[simp] theorem slices_reverseRangeCmpFunc_Series_r1_go : type_of% (ops_go slices_reverseRangeCmpFunc_Series_r1.eq_1 T K fr S) := ops_go slices_reverseRangeCmpFunc_Series_r1.eq_1 T K fr S
def slices_reverseRangeCmpFunc_Series_r2 : List POper := [M 13 8,M 14 9,Q 15 (.arith .lss (V 13) (V 14))]
@[simp] theorem slices_reverseRangeCmpFunc_Series_r2_go : type_of% (ops_go slices_reverseRangeCmpFunc_Series_r2.eq_1 T K fr S) := ops_go slices_reverseRangeCmpFunc_Series_r2.eq_1 T K fr S
def slices_reverseRangeCmpFunc_Series_r3 : List POper := [M 16 0,M 17 8,M 18 0,M 19 9,M 20 0,M 21 9,Q 22 (.iaddr 2 (V 20) (V 21)),Q 23 (.load true 2 false (V 22)),M 24 0,M 25 8,Q 26 (.iaddr 2 (V 24) (V 25)),Q 27 (.load true 2 false (V 26)),Q 28 (.iaddr 2 (V 16) (V 17)),QN (.store 2 (V 28) (V 23)),Q 29 (.iaddr 2 (V 18) (V 19)),QN (.store 2 (V 29) (V 27))]
@[simp] theorem slices_reverseRangeCmpFunc_Series_r3_go : type_of% (ops_go slices_reverseRangeCmpFunc_Series_r3.eq_1 T K fr S) := ops_go slices_reverseRangeCmpFunc_Series_r3.eq_1 T K fr S
def slices_reverseRangeCmpFunc_Series_r4 : List POper := [M 30 8,Q 31 (.arith .add (V 30) (I 1)),M 8 31]
@[simp] theorem slices_reverseRangeCmpFunc_Series_r4_go : type_of% (ops_go slices_reverseRangeCmpFunc_Series_r4.eq_1 T K fr S) := ops_go slices_reverseRangeCmpFunc_Series_r4.eq_1 T K fr S
def slices_reverseRangeCmpFunc_Series_r5 : List POper := [M 32 9,Q 33 (.arith .sub (V 32) (I 1)),M 9 33]
@[simp] theorem slices_reverseRangeCmpFunc_Series_r5_go : type_of% (ops_go slices_reverseRangeCmpFunc_Series_r5.eq_1 T K fr S) := ops_go slices_reverseRangeCmpFunc_Series_r5.eq_1 T K fr S
def slices_reverseRangeCmpFunc_Series_l0 : PCode :=
  (.seq (.seq (.clr [(13, 15)] (.region slices_reverseRangeCmpFunc_Series_r2)) (.cond (V 15) .skip (.exit 0))) (.block 1 (.seq (.clr [(16, 30)] (.region slices_reverseRangeCmpFunc_Series_r3)) (.seq (.clr [(30, 32)] (.region slices_reverseRangeCmpFunc_Series_r4)) (.clr [(32, 34)] (.region slices_reverseRangeCmpFunc_Series_r5))))))
@[simp] theorem slices_reverseRangeCmpFunc_Series_l0_go : type_of% (code_go slices_reverseRangeCmpFunc_Series_l0.eq_1 T K fr S) := code_go slices_reverseRangeCmpFunc_Series_l0.eq_1 T K fr S
def slices_reverseRangeCmpFunc_Series : PCodeFn :=
  ⟨4, [],
  (.seq (.clr [(10, 11)] (.region slices_reverseRangeCmpFunc_Series_r0)) (.seq (.clr [(11, 13)] (.region slices_reverseRangeCmpFunc_Series_r1)) (.block 0 (.loop slices_reverseRangeCmpFunc_Series_l0)))), true⟩

def slices_partialInsertionSortCmpFunc_Series_r0 : List POper := [Q 8 (.mov ff')]
@[simp] theorem slices_partialInsertionSortCmpFunc_Series_r0_go : type_of% (ops_go slices_partialInsertionSortCmpFunc_Series_r0.eq_1 T K fr S) := ops_go slices_partialInsertionSortCmpFunc_Series_r0.eq_1 T K fr S
def slices_partialInsertionSortCmpFunc_Series_r1 : List POper := [M 13 1,Q 14 (.arith .add (V 13) (I 1)),M 9 14]
@[simp] theorem slices_partialInsertionSortCmpFunc_Series_r1_go : type_of% (ops_go slices_partialInsertionSortCmpFunc_Series_r1.eq_1 T K fr S) := ops_go slices_partialInsertionSortCmpFunc_Series_r1.eq_1 T K fr S
def slices_partialInsertionSortCmpFunc_Series_r2 : List POper := [Q 10 (.mov (I 0))]
@[simp] theorem slices_partialInsertionSortCmpFunc_Series_r2_go : type_of% (ops_go slices_partialInsertionSortCmpFunc_Series_r2.eq_1 T K fr S) := ops_go slices_partialInsertionSortCmpFunc_Series_r2.eq_1 T K fr S
def slices_partialInsertionSortCmpFunc_Series_r3 : List POper := [M 15 10,Q 16 (.arith .lss (V 15) (I 5))]
@[simp] theorem slices_partialInsertionSortCmpFunc_Series_r3_go : type_of% (ops_go slices_partialInsertionSortCmpFunc_Series_r3.eq_1 T K fr S) := ops_go slices_partialInsertionSortCmpFunc_Series_r3.eq_1 T K fr S
def slices_partialInsertionSortCmpFunc_Series_r5 : List POper := [M 19 9,M 20 2,Q 21 (.arith .lss (V 19) (V 20)),M 22 21,QG (some 23) (.mov (V 3)) 22 true,QG (some 24) (.mov (V 0)) 22 true,QG (some 25) (.mov (V 9)) 22 true,QG (some 26) (.iaddr 2 (V 24) (V 25)) 22 true,QG (some 27) (.load true 2 false (V 26)) 22 true,QG (some 28) (.mov (V 0)) 22 true,QG (some 29) (.mov (V 9)) 22 true,QG (some 30) (.arith .sub (V 29) (I 1)) 22 true,QG (some 31) (.iaddr 2 (V 28) (V 30)) 22 true,QG (some 32) (.load true 2 false (V 31)) 22 true,QG (some 33) (.callv .std (V 23) [(V 27), (V 32)]) 22 true,QG (some 34) (.arith .lss (V 33) (I 0)) 22 true,QG (some 35) (.un .not (V 34)) 22 true,Q 36 (.pick (V 22) (V 35) ff')]
@[simp] theorem slices_partialInsertionSortCmpFunc_Series_r5_go : type_of% (ops_go slices_partialInsertionSortCmpFunc_Series_r5.eq_1 T K fr S) := ops_go slices_partialInsertionSortCmpFunc_Series_r5.eq_1 T K fr S
def slices_partialInsertionSortCmpFunc_Series_r6 : List POper := [M 37 9,Q 38 (.arith .add (V 37) (I 1)),M 9 38]
@[simp] theorem slices_partialInsertionSortCmpFunc_Series_r6_go : type_of% (ops_go slices_partialInsertionSortCmpFunc_Series_r6.eq_1 T K fr S) := ops_go slices_partialInsertionSortCmpFunc_Series_r6.eq_1 T K fr S
def slices_partialInsertionSortCmpFunc_Series_l1 : PCode :=
  (.seq (.seq (.clr [(19, 36)] (.region slices_partialInsertionSortCmpFunc_Series_r5)) (.cond (V 36) .skip (.exit 2))) (.block 3 (.clr [(37, 39)] (.region slices_partialInsertionSortCmpFunc_Series_r6))))
@[simp] theorem slices_partialInsertionSortCmpFunc_Series_l1_go : type_of% (code_go slices_partialInsertionSortCmpFunc_Series_l1.eq_1 T K fr S) := code_go slices_partialInsertionSortCmpFunc_Series_l1.eq_1 T K fr S
def slices_partialInsertionSortCmpFunc_Series_r7 : List POper := [M 39 9,M 40 2,Q 41 (.arith .eql (V 39) (V 40))]
@[simp] theorem slices_partialInsertionSortCmpFunc_Series_r7_go : type_of% (ops_go slices_partialInsertionSortCmpFunc_Series_r7.eq_1 T K fr S) := ops_go slices_partialInsertionSortCmpFunc_Series_r7.eq_1 T K fr S
def slices_partialInsertionSortCmpFunc_Series_r8 : List POper := [Q 8 (.mov tt')]
@[simp] theorem slices_partialInsertionSortCmpFunc_Series_r8_go : type_of% (ops_go slices_partialInsertionSortCmpFunc_Series_r8.eq_1 T K fr S) := ops_go slices_partialInsertionSortCmpFunc_Series_r8.eq_1 T K fr S
def slices_partialInsertionSortCmpFunc_Series_r9 : List POper := [M 42 2,M 43 1,Q 44 (.arith .sub (V 42) (V 43)),Q 45 (.arith .lss (V 44) (I 50))]
@[simp] theorem slices_partialInsertionSortCmpFunc_Series_r9_go : type_of% (ops_go slices_partialInsertionSortCmpFunc_Series_r9.eq_1 T K fr S) := ops_go slices_partialInsertionSortCmpFunc_Series_r9.eq_1 T K fr S
def slices_partialInsertionSortCmpFunc_Series_r10 : List POper := [Q 8 (.mov ff')]
@[simp] theorem slices_partialInsertionSortCmpFunc_Series_r10_go : type_of% (ops_go slices_partialInsertionSortCmpFunc_Series_r10.eq_1 T K fr S) := ops_go slices_partialInsertionSortCmpFunc_Series_r10.eq_1 T K fr S
def slices_partialInsertionSortCmpFunc_Series_r11 : List POper := [M 46 0,M 47 9,M 48 0,M 49 9,Q 50 (.arith .sub (V 49) (I 1)),M 51 0,M 52 9,Q 53 (.arith .sub (V 52) (I 1)),Q 54 (.iaddr 2 (V 51) (V 53)),Q 55 (.load true 2 false (V 54)),M 56 0,M 57 9,Q 58 (.iaddr 2 (V 56) (V 57)),Q 59 (.load true 2 false (V 58)),Q 60 (.iaddr 2 (V 46) (V 47)),QN (.store 2 (V 60) (V 55)),Q 61 (.iaddr 2 (V 48) (V 50)),QN (.store 2 (V 61) (V 59))]
@[simp] theorem slices_partialInsertionSortCmpFunc_Series_r11_go : type_of% (ops_go slices_partialInsertionSortCmpFunc_Series_r11.eq_1 T K fr S) := ops_go slices_partialInsertionSortCmpFunc_Series_r11.eq_1 T K fr S
def slices_partialInsertionSortCmpFunc_Series_r12 : List POper := [M 62 9,M 63 1,Q 64 (.arith .sub (V 62) (V 63)),Q 65 (.arith .geq (V 64) (I 2))]
@[simp] theorem slices_partialInsertionSortCmpFunc_Series_r12_go : type_of% (ops_go slices_partialInsertionSortCmpFunc_Series_r12.eq_1 T K fr S) := ops_go slices_partialInsertionSortCmpFunc_Series_r12.eq_1 T K fr S
def slices_partialInsertionSortCmpFunc_Series_r13 : List POper := [M 66 9,Q 67 (.arith .sub (V 66) (I 1)),M 11 67]
@[simp] theorem slices_partialInsertionSortCmpFunc_Series_r13_go : type_of% (ops_go slices_partialInsertionSortCmpFunc_Series_r13.eq_1 T K fr S) := ops_go slices_partialInsertionSortCmpFunc_Series_r13.eq_1 T K fr S
def slices_partialInsertionSortCmpFunc_Series_r14 : List POper := [M 68 11,Q 69 (.arith .geq (V 68) (I 1))]
@[simp] theorem slices_partialInsertionSortCmpFunc_Series_r14_go : type_of% (ops_go slices_partialInsertionSortCmpFunc_Series_r14.eq_1 T K fr S) := ops_go slices_partialInsertionSortCmpFunc_Series_r14.eq_1 T K fr S
def slices_partialInsertionSortCmpFunc_Series_r16 : List POper := [M 72 3,M 73 0,M 74 11,Q 75 (.iaddr 2 (V 73) (V 74)),Q 76 (.load true 2 false (V 75)),M 77 0,M 78 11,Q 79 (.arith .sub (V 78) (I 1)),Q 80 (.iaddr 2 (V 77) (V 79)),Q 81 (.load true 2 false (V 80)),Q 82 (.callv .std (V 72) [(V 76), (V 81)]),Q 83 (.arith .lss (V 82) (I 0)),Q 84 (.un .not (V 83))]
@[simp] theorem slices_partialInsertionSortCmpFunc_Series_r16_go : type_of% (ops_go slices_partialInsertionSortCmpFunc_Series_r16.eq_1 T K fr S) := ops_go slices_partialInsertionSortCmpFunc_Series_r16.eq_1 T K fr S
def slices_partialInsertionSortCmpFunc_Series_r17 : List POper := [M 85 0,M 86 11,M 87 0,M 88 11,Q 89 (.arith .sub (V 88) (I 1)),M 90 0,M 91 11,Q 92 (.arith .sub (V 91) (I 1)),Q 93 (.iaddr 2 (V 90) (V 92)),Q 94 (.load true 2 false (V 93)),M 95 0,M 96 11,Q 97 (.iaddr 2 (V 95) (V 96)),Q 98 (.load true 2 false (V 97)),Q 99 (.iaddr 2 (V 85) (V 86)),QN (.store 2 (V 99) (V 94)),Q 100 (.iaddr 2 (V 87) (V 89)),QN (.store 2 (V 100) (V 98))]
@[simp] theorem slices_partialInsertionSortCmpFunc_Series_r17_go : type_of% (ops_go slices_partialInsertionSortCmpFunc_Series_r17.eq_1 T K fr S) := ops_go slices_partialInsertionSortCmpFunc_Series_r17.eq_1 T K fr S
def slices_partialInsertionSortCmpFunc_Series_r15 : List POper := [M 70 11,Q 71 (.arith .sub (V 70) (I 1)),M 11 71]
@[simp] theorem slices_partialInsertionSortCmpFunc_Series_r15_go : type_of% (ops_go slices_partialInsertionSortCmpFunc_Series_r15.eq_1 T K fr S) := ops_go slices_partialInsertionSortCmpFunc_Series_r15.eq_1 T K fr S
def slices_partialInsertionSortCmpFunc_Series_l2 : PCode :=
  (.seq (.seq (.clr [(68, 69)] (.region slices_partialInsertionSortCmpFunc_Series_r14)) (.cond (V 69) .skip (.exit 4))) (.seq (.block 5 (.seq (.seq (.clr [(72, 84)] (.region slices_partialInsertionSortCmpFunc_Series_r16)) (.cond (V 84) (.exit 4) .skip)) (.clr [(85, 101)] (.region slices_partialInsertionSortCmpFunc_Series_r17)))) (.clr [(70, 72)] (.region slices_partialInsertionSortCmpFunc_Series_r15))))
@[simp] theorem slices_partialInsertionSortCmpFunc_Series_l2_go : type_of% (code_go slices_partialInsertionSortCmpFunc_Series_l2.eq_1 T K fr S) := code_go slices_partialInsertionSortCmpFunc_Series_l2.eq_1 T K fr S
def slices_partialInsertionSortCmpFunc_Series_r18 : List POper := [M 101 2,M 102 9,Q 103 (.arith .sub (V 101) (V 102)),Q 104 (.arith .geq (V 103) (I 2))]
@[simp] theorem slices_partialInsertionSortCmpFunc_Series_r18_go : type_of% (ops_go slices_partialInsertionSortCmpFunc_Series_r18.eq_1 T K fr S) := ops_go slices_partialInsertionSortCmpFunc_Series_r18.eq_1 T K fr S
def slices_partialInsertionSortCmpFunc_Series_r19 : List POper := [M 105 9,Q 106 (.arith .add (V 105) (I 1)),M 12 106]
@[simp] theorem slices_partialInsertionSortCmpFunc_Series_r19_go : type_of% (ops_go slices_partialInsertionSortCmpFunc_Series_r19.eq_1 T K fr S) := ops_go slices_partialInsertionSortCmpFunc_Series_r19.eq_1 T K fr S
def slices_partialInsertionSortCmpFunc_Series_r20 : List POper := [M 107 12,M 108 2,Q 109 (.arith .lss (V 107) (V 108))]
@[simp] theorem slices_partialInsertionSortCmpFunc_Series_r20_go : type_of% (ops_go slices_partialInsertionSortCmpFunc_Series_r20.eq_1 T K fr S) := ops_go slices_partialInsertionSortCmpFunc_Series_r20.eq_1 T K fr S
def slices_partialInsertionSortCmpFunc_Series_r22 : List POper := [M 112 3,M 113 0,M 114 12,Q 115 (.iaddr 2 (V 113) (V 114)),Q 116 (.load true 2 false (V 115)),M 117 0,M 118 12,Q 119 (.arith .sub (V 118) (I 1)),Q 120 (.iaddr 2 (V 117) (V 119)),Q 121 (.load true 2 false (V 120)),Q 122 (.callv .std (V 112) [(V 116), (V 121)]),Q 123 (.arith .lss (V 122) (I 0)),Q 124 (.un .not (V 123))]
@[simp] theorem slices_partialInsertionSortCmpFunc_Series_r22_go : type_of% (ops_go slices_partialInsertionSortCmpFunc_Series_r22.eq_1 T K fr S) := ops_go slices_partialInsertionSortCmpFunc_Series_r22.eq_1 T K fr S
def slices_partialInsertionSortCmpFunc_Series_r23 : List POper := [M 125 0,M 126 12,M 127 0,M 128 12,Q 129 (.arith .sub (V 128) (I 1)),M 130 0,M 131 12,Q 132 (.arith .sub (V 131) (I 1)),Q 133 (.iaddr 2 (V 130) (V 132)),Q 134 (.load true 2 false (V 133)),M 135 0,M 136 12,Q 137 (.iaddr 2 (V 135) (V 136)),Q 138 (.load true 2 false (V 137)),Q 139 (.iaddr 2 (V 125) (V 126)),QN (.store 2 (V 139) (V 134)),Q 140 (.iaddr 2 (V 127) (V 129)),QN (.store 2 (V 140) (V 138))]
@[simp] theorem slices_partialInsertionSortCmpFunc_Series_r23_go : type_of% (ops_go slices_partialInsertionSortCmpFunc_Series_r23.eq_1 T K fr S) := ops_go slices_partialInsertionSortCmpFunc_Series_r23.eq_1 T K fr S
def slices_partialInsertionSortCmpFunc_Series_r21 : List POper := [M 110 12,Q 111 (.arith .add (V 110) (I 1)),M 12 111]
@[simp] theorem slices_partialInsertionSortCmpFunc_Series_r21_go : type_of% (ops_go slices_partialInsertionSortCmpFunc_Series_r21.eq_1 T K fr S) := ops_go slices_partialInsertionSortCmpFunc_Series_r21.eq_1 T K fr S
def slices_partialInsertionSortCmpFunc_Series_l3 : PCode :=
  (.seq (.seq (.clr [(107, 109)] (.region slices_partialInsertionSortCmpFunc_Series_r20)) (.cond (V 109) .skip (.exit 6))) (.seq (.block 7 (.seq (.seq (.clr [(112, 124)] (.region slices_partialInsertionSortCmpFunc_Series_r22)) (.cond (V 124) (.exit 6) .skip)) (.clr [(125, 141)] (.region slices_partialInsertionSortCmpFunc_Series_r23)))) (.clr [(110, 112)] (.region slices_partialInsertionSortCmpFunc_Series_r21))))
@[simp] theorem slices_partialInsertionSortCmpFunc_Series_l3_go : type_of% (code_go slices_partialInsertionSortCmpFunc_Series_l3.eq_1 T K fr S) := code_go slices_partialInsertionSortCmpFunc_Series_l3.eq_1 T K fr S
def slices_partialInsertionSortCmpFunc_Series_r4 : List POper := [M 17 10,Q 18 (.arith .add (V 17) (I 1)),M 10 18]
@[simp] theorem slices_partialInsertionSortCmpFunc_Series_r4_go : type_of% (ops_go slices_partialInsertionSortCmpFunc_Series_r4.eq_1 T K fr S) := ops_go slices_partialInsertionSortCmpFunc_Series_r4.eq_1 T K fr S
def slices_partialInsertionSortCmpFunc_Series_l0 : PCode :=
  (.seq (.seq (.clr [(15, 16)] (.region slices_partialInsertionSortCmpFunc_Series_r3)) (.cond (V 16) .skip (.exit 0))) (.seq (.block 1 (.seq (.block 2 (.loop slices_partialInsertionSortCmpFunc_Series_l1)) (.seq (.seq (.clr [(39, 41)] (.region slices_partialInsertionSortCmpFunc_Series_r7)) (.cond (V 41) (.seq (.region slices_partialInsertionSortCmpFunc_Series_r8) .ret) .skip)) (.seq (.seq (.clr [(42, 45)] (.region slices_partialInsertionSortCmpFunc_Series_r9)) (.cond (V 45) (.seq (.region slices_partialInsertionSortCmpFunc_Series_r10) .ret) .skip)) (.seq (.clr [(46, 62)] (.region slices_partialInsertionSortCmpFunc_Series_r11)) (.seq (.seq (.clr [(62, 65)] (.region slices_partialInsertionSortCmpFunc_Series_r12)) (.cond (V 65) (.seq (.clr [(66, 68)] (.region slices_partialInsertionSortCmpFunc_Series_r13)) (.block 4 (.loop slices_partialInsertionSortCmpFunc_Series_l2))) .skip)) (.seq (.clr [(101, 104)] (.region slices_partialInsertionSortCmpFunc_Series_r18)) (.cond (V 104) (.seq (.clr [(105, 107)] (.region slices_partialInsertionSortCmpFunc_Series_r19)) (.block 6 (.loop slices_partialInsertionSortCmpFunc_Series_l3))) .skip)))))))) (.clr [(17, 19)] (.region slices_partialInsertionSortCmpFunc_Series_r4))))
@[simp] theorem slices_partialInsertionSortCmpFunc_Series_l0_go : type_of% (code_go slices_partialInsertionSortCmpFunc_Series_l0.eq_1 T K fr S) := code_go slices_partialInsertionSortCmpFunc_Series_l0.eq_1 T K fr S
def slices_partialInsertionSortCmpFunc_Series_r24 : List POper := [Q 8 (.mov ff')]
@[simp] theorem slices_partialInsertionSortCmpFunc_Series_r24_go : type_of% (ops_go slices_partialInsertionSortCmpFunc_Series_r24.eq_1 T K fr S) := ops_go slices_partialInsertionSortCmpFunc_Series_r24.eq_1 T K fr S
def slices_partialInsertionSortCmpFunc_Series : PCodeFn :=
  ⟨4, [.tmp 8],
  (.seq (.region slices_partialInsertionSortCmpFunc_Series_r0) (.seq (.clr [(13, 15)] (.region slices_partialInsertionSortCmpFunc_Series_r1)) (.seq (.seq (.region slices_partialInsertionSortCmpFunc_Series_r2) (.block 0 (.loop slices_partialInsertionSortCmpFunc_Series_l0))) (.seq (.region slices_partialInsertionSortCmpFunc_Series_r24) .ret)))), true⟩

def slices_partitionEqualCmpFunc_Series_r0 : List POper := [Q 10 (.mov (I 0))]
@[simp] theorem slices_partitionEqualCmpFunc_Series_r0_go : type_of% (ops_go slices_partitionEqualCmpFunc_Series_r0.eq_1 T K fr S) := ops_go slices_partitionEqualCmpFunc_Series_r0.eq_1 T K fr S
def slices_partitionEqualCmpFunc_Series_r1 : List POper := [M 13 0,M 14 1,M 15 0,M 16 3,M 17 0,M 18 3,Q 19 (.iaddr 2 (V 17) (V 18)),Q 20 (.load true 2 false (V 19)),M 21 0,M 22 1,Q 23 (.iaddr 2 (V 21) (V 22)),Q 24 (.load true 2 false (V 23)),Q 25 (.iaddr 2 (V 13) (V 14)),QN (.store 2 (V 25) (V 20)),Q 26 (.iaddr 2 (V 15) (V 16)),QN (.store 2 (V 26) (V 24))]
@[simp] theorem slices_partitionEqualCmpFunc_Series_r1_go : type_of% (ops_go slices_partitionEqualCmpFunc_Series_r1.eq_1 T K fr S) := ops_go slices_partitionEqualCmpFunc_Series_r1.eq_1 T K fr S
def slices_partitionEqualCmpFunc_Series_r2 : List POper := [M 27 1,Q 28 (.arith .add (V 27) (I 1)),M 29 2,Q 30 (.arith .sub (V 29) (I 1)),M 11 28,M 12 30]
@[simp] theorem slices_partitionEqualCmpFunc_Series_r2_go : type_of% (ops_go slices_partitionEqualCmpFunc_Series_r2.eq_1 T K fr S) := ops_go slices_partitionEqualCmpFunc_Series_r2.eq_1 T K fr S
def slices_partitionEqualCmpFunc_Series_r3 : List POper := [M 31 11,M 32 12,Q 33 (.arith .leq (V 31) (V 32)),M 34 33,QG (some 35) (.mov (V 4)) 34 true,QG (some 36) (.mov (V 0)) 34 true,QG (some 37) (.mov (V 1)) 34 true,QG (some 38) (.iaddr 2 (V 36) (V 37)) 34 true,QG (some 39) (.load true 2 false (V 38)) 34 true,QG (some 40) (.mov (V 0)) 34 true,QG (some 41) (.mov (V 11)) 34 true,QG (some 42) (.iaddr 2 (V 40) (V 41)) 34 true,QG (some 43) (.load true 2 false (V 42)) 34 true,QG (some 44) (.callv .std (V 35) [(V 39), (V 43)]) 34 true,QG (some 45) (.arith .lss (V 44) (I 0)) 34 true,QG (some 46) (.un .not (V 45)) 34 true,Q 47 (.pick (V 34) (V 46) ff')]
@[simp] theorem slices_partitionEqualCmpFunc_Series_r3_go : type_of% (ops_go slices_partitionEqualCmpFunc_Series_r3.eq_1 T K fr S) := ops_go slices_partitionEqualCmpFunc_Series_r3.eq_1 T K fr S
def slices_partitionEqualCmpFunc_Series_r4 : List POper := [M 48 11,Q 49 (.arith .add (V 48) (I 1)),M 11 49]
@[simp] theorem slices_partitionEqualCmpFunc_Series_r4_go : type_of% (ops_go slices_partitionEqualCmpFunc_Series_r4.eq_1 T K fr S) := ops_go slices_partitionEqualCmpFunc_Series_r4.eq_1 T K fr S
def slices_partitionEqualCmpFunc_Series_l1 : PCode :=
  (.seq (.seq (.clr [(31, 47)] (.region slices_partitionEqualCmpFunc_Series_r3)) (.cond (V 47) .skip (.exit 2))) (.block 3 (.clr [(48, 50)] (.region slices_partitionEqualCmpFunc_Series_r4))))
@[simp] theorem slices_partitionEqualCmpFunc_Series_l1_go : type_of% (code_go slices_partitionEqualCmpFunc_Series_l1.eq_1 T K fr S) := code_go slices_partitionEqualCmpFunc_Series_l1.eq_1 T K fr S
def slices_partitionEqualCmpFunc_Series_r5 : List POper := [M 50 11,M 51 12,Q 52 (.arith .leq (V 50) (V 51)),M 53 52,QG (some 54) (.mov (V 4)) 53 true,QG (some 55) (.mov (V 0)) 53 true,QG (some 56) (.mov (V 1)) 53 true,QG (some 57) (.iaddr 2 (V 55) (V 56)) 53 true,QG (some 58) (.load true 2 false (V 57)) 53 true,QG (some 59) (.mov (V 0)) 53 true,QG (some 60) (.mov (V 12)) 53 true,QG (some 61) (.iaddr 2 (V 59) (V 60)) 53 true,QG (some 62) (.load true 2 false (V 61)) 53 true,QG (some 63) (.callv .std (V 54) [(V 58), (V 62)]) 53 true,QG (some 64) (.arith .lss (V 63) (I 0)) 53 true,Q 65 (.pick (V 53) (V 64) ff')]
@[simp] theorem slices_partitionEqualCmpFunc_Series_r5_go : type_of% (ops_go slices_partitionEqualCmpFunc_Series_r5.eq_1 T K fr S) := ops_go slices_partitionEqualCmpFunc_Series_r5.eq_1 T K fr S
def slices_partitionEqualCmpFunc_Series_r6 : List POper := [M 66 12,Q 67 (.arith .sub (V 66) (I 1)),M 12 67]
@[simp] theorem slices_partitionEqualCmpFunc_Series_r6_go : type_of% (ops_go slices_partitionEqualCmpFunc_Series_r6.eq_1 T K fr S) := ops_go slices_partitionEqualCmpFunc_Series_r6.eq_1 T K fr S
def slices_partitionEqualCmpFunc_Series_l2 : PCode :=
  (.seq (.seq (.clr [(50, 65)] (.region slices_partitionEqualCmpFunc_Series_r5)) (.cond (V 65) .skip (.exit 4))) (.block 5 (.clr [(66, 68)] (.region slices_partitionEqualCmpFunc_Series_r6))))
@[simp] theorem slices_partitionEqualCmpFunc_Series_l2_go : type_of% (code_go slices_partitionEqualCmpFunc_Series_l2.eq_1 T K fr S) := code_go slices_partitionEqualCmpFunc_Series_l2.eq_1 T K fr S
def slices_partitionEqualCmpFunc_Series_r7 : List POper := [M 68 11,M 69 12,Q 70 (.arith .gtr (V 68) (V 69))]
@[simp] theorem slices_partitionEqualCmpFunc_Series_r7_go : type_of% (ops_go slices_partitionEqualCmpFunc_Series_r7.eq_1 T K fr S) := ops_go slices_partitionEqualCmpFunc_Series_r7.eq_1 T K fr S
def slices_partitionEqualCmpFunc_Series_r8 : List POper := [M 71 0,M 72 11,M 73 0,M 74 12,M 75 0,M 76 12,Q 77 (.iaddr 2 (V 75) (V 76)),Q 78 (.load true 2 false (V 77)),M 79 0,M 80 11,Q 81 (.iaddr 2 (V 79) (V 80)),Q 82 (.load true 2 false (V 81)),Q 83 (.iaddr 2 (V 71) (V 72)),QN (.store 2 (V 83) (V 78)),Q 84 (.iaddr 2 (V 73) (V 74)),QN (.store 2 (V 84) (V 82))]
@[simp] theorem slices_partitionEqualCmpFunc_Series_r8_go : type_of% (ops_go slices_partitionEqualCmpFunc_Series_r8.eq_1 T K fr S) := ops_go slices_partitionEqualCmpFunc_Series_r8.eq_1 T K fr S
def slices_partitionEqualCmpFunc_Series_r9 : List POper := [M 85 11,Q 86 (.arith .add (V 85) (I 1)),M 11 86]
@[simp] theorem slices_partitionEqualCmpFunc_Series_r9_go : type_of% (ops_go slices_partitionEqualCmpFunc_Series_r9.eq_1 T K fr S) := ops_go slices_partitionEqualCmpFunc_Series_r9.eq_1 T K fr S
def slices_partitionEqualCmpFunc_Series_r10 : List POper := [M 87 12,Q 88 (.arith .sub (V 87) (I 1)),M 12 88]
@[simp] theorem slices_partitionEqualCmpFunc_Series_r10_go : type_of% (ops_go slices_partitionEqualCmpFunc_Series_r10.eq_1 T K fr S) := ops_go slices_partitionEqualCmpFunc_Series_r10.eq_1 T K fr S
def slices_partitionEqualCmpFunc_Series_l0 : PCode :=
  (.block 1 (.seq (.block 2 (.loop slices_partitionEqualCmpFunc_Series_l1)) (.seq (.block 4 (.loop slices_partitionEqualCmpFunc_Series_l2)) (.seq (.seq (.clr [(68, 70)] (.region slices_partitionEqualCmpFunc_Series_r7)) (.cond (V 70) (.exit 0) .skip)) (.seq (.clr [(71, 85)] (.region slices_partitionEqualCmpFunc_Series_r8)) (.seq (.clr [(85, 87)] (.region slices_partitionEqualCmpFunc_Series_r9)) (.clr [(87, 89)] (.region slices_partitionEqualCmpFunc_Series_r10))))))))
@[simp] theorem slices_partitionEqualCmpFunc_Series_l0_go : type_of% (code_go slices_partitionEqualCmpFunc_Series_l0.eq_1 T K fr S) := code_go slices_partitionEqualCmpFunc_Series_l0.eq_1 T K fr S
def slices_partitionEqualCmpFunc_Series_r11 : List POper := [M 89 11,M 10 89]
@[simp] theorem slices_partitionEqualCmpFunc_Series_r11_go : type_of% (ops_go slices_partitionEqualCmpFunc_Series_r11.eq_1 T K fr S) := ops_go slices_partitionEqualCmpFunc_Series_r11.eq_1 T K fr S
def slices_partitionEqualCmpFunc_Series : PCodeFn :=
  ⟨5, [.tmp 10],
  (.seq (.region slices_partitionEqualCmpFunc_Series_r0) (.seq (.clr [(13, 27)] (.region slices_partitionEqualCmpFunc_Series_r1)) (.seq (.clr [(27, 31)] (.region slices_partitionEqualCmpFunc_Series_r2)) (.seq (.block 0 (.loop slices_partitionEqualCmpFunc_Series_l0)) (.seq (.clr [(89, 90)] (.region slices_partitionEqualCmpFunc_Series_r11)) .ret))))), true⟩

def slices_partitionCmpFunc_Series_r0 : List POper := [Q 10 (.mov (I 0)),Q 11 (.mov ff')]
@[simp] theorem slices_partitionCmpFunc_Series_r0_go : type_of% (ops_go slices_partitionCmpFunc_Series_r0.eq_1 T K fr S) := ops_go slices_partitionCmpFunc_Series_r0.eq_1 T K fr S
def slices_partitionCmpFunc_Series_r1 : List POper := [M 14 0,M 15 1,M 16 0,M 17 3,M 18 0,M 19 3,Q 20 (.iaddr 2 (V 18) (V 19)),Q 21 (.load true 2 false (V 20)),M 22 0,M 23 1,Q 24 (.iaddr 2 (V 22) (V 23)),Q 25 (.load true 2 false (V 24)),Q 26 (.iaddr 2 (V 14) (V 15)),QN (.store 2 (V 26) (V 21)),Q 27 (.iaddr 2 (V 16) (V 17)),QN (.store 2 (V 27) (V 25))]
@[simp] theorem slices_partitionCmpFunc_Series_r1_go : type_of% (ops_go slices_partitionCmpFunc_Series_r1.eq_1 T K fr S) := ops_go slices_partitionCmpFunc_Series_r1.eq_1 T K fr S
def slices_partitionCmpFunc_Series_r2 : List POper := [M 28 1,Q 29 (.arith .add (V 28) (I 1)),M 30 2,Q 31 (.arith .sub (V 30) (I 1)),M 12 29,M 13 31]
@[simp] theorem slices_partitionCmpFunc_Series_r2_go : type_of% (ops_go slices_partitionCmpFunc_Series_r2.eq_1 T K fr S) := ops_go slices_partitionCmpFunc_Series_r2.eq_1 T K fr S
def slices_partitionCmpFunc_Series_r3 : List POper := [M 32 12,M 33 13,Q 34 (.arith .leq (V 32) (V 33)),M 35 34,QG (some 36) (.mov (V 4)) 35 true,QG (some 37) (.mov (V 0)) 35 true,QG (some 38) (.mov (V 12)) 35 true,QG (some 39) (.iaddr 2 (V 37) (V 38)) 35 true,QG (some 40) (.load true 2 false (V 39)) 35 true,QG (some 41) (.mov (V 0)) 35 true,QG (some 42) (.mov (V 1)) 35 true,QG (some 43) (.iaddr 2 (V 41) (V 42)) 35 true,QG (some 44) (.load true 2 false (V 43)) 35 true,QG (some 45) (.callv .std (V 36) [(V 40), (V 44)]) 35 true,QG (some 46) (.arith .lss (V 45) (I 0)) 35 true,Q 47 (.pick (V 35) (V 46) ff')]
@[simp] theorem slices_partitionCmpFunc_Series_r3_go : type_of% (ops_go slices_partitionCmpFunc_Series_r3.eq_1 T K fr S) := ops_go slices_partitionCmpFunc_Series_r3.eq_1 T K fr S
def slices_partitionCmpFunc_Series_r4 : List POper := [M 48 12,Q 49 (.arith .add (V 48) (I 1)),M 12 49]
@[simp] theorem slices_partitionCmpFunc_Series_r4_go : type_of% (ops_go slices_partitionCmpFunc_Series_r4.eq_1 T K fr S) := ops_go slices_partitionCmpFunc_Series_r4.eq_1 T K fr S
def slices_partitionCmpFunc_Series_l0 : PCode :=
  (.seq (.seq (.clr [(32, 47)] (.region slices_partitionCmpFunc_Series_r3)) (.cond (V 47) .skip (.exit 0))) (.block 1 (.clr [(48, 50)] (.region slices_partitionCmpFunc_Series_r4))))
@[simp] theorem slices_partitionCmpFunc_Series_l0_go : type_of% (code_go slices_partitionCmpFunc_Series_l0.eq_1 T K fr S) := code_go slices_partitionCmpFunc_Series_l0.eq_1 T K fr S
def slices_partitionCmpFunc_Series_r5 : List POper := [M 50 12,M 51 13,Q 52 (.arith .leq (V 50) (V 51)),M 53 52,QG (some 54) (.mov (V 4)) 53 true,QG (some 55) (.mov (V 0)) 53 true,QG (some 56) (.mov (V 13)) 53 true,QG (some 57) (.iaddr 2 (V 55) (V 56)) 53 true,QG (some 58) (.load true 2 false (V 57)) 53 true,QG (some 59) (.mov (V 0)) 53 true,QG (some 60) (.mov (V 1)) 53 true,QG (some 61) (.iaddr 2 (V 59) (V 60)) 53 true,QG (some 62) (.load true 2 false (V 61)) 53 true,QG (some 63) (.callv .std (V 54) [(V 58), (V 62)]) 53 true,QG (some 64) (.arith .lss (V 63) (I 0)) 53 true,QG (some 65) (.un .not (V 64)) 53 true,Q 66 (.pick (V 53) (V 65) ff')]
@[simp] theorem slices_partitionCmpFunc_Series_r5_go : type_of% (ops_go slices_partitionCmpFunc_Series_r5.eq_1 T K fr S) := ops_go slices_partitionCmpFunc_Series_r5.eq_1 T K fr S
def slices_partitionCmpFunc_Series_r6 : List POper := [M 67 13,Q 68 (.arith .sub (V 67) (I 1)),M 13 68]
@[simp] theorem slices_partitionCmpFunc_Series_r6_go : type_of% (ops_go slices_partitionCmpFunc_Series_r6.eq_1 T K fr S) := ops_go slices_partitionCmpFunc_Series_r6.eq_1 T K fr S
def slices_partitionCmpFunc_Series_l1 : PCode :=
  (.seq (.seq (.clr [(50, 66)] (.region slices_partitionCmpFunc_Series_r5)) (.cond (V 66) .skip (.exit 2))) (.block 3 (.clr [(67, 69)] (.region slices_partitionCmpFunc_Series_r6))))
@[simp] theorem slices_partitionCmpFunc_Series_l1_go : type_of% (code_go slices_partitionCmpFunc_Series_l1.eq_1 T K fr S) := code_go slices_partitionCmpFunc_Series_l1.eq_1 T K fr S
def slices_partitionCmpFunc_Series_r7 : List POper := [M 69 12,M 70 13,Q 71 (.arith .gtr (V 69) (V 70))]
@[simp] theorem slices_partitionCmpFunc_Series_r7_go : type_of% (ops_go slices_partitionCmpFunc_Series_r7.eq_1 T K fr S) := ops_go slices_partitionCmpFunc_Series_r7.eq_1 T K fr S
def slices_partitionCmpFunc_Series_r8 : List POper := [M 72 0,M 73 13,M 74 0,M 75 1,M 76 0,M 77 1,Q 78 (.iaddr 2 (V 76) (V 77)),Q 79 (.load true 2 false (V 78)),M 80 0,M 81 13,Q 82 (.iaddr 2 (V 80) (V 81)),Q 83 (.load true 2 false (V 82)),Q 84 (.iaddr 2 (V 72) (V 73)),QN (.store 2 (V 84) (V 79)),Q 85 (.iaddr 2 (V 74) (V 75)),QN (.store 2 (V 85) (V 83))]
@[simp] theorem slices_partitionCmpFunc_Series_r8_go : type_of% (ops_go slices_partitionCmpFunc_Series_r8.eq_1 T K fr S) := ops_go slices_partitionCmpFunc_Series_r8.eq_1 T K fr S
def slices_partitionCmpFunc_Series_r9 : List POper := [M 86 13,M 10 86,Q 11 (.mov tt')]
@[simp] theorem slices_partitionCmpFunc_Series_r9_go : type_of% (ops_go slices_partitionCmpFunc_Series_r9.eq_1 T K fr S) := ops_go slices_partitionCmpFunc_Series_r9.eq_1 T K fr S
def slices_partitionCmpFunc_Series_r10 : List POper := [M 87 0,M 88 12,M 89 0,M 90 13,M 91 0,M 92 13,Q 93 (.iaddr 2 (V 91) (V 92)),Q 94 (.load true 2 false (V 93)),M 95 0,M 96 12,Q 97 (.iaddr 2 (V 95) (V 96)),Q 98 (.load true 2 false (V 97)),Q 99 (.iaddr 2 (V 87) (V 88)),QN (.store 2 (V 99) (V 94)),Q 100 (.iaddr 2 (V 89) (V 90)),QN (.store 2 (V 100) (V 98))]
@[simp] theorem slices_partitionCmpFunc_Series_r10_go : type_of% (ops_go slices_partitionCmpFunc_Series_r10.eq_1 T K fr S) := ops_go slices_partitionCmpFunc_Series_r10.eq_1 T K fr S
def slices_partitionCmpFunc_Series_r11 : List POper := [M 101 12,Q 102 (.arith .add (V 101) (I 1)),M 12 102]
@[simp] theorem slices_partitionCmpFunc_Series_r11_go : type_of% (ops_go slices_partitionCmpFunc_Series_r11.eq_1 T K fr S) := ops_go slices_partitionCmpFunc_Series_r11.eq_1 T K fr S
def slices_partitionCmpFunc_Series_r12 : List POper := [M 103 13,Q 104 (.arith .sub (V 103) (I 1)),M 13 104]
@[simp] theorem slices_partitionCmpFunc_Series_r12_go : type_of% (ops_go slices_partitionCmpFunc_Series_r12.eq_1 T K fr S) := ops_go slices_partitionCmpFunc_Series_r12.eq_1 T K fr S
def slices_partitionCmpFunc_Series_r13 : List POper := [M 105 12,M 106 13,Q 107 (.arith .leq (V 105) (V 106)),M 108 107,QG (some 109) (.mov (V 4)) 108 true,QG (some 110) (.mov (V 0)) 108 true,QG (some 111) (.mov (V 12)) 108 true,QG (some 112) (.iaddr 2 (V 110) (V 111)) 108 true,QG (some 113) (.load true 2 false (V 112)) 108 true,QG (some 114) (.mov (V 0)) 108 true,QG (some 115) (.mov (V 1)) 108 true,QG (some 116) (.iaddr 2 (V 114) (V 115)) 108 true,QG (some 117) (.load true 2 false (V 116)) 108 true,QG (some 118) (.callv .std (V 109) [(V 113), (V 117)]) 108 true,QG (some 119) (.arith .lss (V 118) (I 0)) 108 true,Q 120 (.pick (V 108) (V 119) ff')]
@[simp] theorem slices_partitionCmpFunc_Series_r13_go : type_of% (ops_go slices_partitionCmpFunc_Series_r13.eq_1 T K fr S) := ops_go slices_partitionCmpFunc_Series_r13.eq_1 T K fr S
def slices_partitionCmpFunc_Series_r14 : List POper := [M 121 12,Q 122 (.arith .add (V 121) (I 1)),M 12 122]
@[simp] theorem slices_partitionCmpFunc_Series_r14_go : type_of% (ops_go slices_partitionCmpFunc_Series_r14.eq_1 T K fr S) := ops_go slices_partitionCmpFunc_Series_r14.eq_1 T K fr S
def slices_partitionCmpFunc_Series_l3 : PCode :=
  (.seq (.seq (.clr [(105, 120)] (.region slices_partitionCmpFunc_Series_r13)) (.cond (V 120) .skip (.exit 6))) (.block 7 (.clr [(121, 123)] (.region slices_partitionCmpFunc_Series_r14))))
@[simp] theorem slices_partitionCmpFunc_Series_l3_go : type_of% (code_go slices_partitionCmpFunc_Series_l3.eq_1 T K fr S) := code_go slices_partitionCmpFunc_Series_l3.eq_1 T K fr S
def slices_partitionCmpFunc_Series_r15 : List POper := [M 123 12,M 124 13,Q 125 (.arith .leq (V 123) (V 124)),M 126 125,QG (some 127) (.mov (V 4)) 126 true,QG (some 128) (.mov (V 0)) 126 true,QG (some 129) (.mov (V 13)) 126 true,QG (some 130) (.iaddr 2 (V 128) (V 129)) 126 true,QG (some 131) (.load true 2 false (V 130)) 126 true,QG (some 132) (.mov (V 0)) 126 true,QG (some 133) (.mov (V 1)) 126 true,QG (some 134) (.iaddr 2 (V 132) (V 133)) 126 true,QG (some 135) (.load true 2 false (V 134)) 126 true,QG (some 136) (.callv .std (V 127) [(V 131), (V 135)]) 126 true,QG (some 137) (.arith .lss (V 136) (I 0)) 126 true,QG (some 138) (.un .not (V 137)) 126 true,Q 139 (.pick (V 126) (V 138) ff')]
@[simp] theorem slices_partitionCmpFunc_Series_r15_go : type_of% (ops_go slices_partitionCmpFunc_Series_r15.eq_1 T K fr S) := ops_go slices_partitionCmpFunc_Series_r15.eq_1 T K fr S
def slices_partitionCmpFunc_Series_r16 : List POper := [M 140 13,Q 141 (.arith .sub (V 140) (I 1)),M 13 141]
@[simp] theorem slices_partitionCmpFunc_Series_r16_go : type_of% (ops_go slices_partitionCmpFunc_Series_r16.eq_1 T K fr S) := ops_go slices_partitionCmpFunc_Series_r16.eq_1 T K fr S
def slices_partitionCmpFunc_Series_l4 : PCode :=
  (.seq (.seq (.clr [(123, 139)] (.region slices_partitionCmpFunc_Series_r15)) (.cond (V 139) .skip (.exit 8))) (.block 9 (.clr [(140, 142)] (.region slices_partitionCmpFunc_Series_r16))))
@[simp] theorem slices_partitionCmpFunc_Series_l4_go : type_of% (code_go slices_partitionCmpFunc_Series_l4.eq_1 T K fr S) := code_go slices_partitionCmpFunc_Series_l4.eq_1 T K fr S
def slices_partitionCmpFunc_Series_r17 : List POper := [M 142 12,M 143 13,Q 144 (.arith .gtr (V 142) (V 143))]
@[simp] theorem slices_partitionCmpFunc_Series_r17_go : type_of% (ops_go slices_partitionCmpFunc_Series_r17.eq_1 T K fr S) := ops_go slices_partitionCmpFunc_Series_r17.eq_1 T K fr S
def slices_partitionCmpFunc_Series_r18 : List POper := [M 145 0,M 146 12,M 147 0,M 148 13,M 149 0,M 150 13,Q 151 (.iaddr 2 (V 149) (V 150)),Q 152 (.load true 2 false (V 151)),M 153 0,M 154 12,Q 155 (.iaddr 2 (V 153) (V 154)),Q 156 (.load true 2 false (V 155)),Q 157 (.iaddr 2 (V 145) (V 146)),QN (.store 2 (V 157) (V 152)),Q 158 (.iaddr 2 (V 147) (V 148)),QN (.store 2 (V 158) (V 156))]
@[simp] theorem slices_partitionCmpFunc_Series_r18_go : type_of% (ops_go slices_partitionCmpFunc_Series_r18.eq_1 T K fr S) := ops_go slices_partitionCmpFunc_Series_r18.eq_1 T K fr S
def slices_partitionCmpFunc_Series_r19 : List POper := [M 159 12,Q 160 (.arith .add (V 159) (I 1)),M 12 160]
@[simp] theorem slices_partitionCmpFunc_Series_r19_go : type_of% (ops_go slices_partitionCmpFunc_Series_r19.eq_1 T K fr S) := ops_go slices_partitionCmpFunc_Series_r19.eq_1 T K fr S
def slices_partitionCmpFunc_Series_r20 : List POper := [M 161 13,Q 162 (.arith .sub (V 161) (I 1)),M 13 162]
@[simp] theorem slices_partitionCmpFunc_Series_r20_go : type_of% (ops_go slices_partitionCmpFunc_Series_r20.eq_1 T K fr S) := ops_go slices_partitionCmpFunc_Series_r20.eq_1 T K fr S
def slices_partitionCmpFunc_Series_l2 : PCode :=
  (.block 5 (.seq (.block 6 (.loop slices_partitionCmpFunc_Series_l3)) (.seq (.block 8 (.loop slices_partitionCmpFunc_Series_l4)) (.seq (.seq (.clr [(142, 144)] (.region slices_partitionCmpFunc_Series_r17)) (.cond (V 144) (.exit 4) .skip)) (.seq (.clr [(145, 159)] (.region slices_partitionCmpFunc_Series_r18)) (.seq (.clr [(159, 161)] (.region slices_partitionCmpFunc_Series_r19)) (.clr [(161, 163)] (.region slices_partitionCmpFunc_Series_r20))))))))
@[simp] theorem slices_partitionCmpFunc_Series_l2_go : type_of% (code_go slices_partitionCmpFunc_Series_l2.eq_1 T K fr S) := code_go slices_partitionCmpFunc_Series_l2.eq_1 T K fr S
def slices_partitionCmpFunc_Series_r21 : List POper := [M 163 0,M 164 13,M 165 0,M 166 1,M 167 0,M 168 1,Q 169 (.iaddr 2 (V 167) (V 168)),Q 170 (.load true 2 false (V 169)),M 171 0,M 172 13,Q 173 (.iaddr 2 (V 171) (V 172)),Q 174 (.load true 2 false (V 173)),Q 175 (.iaddr 2 (V 163) (V 164)),QN (.store 2 (V 175) (V 170)),Q 176 (.iaddr 2 (V 165) (V 166)),QN (.store 2 (V 176) (V 174))]
@[simp] theorem slices_partitionCmpFunc_Series_r21_go : type_of% (ops_go slices_partitionCmpFunc_Series_r21.eq_1 T K fr S) := ops_go slices_partitionCmpFunc_Series_r21.eq_1 T K fr S
def slices_partitionCmpFunc_Series_r22 : List POper := [M 177 13,M 10 177,Q 11 (.mov ff')]
@[simp] theorem slices_partitionCmpFunc_Series_r22_go : type_of% (ops_go slices_partitionCmpFunc_Series_r22.eq_1 T K fr S) := ops_go slices_partitionCmpFunc_Series_r22.eq_1 T K fr S
def slices_partitionCmpFunc_Series : PCodeFn :=
  ⟨5, [.tmp 10, .tmp 11],
  (.seq (.region slices_partitionCmpFunc_Series_r0) (.seq (.clr [(14, 28)] (.region slices_partitionCmpFunc_Series_r1)) (.seq (.clr [(28, 32)] (.region slices_partitionCmpFunc_Series_r2)) (.seq (.block 0 (.loop slices_partitionCmpFunc_Series_l0)) (.seq (.block 2 (.loop slices_partitionCmpFunc_Series_l1)) (.seq (.seq (.clr [(69, 71)] (.region slices_partitionCmpFunc_Series_r7)) (.cond (V 71) (.seq (.clr [(72, 86)] (.region slices_partitionCmpFunc_Series_r8)) (.seq (.clr [(86, 87)] (.region slices_partitionCmpFunc_Series_r9)) .ret)) .skip)) (.seq (.clr [(87, 101)] (.region slices_partitionCmpFunc_Series_r10)) (.seq (.clr [(101, 103)] (.region slices_partitionCmpFunc_Series_r11)) (.seq (.clr [(103, 105)] (.region slices_partitionCmpFunc_Series_r12)) (.seq (.block 4 (.loop slices_partitionCmpFunc_Series_l2)) (.seq (.clr [(163, 177)] (.region slices_partitionCmpFunc_Series_r21)) (.seq (.clr [(177, 178)] (.region slices_partitionCmpFunc_Series_r22)) .ret)))))))))))), true⟩

def math_bits_Len32_r0 : List POper := [Q 2 (.mov (I 0))]
@[simp] theorem math_bits_Len32_r0_go : type_of% (ops_go math_bits_Len32_r0.eq_1 T K fr S) := ops_go math_bits_Len32_r0.eq_1 T K fr S
def math_bits_Len32_r1 : List POper := [M 3 0,Q 4 (.arith .geq (V 3) (.cst (.int .u32 65536)))]
@[simp] theorem math_bits_Len32_r1_go : type_of% (ops_go math_bits_Len32_r1.eq_1 T K fr S) := ops_go math_bits_Len32_r1.eq_1 T K fr S
def math_bits_Len32_r2 : List POper := [M 5 0,Q 6 (.arith .shr (V 5) (.cst (.int .u64 16))),M 0 6]
@[simp] theorem math_bits_Len32_r2_go : type_of% (ops_go math_bits_Len32_r2.eq_1 T K fr S) := ops_go math_bits_Len32_r2.eq_1 T K fr S
def math_bits_Len32_r3 : List POper := [Q 2 (.mov (I 16))]
@[simp] theorem math_bits_Len32_r3_go : type_of% (ops_go math_bits_Len32_r3.eq_1 T K fr S) := ops_go math_bits_Len32_r3.eq_1 T K fr S
def math_bits_Len32_r4 : List POper := [M 7 0,Q 8 (.arith .geq (V 7) (.cst (.int .u32 256)))]
@[simp] theorem math_bits_Len32_r4_go : type_of% (ops_go math_bits_Len32_r4.eq_1 T K fr S) := ops_go math_bits_Len32_r4.eq_1 T K fr S
def math_bits_Len32_r5 : List POper := [M 9 0,Q 10 (.arith .shr (V 9) (.cst (.int .u64 8))),M 0 10]
@[simp] theorem math_bits_Len32_r5_go : type_of% (ops_go math_bits_Len32_r5.eq_1 T K fr S) := ops_go math_bits_Len32_r5.eq_1 T K fr S
def math_bits_Len32_r6 : List POper := [M 11 2,Q 12 (.arith .add (V 11) (I 8)),M 2 12]
@[simp] theorem math_bits_Len32_r6_go : type_of% (ops_go math_bits_Len32_r6.eq_1 T K fr S) := ops_go math_bits_Len32_r6.eq_1 T K fr S
def math_bits_Len32_r7 : List POper := [M 13 2,M 14 0,Q 15 (.toInt .u8 (V 14)),Q 16 (.idxs (.cst (.str [0, 1, 2, 2, 3, 3, 3, 3, 4, 4, 4, 4, 4, 4, 4, 4, 5, 5, 5, 5, 5, 5, 5, 5, 5, 5, 5, 5, 5, 5, 5, 5, 6, 6, 6, 6, 6, 6, 6, 6, 6, 6, 6, 6, 6, 6, 6, 6, 6, 6, 6, 6, 6, 6, 6, 6, 6, 6, 6, 6, 6, 6, 6, 6, 7, 7, 7, 7, 7, 7, 7, 7, 7, 7, 7, 7, 7, 7, 7, 7, 7, 7, 7, 7, 7, 7, 7, 7, 7, 7, 7, 7, 7, 7, 7, 7, 7, 7, 7, 7, 7, 7, 7, 7, 7, 7, 7, 7, 7, 7, 7, 7, 7, 7, 7, 7, 7, 7, 7, 7, 7, 7, 7, 7, 7, 7, 7, 7, 8, 8, 8, 8, 8, 8, 8, 8, 8, 8, 8, 8, 8, 8, 8, 8, 8, 8, 8, 8, 8, 8, 8, 8, 8, 8, 8, 8, 8, 8, 8, 8, 8, 8, 8, 8, 8, 8, 8, 8, 8, 8, 8, 8, 8, 8, 8, 8, 8, 8, 8, 8, 8, 8, 8, 8, 8, 8, 8, 8, 8, 8, 8, 8, 8, 8, 8, 8, 8, 8, 8, 8, 8, 8, 8, 8, 8, 8, 8, 8, 8, 8, 8, 8, 8, 8, 8, 8, 8, 8, 8, 8, 8, 8, 8, 8, 8, 8, 8, 8, 8, 8, 8, 8, 8, 8, 8, 8, 8, 8, 8, 8, 8, 8, 8, 8, 8, 8, 8, 8, 8, 8, 8, 8, 8, 8, 8, 8])) (V 15)),Q 17 (.toInt .i64 (V 16)),Q 18 (.arith .add (V 13) (V 17)),M 2 18]
@[simp] theorem math_bits_Len32_r7_go : type_of% (ops_go math_bits_Len32_r7.eq_1 T K fr S) := ops_go math_bits_Len32_r7.eq_1 T K fr S
def math_bits_Len32 : PCodeFn :=
  ⟨1, [.tmp 2],
  (.seq (.region math_bits_Len32_r0) (.seq (.seq (.clr [(3, 4)] (.region math_bits_Len32_r1)) (.cond (V 4) (.seq (.clr [(5, 7)] (.region math_bits_Len32_r2)) (.region math_bits_Len32_r3)) .skip)) (.seq (.seq (.clr [(7, 8)] (.region math_bits_Len32_r4)) (.cond (V 8) (.seq (.clr [(9, 11)] (.region math_bits_Len32_r5)) (.clr [(11, 13)] (.region math_bits_Len32_r6))) .skip)) (.seq (.clr [(13, 19)] (.region math_bits_Len32_r7)) .ret)))), false⟩

def math_bits_Len64_r0 : List POper := [Q 2 (.mov (I 0))]
@[simp] theorem math_bits_Len64_r0_go : type_of% (ops_go math_bits_Len64_r0.eq_1 T K fr S) := ops_go math_bits_Len64_r0.eq_1 T K fr S
def math_bits_Len64_r1 : List POper := [M 3 0,Q 4 (.arith .geq (V 3) (.cst (.int .u64 4294967296)))]
@[simp] theorem math_bits_Len64_r1_go : type_of% (ops_go math_bits_Len64_r1.eq_1 T K fr S) := ops_go math_bits_Len64_r1.eq_1 T K fr S
def math_bits_Len64_r2 : List POper := [M 5 0,Q 6 (.arith .shr (V 5) (.cst (.int .u64 32))),M 0 6]
@[simp] theorem math_bits_Len64_r2_go : type_of% (ops_go math_bits_Len64_r2.eq_1 T K fr S) := ops_go math_bits_Len64_r2.eq_1 T K fr S
def math_bits_Len64_r3 : List POper := [Q 2 (.mov (I 32))]
@[simp] theorem math_bits_Len64_r3_go : type_of% (ops_go math_bits_Len64_r3.eq_1 T K fr S) := ops_go math_bits_Len64_r3.eq_1 T K fr S
def math_bits_Len64_r4 : List POper := [M 7 0,Q 8 (.arith .geq (V 7) (.cst (.int .u64 65536)))]
@[simp] theorem math_bits_Len64_r4_go : type_of% (ops_go math_bits_Len64_r4.eq_1 T K fr S) := ops_go math_bits_Len64_r4.eq_1 T K fr S
def math_bits_Len64_r5 : List POper := [M 9 0,Q 10 (.arith .shr (V 9) (.cst (.int .u64 16))),M 0 10]
@[simp] theorem math_bits_Len64_r5_go : type_of% (ops_go math_bits_Len64_r5.eq_1 T K fr S) := ops_go math_bits_Len64_r5.eq_1 T K fr S
def math_bits_Len64_r6 : List POper := [M 11 2,Q 12 (.arith .add (V 11) (I 16)),M 2 12]
@[simp] theorem math_bits_Len64_r6_go : type_of% (ops_go math_bits_Len64_r6.eq_1 T K fr S) := ops_go math_bits_Len64_r6.eq_1 T K fr S
def math_bits_Len64_r7 : List POper := [M 13 0,Q 14 (.arith .geq (V 13) (.cst (.int .u64 256)))]
@[simp] theorem math_bits_Len64_r7_go : type_of% (ops_go math_bits_Len64_r7.eq_1 T K fr S) := ops_go math_bits_Len64_r7.eq_1 T K fr S
def math_bits_Len64_r8 : List POper := [M 15 0,Q 16 (.arith .shr (V 15) (.cst (.int .u64 8))),M 0 16]
@[simp] theorem math_bits_Len64_r8_go : type_of% (ops_go math_bits_Len64_r8.eq_1 T K fr S) := ops_go math_bits_Len64_r8.eq_1 T K fr S
def math_bits_Len64_r9 : List POper := [M 17 2,Q 18 (.arith .add (V 17) (I 8)),M 2 18]
@[simp] theorem math_bits_Len64_r9_go : type_of% (ops_go math_bits_Len64_r9.eq_1 T K fr S) := ops_go math_bits_Len64_r9.eq_1 T K fr S
def math_bits_Len64_r10 : List POper := [M 19 2,M 20 0,Q 21 (.toInt .u8 (V 20)),Q 22 (.idxs (.cst (.str [0, 1, 2, 2, 3, 3, 3, 3, 4, 4, 4, 4, 4, 4, 4, 4, 5, 5, 5, 5, 5, 5, 5, 5, 5, 5, 5, 5, 5, 5, 5, 5, 6, 6, 6, 6, 6, 6, 6, 6, 6, 6, 6, 6, 6, 6, 6, 6, 6, 6, 6, 6, 6, 6, 6, 6, 6, 6, 6, 6, 6, 6, 6, 6, 7, 7, 7, 7, 7, 7, 7, 7, 7, 7, 7, 7, 7, 7, 7, 7, 7, 7, 7, 7, 7, 7, 7, 7, 7, 7, 7, 7, 7, 7, 7, 7, 7, 7, 7, 7, 7, 7, 7, 7, 7, 7, 7, 7, 7, 7, 7, 7, 7, 7, 7, 7, 7, 7, 7, 7, 7, 7, 7, 7, 7, 7, 7, 7, 8, 8, 8, 8, 8, 8, 8, 8, 8, 8, 8, 8, 8, 8, 8, 8, 8, 8, 8, 8, 8, 8, 8, 8, 8, 8, 8, 8, 8, 8, 8, 8, 8, 8, 8, 8, 8, 8, 8, 8, 8, 8, 8, 8, 8, 8, 8, 8, 8, 8, 8, 8, 8, 8, 8, 8, 8, 8, 8, 8, 8, 8, 8, 8, 8, 8, 8, 8, 8, 8, 8, 8, 8, 8, 8, 8, 8, 8, 8, 8, 8, 8, 8, 8, 8, 8, 8, 8, 8, 8, 8, 8, 8, 8, 8, 8, 8, 8, 8, 8, 8, 8, 8, 8, 8, 8, 8, 8, 8, 8, 8, 8, 8, 8, 8, 8, 8, 8, 8, 8, 8, 8, 8, 8, 8, 8, 8, 8])) (V 21)),Q 23 (.toInt .i64 (V 22)),Q 24 (.arith .add (V 19) (V 23)),M 2 24]
@[simp] theorem math_bits_Len64_r10_go : type_of% (ops_go math_bits_Len64_r10.eq_1 T K fr S) := ops_go math_bits_Len64_r10.eq_1 T K fr S
def math_bits_Len64 : PCodeFn :=
  ⟨1, [.tmp 2],
  (.seq (.region math_bits_Len64_r0) (.seq (.seq (.clr [(3, 4)] (.region math_bits_Len64_r1)) (.cond (V 4) (.seq (.clr [(5, 7)] (.region math_bits_Len64_r2)) (.region math_bits_Len64_r3)) .skip)) (.seq (.seq (.clr [(7, 8)] (.region math_bits_Len64_r4)) (.cond (V 8) (.seq (.clr [(9, 11)] (.region math_bits_Len64_r5)) (.clr [(11, 13)] (.region math_bits_Len64_r6))) .skip)) (.seq (.seq (.clr [(13, 14)] (.region math_bits_Len64_r7)) (.cond (V 14) (.seq (.clr [(15, 17)] (.region math_bits_Len64_r8)) (.clr [(17, 19)] (.region math_bits_Len64_r9))) .skip)) (.seq (.clr [(19, 25)] (.region math_bits_Len64_r10)) .ret))))), false⟩

def cmp_isNaN_string_r0 : List POper := [Q 2 (.mov ff')]
@[simp] theorem cmp_isNaN_string_r0_go : type_of% (ops_go cmp_isNaN_string_r0.eq_1 T K fr S) := ops_go cmp_isNaN_string_r0.eq_1 T K fr S
def cmp_isNaN_string_r1 : List POper := [M 3 0,M 4 0,Q 5 (.arith .neq (V 3) (V 4)),M 2 5]
@[simp] theorem cmp_isNaN_string_r1_go : type_of% (ops_go cmp_isNaN_string_r1.eq_1 T K fr S) := ops_go cmp_isNaN_string_r1.eq_1 T K fr S
def cmp_isNaN_string : PCodeFn :=
  ⟨1, [.tmp 2],
  (.seq (.region cmp_isNaN_string_r0) (.seq (.clr [(3, 6)] (.region cmp_isNaN_string_r1)) .ret)), false⟩

def strings_Builder_Grow_r0 : List POper := [M 4 0,Q 5 (.call .std 300 [(V 4)])]
@[simp] theorem strings_Builder_Grow_r0_go : type_of% (ops_go strings_Builder_Grow_r0.eq_1 T K fr S) := ops_go strings_Builder_Grow_r0.eq_1 T K fr S
def strings_Builder_Grow_r1 : List POper := [M 6 1,Q 7 (.arith .lss (V 6) (I 0))]
@[simp] theorem strings_Builder_Grow_r1_go : type_of% (ops_go strings_Builder_Grow_r1.eq_1 T K fr S) := ops_go strings_Builder_Grow_r1.eq_1 T K fr S
def strings_Builder_Grow_r4 : List POper := [M 22 0,M 23 1,Q 24 (.call .std 301 [(V 22), (V 23)])]
@[simp] theorem strings_Builder_Grow_r4_go : type_of% (ops_go strings_Builder_Grow_r4.eq_1 T K fr S) := ops_go strings_Builder_Grow_r4.eq_1 T K fr S
def strings_Builder_Grow : PCodeFn :=
  ⟨2, [],
  (.seq (.clr [(4, 6)] (.region strings_Builder_Grow_r0)) (.seq (.seq (.clr [(6, 7)] (.region strings_Builder_Grow_r1)) (.cond (V 7) .bad .skip)) (.seq .bad (.cond (V 21) (.clr [(22, 25)] (.region strings_Builder_Grow_r4)) .skip)))), false⟩

def strings_Builder_WriteString_r0 : List POper := [Q 4 (.mov (I 0)),Q 5 (.mov (.cst .nili))]
@[simp] theorem strings_Builder_WriteString_r0_go : type_of% (ops_go strings_Builder_WriteString_r0.eq_1 T K fr S) := ops_go strings_Builder_WriteString_r0.eq_1 T K fr S
def strings_Builder_WriteString_r1 : List POper := [M 6 0,Q 7 (.call .std 300 [(V 6)])]
@[simp] theorem strings_Builder_WriteString_r1_go : type_of% (ops_go strings_Builder_WriteString_r1.eq_1 T K fr S) := ops_go strings_Builder_WriteString_r1.eq_1 T K fr S
def strings_Builder_WriteString_r2 : List POper := [M 8 0,M 9 0,NK' 10 9,FA 11 1 10,LD 12 11,M 13 1,Q 14 (.app 1 1 (V 12) (V 13)),NK' 15 8,FA 16 1 15,QN (.store 1 (V 16) (V 14))]
@[simp] theorem strings_Builder_WriteString_r2_go : type_of% (ops_go strings_Builder_WriteString_r2.eq_1 T K fr S) := ops_go strings_Builder_WriteString_r2.eq_1 T K fr S
def strings_Builder_WriteString_r3 : List POper := [M 17 1,Q 18 (.len true (V 17)),M 4 18,Q 5 (.mov (.cst .nili))]
@[simp] theorem strings_Builder_WriteString_r3_go : type_of% (ops_go strings_Builder_WriteString_r3.eq_1 T K fr S) := ops_go strings_Builder_WriteString_r3.eq_1 T K fr S
def strings_Builder_WriteString : PCodeFn :=
  ⟨2, [.tmp 4, .tmp 5],
  (.seq (.region strings_Builder_WriteString_r0) (.seq (.clr [(6, 8)] (.region strings_Builder_WriteString_r1)) (.seq (.clr [(8, 17)] (.region strings_Builder_WriteString_r2)) (.seq (.clr [(17, 19)] (.region strings_Builder_WriteString_r3)) .ret)))), false⟩

def strings_Builder_String_r0 : List POper := [Q 2 (.mov (.cst (.str [])))]
@[simp] theorem strings_Builder_String_r0_go : type_of% (ops_go strings_Builder_String_r0.eq_1 T K fr S) := ops_go strings_Builder_String_r0.eq_1 T K fr S
def strings_Builder_String : PCodeFn :=
  ⟨1, [.tmp 2],
  (.seq (.region strings_Builder_String_r0) (.seq .bad .ret)), false⟩

def chunk_may_r0 : List POper := [Q 1 (.box true (V 0)),Q 2 (.mov ff')]
@[simp] theorem chunk_may_r0_go : type_of% (ops_go chunk_may_r0.eq_1 T K fr S) := ops_go chunk_may_r0.eq_1 T K fr S
def chunk_may_r1 : List POper := [FA 3 0 1,LD 4 3,Q 5 (.arith .leq (I 0) (V 4)),M 6 5,QG (some 7) (.faddr 0 (V 1)) 6 true,QG (some 8) (.load false 1 false (V 7)) 6 true,QG (some 9) (.arith .leq (V 8) (I 1099511627776)) 6 true,Q 10 (.pick (V 6) (V 9) ff'),M 11 10,QG (some 12) (.faddr 1 (V 1)) 11 true,QG (some 13) (.load false 1 false (V 12)) 11 true,QG (some 14) (.arith .leq (I (-1152921504606846976)) (V 13)) 11 true,Q 15 (.pick (V 11) (V 14) ff'),M 16 15,QG (some 17) (.faddr 1 (V 1)) 16 true,QG (some 18) (.load false 1 false (V 17)) 16 true,QG (some 19) (.arith .leq (V 18) (I 1152921504606846976)) 16 true,Q 20 (.pick (V 16) (V 19) ff'),M 2 20]
@[simp] theorem chunk_may_r1_go : type_of% (ops_go chunk_may_r1.eq_1 T K fr S) := ops_go chunk_may_r1.eq_1 T K fr S
def chunk_may : PCodeFn :=
  ⟨1, [.tmp 2],
  (.seq (.region chunk_may_r0) (.seq (.clr [(3, 21)] (.region chunk_may_r1)) .ret)), false⟩

def slices_siftDownCmpFunc_Series_r0 : List POper := [M 12 1,M 10 12]
@[simp] theorem slices_siftDownCmpFunc_Series_r0_go : type_of% (ops_go slices_siftDownCmpFunc_Series_r0.eq_1 T K fr S) := ops_go slices_siftDownCmpFunc_Series_r0.eq_1 T K fr S
def slices_siftDownCmpFunc_Series_r1 : List POper := [M 13 10,Q 14 (.arith .mul (I 2) (V 13)),Q 15 (.arith .add (V 14) (I 1)),M 11 15]
@[simp] theorem slices_siftDownCmpFunc_Series_r1_go : type_of% (ops_go slices_siftDownCmpFunc_Series_r1.eq_1 T K fr S) := ops_go slices_siftDownCmpFunc_Series_r1.eq_1 T K fr S
def slices_siftDownCmpFunc_Series_r2 : List POper := [M 16 11,M 17 2,Q 18 (.arith .geq (V 16) (V 17))]
@[simp] theorem slices_siftDownCmpFunc_Series_r2_go : type_of% (ops_go slices_siftDownCmpFunc_Series_r2.eq_1 T K fr S) := ops_go slices_siftDownCmpFunc_Series_r2.eq_1 T K fr S
def slices_siftDownCmpFunc_Series_r3 : List POper := [M 19 11,Q 20 (.arith .add (V 19) (I 1)),M 21 2,Q 22 (.arith .lss (V 20) (V 21)),M 23 22,QG (some 24) (.mov (V 4)) 23 true,QG (some 25) (.mov (V 0)) 23 true,QG (some 26) (.mov (V 3)) 23 true,QG (some 27) (.mov (V 11)) 23 true,QG (some 28) (.arith .add (V 26) (V 27)) 23 true,QG (some 29) (.iaddr 2 (V 25) (V 28)) 23 true,QG (some 30) (.load true 2 false (V 29)) 23 true,QG (some 31) (.mov (V 0)) 23 true,QG (some 32) (.mov (V 3)) 23 true,QG (some 33) (.mov (V 11)) 23 true,QG (some 34) (.arith .add (V 32) (V 33)) 23 true,QG (some 35) (.arith .add (V 34) (I 1)) 23 true,QG (some 36) (.iaddr 2 (V 31) (V 35)) 23 true,QG (some 37) (.load true 2 false (V 36)) 23 true,QG (some 38) (.callv .std (V 24) [(V 30), (V 37)]) 23 true,QG (some 39) (.arith .lss (V 38) (I 0)) 23 true,Q 40 (.pick (V 23) (V 39) ff')]
@[simp] theorem slices_siftDownCmpFunc_Series_r3_go : type_of% (ops_go slices_siftDownCmpFunc_Series_r3.eq_1 T K fr S) := ops_go slices_siftDownCmpFunc_Series_r3.eq_1 T K fr S
def slices_siftDownCmpFunc_Series_r4 : List POper := [M 41 11,Q 42 (.arith .add (V 41) (I 1)),M 11 42]
@[simp] theorem slices_siftDownCmpFunc_Series_r4_go : type_of% (ops_go slices_siftDownCmpFunc_Series_r4.eq_1 T K fr S) := ops_go slices_siftDownCmpFunc_Series_r4.eq_1 T K fr S
def slices_siftDownCmpFunc_Series_r5 : List POper := [M 43 4,M 44 0,M 45 3,M 46 10,Q 47 (.arith .add (V 45) (V 46)),Q 48 (.iaddr 2 (V 44) (V 47)),Q 49 (.load true 2 false (V 48)),M 50 0,M 51 3,M 52 11,Q 53 (.arith .add (V 51) (V 52)),Q 54 (.iaddr 2 (V 50) (V 53)),Q 55 (.load true 2 false (V 54)),Q 56 (.callv .std (V 43) [(V 49), (V 55)]),Q 57 (.arith .lss (V 56) (I 0)),Q 58 (.un .not (V 57))]
@[simp] theorem slices_siftDownCmpFunc_Series_r5_go : type_of% (ops_go slices_siftDownCmpFunc_Series_r5.eq_1 T K fr S) := ops_go slices_siftDownCmpFunc_Series_r5.eq_1 T K fr S
def slices_siftDownCmpFunc_Series_r6 : List POper := [M 59 0,M 60 3,M 61 10,Q 62 (.arith .add (V 60) (V 61)),M 63 0,M 64 3,M 65 11,Q 66 (.arith .add (V 64) (V 65)),M 67 0,M 68 3,M 69 11,Q 70 (.arith .add (V 68) (V 69)),Q 71 (.iaddr 2 (V 67) (V 70)),Q 72 (.load true 2 false (V 71)),M 73 0,M 74 3,M 75 10,Q 76 (.arith .add (V 74) (V 75)),Q 77 (.iaddr 2 (V 73) (V 76)),Q 78 (.load true 2 false (V 77)),Q 79 (.iaddr 2 (V 59) (V 62)),QN (.store 2 (V 79) (V 72)),Q 80 (.iaddr 2 (V 63) (V 66)),QN (.store 2 (V 80) (V 78))]
@[simp] theorem slices_siftDownCmpFunc_Series_r6_go : type_of% (ops_go slices_siftDownCmpFunc_Series_r6.eq_1 T K fr S) := ops_go slices_siftDownCmpFunc_Series_r6.eq_1 T K fr S
def slices_siftDownCmpFunc_Series_r7 : List POper := [M 81 11,M 10 81]
@[simp] theorem slices_siftDownCmpFunc_Series_r7_go : type_of% (ops_go slices_siftDownCmpFunc_Series_r7.eq_1 T K fr S) := ops_go slices_siftDownCmpFunc_Series_r7.eq_1 T K fr S
def slices_siftDownCmpFunc_Series_l0 : PCode :=
  (.block 1 (.seq (.clr [(13, 16)] (.region slices_siftDownCmpFunc_Series_r1)) (.seq (.seq (.clr [(16, 18)] (.region slices_siftDownCmpFunc_Series_r2)) (.cond (V 18) (.exit 0) .skip)) (.seq (.seq (.clr [(19, 40)] (.region slices_siftDownCmpFunc_Series_r3)) (.cond (V 40) (.clr [(41, 43)] (.region slices_siftDownCmpFunc_Series_r4)) .skip)) (.seq (.seq (.clr [(43, 58)] (.region slices_siftDownCmpFunc_Series_r5)) (.cond (V 58) .ret .skip)) (.seq (.clr [(59, 81)] (.region slices_siftDownCmpFunc_Series_r6)) (.clr [(81, 82)] (.region slices_siftDownCmpFunc_Series_r7))))))))
@[simp] theorem slices_siftDownCmpFunc_Series_l0_go : type_of% (code_go slices_siftDownCmpFunc_Series_l0.eq_1 T K fr S) := code_go slices_siftDownCmpFunc_Series_l0.eq_1 T K fr S
def slices_siftDownCmpFunc_Series : PCodeFn :=
  ⟨5, [],
  (.seq (.clr [(12, 13)] (.region slices_siftDownCmpFunc_Series_r0)) (.block 0 (.loop slices_siftDownCmpFunc_Series_l0))), true⟩

def slices_nextPowerOfTwo_r0 : List POper := [Q 2 (.mov (.cst (.int .u64 0)))]
@[simp] theorem slices_nextPowerOfTwo_r0_go : type_of% (ops_go slices_nextPowerOfTwo_r0.eq_1 T K fr S) := ops_go slices_nextPowerOfTwo_r0.eq_1 T K fr S
def slices_nextPowerOfTwo_r1 : List POper := [M 3 0,Q 4 (.toInt .u64 (V 3)),Q 5 (.call .pur 317 [(V 4)]),Q 6 (.arith .shl (.cst (.int .u64 1)) (V 5)),M 2 6]
@[simp] theorem slices_nextPowerOfTwo_r1_go : type_of% (ops_go slices_nextPowerOfTwo_r1.eq_1 T K fr S) := ops_go slices_nextPowerOfTwo_r1.eq_1 T K fr S
def slices_nextPowerOfTwo : PCodeFn :=
  ⟨1, [.tmp 2],
  (.seq (.region slices_nextPowerOfTwo_r0) (.seq (.clr [(3, 7)] (.region slices_nextPowerOfTwo_r1)) .ret)), false⟩

def slices_xorshift_Next_r0 : List POper := [Q 2 (.mov (.cst (.int .u64 0)))]
@[simp] theorem slices_xorshift_Next_r0_go : type_of% (ops_go slices_xorshift_Next_r0.eq_1 T K fr S) := ops_go slices_xorshift_Next_r0.eq_1 T K fr S
def slices_xorshift_Next_r1 : List POper := [M 3 0,NK' 4 3,LD 5 4,M 6 0,NK' 7 6,LD 8 7,Q 9 (.arith .shl (V 8) (.cst (.int .u64 13))),Q 10 (.arith .xor (V 5) (V 9)),NK' 11 3,QN (.store 1 (V 11) (V 10))]
@[simp] theorem slices_xorshift_Next_r1_go : type_of% (ops_go slices_xorshift_Next_r1.eq_1 T K fr S) := ops_go slices_xorshift_Next_r1.eq_1 T K fr S
def slices_xorshift_Next_r2 : List POper := [M 12 0,NK' 13 12,LD 14 13,M 15 0,NK' 16 15,LD 17 16,Q 18 (.arith .shr (V 17) (.cst (.int .u64 7))),Q 19 (.arith .xor (V 14) (V 18)),NK' 20 12,QN (.store 1 (V 20) (V 19))]
@[simp] theorem slices_xorshift_Next_r2_go : type_of% (ops_go slices_xorshift_Next_r2.eq_1 T K fr S) := ops_go slices_xorshift_Next_r2.eq_1 T K fr S
def slices_xorshift_Next_r3 : List POper := [M 21 0,NK' 22 21,LD 23 22,M 24 0,NK' 25 24,LD 26 25,Q 27 (.arith .shl (V 26) (.cst (.int .u64 17))),Q 28 (.arith .xor (V 23) (V 27)),NK' 29 21,QN (.store 1 (V 29) (V 28))]
@[simp] theorem slices_xorshift_Next_r3_go : type_of% (ops_go slices_xorshift_Next_r3.eq_1 T K fr S) := ops_go slices_xorshift_Next_r3.eq_1 T K fr S
def slices_xorshift_Next_r4 : List POper := [M 30 0,NK' 31 30,LD 32 31,M 2 32]
@[simp] theorem slices_xorshift_Next_r4_go : type_of% (ops_go slices_xorshift_Next_r4.eq_1 T K fr S) := ops_go slices_xorshift_Next_r4.eq_1 T K fr S
def slices_xorshift_Next : PCodeFn :=
  ⟨1, [.tmp 2],
  (.seq (.region slices_xorshift_Next_r0) (.seq (.clr [(3, 12)] (.region slices_xorshift_Next_r1)) (.seq (.clr [(12, 21)] (.region slices_xorshift_Next_r2)) (.seq (.clr [(21, 30)] (.region slices_xorshift_Next_r3)) (.seq (.clr [(30, 33)] (.region slices_xorshift_Next_r4)) .ret))))), true⟩

def slices_medianAdjacentCmpFunc_Series_r0 : List POper := [Q 8 (.mov (I 0))]
@[simp] theorem slices_medianAdjacentCmpFunc_Series_r0_go : type_of% (ops_go slices_medianAdjacentCmpFunc_Series_r0.eq_1 T K fr S) := ops_go slices_medianAdjacentCmpFunc_Series_r0.eq_1 T K fr S
def slices_medianAdjacentCmpFunc_Series_r1 : List POper := [M 9 0,M 10 1,Q 11 (.arith .sub (V 10) (I 1)),M 12 1,M 13 1,Q 14 (.arith .add (V 13) (I 1)),M 15 2,M 16 3,Q 17 (.call .std 409 [(V 9), (V 11), (V 12), (V 14), (V 15), (V 16)]),M 8 17]
@[simp] theorem slices_medianAdjacentCmpFunc_Series_r1_go : type_of% (ops_go slices_medianAdjacentCmpFunc_Series_r1.eq_1 T K fr S) := ops_go slices_medianAdjacentCmpFunc_Series_r1.eq_1 T K fr S
def slices_medianAdjacentCmpFunc_Series : PCodeFn :=
  ⟨4, [.tmp 8],
  (.seq (.region slices_medianAdjacentCmpFunc_Series_r0) (.seq (.clr [(9, 18)] (.region slices_medianAdjacentCmpFunc_Series_r1)) .ret)), true⟩

def slices_medianCmpFunc_Series_r0 : List POper := [Q 12 (.mov (I 0))]
@[simp] theorem slices_medianCmpFunc_Series_r0_go : type_of% (ops_go slices_medianCmpFunc_Series_r0.eq_1 T K fr S) := ops_go slices_medianCmpFunc_Series_r0.eq_1 T K fr S
def slices_medianCmpFunc_Series_r1 : List POper := [M 14 0,M 15 1,M 16 2,M 17 4,M 18 5,Q 19 (.call .std 416 [(V 14), (V 15), (V 16), (V 17), (V 18)]),M 13 19,EX 20 0 13,EX 21 1 13,M 1 20,M 2 21]
@[simp] theorem slices_medianCmpFunc_Series_r1_go : type_of% (ops_go slices_medianCmpFunc_Series_r1.eq_1 T K fr S) := ops_go slices_medianCmpFunc_Series_r1.eq_1 T K fr S
def slices_medianCmpFunc_Series_r2 : List POper := [M 23 0,M 24 2,M 25 3,M 26 4,M 27 5,Q 28 (.call .std 416 [(V 23), (V 24), (V 25), (V 26), (V 27)]),M 22 28,EX 29 0 22,EX 30 1 22,M 2 29,M 3 30]
@[simp] theorem slices_medianCmpFunc_Series_r2_go : type_of% (ops_go slices_medianCmpFunc_Series_r2.eq_1 T K fr S) := ops_go slices_medianCmpFunc_Series_r2.eq_1 T K fr S
def slices_medianCmpFunc_Series_r3 : List POper := [M 32 0,M 33 1,M 34 2,M 35 4,M 36 5,Q 37 (.call .std 416 [(V 32), (V 33), (V 34), (V 35), (V 36)]),M 31 37,EX 38 0 31,EX 39 1 31,M 1 38,M 2 39]
@[simp] theorem slices_medianCmpFunc_Series_r3_go : type_of% (ops_go slices_medianCmpFunc_Series_r3.eq_1 T K fr S) := ops_go slices_medianCmpFunc_Series_r3.eq_1 T K fr S
def slices_medianCmpFunc_Series_r4 : List POper := [M 40 2,M 12 40]
@[simp] theorem slices_medianCmpFunc_Series_r4_go : type_of% (ops_go slices_medianCmpFunc_Series_r4.eq_1 T K fr S) := ops_go slices_medianCmpFunc_Series_r4.eq_1 T K fr S
def slices_medianCmpFunc_Series : PCodeFn :=
  ⟨6, [.tmp 12],
  (.seq (.region slices_medianCmpFunc_Series_r0) (.seq (.clr [(13, 22)] (.region slices_medianCmpFunc_Series_r1)) (.seq (.clr [(22, 31)] (.region slices_medianCmpFunc_Series_r2)) (.seq (.clr [(31, 40)] (.region slices_medianCmpFunc_Series_r3)) (.seq (.clr [(40, 41)] (.region slices_medianCmpFunc_Series_r4)) .ret))))), true⟩

def strings_Builder_copyCheck_r0 : List POper := [M 2 0,NK' 3 2,FA 4 0 3,LD 5 4,Q 6 (.eqn false .p (V 5))]
@[simp] theorem strings_Builder_copyCheck_r0_go : type_of% (ops_go strings_Builder_copyCheck_r0.eq_1 T K fr S) := ops_go strings_Builder_copyCheck_r0.eq_1 T K fr S
def strings_Builder_copyCheck : PCodeFn :=
  ⟨1, [],
  (.seq (.clr [(2, 6)] (.region strings_Builder_copyCheck_r0)) (.cond (V 6) .bad (.seq .bad (.cond (V 19) .bad .skip)))), false⟩

def strings_Builder_grow_r2 : List POper := [M 26 0,M 27 4,NK' 28 26,FA 29 1 28,QN (.store 1 (V 29) (V 27))]
@[simp] theorem strings_Builder_grow_r2_go : type_of% (ops_go strings_Builder_grow_r2.eq_1 T K fr S) := ops_go strings_Builder_grow_r2.eq_1 T K fr S
def strings_Builder_grow : PCodeFn :=
  ⟨2, [],
  (.seq .bad (.seq .bad (.clr [(26, 30)] (.region strings_Builder_grow_r2)))), false⟩

def slices_order2CmpFunc_Series_r0 : List POper := [Q 10 (.mov (I 0)),Q 11 (.mov (I 0))]
@[simp] theorem slices_order2CmpFunc_Series_r0_go : type_of% (ops_go slices_order2CmpFunc_Series_r0.eq_1 T K fr S) := ops_go slices_order2CmpFunc_Series_r0.eq_1 T K fr S
def slices_order2CmpFunc_Series_r1 : List POper := [M 12 4,M 13 0,M 14 2,Q 15 (.iaddr 2 (V 13) (V 14)),Q 16 (.load true 2 false (V 15)),M 17 0,M 18 1,Q 19 (.iaddr 2 (V 17) (V 18)),Q 20 (.load true 2 false (V 19)),Q 21 (.callv .std (V 12) [(V 16), (V 20)]),Q 22 (.arith .lss (V 21) (I 0))]
@[simp] theorem slices_order2CmpFunc_Series_r1_go : type_of% (ops_go slices_order2CmpFunc_Series_r1.eq_1 T K fr S) := ops_go slices_order2CmpFunc_Series_r1.eq_1 T K fr S
def slices_order2CmpFunc_Series_r2 : List POper := [M 23 3,NK' 24 23,LD 25 24,Q 26 (.arith .add (V 25) (I 1)),NK' 27 23,QN (.store 1 (V 27) (V 26))]
@[simp] theorem slices_order2CmpFunc_Series_r2_go : type_of% (ops_go slices_order2CmpFunc_Series_r2.eq_1 T K fr S) := ops_go slices_order2CmpFunc_Series_r2.eq_1 T K fr S
def slices_order2CmpFunc_Series_r3 : List POper := [M 28 2,M 29 1,M 10 28,M 11 29]
@[simp] theorem slices_order2CmpFunc_Series_r3_go : type_of% (ops_go slices_order2CmpFunc_Series_r3.eq_1 T K fr S) := ops_go slices_order2CmpFunc_Series_r3.eq_1 T K fr S
def slices_order2CmpFunc_Series_r4 : List POper := [M 30 1,M 31 2,M 10 30,M 11 31]
@[simp] theorem slices_order2CmpFunc_Series_r4_go : type_of% (ops_go slices_order2CmpFunc_Series_r4.eq_1 T K fr S) := ops_go slices_order2CmpFunc_Series_r4.eq_1 T K fr S
def slices_order2CmpFunc_Series : PCodeFn :=
  ⟨5, [.tmp 10, .tmp 11],
  (.seq (.region slices_order2CmpFunc_Series_r0) (.seq (.seq (.clr [(12, 22)] (.region slices_order2CmpFunc_Series_r1)) (.cond (V 22) (.seq (.clr [(23, 28)] (.region slices_order2CmpFunc_Series_r2)) (.seq (.clr [(28, 30)] (.region slices_order2CmpFunc_Series_r3)) .ret)) .skip)) (.seq (.clr [(30, 32)] (.region slices_order2CmpFunc_Series_r4)) .ret))), true⟩


end Ps
