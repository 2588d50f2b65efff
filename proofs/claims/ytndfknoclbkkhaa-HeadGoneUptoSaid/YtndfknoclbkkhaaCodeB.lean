/- The functions' code, as the pure semantics has it: printed by program. -/
import Derived.Test.YtndfknoclbkkhaaCodeA
namespace Ps
open Go
set_option maxRecDepth 10000
variable (T : Tbl) (K : List Kt) (fr : Fr) (S : St)

def head_last_r0 : List POper := [Q 2 (.mov (I 0))]
@[simp] theorem head_last_r0_go : type_of% (ops_go head_last_r0.eq_1 T K fr S) := ops_go head_last_r0.eq_1 T K fr S
def head_last_r1 : List POper := [M 3 0,Q 4 (.len false (V 3)),Q 5 (.arith .eql (V 4) (I 0))]
@[simp] theorem head_last_r1_go : type_of% (ops_go head_last_r1.eq_1 T K fr S) := ops_go head_last_r1.eq_1 T K fr S
def head_last_r2 : List POper := [Q 2 (.mov (I (-1)))]
@[simp] theorem head_last_r2_go : type_of% (ops_go head_last_r2.eq_1 T K fr S) := ops_go head_last_r2.eq_1 T K fr S
def head_last_r3 : List POper := [M 6 0,M 7 0,Q 8 (.len false (V 7)),Q 9 (.arith .sub (V 8) (I 1)),Q 10 (.iaddr 2 (V 6) (V 9)),FA 11 0 10,LD 12 11,M 2 12]
@[simp] theorem head_last_r3_go : type_of% (ops_go head_last_r3.eq_1 T K fr S) := ops_go head_last_r3.eq_1 T K fr S
def head_last : PCodeFn :=
  ⟨1, [.tmp 2],
  (.seq (.region head_last_r0) (.seq (.seq (.clr [(3, 5)] (.region head_last_r1)) (.cond (V 5) (.seq (.region head_last_r2) .ret) .skip)) (.seq (.clr [(6, 13)] (.region head_last_r3)) .ret))), false⟩

def slices_DeleteFunc_Sample_r0 : List POper := [Q 4 (.mov (.cst .nils))]
@[simp] theorem slices_DeleteFunc_Sample_r0_go : type_of% (ops_go slices_DeleteFunc_Sample_r0.eq_1 T K fr S) := ops_go slices_DeleteFunc_Sample_r0.eq_1 T K fr S
def slices_DeleteFunc_Sample_r1 : List POper := [M 8 0,M 9 1,Q 10 (.call .std 344 [(V 8), (V 9)]),M 5 10]
@[simp] theorem slices_DeleteFunc_Sample_r1_go : type_of% (ops_go slices_DeleteFunc_Sample_r1.eq_1 T K fr S) := ops_go slices_DeleteFunc_Sample_r1.eq_1 T K fr S
def slices_DeleteFunc_Sample_r2 : List POper := [M 11 5,Q 12 (.arith .eql (V 11) (I (-1)))]
@[simp] theorem slices_DeleteFunc_Sample_r2_go : type_of% (ops_go slices_DeleteFunc_Sample_r2.eq_1 T K fr S) := ops_go slices_DeleteFunc_Sample_r2.eq_1 T K fr S
def slices_DeleteFunc_Sample_r3 : List POper := [M 13 0,M 4 13]
@[simp] theorem slices_DeleteFunc_Sample_r3_go : type_of% (ops_go slices_DeleteFunc_Sample_r3.eq_1 T K fr S) := ops_go slices_DeleteFunc_Sample_r3.eq_1 T K fr S
def slices_DeleteFunc_Sample_r4 : List POper := [M 14 5,Q 15 (.arith .add (V 14) (I 1)),M 6 15]
@[simp] theorem slices_DeleteFunc_Sample_r4_go : type_of% (ops_go slices_DeleteFunc_Sample_r4.eq_1 T K fr S) := ops_go slices_DeleteFunc_Sample_r4.eq_1 T K fr S
def slices_DeleteFunc_Sample_r5 : List POper := [M 16 6,M 17 0,Q 18 (.len false (V 17)),Q 19 (.arith .lss (V 16) (V 18))]
@[simp] theorem slices_DeleteFunc_Sample_r5_go : type_of% (ops_go slices_DeleteFunc_Sample_r5.eq_1 T K fr S) := ops_go slices_DeleteFunc_Sample_r5.eq_1 T K fr S
def slices_DeleteFunc_Sample_r7 : List POper := [M 22 0,M 23 6,Q 24 (.iaddr 2 (V 22) (V 23)),Q 25 (.load true 2 false (V 24)),Q 7 (.alloc false [(.int .i64 0), (.int .i64 0)]),QN (.store 2 (V 7) (V 25))]
@[simp] theorem slices_DeleteFunc_Sample_r7_go : type_of% (ops_go slices_DeleteFunc_Sample_r7.eq_1 T K fr S) := ops_go slices_DeleteFunc_Sample_r7.eq_1 T K fr S
def slices_DeleteFunc_Sample_r8 : List POper := [M 26 1,Q 27 (.load true 2 false (V 7)),Q 28 (.callv .std (V 26) [(V 27)]),Q 29 (.un .not (V 28))]
@[simp] theorem slices_DeleteFunc_Sample_r8_go : type_of% (ops_go slices_DeleteFunc_Sample_r8.eq_1 T K fr S) := ops_go slices_DeleteFunc_Sample_r8.eq_1 T K fr S
def slices_DeleteFunc_Sample_r9 : List POper := [M 30 0,M 31 5,Q 32 (.load true 2 false (V 7)),Q 33 (.iaddr 2 (V 30) (V 31)),QN (.store 2 (V 33) (V 32))]
@[simp] theorem slices_DeleteFunc_Sample_r9_go : type_of% (ops_go slices_DeleteFunc_Sample_r9.eq_1 T K fr S) := ops_go slices_DeleteFunc_Sample_r9.eq_1 T K fr S
def slices_DeleteFunc_Sample_r10 : List POper := [M 34 5,Q 35 (.arith .add (V 34) (I 1)),M 5 35]
@[simp] theorem slices_DeleteFunc_Sample_r10_go : type_of% (ops_go slices_DeleteFunc_Sample_r10.eq_1 T K fr S) := ops_go slices_DeleteFunc_Sample_r10.eq_1 T K fr S
def slices_DeleteFunc_Sample_r6 : List POper := [M 20 6,Q 21 (.arith .add (V 20) (I 1)),M 6 21]
@[simp] theorem slices_DeleteFunc_Sample_r6_go : type_of% (ops_go slices_DeleteFunc_Sample_r6.eq_1 T K fr S) := ops_go slices_DeleteFunc_Sample_r6.eq_1 T K fr S
def slices_DeleteFunc_Sample_l0 : PCode :=
  (.seq (.seq (.clr [(16, 19)] (.region slices_DeleteFunc_Sample_r5)) (.cond (V 19) .skip (.exit 0))) (.seq (.block 1 (.seq (.clr [(22, 26)] (.region slices_DeleteFunc_Sample_r7)) (.seq (.clr [(26, 29)] (.region slices_DeleteFunc_Sample_r8)) (.cond (V 29) (.seq (.clr [(30, 34)] (.region slices_DeleteFunc_Sample_r9)) (.clr [(34, 36)] (.region slices_DeleteFunc_Sample_r10))) .skip)))) (.clr [(20, 22)] (.region slices_DeleteFunc_Sample_r6))))
@[simp] theorem slices_DeleteFunc_Sample_l0_go : type_of% (code_go slices_DeleteFunc_Sample_l0.eq_1 T K fr S) := code_go slices_DeleteFunc_Sample_l0.eq_1 T K fr S
def slices_DeleteFunc_Sample_r11 : List POper := [M 36 0,M 37 5,Q 38 (.slc 2 (some (V 37)) none (V 36)),QN (.gclr 2 [(.int .i64 0), (.int .i64 0)] (V 38))]
@[simp] theorem slices_DeleteFunc_Sample_r11_go : type_of% (ops_go slices_DeleteFunc_Sample_r11.eq_1 T K fr S) := ops_go slices_DeleteFunc_Sample_r11.eq_1 T K fr S
def slices_DeleteFunc_Sample_r12 : List POper := [M 39 0,M 40 5,Q 41 (.slc 2 none (some (V 40)) (V 39)),M 4 41]
@[simp] theorem slices_DeleteFunc_Sample_r12_go : type_of% (ops_go slices_DeleteFunc_Sample_r12.eq_1 T K fr S) := ops_go slices_DeleteFunc_Sample_r12.eq_1 T K fr S
def slices_DeleteFunc_Sample : PCodeFn :=
  ⟨2, [.tmp 4],
  (.seq (.region slices_DeleteFunc_Sample_r0) (.seq (.clr [(8, 11)] (.region slices_DeleteFunc_Sample_r1)) (.seq (.seq (.clr [(11, 12)] (.region slices_DeleteFunc_Sample_r2)) (.cond (V 12) (.seq (.clr [(13, 14)] (.region slices_DeleteFunc_Sample_r3)) .ret) .skip)) (.seq (.seq (.clr [(14, 16)] (.region slices_DeleteFunc_Sample_r4)) (.block 0 (.loop slices_DeleteFunc_Sample_l0))) (.seq (.clr [(36, 39)] (.region slices_DeleteFunc_Sample_r11)) (.seq (.clr [(39, 42)] (.region slices_DeleteFunc_Sample_r12)) .ret)))))), false⟩

def head_Head_remove_1_r0 : List POper := [Q 2 (.box true (V 0)),Q 3 (.mov ff')]
@[simp] theorem head_Head_remove_1_r0_go : type_of% (ops_go head_Head_remove_1_r0.eq_1 T K fr S) := ops_go head_Head_remove_1_r0.eq_1 T K fr S
def head_Head_remove_1_r1 : List POper := [FA 4 0 2,LD 5 4,FA 6 4 1,LD 7 6,Q 8 (.arith .geq (V 5) (V 7)),M 9 8,QG (some 10) (.faddr 0 (V 2)) 9 true,QG (some 11) (.load false 1 false (V 10)) 9 true,QG (some 12) (.faddr 5 (V 1)) 9 true,QG (some 13) (.load false 1 false (V 12)) 9 true,QG (some 14) (.arith .leq (V 11) (V 13)) 9 true,Q 15 (.pick (V 9) (V 14) ff'),M 3 15]
@[simp] theorem head_Head_remove_1_r1_go : type_of% (ops_go head_Head_remove_1_r1.eq_1 T K fr S) := ops_go head_Head_remove_1_r1.eq_1 T K fr S
def head_Head_remove_1 : PCodeFn :=
  ⟨2, [.tmp 3],
  (.seq (.region head_Head_remove_1_r0) (.seq (.clr [(4, 16)] (.region head_Head_remove_1_r1)) .ret)), false⟩

def ref06_Compare_r0 : List POper := [Q 4 (.mov (I 0))]
@[simp] theorem ref06_Compare_r0_go : type_of% (ops_go ref06_Compare_r0.eq_1 T K fr S) := ops_go ref06_Compare_r0.eq_1 T K fr S
def ref06_Compare_r1 : List POper := [Q 5 (.mov (I 0))]
@[simp] theorem ref06_Compare_r1_go : type_of% (ops_go ref06_Compare_r1.eq_1 T K fr S) := ops_go ref06_Compare_r1.eq_1 T K fr S
def ref06_Compare_r2 : List POper := [M 8 5,M 9 0,Q 10 (.len false (V 9)),Q 11 (.arith .lss (V 8) (V 10)),M 12 11,QG (some 13) (.mov (V 5)) 12 true,QG (some 14) (.mov (V 1)) 12 true,QG (some 15) (.len false (V 14)) 12 true,QG (some 16) (.arith .lss (V 13) (V 15)) 12 true,Q 17 (.pick (V 12) (V 16) ff')]
@[simp] theorem ref06_Compare_r2_go : type_of% (ops_go ref06_Compare_r2.eq_1 T K fr S) := ops_go ref06_Compare_r2.eq_1 T K fr S
def ref06_Compare_r4 : List POper := [M 20 0,M 21 5,Q 22 (.iaddr 2 (V 20) (V 21)),FA 23 0 22,Q 24 (.load false 1 true (V 23)),M 25 1,M 26 5,Q 27 (.iaddr 2 (V 25) (V 26)),FA 28 0 27,Q 29 (.load false 1 true (V 28)),Q 30 (.call .pur 216 [(V 24), (V 29)]),M 6 30]
@[simp] theorem ref06_Compare_r4_go : type_of% (ops_go ref06_Compare_r4.eq_1 T K fr S) := ops_go ref06_Compare_r4.eq_1 T K fr S
def ref06_Compare_r5 : List POper := [M 31 6,Q 32 (.arith .neq (V 31) (I 0))]
@[simp] theorem ref06_Compare_r5_go : type_of% (ops_go ref06_Compare_r5.eq_1 T K fr S) := ops_go ref06_Compare_r5.eq_1 T K fr S
def ref06_Compare_r6 : List POper := [M 33 6,M 4 33]
@[simp] theorem ref06_Compare_r6_go : type_of% (ops_go ref06_Compare_r6.eq_1 T K fr S) := ops_go ref06_Compare_r6.eq_1 T K fr S
def ref06_Compare_r7 : List POper := [M 34 0,M 35 5,Q 36 (.iaddr 2 (V 34) (V 35)),FA 37 1 36,Q 38 (.load false 1 true (V 37)),M 39 1,M 40 5,Q 41 (.iaddr 2 (V 39) (V 40)),FA 42 1 41,Q 43 (.load false 1 true (V 42)),Q 44 (.call .pur 216 [(V 38), (V 43)]),M 7 44]
@[simp] theorem ref06_Compare_r7_go : type_of% (ops_go ref06_Compare_r7.eq_1 T K fr S) := ops_go ref06_Compare_r7.eq_1 T K fr S
def ref06_Compare_r8 : List POper := [M 45 7,Q 46 (.arith .neq (V 45) (I 0))]
@[simp] theorem ref06_Compare_r8_go : type_of% (ops_go ref06_Compare_r8.eq_1 T K fr S) := ops_go ref06_Compare_r8.eq_1 T K fr S
def ref06_Compare_r9 : List POper := [M 47 7,M 4 47]
@[simp] theorem ref06_Compare_r9_go : type_of% (ops_go ref06_Compare_r9.eq_1 T K fr S) := ops_go ref06_Compare_r9.eq_1 T K fr S
def ref06_Compare_r3 : List POper := [M 18 5,Q 19 (.arith .add (V 18) (I 1)),M 5 19]
@[simp] theorem ref06_Compare_r3_go : type_of% (ops_go ref06_Compare_r3.eq_1 T K fr S) := ops_go ref06_Compare_r3.eq_1 T K fr S
def ref06_Compare_l0 : PCode :=
  (.seq (.seq (.clr [(8, 17)] (.region ref06_Compare_r2)) (.cond (V 17) .skip (.exit 0))) (.seq (.block 1 (.seq (.seq (.clr [(20, 31)] (.region ref06_Compare_r4)) (.seq (.clr [(31, 32)] (.region ref06_Compare_r5)) (.cond (V 32) (.seq (.clr [(33, 34)] (.region ref06_Compare_r6)) .ret) .skip))) (.seq (.clr [(34, 45)] (.region ref06_Compare_r7)) (.seq (.clr [(45, 46)] (.region ref06_Compare_r8)) (.cond (V 46) (.seq (.clr [(47, 48)] (.region ref06_Compare_r9)) .ret) .skip))))) (.clr [(18, 20)] (.region ref06_Compare_r3))))
@[simp] theorem ref06_Compare_l0_go : type_of% (code_go ref06_Compare_l0.eq_1 T K fr S) := code_go ref06_Compare_l0.eq_1 T K fr S
def ref06_Compare_r10 : List POper := [M 48 0,Q 49 (.len false (V 48)),M 50 1,Q 51 (.len false (V 50)),Q 52 (.arith .lss (V 49) (V 51))]
@[simp] theorem ref06_Compare_r10_go : type_of% (ops_go ref06_Compare_r10.eq_1 T K fr S) := ops_go ref06_Compare_r10.eq_1 T K fr S
def ref06_Compare_r11 : List POper := [Q 4 (.mov (I (-1)))]
@[simp] theorem ref06_Compare_r11_go : type_of% (ops_go ref06_Compare_r11.eq_1 T K fr S) := ops_go ref06_Compare_r11.eq_1 T K fr S
def ref06_Compare_r12 : List POper := [M 53 0,Q 54 (.len false (V 53)),M 55 1,Q 56 (.len false (V 55)),Q 57 (.arith .gtr (V 54) (V 56))]
@[simp] theorem ref06_Compare_r12_go : type_of% (ops_go ref06_Compare_r12.eq_1 T K fr S) := ops_go ref06_Compare_r12.eq_1 T K fr S
def ref06_Compare_r13 : List POper := [Q 4 (.mov (I 1))]
@[simp] theorem ref06_Compare_r13_go : type_of% (ops_go ref06_Compare_r13.eq_1 T K fr S) := ops_go ref06_Compare_r13.eq_1 T K fr S
def ref06_Compare_r14 : List POper := [Q 4 (.mov (I 0))]
@[simp] theorem ref06_Compare_r14_go : type_of% (ops_go ref06_Compare_r14.eq_1 T K fr S) := ops_go ref06_Compare_r14.eq_1 T K fr S
def ref06_Compare : PCodeFn :=
  ⟨2, [.tmp 4],
  (.seq (.region ref06_Compare_r0) (.seq (.seq (.region ref06_Compare_r1) (.block 0 (.loop ref06_Compare_l0))) (.seq (.seq (.clr [(48, 52)] (.region ref06_Compare_r10)) (.cond (V 52) (.seq (.region ref06_Compare_r11) .ret) .skip)) (.seq (.seq (.clr [(53, 57)] (.region ref06_Compare_r12)) (.cond (V 57) (.seq (.region ref06_Compare_r13) .ret) .skip)) (.seq (.region ref06_Compare_r14) .ret))))), false⟩

def slices_IndexFunc_Series_r0 : List POper := [Q 4 (.mov (I 0))]
@[simp] theorem slices_IndexFunc_Series_r0_go : type_of% (ops_go slices_IndexFunc_Series_r0.eq_1 T K fr S) := ops_go slices_IndexFunc_Series_r0.eq_1 T K fr S
def slices_IndexFunc_Series_r1 : List POper := [M 6 0,Q 7 (.len false (V 6)),Q 8 (.mov (I 0))]
@[simp] theorem slices_IndexFunc_Series_r1_go : type_of% (ops_go slices_IndexFunc_Series_r1.eq_1 T K fr S) := ops_go slices_IndexFunc_Series_r1.eq_1 T K fr S
def slices_IndexFunc_Series_r2 : List POper := [Q 9 (.arith .lss (V 8) (V 7))]
@[simp] theorem slices_IndexFunc_Series_r2_go : type_of% (ops_go slices_IndexFunc_Series_r2.eq_1 T K fr S) := ops_go slices_IndexFunc_Series_r2.eq_1 T K fr S
def slices_IndexFunc_Series_r3 : List POper := [M 10 8,M 5 10]
@[simp] theorem slices_IndexFunc_Series_r3_go : type_of% (ops_go slices_IndexFunc_Series_r3.eq_1 T K fr S) := ops_go slices_IndexFunc_Series_r3.eq_1 T K fr S
def slices_IndexFunc_Series_r4 : List POper := [M 11 1,M 12 0,M 13 5,Q 14 (.iaddr 2 (V 12) (V 13)),Q 15 (.load true 2 false (V 14)),Q 16 (.callv .std (V 11) [(V 15)])]
@[simp] theorem slices_IndexFunc_Series_r4_go : type_of% (ops_go slices_IndexFunc_Series_r4.eq_1 T K fr S) := ops_go slices_IndexFunc_Series_r4.eq_1 T K fr S
def slices_IndexFunc_Series_r5 : List POper := [M 17 5,M 4 17]
@[simp] theorem slices_IndexFunc_Series_r5_go : type_of% (ops_go slices_IndexFunc_Series_r5.eq_1 T K fr S) := ops_go slices_IndexFunc_Series_r5.eq_1 T K fr S
def slices_IndexFunc_Series_r6 : List POper := [Q 18 (.arith .add (V 8) (I 1)),M 8 18]
@[simp] theorem slices_IndexFunc_Series_r6_go : type_of% (ops_go slices_IndexFunc_Series_r6.eq_1 T K fr S) := ops_go slices_IndexFunc_Series_r6.eq_1 T K fr S
def slices_IndexFunc_Series_l0 : PCode :=
  (.seq (.region slices_IndexFunc_Series_r2) (.seq (.cond (V 9) .skip (.exit 0)) (.seq (.block 1 (.seq (.clr [(10, 11)] (.region slices_IndexFunc_Series_r3)) (.seq (.clr [(11, 16)] (.region slices_IndexFunc_Series_r4)) (.cond (V 16) (.seq (.clr [(17, 18)] (.region slices_IndexFunc_Series_r5)) .ret) .skip)))) (.clr [(18, 19)] (.region slices_IndexFunc_Series_r6)))))
@[simp] theorem slices_IndexFunc_Series_l0_go : type_of% (code_go slices_IndexFunc_Series_l0.eq_1 T K fr S) := code_go slices_IndexFunc_Series_l0.eq_1 T K fr S
def slices_IndexFunc_Series_r7 : List POper := [Q 4 (.mov (I (-1)))]
@[simp] theorem slices_IndexFunc_Series_r7_go : type_of% (ops_go slices_IndexFunc_Series_r7.eq_1 T K fr S) := ops_go slices_IndexFunc_Series_r7.eq_1 T K fr S
def slices_IndexFunc_Series : PCodeFn :=
  ⟨2, [.tmp 4],
  (.seq (.region slices_IndexFunc_Series_r0) (.seq (.seq (.clr [(6, 7)] (.region slices_IndexFunc_Series_r1)) (.block 0 (.loop slices_IndexFunc_Series_l0))) (.seq (.region slices_IndexFunc_Series_r7) .ret))), false⟩

def slices_Clone_Sample_r0 : List POper := [Q 2 (.mov (.cst .nils))]
@[simp] theorem slices_Clone_Sample_r0_go : type_of% (ops_go slices_Clone_Sample_r0.eq_1 T K fr S) := ops_go slices_Clone_Sample_r0.eq_1 T K fr S
def slices_Clone_Sample_r1 : List POper := [M 3 0,Q 4 (.eqn false .s (V 3))]
@[simp] theorem slices_Clone_Sample_r1_go : type_of% (ops_go slices_Clone_Sample_r1.eq_1 T K fr S) := ops_go slices_Clone_Sample_r1.eq_1 T K fr S
def slices_Clone_Sample_r2 : List POper := [Q 2 (.mov (.cst .nils))]
@[simp] theorem slices_Clone_Sample_r2_go : type_of% (ops_go slices_Clone_Sample_r2.eq_1 T K fr S) := ops_go slices_Clone_Sample_r2.eq_1 T K fr S
def slices_Clone_Sample_r3 : List POper := [Q 5 (.bsl false (.agg [(.int .i64 0), (.int .i64 0)]) 0 []),M 6 0,Q 7 (.app 2 16 (V 5) (V 6)),M 2 7]
@[simp] theorem slices_Clone_Sample_r3_go : type_of% (ops_go slices_Clone_Sample_r3.eq_1 T K fr S) := ops_go slices_Clone_Sample_r3.eq_1 T K fr S
def slices_Clone_Sample : PCodeFn :=
  ⟨1, [.tmp 2],
  (.seq (.region slices_Clone_Sample_r0) (.seq (.seq (.clr [(3, 4)] (.region slices_Clone_Sample_r1)) (.cond (V 4) (.seq (.region slices_Clone_Sample_r2) .ret) .skip)) (.seq (.clr [(5, 8)] (.region slices_Clone_Sample_r3)) .ret))), false⟩

def slices_pdqsortCmpFunc_Series_r0 : List POper := [Q 10 (.mov tt')]
@[simp] theorem slices_pdqsortCmpFunc_Series_r0_go : type_of% (ops_go slices_pdqsortCmpFunc_Series_r0.eq_1 T K fr S) := ops_go slices_pdqsortCmpFunc_Series_r0.eq_1 T K fr S
def slices_pdqsortCmpFunc_Series_r1 : List POper := [Q 11 (.mov tt')]
@[simp] theorem slices_pdqsortCmpFunc_Series_r1_go : type_of% (ops_go slices_pdqsortCmpFunc_Series_r1.eq_1 T K fr S) := ops_go slices_pdqsortCmpFunc_Series_r1.eq_1 T K fr S
def slices_pdqsortCmpFunc_Series_r2 : List POper := [M 21 2,M 22 1,Q 23 (.arith .sub (V 21) (V 22)),M 12 23]
@[simp] theorem slices_pdqsortCmpFunc_Series_r2_go : type_of% (ops_go slices_pdqsortCmpFunc_Series_r2.eq_1 T K fr S) := ops_go slices_pdqsortCmpFunc_Series_r2.eq_1 T K fr S
def slices_pdqsortCmpFunc_Series_r3 : List POper := [M 24 12,Q 25 (.arith .leq (V 24) (I 12))]
@[simp] theorem slices_pdqsortCmpFunc_Series_r3_go : type_of% (ops_go slices_pdqsortCmpFunc_Series_r3.eq_1 T K fr S) := ops_go slices_pdqsortCmpFunc_Series_r3.eq_1 T K fr S
def slices_pdqsortCmpFunc_Series_r4 : List POper := [M 26 0,M 27 1,M 28 2,M 29 4,Q 30 (.call .std 381 [(V 26), (V 27), (V 28), (V 29)])]
@[simp] theorem slices_pdqsortCmpFunc_Series_r4_go : type_of% (ops_go slices_pdqsortCmpFunc_Series_r4.eq_1 T K fr S) := ops_go slices_pdqsortCmpFunc_Series_r4.eq_1 T K fr S
def slices_pdqsortCmpFunc_Series_r5 : List POper := [M 31 3,Q 32 (.arith .eql (V 31) (I 0))]
@[simp] theorem slices_pdqsortCmpFunc_Series_r5_go : type_of% (ops_go slices_pdqsortCmpFunc_Series_r5.eq_1 T K fr S) := ops_go slices_pdqsortCmpFunc_Series_r5.eq_1 T K fr S
def slices_pdqsortCmpFunc_Series_r6 : List POper := [M 33 0,M 34 1,M 35 2,M 36 4,Q 37 (.call .std 382 [(V 33), (V 34), (V 35), (V 36)])]
@[simp] theorem slices_pdqsortCmpFunc_Series_r6_go : type_of% (ops_go slices_pdqsortCmpFunc_Series_r6.eq_1 T K fr S) := ops_go slices_pdqsortCmpFunc_Series_r6.eq_1 T K fr S
def slices_pdqsortCmpFunc_Series_r7 : List POper := [M 38 10,Q 39 (.un .not (V 38))]
@[simp] theorem slices_pdqsortCmpFunc_Series_r7_go : type_of% (ops_go slices_pdqsortCmpFunc_Series_r7.eq_1 T K fr S) := ops_go slices_pdqsortCmpFunc_Series_r7.eq_1 T K fr S
def slices_pdqsortCmpFunc_Series_r8 : List POper := [M 40 0,M 41 1,M 42 2,M 43 4,Q 44 (.call .std 383 [(V 40), (V 41), (V 42), (V 43)])]
@[simp] theorem slices_pdqsortCmpFunc_Series_r8_go : type_of% (ops_go slices_pdqsortCmpFunc_Series_r8.eq_1 T K fr S) := ops_go slices_pdqsortCmpFunc_Series_r8.eq_1 T K fr S
def slices_pdqsortCmpFunc_Series_r9 : List POper := [M 45 3,Q 46 (.arith .sub (V 45) (I 1)),M 3 46]
@[simp] theorem slices_pdqsortCmpFunc_Series_r9_go : type_of% (ops_go slices_pdqsortCmpFunc_Series_r9.eq_1 T K fr S) := ops_go slices_pdqsortCmpFunc_Series_r9.eq_1 T K fr S
def slices_pdqsortCmpFunc_Series_r10 : List POper := [M 48 0,M 49 1,M 50 2,M 51 4,Q 52 (.call .std 384 [(V 48), (V 49), (V 50), (V 51)]),M 47 52,EX 53 0 47,EX 54 1 47,M 13 53,M 14 54]
@[simp] theorem slices_pdqsortCmpFunc_Series_r10_go : type_of% (ops_go slices_pdqsortCmpFunc_Series_r10.eq_1 T K fr S) := ops_go slices_pdqsortCmpFunc_Series_r10.eq_1 T K fr S
def slices_pdqsortCmpFunc_Series_r11 : List POper := [M 55 14,Q 56 (.arith .eql (V 55) (I 2))]
@[simp] theorem slices_pdqsortCmpFunc_Series_r11_go : type_of% (ops_go slices_pdqsortCmpFunc_Series_r11.eq_1 T K fr S) := ops_go slices_pdqsortCmpFunc_Series_r11.eq_1 T K fr S
def slices_pdqsortCmpFunc_Series_r12 : List POper := [M 57 0,M 58 1,M 59 2,M 60 4,Q 61 (.call .std 385 [(V 57), (V 58), (V 59), (V 60)])]
@[simp] theorem slices_pdqsortCmpFunc_Series_r12_go : type_of% (ops_go slices_pdqsortCmpFunc_Series_r12.eq_1 T K fr S) := ops_go slices_pdqsortCmpFunc_Series_r12.eq_1 T K fr S
def slices_pdqsortCmpFunc_Series_r13 : List POper := [M 62 2,Q 63 (.arith .sub (V 62) (I 1)),M 64 13,M 65 1,Q 66 (.arith .sub (V 64) (V 65)),Q 67 (.arith .sub (V 63) (V 66)),M 13 67]
@[simp] theorem slices_pdqsortCmpFunc_Series_r13_go : type_of% (ops_go slices_pdqsortCmpFunc_Series_r13.eq_1 T K fr S) := ops_go slices_pdqsortCmpFunc_Series_r13.eq_1 T K fr S
def slices_pdqsortCmpFunc_Series_r14 : List POper := [Q 14 (.mov (I 1))]
@[simp] theorem slices_pdqsortCmpFunc_Series_r14_go : type_of% (ops_go slices_pdqsortCmpFunc_Series_r14.eq_1 T K fr S) := ops_go slices_pdqsortCmpFunc_Series_r14.eq_1 T K fr S
def slices_pdqsortCmpFunc_Series_r15 : List POper := [M 68 10,M 69 68,QG (some 70) (.mov (V 11)) 69 true,Q 71 (.pick (V 69) (V 70) ff'),M 72 71,QG (some 73) (.mov (V 14)) 72 true,QG (some 74) (.arith .eql (V 73) (I 1)) 72 true,Q 75 (.pick (V 72) (V 74) ff')]
@[simp] theorem slices_pdqsortCmpFunc_Series_r15_go : type_of% (ops_go slices_pdqsortCmpFunc_Series_r15.eq_1 T K fr S) := ops_go slices_pdqsortCmpFunc_Series_r15.eq_1 T K fr S
def slices_pdqsortCmpFunc_Series_r16 : List POper := [M 76 0,M 77 1,M 78 2,M 79 4,Q 80 (.call .std 386 [(V 76), (V 77), (V 78), (V 79)])]
@[simp] theorem slices_pdqsortCmpFunc_Series_r16_go : type_of% (ops_go slices_pdqsortCmpFunc_Series_r16.eq_1 T K fr S) := ops_go slices_pdqsortCmpFunc_Series_r16.eq_1 T K fr S
def slices_pdqsortCmpFunc_Series_r17 : List POper := [M 81 1,Q 82 (.arith .gtr (V 81) (I 0)),M 83 82,QG (some 84) (.mov (V 4)) 83 true,QG (some 85) (.mov (V 0)) 83 true,QG (some 86) (.mov (V 1)) 83 true,QG (some 87) (.arith .sub (V 86) (I 1)) 83 true,QG (some 88) (.iaddr 2 (V 85) (V 87)) 83 true,QG (some 89) (.load true 2 true (V 88)) 83 true,QG (some 90) (.mov (V 0)) 83 true,QG (some 91) (.mov (V 13)) 83 true,QG (some 92) (.iaddr 2 (V 90) (V 91)) 83 true,QG (some 93) (.load true 2 true (V 92)) 83 true,QG (some 94) (.callv .std (V 84) [(V 89), (V 93)]) 83 true,QG (some 95) (.arith .lss (V 94) (I 0)) 83 true,QG (some 96) (.un .not (V 95)) 83 true,Q 97 (.pick (V 83) (V 96) ff')]
@[simp] theorem slices_pdqsortCmpFunc_Series_r17_go : type_of% (ops_go slices_pdqsortCmpFunc_Series_r17.eq_1 T K fr S) := ops_go slices_pdqsortCmpFunc_Series_r17.eq_1 T K fr S
def slices_pdqsortCmpFunc_Series_r18 : List POper := [M 98 0,M 99 1,M 100 2,M 101 13,M 102 4,Q 103 (.call .std 387 [(V 98), (V 99), (V 100), (V 101), (V 102)]),M 15 103]
@[simp] theorem slices_pdqsortCmpFunc_Series_r18_go : type_of% (ops_go slices_pdqsortCmpFunc_Series_r18.eq_1 T K fr S) := ops_go slices_pdqsortCmpFunc_Series_r18.eq_1 T K fr S
def slices_pdqsortCmpFunc_Series_r19 : List POper := [M 104 15,M 1 104]
@[simp] theorem slices_pdqsortCmpFunc_Series_r19_go : type_of% (ops_go slices_pdqsortCmpFunc_Series_r19.eq_1 T K fr S) := ops_go slices_pdqsortCmpFunc_Series_r19.eq_1 T K fr S
def slices_pdqsortCmpFunc_Series_r20 : List POper := [M 106 0,M 107 1,M 108 2,M 109 13,M 110 4,Q 111 (.call .std 388 [(V 106), (V 107), (V 108), (V 109), (V 110)]),M 105 111,EX 112 0 105,EX 113 1 105,M 16 112,M 17 113]
@[simp] theorem slices_pdqsortCmpFunc_Series_r20_go : type_of% (ops_go slices_pdqsortCmpFunc_Series_r20.eq_1 T K fr S) := ops_go slices_pdqsortCmpFunc_Series_r20.eq_1 T K fr S
def slices_pdqsortCmpFunc_Series_r21 : List POper := [M 114 17,M 11 114]
@[simp] theorem slices_pdqsortCmpFunc_Series_r21_go : type_of% (ops_go slices_pdqsortCmpFunc_Series_r21.eq_1 T K fr S) := ops_go slices_pdqsortCmpFunc_Series_r21.eq_1 T K fr S
def slices_pdqsortCmpFunc_Series_r22 : List POper := [M 115 16,M 116 1,Q 117 (.arith .sub (V 115) (V 116)),M 118 2,M 119 16,Q 120 (.arith .sub (V 118) (V 119)),M 18 117,M 19 120]
@[simp] theorem slices_pdqsortCmpFunc_Series_r22_go : type_of% (ops_go slices_pdqsortCmpFunc_Series_r22.eq_1 T K fr S) := ops_go slices_pdqsortCmpFunc_Series_r22.eq_1 T K fr S
def slices_pdqsortCmpFunc_Series_r23 : List POper := [M 121 12,Q 122 (.arith .quo (V 121) (I 8)),M 20 122]
@[simp] theorem slices_pdqsortCmpFunc_Series_r23_go : type_of% (ops_go slices_pdqsortCmpFunc_Series_r23.eq_1 T K fr S) := ops_go slices_pdqsortCmpFunc_Series_r23.eq_1 T K fr S
def slices_pdqsortCmpFunc_Series_r24 : List POper := [M 123 18,M 124 19,Q 125 (.arith .lss (V 123) (V 124))]
@[simp] theorem slices_pdqsortCmpFunc_Series_r24_go : type_of% (ops_go slices_pdqsortCmpFunc_Series_r24.eq_1 T K fr S) := ops_go slices_pdqsortCmpFunc_Series_r24.eq_1 T K fr S
def slices_pdqsortCmpFunc_Series_r25 : List POper := [M 126 18,M 127 20,Q 128 (.arith .geq (V 126) (V 127)),M 10 128]
@[simp] theorem slices_pdqsortCmpFunc_Series_r25_go : type_of% (ops_go slices_pdqsortCmpFunc_Series_r25.eq_1 T K fr S) := ops_go slices_pdqsortCmpFunc_Series_r25.eq_1 T K fr S
def slices_pdqsortCmpFunc_Series_r26 : List POper := [M 129 0,M 130 1,M 131 16,M 132 3,M 133 4,Q 134 (.call .std 346 [(V 129), (V 130), (V 131), (V 132), (V 133)])]
@[simp] theorem slices_pdqsortCmpFunc_Series_r26_go : type_of% (ops_go slices_pdqsortCmpFunc_Series_r26.eq_1 T K fr S) := ops_go slices_pdqsortCmpFunc_Series_r26.eq_1 T K fr S
def slices_pdqsortCmpFunc_Series_r27 : List POper := [M 135 16,Q 136 (.arith .add (V 135) (I 1)),M 1 136]
@[simp] theorem slices_pdqsortCmpFunc_Series_r27_go : type_of% (ops_go slices_pdqsortCmpFunc_Series_r27.eq_1 T K fr S) := ops_go slices_pdqsortCmpFunc_Series_r27.eq_1 T K fr S
def slices_pdqsortCmpFunc_Series_r28 : List POper := [M 137 19,M 138 20,Q 139 (.arith .geq (V 137) (V 138)),M 10 139]
@[simp] theorem slices_pdqsortCmpFunc_Series_r28_go : type_of% (ops_go slices_pdqsortCmpFunc_Series_r28.eq_1 T K fr S) := ops_go slices_pdqsortCmpFunc_Series_r28.eq_1 T K fr S
def slices_pdqsortCmpFunc_Series_r29 : List POper := [M 140 0,M 141 16,Q 142 (.arith .add (V 141) (I 1)),M 143 2,M 144 3,M 145 4,Q 146 (.call .std 346 [(V 140), (V 142), (V 143), (V 144), (V 145)])]
@[simp] theorem slices_pdqsortCmpFunc_Series_r29_go : type_of% (ops_go slices_pdqsortCmpFunc_Series_r29.eq_1 T K fr S) := ops_go slices_pdqsortCmpFunc_Series_r29.eq_1 T K fr S
def slices_pdqsortCmpFunc_Series_r30 : List POper := [M 147 16,M 2 147]
@[simp] theorem slices_pdqsortCmpFunc_Series_r30_go : type_of% (ops_go slices_pdqsortCmpFunc_Series_r30.eq_1 T K fr S) := ops_go slices_pdqsortCmpFunc_Series_r30.eq_1 T K fr S
def slices_pdqsortCmpFunc_Series_l0 : PCode :=
  (.block 1 (.seq (.clr [(21, 24)] (.region slices_pdqsortCmpFunc_Series_r2)) (.seq (.seq (.clr [(24, 25)] (.region slices_pdqsortCmpFunc_Series_r3)) (.cond (V 25) (.seq (.clr [(26, 31)] (.region slices_pdqsortCmpFunc_Series_r4)) .ret) .skip)) (.seq (.seq (.clr [(31, 32)] (.region slices_pdqsortCmpFunc_Series_r5)) (.cond (V 32) (.seq (.clr [(33, 38)] (.region slices_pdqsortCmpFunc_Series_r6)) .ret) .skip)) (.seq (.seq (.clr [(38, 39)] (.region slices_pdqsortCmpFunc_Series_r7)) (.cond (V 39) (.seq (.clr [(40, 45)] (.region slices_pdqsortCmpFunc_Series_r8)) (.clr [(45, 47)] (.region slices_pdqsortCmpFunc_Series_r9))) .skip)) (.seq (.clr [(47, 55)] (.region slices_pdqsortCmpFunc_Series_r10)) (.seq (.seq (.clr [(55, 56)] (.region slices_pdqsortCmpFunc_Series_r11)) (.cond (V 56) (.seq (.clr [(57, 62)] (.region slices_pdqsortCmpFunc_Series_r12)) (.seq (.clr [(62, 68)] (.region slices_pdqsortCmpFunc_Series_r13)) (.region slices_pdqsortCmpFunc_Series_r14))) .skip)) (.seq (.seq (.clr [(68, 75)] (.region slices_pdqsortCmpFunc_Series_r15)) (.cond (V 75) (.seq (.clr [(76, 80)] (.region slices_pdqsortCmpFunc_Series_r16)) (.cond (V 80) .ret .skip)) .skip)) (.seq (.seq (.clr [(81, 97)] (.region slices_pdqsortCmpFunc_Series_r17)) (.cond (V 97) (.seq (.clr [(98, 104)] (.region slices_pdqsortCmpFunc_Series_r18)) (.seq (.clr [(104, 105)] (.region slices_pdqsortCmpFunc_Series_r19)) (.exit 1))) .skip)) (.seq (.clr [(105, 114)] (.region slices_pdqsortCmpFunc_Series_r20)) (.seq (.clr [(114, 115)] (.region slices_pdqsortCmpFunc_Series_r21)) (.seq (.clr [(115, 121)] (.region slices_pdqsortCmpFunc_Series_r22)) (.seq (.clr [(121, 123)] (.region slices_pdqsortCmpFunc_Series_r23)) (.seq (.clr [(123, 125)] (.region slices_pdqsortCmpFunc_Series_r24)) (.cond (V 125) (.seq (.clr [(126, 129)] (.region slices_pdqsortCmpFunc_Series_r25)) (.seq (.clr [(129, 135)] (.region slices_pdqsortCmpFunc_Series_r26)) (.clr [(135, 137)] (.region slices_pdqsortCmpFunc_Series_r27)))) (.seq (.clr [(137, 140)] (.region slices_pdqsortCmpFunc_Series_r28)) (.seq (.clr [(140, 147)] (.region slices_pdqsortCmpFunc_Series_r29)) (.clr [(147, 148)] (.region slices_pdqsortCmpFunc_Series_r30)))))))))))))))))))
@[simp] theorem slices_pdqsortCmpFunc_Series_l0_go : type_of% (code_go slices_pdqsortCmpFunc_Series_l0.eq_1 T K fr S) := code_go slices_pdqsortCmpFunc_Series_l0.eq_1 T K fr S
def slices_pdqsortCmpFunc_Series : PCodeFn :=
  ⟨5, [],
  (.seq (.region slices_pdqsortCmpFunc_Series_r0) (.seq (.region slices_pdqsortCmpFunc_Series_r1) (.block 0 (.loop slices_pdqsortCmpFunc_Series_l0)))), false⟩

def math_bits_Len_r0 : List POper := [Q 2 (.mov (I 0))]
@[simp] theorem math_bits_Len_r0_go : type_of% (ops_go math_bits_Len_r0.eq_1 T K fr S) := ops_go math_bits_Len_r0.eq_1 T K fr S
def math_bits_Len_r1 : List POper := [M 3 0,Q 4 (.toInt .u32 (V 3)),Q 5 (.call .pur 372 [(V 4)]),M 2 5]
@[simp] theorem math_bits_Len_r1_go : type_of% (ops_go math_bits_Len_r1.eq_1 T K fr S) := ops_go math_bits_Len_r1.eq_1 T K fr S
def math_bits_Len_r2 : List POper := [M 6 0,Q 7 (.call .pur 373 [(V 6)]),M 2 7]
@[simp] theorem math_bits_Len_r2_go : type_of% (ops_go math_bits_Len_r2.eq_1 T K fr S) := ops_go math_bits_Len_r2.eq_1 T K fr S
def math_bits_Len : PCodeFn :=
  ⟨1, [.tmp 2],
  (.seq (.region math_bits_Len_r0) (.seq (.cond (.cst (.bool false)) (.seq (.clr [(3, 6)] (.region math_bits_Len_r1)) .ret) .skip) (.seq (.clr [(6, 8)] (.region math_bits_Len_r2)) .ret))), false⟩

def slices_CompareFunc_Label_r0 : List POper := [Q 6 (.mov (I 0))]
@[simp] theorem slices_CompareFunc_Label_r0_go : type_of% (ops_go slices_CompareFunc_Label_r0.eq_1 T K fr S) := ops_go slices_CompareFunc_Label_r0.eq_1 T K fr S
def slices_CompareFunc_Label_r1 : List POper := [M 11 0,Q 12 (.len false (V 11)),Q 13 (.mov (I 0))]
@[simp] theorem slices_CompareFunc_Label_r1_go : type_of% (ops_go slices_CompareFunc_Label_r1.eq_1 T K fr S) := ops_go slices_CompareFunc_Label_r1.eq_1 T K fr S
def slices_CompareFunc_Label_r2 : List POper := [Q 14 (.arith .lss (V 13) (V 12))]
@[simp] theorem slices_CompareFunc_Label_r2_go : type_of% (ops_go slices_CompareFunc_Label_r2.eq_1 T K fr S) := ops_go slices_CompareFunc_Label_r2.eq_1 T K fr S
def slices_CompareFunc_Label_r3 : List POper := [M 15 13,Q 16 (.iaddr 2 (V 11) (V 13)),Q 17 (.load true 2 false (V 16)),Q 8 (.alloc false [(.str []), (.str [])]),M 7 15,QN (.store 2 (V 8) (V 17))]
@[simp] theorem slices_CompareFunc_Label_r3_go : type_of% (ops_go slices_CompareFunc_Label_r3.eq_1 T K fr S) := ops_go slices_CompareFunc_Label_r3.eq_1 T K fr S
def slices_CompareFunc_Label_r4 : List POper := [M 18 7,M 19 1,Q 20 (.len false (V 19)),Q 21 (.arith .geq (V 18) (V 20))]
@[simp] theorem slices_CompareFunc_Label_r4_go : type_of% (ops_go slices_CompareFunc_Label_r4.eq_1 T K fr S) := ops_go slices_CompareFunc_Label_r4.eq_1 T K fr S
def slices_CompareFunc_Label_r5 : List POper := [Q 6 (.mov (I 1))]
@[simp] theorem slices_CompareFunc_Label_r5_go : type_of% (ops_go slices_CompareFunc_Label_r5.eq_1 T K fr S) := ops_go slices_CompareFunc_Label_r5.eq_1 T K fr S
def slices_CompareFunc_Label_r6 : List POper := [M 22 1,M 23 7,Q 24 (.iaddr 2 (V 22) (V 23)),Q 25 (.load true 2 false (V 24)),Q 9 (.alloc false [(.str []), (.str [])]),QN (.store 2 (V 9) (V 25))]
@[simp] theorem slices_CompareFunc_Label_r6_go : type_of% (ops_go slices_CompareFunc_Label_r6.eq_1 T K fr S) := ops_go slices_CompareFunc_Label_r6.eq_1 T K fr S
def slices_CompareFunc_Label_r7 : List POper := [M 26 2,Q 27 (.load true 2 false (V 8)),Q 28 (.load true 2 false (V 9)),Q 29 (.callv .std (V 26) [(V 27), (V 28)]),M 10 29]
@[simp] theorem slices_CompareFunc_Label_r7_go : type_of% (ops_go slices_CompareFunc_Label_r7.eq_1 T K fr S) := ops_go slices_CompareFunc_Label_r7.eq_1 T K fr S
def slices_CompareFunc_Label_r8 : List POper := [M 30 10,Q 31 (.arith .neq (V 30) (I 0))]
@[simp] theorem slices_CompareFunc_Label_r8_go : type_of% (ops_go slices_CompareFunc_Label_r8.eq_1 T K fr S) := ops_go slices_CompareFunc_Label_r8.eq_1 T K fr S
def slices_CompareFunc_Label_r9 : List POper := [M 32 10,M 6 32]
@[simp] theorem slices_CompareFunc_Label_r9_go : type_of% (ops_go slices_CompareFunc_Label_r9.eq_1 T K fr S) := ops_go slices_CompareFunc_Label_r9.eq_1 T K fr S
def slices_CompareFunc_Label_r10 : List POper := [Q 33 (.arith .add (V 13) (I 1)),M 13 33]
@[simp] theorem slices_CompareFunc_Label_r10_go : type_of% (ops_go slices_CompareFunc_Label_r10.eq_1 T K fr S) := ops_go slices_CompareFunc_Label_r10.eq_1 T K fr S
def slices_CompareFunc_Label_l0 : PCode :=
  (.seq (.region slices_CompareFunc_Label_r2) (.seq (.cond (V 14) .skip (.exit 0)) (.seq (.block 1 (.seq (.clr [(15, 18)] (.region slices_CompareFunc_Label_r3)) (.seq (.seq (.clr [(18, 21)] (.region slices_CompareFunc_Label_r4)) (.cond (V 21) (.seq (.region slices_CompareFunc_Label_r5) .ret) .skip)) (.seq (.clr [(22, 26)] (.region slices_CompareFunc_Label_r6)) (.seq (.clr [(26, 30)] (.region slices_CompareFunc_Label_r7)) (.seq (.clr [(30, 31)] (.region slices_CompareFunc_Label_r8)) (.cond (V 31) (.seq (.clr [(32, 33)] (.region slices_CompareFunc_Label_r9)) .ret) .skip))))))) (.clr [(33, 34)] (.region slices_CompareFunc_Label_r10)))))
@[simp] theorem slices_CompareFunc_Label_l0_go : type_of% (code_go slices_CompareFunc_Label_l0.eq_1 T K fr S) := code_go slices_CompareFunc_Label_l0.eq_1 T K fr S
def slices_CompareFunc_Label_r11 : List POper := [M 34 0,Q 35 (.len false (V 34)),M 36 1,Q 37 (.len false (V 36)),Q 38 (.arith .lss (V 35) (V 37))]
@[simp] theorem slices_CompareFunc_Label_r11_go : type_of% (ops_go slices_CompareFunc_Label_r11.eq_1 T K fr S) := ops_go slices_CompareFunc_Label_r11.eq_1 T K fr S
def slices_CompareFunc_Label_r12 : List POper := [Q 6 (.mov (I (-1)))]
@[simp] theorem slices_CompareFunc_Label_r12_go : type_of% (ops_go slices_CompareFunc_Label_r12.eq_1 T K fr S) := ops_go slices_CompareFunc_Label_r12.eq_1 T K fr S
def slices_CompareFunc_Label_r13 : List POper := [Q 6 (.mov (I 0))]
@[simp] theorem slices_CompareFunc_Label_r13_go : type_of% (ops_go slices_CompareFunc_Label_r13.eq_1 T K fr S) := ops_go slices_CompareFunc_Label_r13.eq_1 T K fr S
def slices_CompareFunc_Label : PCodeFn :=
  ⟨3, [.tmp 6],
  (.seq (.region slices_CompareFunc_Label_r0) (.seq (.seq (.region slices_CompareFunc_Label_r1) (.block 0 (.loop slices_CompareFunc_Label_l0))) (.seq (.seq (.clr [(34, 38)] (.region slices_CompareFunc_Label_r11)) (.cond (V 38) (.seq (.region slices_CompareFunc_Label_r12) .ret) .skip)) (.seq (.region slices_CompareFunc_Label_r13) .ret)))), false⟩

def label_Compare_1_r0 : List POper := [Q 2 (.box true (V 0)),Q 3 (.box true (V 1)),Q 4 (.mov (I 0))]
@[simp] theorem label_Compare_1_r0_go : type_of% (ops_go label_Compare_1_r0.eq_1 T K fr S) := ops_go label_Compare_1_r0.eq_1 T K fr S
def label_Compare_1_r1 : List POper := [FA 5 0 2,Q 6 (.load false 1 true (V 5)),FA 7 0 3,Q 8 (.load false 1 true (V 7)),Q 9 (.call .pur 106 [(V 6), (V 8)]),FA 10 1 2,Q 11 (.load false 1 true (V 10)),FA 12 1 3,Q 13 (.load false 1 true (V 12)),Q 14 (.call .pur 106 [(V 11), (V 13)]),Q 15 (.bsl false (.int .i64 0) 2 [(0, (V 9)), (1, (V 14))]),Q 16 (.call .std 105 [(V 15)]),M 4 16]
@[simp] theorem label_Compare_1_r1_go : type_of% (ops_go label_Compare_1_r1.eq_1 T K fr S) := ops_go label_Compare_1_r1.eq_1 T K fr S
def label_Compare_1 : PCodeFn :=
  ⟨2, [.tmp 4],
  (.seq (.region label_Compare_1_r0) (.seq (.clr [(5, 17)] (.region label_Compare_1_r1)) .ret)), false⟩

def cmp_Or_int_r0 : List POper := [Q 2 (.mov (I 0))]
@[simp] theorem cmp_Or_int_r0_go : type_of% (ops_go cmp_Or_int_r0.eq_1 T K fr S) := ops_go cmp_Or_int_r0.eq_1 T K fr S
def cmp_Or_int_r1 : List POper := [Q 3 (.mov (I 0))]
@[simp] theorem cmp_Or_int_r1_go : type_of% (ops_go cmp_Or_int_r1.eq_1 T K fr S) := ops_go cmp_Or_int_r1.eq_1 T K fr S
def cmp_Or_int_r2 : List POper := [M 6 0,Q 7 (.len false (V 6)),Q 8 (.mov (I 0))]
@[simp] theorem cmp_Or_int_r2_go : type_of% (ops_go cmp_Or_int_r2.eq_1 T K fr S) := ops_go cmp_Or_int_r2.eq_1 T K fr S
def cmp_Or_int_r3 : List POper := [Q 9 (.arith .lss (V 8) (V 7))]
@[simp] theorem cmp_Or_int_r3_go : type_of% (ops_go cmp_Or_int_r3.eq_1 T K fr S) := ops_go cmp_Or_int_r3.eq_1 T K fr S
def cmp_Or_int_r4 : List POper := [Q 10 (.iaddr 1 (V 6) (V 8)),LD 11 10,M 5 11]
@[simp] theorem cmp_Or_int_r4_go : type_of% (ops_go cmp_Or_int_r4.eq_1 T K fr S) := ops_go cmp_Or_int_r4.eq_1 T K fr S
def cmp_Or_int_r5 : List POper := [M 12 5,M 13 3,Q 14 (.arith .neq (V 12) (V 13))]
@[simp] theorem cmp_Or_int_r5_go : type_of% (ops_go cmp_Or_int_r5.eq_1 T K fr S) := ops_go cmp_Or_int_r5.eq_1 T K fr S
def cmp_Or_int_r6 : List POper := [M 15 5,M 2 15]
@[simp] theorem cmp_Or_int_r6_go : type_of% (ops_go cmp_Or_int_r6.eq_1 T K fr S) := ops_go cmp_Or_int_r6.eq_1 T K fr S
def cmp_Or_int_r7 : List POper := [Q 16 (.arith .add (V 8) (I 1)),M 8 16]
@[simp] theorem cmp_Or_int_r7_go : type_of% (ops_go cmp_Or_int_r7.eq_1 T K fr S) := ops_go cmp_Or_int_r7.eq_1 T K fr S
def cmp_Or_int_l0 : PCode :=
  (.seq (.region cmp_Or_int_r3) (.seq (.cond (V 9) .skip (.exit 0)) (.seq (.block 1 (.seq (.clr [(10, 12)] (.region cmp_Or_int_r4)) (.seq (.clr [(12, 14)] (.region cmp_Or_int_r5)) (.cond (V 14) (.seq (.clr [(15, 16)] (.region cmp_Or_int_r6)) .ret) .skip)))) (.clr [(16, 17)] (.region cmp_Or_int_r7)))))
@[simp] theorem cmp_Or_int_l0_go : type_of% (code_go cmp_Or_int_l0.eq_1 T K fr S) := code_go cmp_Or_int_l0.eq_1 T K fr S
def cmp_Or_int_r8 : List POper := [M 17 3,M 2 17]
@[simp] theorem cmp_Or_int_r8_go : type_of% (ops_go cmp_Or_int_r8.eq_1 T K fr S) := ops_go cmp_Or_int_r8.eq_1 T K fr S
def cmp_Or_int : PCodeFn :=
  ⟨1, [.tmp 2],
  (.seq (.region cmp_Or_int_r0) (.seq (.region cmp_Or_int_r1) (.seq (.seq (.region cmp_Or_int_r2) (.block 0 (.loop cmp_Or_int_l0))) (.seq (.clr [(17, 18)] (.region cmp_Or_int_r8)) .ret)))), false⟩

def cmp_Compare_string_r0 : List POper := [Q 4 (.mov (I 0))]
@[simp] theorem cmp_Compare_string_r0_go : type_of% (ops_go cmp_Compare_string_r0.eq_1 T K fr S) := ops_go cmp_Compare_string_r0.eq_1 T K fr S
def cmp_Compare_string_r1 : List POper := [M 7 0,Q 8 (.call .pur 217 [(V 7)]),M 5 8]
@[simp] theorem cmp_Compare_string_r1_go : type_of% (ops_go cmp_Compare_string_r1.eq_1 T K fr S) := ops_go cmp_Compare_string_r1.eq_1 T K fr S
def cmp_Compare_string_r2 : List POper := [M 9 1,Q 10 (.call .pur 217 [(V 9)]),M 6 10]
@[simp] theorem cmp_Compare_string_r2_go : type_of% (ops_go cmp_Compare_string_r2.eq_1 T K fr S) := ops_go cmp_Compare_string_r2.eq_1 T K fr S
def cmp_Compare_string_r3 : List POper := [M 11 5]
@[simp] theorem cmp_Compare_string_r3_go : type_of% (ops_go cmp_Compare_string_r3.eq_1 T K fr S) := ops_go cmp_Compare_string_r3.eq_1 T K fr S
def cmp_Compare_string_r4 : List POper := [M 12 6]
@[simp] theorem cmp_Compare_string_r4_go : type_of% (ops_go cmp_Compare_string_r4.eq_1 T K fr S) := ops_go cmp_Compare_string_r4.eq_1 T K fr S
def cmp_Compare_string_r5 : List POper := [Q 4 (.mov (I 0))]
@[simp] theorem cmp_Compare_string_r5_go : type_of% (ops_go cmp_Compare_string_r5.eq_1 T K fr S) := ops_go cmp_Compare_string_r5.eq_1 T K fr S
def cmp_Compare_string_r6 : List POper := [Q 4 (.mov (I (-1)))]
@[simp] theorem cmp_Compare_string_r6_go : type_of% (ops_go cmp_Compare_string_r6.eq_1 T K fr S) := ops_go cmp_Compare_string_r6.eq_1 T K fr S
def cmp_Compare_string_r7 : List POper := [M 13 6]
@[simp] theorem cmp_Compare_string_r7_go : type_of% (ops_go cmp_Compare_string_r7.eq_1 T K fr S) := ops_go cmp_Compare_string_r7.eq_1 T K fr S
def cmp_Compare_string_r8 : List POper := [Q 4 (.mov (I 1))]
@[simp] theorem cmp_Compare_string_r8_go : type_of% (ops_go cmp_Compare_string_r8.eq_1 T K fr S) := ops_go cmp_Compare_string_r8.eq_1 T K fr S
def cmp_Compare_string_r9 : List POper := [M 14 0,M 15 1,Q 16 (.arith .lss (V 14) (V 15))]
@[simp] theorem cmp_Compare_string_r9_go : type_of% (ops_go cmp_Compare_string_r9.eq_1 T K fr S) := ops_go cmp_Compare_string_r9.eq_1 T K fr S
def cmp_Compare_string_r10 : List POper := [Q 4 (.mov (I (-1)))]
@[simp] theorem cmp_Compare_string_r10_go : type_of% (ops_go cmp_Compare_string_r10.eq_1 T K fr S) := ops_go cmp_Compare_string_r10.eq_1 T K fr S
def cmp_Compare_string_r11 : List POper := [M 17 0,M 18 1,Q 19 (.arith .gtr (V 17) (V 18))]
@[simp] theorem cmp_Compare_string_r11_go : type_of% (ops_go cmp_Compare_string_r11.eq_1 T K fr S) := ops_go cmp_Compare_string_r11.eq_1 T K fr S
def cmp_Compare_string_r12 : List POper := [Q 4 (.mov (I 1))]
@[simp] theorem cmp_Compare_string_r12_go : type_of% (ops_go cmp_Compare_string_r12.eq_1 T K fr S) := ops_go cmp_Compare_string_r12.eq_1 T K fr S
def cmp_Compare_string_r13 : List POper := [Q 4 (.mov (I 0))]
@[simp] theorem cmp_Compare_string_r13_go : type_of% (ops_go cmp_Compare_string_r13.eq_1 T K fr S) := ops_go cmp_Compare_string_r13.eq_1 T K fr S
def cmp_Compare_string : PCodeFn :=
  ⟨2, [.tmp 4],
  (.seq (.region cmp_Compare_string_r0) (.seq (.clr [(7, 9)] (.region cmp_Compare_string_r1)) (.seq (.clr [(9, 11)] (.region cmp_Compare_string_r2)) (.seq (.seq (.region cmp_Compare_string_r3) (.cond (V 11) (.seq (.seq (.region cmp_Compare_string_r4) (.cond (V 12) (.seq (.region cmp_Compare_string_r5) .ret) .skip)) (.seq (.region cmp_Compare_string_r6) .ret)) .skip)) (.seq (.seq (.region cmp_Compare_string_r7) (.cond (V 13) (.seq (.region cmp_Compare_string_r8) .ret) .skip)) (.seq (.seq (.clr [(14, 16)] (.region cmp_Compare_string_r9)) (.cond (V 16) (.seq (.region cmp_Compare_string_r10) .ret) .skip)) (.seq (.seq (.clr [(17, 19)] (.region cmp_Compare_string_r11)) (.cond (V 19) (.seq (.region cmp_Compare_string_r12) .ret) .skip)) (.seq (.region cmp_Compare_string_r13) .ret)))))))), false⟩

def ref06_Check_r0 : List POper := [Q 2 (.mov (I 0))]
@[simp] theorem ref06_Check_r0_go : type_of% (ops_go ref06_Check_r0.eq_1 T K fr S) := ops_go ref06_Check_r0.eq_1 T K fr S
def ref06_Check_r1 : List POper := [M 4 0,Q 5 (.len false (V 4)),Q 6 (.arith .gtr (V 5) (I 8))]
@[simp] theorem ref06_Check_r1_go : type_of% (ops_go ref06_Check_r1.eq_1 T K fr S) := ops_go ref06_Check_r1.eq_1 T K fr S
def ref06_Check_r2 : List POper := [Q 2 (.mov (I 3))]
@[simp] theorem ref06_Check_r2_go : type_of% (ops_go ref06_Check_r2.eq_1 T K fr S) := ops_go ref06_Check_r2.eq_1 T K fr S
def ref06_Check_r3 : List POper := [Q 3 (.mov (I 0))]
@[simp] theorem ref06_Check_r3_go : type_of% (ops_go ref06_Check_r3.eq_1 T K fr S) := ops_go ref06_Check_r3.eq_1 T K fr S
def ref06_Check_r4 : List POper := [M 7 3,M 8 0,Q 9 (.len false (V 8)),Q 10 (.arith .lss (V 7) (V 9))]
@[simp] theorem ref06_Check_r4_go : type_of% (ops_go ref06_Check_r4.eq_1 T K fr S) := ops_go ref06_Check_r4.eq_1 T K fr S
def ref06_Check_r6 : List POper := [M 13 0,M 14 3,Q 15 (.iaddr 2 (V 13) (V 14)),FA 16 0 15,LD 17 16,Q 18 (.call .pur 126 [(V 17)]),Q 19 (.un .not (V 18))]
@[simp] theorem ref06_Check_r6_go : type_of% (ops_go ref06_Check_r6.eq_1 T K fr S) := ops_go ref06_Check_r6.eq_1 T K fr S
def ref06_Check_r7 : List POper := [Q 2 (.mov (I 8))]
@[simp] theorem ref06_Check_r7_go : type_of% (ops_go ref06_Check_r7.eq_1 T K fr S) := ops_go ref06_Check_r7.eq_1 T K fr S
def ref06_Check_r8 : List POper := [M 20 0,M 21 3,Q 22 (.iaddr 2 (V 20) (V 21)),FA 23 1 22,LD 24 23,Q 25 (.arith .eql (V 24) (.cst (.str [])))]
@[simp] theorem ref06_Check_r8_go : type_of% (ops_go ref06_Check_r8.eq_1 T K fr S) := ops_go ref06_Check_r8.eq_1 T K fr S
def ref06_Check_r9 : List POper := [Q 2 (.mov (I 2))]
@[simp] theorem ref06_Check_r9_go : type_of% (ops_go ref06_Check_r9.eq_1 T K fr S) := ops_go ref06_Check_r9.eq_1 T K fr S
def ref06_Check_r10 : List POper := [M 26 0,M 27 3,Q 28 (.iaddr 2 (V 26) (V 27)),FA 29 1 28,LD 30 29,Q 31 (.len true (V 30)),Q 32 (.arith .gtr (V 31) (I 64))]
@[simp] theorem ref06_Check_r10_go : type_of% (ops_go ref06_Check_r10.eq_1 T K fr S) := ops_go ref06_Check_r10.eq_1 T K fr S
def ref06_Check_r11 : List POper := [Q 2 (.mov (I 3))]
@[simp] theorem ref06_Check_r11_go : type_of% (ops_go ref06_Check_r11.eq_1 T K fr S) := ops_go ref06_Check_r11.eq_1 T K fr S
def ref06_Check_r12 : List POper := [M 33 3,Q 34 (.arith .gtr (V 33) (I 0)),M 35 34,QG (some 36) (.mov (V 0)) 35 true,QG (some 37) (.mov (V 3)) 35 true,QG (some 38) (.iaddr 2 (V 36) (V 37)) 35 true,QG (some 39) (.faddr 0 (V 38)) 35 true,QG (some 40) (.load false 1 true (V 39)) 35 true,QG (some 41) (.mov (V 0)) 35 true,QG (some 42) (.mov (V 3)) 35 true,QG (some 43) (.arith .sub (V 42) (I 1)) 35 true,QG (some 44) (.iaddr 2 (V 41) (V 43)) 35 true,QG (some 45) (.faddr 0 (V 44)) 35 true,QG (some 46) (.load false 1 true (V 45)) 35 true,QG (some 47) (.arith .leq (V 40) (V 46)) 35 true,Q 48 (.pick (V 35) (V 47) ff')]
@[simp] theorem ref06_Check_r12_go : type_of% (ops_go ref06_Check_r12.eq_1 T K fr S) := ops_go ref06_Check_r12.eq_1 T K fr S
def ref06_Check_r13 : List POper := [Q 2 (.mov (I 13))]
@[simp] theorem ref06_Check_r13_go : type_of% (ops_go ref06_Check_r13.eq_1 T K fr S) := ops_go ref06_Check_r13.eq_1 T K fr S
def ref06_Check_r5 : List POper := [M 11 3,Q 12 (.arith .add (V 11) (I 1)),M 3 12]
@[simp] theorem ref06_Check_r5_go : type_of% (ops_go ref06_Check_r5.eq_1 T K fr S) := ops_go ref06_Check_r5.eq_1 T K fr S
def ref06_Check_l0 : PCode :=
  (.seq (.seq (.clr [(7, 10)] (.region ref06_Check_r4)) (.cond (V 10) .skip (.exit 0))) (.seq (.block 1 (.seq (.seq (.clr [(13, 19)] (.region ref06_Check_r6)) (.cond (V 19) (.seq (.region ref06_Check_r7) .ret) .skip)) (.seq (.seq (.clr [(20, 25)] (.region ref06_Check_r8)) (.cond (V 25) (.seq (.region ref06_Check_r9) .ret) .skip)) (.seq (.seq (.clr [(26, 32)] (.region ref06_Check_r10)) (.cond (V 32) (.seq (.region ref06_Check_r11) .ret) .skip)) (.seq (.clr [(33, 48)] (.region ref06_Check_r12)) (.cond (V 48) (.seq (.region ref06_Check_r13) .ret) .skip)))))) (.clr [(11, 13)] (.region ref06_Check_r5))))
@[simp] theorem ref06_Check_l0_go : type_of% (code_go ref06_Check_l0.eq_1 T K fr S) := code_go ref06_Check_l0.eq_1 T K fr S
def ref06_Check_r14 : List POper := [Q 2 (.mov (I 0))]
@[simp] theorem ref06_Check_r14_go : type_of% (ops_go ref06_Check_r14.eq_1 T K fr S) := ops_go ref06_Check_r14.eq_1 T K fr S
def ref06_Check : PCodeFn :=
  ⟨1, [.tmp 2],
  (.seq (.region ref06_Check_r0) (.seq (.seq (.clr [(4, 6)] (.region ref06_Check_r1)) (.cond (V 6) (.seq (.region ref06_Check_r2) .ret) .skip)) (.seq (.seq (.region ref06_Check_r3) (.block 0 (.loop ref06_Check_l0))) (.seq (.region ref06_Check_r14) .ret)))), false⟩

def ref11_rows_r0 : List POper := [Q 2 (.mov (I 0))]
@[simp] theorem ref11_rows_r0_go : type_of% (ops_go ref11_rows_r0.eq_1 T K fr S) := ops_go ref11_rows_r0.eq_1 T K fr S
def ref11_rows_r1 : List POper := [M 4 0,Q 5 (.len false (V 4)),Q 6 (.arith .eql (V 5) (I 0)),M 7 6,QG (some 8) (.mov (V 0)) 7 false,QG (some 9) (.len false (V 8)) 7 false,QG (some 10) (.arith .gtr (V 9) (I 64)) 7 false,Q 11 (.pick (V 7) tt' (V 10))]
@[simp] theorem ref11_rows_r1_go : type_of% (ops_go ref11_rows_r1.eq_1 T K fr S) := ops_go ref11_rows_r1.eq_1 T K fr S
def ref11_rows_r2 : List POper := [Q 2 (.mov (I 2))]
@[simp] theorem ref11_rows_r2_go : type_of% (ops_go ref11_rows_r2.eq_1 T K fr S) := ops_go ref11_rows_r2.eq_1 T K fr S
def ref11_rows_r3 : List POper := [Q 3 (.mov (I 0))]
@[simp] theorem ref11_rows_r3_go : type_of% (ops_go ref11_rows_r3.eq_1 T K fr S) := ops_go ref11_rows_r3.eq_1 T K fr S
def ref11_rows_r4 : List POper := [M 12 3,M 13 0,Q 14 (.len false (V 13)),Q 15 (.arith .lss (V 12) (V 14))]
@[simp] theorem ref11_rows_r4_go : type_of% (ops_go ref11_rows_r4.eq_1 T K fr S) := ops_go ref11_rows_r4.eq_1 T K fr S
def ref11_rows_r6 : List POper := [M 18 0,M 19 3,Q 20 (.iaddr 3 (V 18) (V 19)),FA 21 0 20,LD 22 21,Q 23 (.arith .lss (V 22) (I 0)),M 24 23,QG (some 25) (.mov (V 0)) 24 false,QG (some 26) (.mov (V 3)) 24 false,QG (some 27) (.iaddr 3 (V 25) (V 26)) 24 false,QG (some 28) (.faddr 0 (V 27)) 24 false,QG (some 29) (.load false 1 false (V 28)) 24 false,QG (some 30) (.arith .gtr (V 29) (I 1099511627776)) 24 false,Q 31 (.pick (V 24) tt' (V 30))]
@[simp] theorem ref11_rows_r6_go : type_of% (ops_go ref11_rows_r6.eq_1 T K fr S) := ops_go ref11_rows_r6.eq_1 T K fr S
def ref11_rows_r7 : List POper := [Q 2 (.mov (I 2))]
@[simp] theorem ref11_rows_r7_go : type_of% (ops_go ref11_rows_r7.eq_1 T K fr S) := ops_go ref11_rows_r7.eq_1 T K fr S
def ref11_rows_r8 : List POper := [M 32 0,M 33 3,Q 34 (.iaddr 3 (V 32) (V 33)),FA 35 1 34,Q 36 (.load true 2 false (V 35)),Q 37 (.call .std 329 [(V 36)]),Q 38 (.un .not (V 37))]
@[simp] theorem ref11_rows_r8_go : type_of% (ops_go ref11_rows_r8.eq_1 T K fr S) := ops_go ref11_rows_r8.eq_1 T K fr S
def ref11_rows_r9 : List POper := [Q 2 (.mov (I 11))]
@[simp] theorem ref11_rows_r9_go : type_of% (ops_go ref11_rows_r9.eq_1 T K fr S) := ops_go ref11_rows_r9.eq_1 T K fr S
def ref11_rows_r5 : List POper := [M 16 3,Q 17 (.arith .add (V 16) (I 1)),M 3 17]
@[simp] theorem ref11_rows_r5_go : type_of% (ops_go ref11_rows_r5.eq_1 T K fr S) := ops_go ref11_rows_r5.eq_1 T K fr S
def ref11_rows_l0 : PCode :=
  (.seq (.seq (.clr [(12, 15)] (.region ref11_rows_r4)) (.cond (V 15) .skip (.exit 0))) (.seq (.block 1 (.seq (.seq (.clr [(18, 31)] (.region ref11_rows_r6)) (.cond (V 31) (.seq (.region ref11_rows_r7) .ret) .skip)) (.seq (.clr [(32, 38)] (.region ref11_rows_r8)) (.cond (V 38) (.seq (.region ref11_rows_r9) .ret) .skip)))) (.clr [(16, 18)] (.region ref11_rows_r5))))
@[simp] theorem ref11_rows_l0_go : type_of% (code_go ref11_rows_l0.eq_1 T K fr S) := code_go ref11_rows_l0.eq_1 T K fr S
def ref11_rows_r10 : List POper := [Q 2 (.mov (I 0))]
@[simp] theorem ref11_rows_r10_go : type_of% (ops_go ref11_rows_r10.eq_1 T K fr S) := ops_go ref11_rows_r10.eq_1 T K fr S
def ref11_rows : PCodeFn :=
  ⟨1, [.tmp 2],
  (.seq (.region ref11_rows_r0) (.seq (.seq (.clr [(4, 11)] (.region ref11_rows_r1)) (.cond (V 11) (.seq (.region ref11_rows_r2) .ret) .skip)) (.seq (.seq (.region ref11_rows_r3) (.block 0 (.loop ref11_rows_l0))) (.seq (.region ref11_rows_r10) .ret)))), false⟩

def ref09_Check_r0 : List POper := [Q 2 (.mov (I 0))]
@[simp] theorem ref09_Check_r0_go : type_of% (ops_go ref09_Check_r0.eq_1 T K fr S) := ops_go ref09_Check_r0.eq_1 T K fr S
def ref09_Check_r1 : List POper := [M 4 0,Q 5 (.len false (V 4)),Q 6 (.arith .gtr (V 5) (I 1024))]
@[simp] theorem ref09_Check_r1_go : type_of% (ops_go ref09_Check_r1.eq_1 T K fr S) := ops_go ref09_Check_r1.eq_1 T K fr S
def ref09_Check_r2 : List POper := [Q 2 (.mov (I 3))]
@[simp] theorem ref09_Check_r2_go : type_of% (ops_go ref09_Check_r2.eq_1 T K fr S) := ops_go ref09_Check_r2.eq_1 T K fr S
def ref09_Check_r3 : List POper := [Q 3 (.mov (I 0))]
@[simp] theorem ref09_Check_r3_go : type_of% (ops_go ref09_Check_r3.eq_1 T K fr S) := ops_go ref09_Check_r3.eq_1 T K fr S
def ref09_Check_r4 : List POper := [M 7 3,M 8 0,Q 9 (.len false (V 8)),Q 10 (.arith .lss (V 7) (V 9))]
@[simp] theorem ref09_Check_r4_go : type_of% (ops_go ref09_Check_r4.eq_1 T K fr S) := ops_go ref09_Check_r4.eq_1 T K fr S
def ref09_Check_r6 : List POper := [M 13 0,M 14 3,Q 15 (.iaddr 1 (V 13) (V 14)),LD 16 15,Q 17 (.arith .lss (V 16) (I 0)),M 18 17,QG (some 19) (.mov (V 0)) 18 false,QG (some 20) (.mov (V 3)) 18 false,QG (some 21) (.iaddr 1 (V 19) (V 20)) 18 false,QG (some 22) (.load false 1 false (V 21)) 18 false,QG (some 23) (.arith .gtr (V 22) (I 1099511627776)) 18 false,Q 24 (.pick (V 18) tt' (V 23))]
@[simp] theorem ref09_Check_r6_go : type_of% (ops_go ref09_Check_r6.eq_1 T K fr S) := ops_go ref09_Check_r6.eq_1 T K fr S
def ref09_Check_r7 : List POper := [Q 2 (.mov (I 2))]
@[simp] theorem ref09_Check_r7_go : type_of% (ops_go ref09_Check_r7.eq_1 T K fr S) := ops_go ref09_Check_r7.eq_1 T K fr S
def ref09_Check_r8 : List POper := [M 25 3,Q 26 (.arith .gtr (V 25) (I 0)),M 27 26,QG (some 28) (.mov (V 0)) 27 true,QG (some 29) (.mov (V 3)) 27 true,QG (some 30) (.iaddr 1 (V 28) (V 29)) 27 true,QG (some 31) (.load false 1 true (V 30)) 27 true,QG (some 32) (.mov (V 0)) 27 true,QG (some 33) (.mov (V 3)) 27 true,QG (some 34) (.arith .sub (V 33) (I 1)) 27 true,QG (some 35) (.iaddr 1 (V 32) (V 34)) 27 true,QG (some 36) (.load false 1 true (V 35)) 27 true,QG (some 37) (.arith .leq (V 31) (V 36)) 27 true,Q 38 (.pick (V 27) (V 37) ff')]
@[simp] theorem ref09_Check_r8_go : type_of% (ops_go ref09_Check_r8.eq_1 T K fr S) := ops_go ref09_Check_r8.eq_1 T K fr S
def ref09_Check_r9 : List POper := [Q 2 (.mov (I 13))]
@[simp] theorem ref09_Check_r9_go : type_of% (ops_go ref09_Check_r9.eq_1 T K fr S) := ops_go ref09_Check_r9.eq_1 T K fr S
def ref09_Check_r5 : List POper := [M 11 3,Q 12 (.arith .add (V 11) (I 1)),M 3 12]
@[simp] theorem ref09_Check_r5_go : type_of% (ops_go ref09_Check_r5.eq_1 T K fr S) := ops_go ref09_Check_r5.eq_1 T K fr S
def ref09_Check_l0 : PCode :=
  (.seq (.seq (.clr [(7, 10)] (.region ref09_Check_r4)) (.cond (V 10) .skip (.exit 0))) (.seq (.block 1 (.seq (.seq (.clr [(13, 24)] (.region ref09_Check_r6)) (.cond (V 24) (.seq (.region ref09_Check_r7) .ret) .skip)) (.seq (.clr [(25, 38)] (.region ref09_Check_r8)) (.cond (V 38) (.seq (.region ref09_Check_r9) .ret) .skip)))) (.clr [(11, 13)] (.region ref09_Check_r5))))
@[simp] theorem ref09_Check_l0_go : type_of% (code_go ref09_Check_l0.eq_1 T K fr S) := code_go ref09_Check_l0.eq_1 T K fr S
def ref09_Check_r10 : List POper := [Q 2 (.mov (I 0))]
@[simp] theorem ref09_Check_r10_go : type_of% (ops_go ref09_Check_r10.eq_1 T K fr S) := ops_go ref09_Check_r10.eq_1 T K fr S
def ref09_Check : PCodeFn :=
  ⟨1, [.tmp 2],
  (.seq (.region ref09_Check_r0) (.seq (.seq (.clr [(4, 6)] (.region ref09_Check_r1)) (.cond (V 6) (.seq (.region ref09_Check_r2) .ret) .skip)) (.seq (.seq (.region ref09_Check_r3) (.block 0 (.loop ref09_Check_l0))) (.seq (.region ref09_Check_r10) .ret)))), false⟩

def label_quoted_r0 : List POper := [Q 2 (.mov (.cst (.str [])))]
@[simp] theorem label_quoted_r0_go : type_of% (ops_go label_quoted_r0.eq_1 T K fr S) := ops_go label_quoted_r0.eq_1 T K fr S
def label_quoted_r1 : List POper := [Q 6 (.bsl false (.int .u8 0) 1 [(0, (.cst (.int .u8 34)))]),M 3 6]
@[simp] theorem label_quoted_r1_go : type_of% (ops_go label_quoted_r1.eq_1 T K fr S) := ops_go label_quoted_r1.eq_1 T K fr S
def label_quoted_r2 : List POper := [M 7 0,Q 8 (.len true (V 7)),Q 9 (.mov (I 0))]
@[simp] theorem label_quoted_r2_go : type_of% (ops_go label_quoted_r2.eq_1 T K fr S) := ops_go label_quoted_r2.eq_1 T K fr S
def label_quoted_r3 : List POper := [Q 10 (.arith .lss (V 9) (V 8))]
@[simp] theorem label_quoted_r3_go : type_of% (ops_go label_quoted_r3.eq_1 T K fr S) := ops_go label_quoted_r3.eq_1 T K fr S
def label_quoted_r4 : List POper := [M 11 9,M 4 11]
@[simp] theorem label_quoted_r4_go : type_of% (ops_go label_quoted_r4.eq_1 T K fr S) := ops_go label_quoted_r4.eq_1 T K fr S
def label_quoted_r5 : List POper := [M 12 0,M 13 4,Q 14 (.idxs (V 12) (V 13)),M 5 14]
@[simp] theorem label_quoted_r5_go : type_of% (ops_go label_quoted_r5.eq_1 T K fr S) := ops_go label_quoted_r5.eq_1 T K fr S
def label_quoted_r7 : List POper := [M 20 5,Q 21 (.arith .eql (V 20) (.cst (.int .u8 34))),M 19 21]
@[simp] theorem label_quoted_r7_go : type_of% (ops_go label_quoted_r7.eq_1 T K fr S) := ops_go label_quoted_r7.eq_1 T K fr S
def label_quoted_r8 : List POper := [M 22 5,Q 23 (.arith .eql (V 22) (.cst (.int .u8 92))),M 19 23]
@[simp] theorem label_quoted_r8_go : type_of% (ops_go label_quoted_r8.eq_1 T K fr S) := ops_go label_quoted_r8.eq_1 T K fr S
def label_quoted_r9 : List POper := [M 24 3,M 25 5,Q 26 (.bsl false (.int .u8 0) 2 [(0, (.cst (.int .u8 92))), (1, (V 25))]),Q 27 (.app 1 1 (V 24) (V 26)),M 3 27]
@[simp] theorem label_quoted_r9_go : type_of% (ops_go label_quoted_r9.eq_1 T K fr S) := ops_go label_quoted_r9.eq_1 T K fr S
def label_quoted_r10 : List POper := [M 29 5,Q 30 (.arith .lss (V 29) (.cst (.int .u8 32))),M 28 30]
@[simp] theorem label_quoted_r10_go : type_of% (ops_go label_quoted_r10.eq_1 T K fr S) := ops_go label_quoted_r10.eq_1 T K fr S
def label_quoted_r11 : List POper := [M 31 5,Q 32 (.arith .gtr (V 31) (.cst (.int .u8 126))),M 28 32]
@[simp] theorem label_quoted_r11_go : type_of% (ops_go label_quoted_r11.eq_1 T K fr S) := ops_go label_quoted_r11.eq_1 T K fr S
def label_quoted_r12 : List POper := [M 33 3,M 34 5,Q 35 (.arith .shr (V 34) (.cst (.int .u64 4))),Q 36 (.idxs (.cst (.str [48, 49, 50, 51, 52, 53, 54, 55, 56, 57, 97, 98, 99, 100, 101, 102])) (V 35)),M 37 5,Q 38 (.arith .and (V 37) (.cst (.int .u8 15))),Q 39 (.idxs (.cst (.str [48, 49, 50, 51, 52, 53, 54, 55, 56, 57, 97, 98, 99, 100, 101, 102])) (V 38)),Q 40 (.bsl false (.int .u8 0) 4 [(0, (.cst (.int .u8 92))), (1, (.cst (.int .u8 120))), (2, (V 36)), (3, (V 39))]),Q 41 (.app 1 1 (V 33) (V 40)),M 3 41]
@[simp] theorem label_quoted_r12_go : type_of% (ops_go label_quoted_r12.eq_1 T K fr S) := ops_go label_quoted_r12.eq_1 T K fr S
def label_quoted_r6 : List POper := [M 15 3,M 16 5,Q 17 (.bsl false (.int .u8 0) 1 [(0, (V 16))]),Q 18 (.app 1 1 (V 15) (V 17)),M 3 18]
@[simp] theorem label_quoted_r6_go : type_of% (ops_go label_quoted_r6.eq_1 T K fr S) := ops_go label_quoted_r6.eq_1 T K fr S
def label_quoted_r13 : List POper := [Q 42 (.arith .add (V 9) (I 1)),M 9 42]
@[simp] theorem label_quoted_r13_go : type_of% (ops_go label_quoted_r13.eq_1 T K fr S) := ops_go label_quoted_r13.eq_1 T K fr S
def label_quoted_l0 : PCode :=
  (.seq (.region label_quoted_r3) (.seq (.cond (V 10) .skip (.exit 0)) (.seq (.block 1 (.seq (.clr [(11, 12)] (.region label_quoted_r4)) (.seq (.clr [(12, 15)] (.region label_quoted_r5)) (.block 2 (.seq (.seq (.clr [(20, 22)] (.region label_quoted_r7)) (.cond (V 19) .skip (.clr [(22, 24)] (.region label_quoted_r8)))) (.cond (V 19) (.clr [(24, 28)] (.region label_quoted_r9)) (.seq (.seq (.clr [(29, 31)] (.region label_quoted_r10)) (.cond (V 28) .skip (.clr [(31, 33)] (.region label_quoted_r11)))) (.cond (V 28) (.clr [(33, 42)] (.region label_quoted_r12)) (.clr [(15, 19)] (.region label_quoted_r6)))))))))) (.clr [(42, 43)] (.region label_quoted_r13)))))
@[simp] theorem label_quoted_l0_go : type_of% (code_go label_quoted_l0.eq_1 T K fr S) := code_go label_quoted_l0.eq_1 T K fr S
def label_quoted_r14 : List POper := [M 43 3,Q 44 (.bsl false (.int .u8 0) 1 [(0, (.cst (.int .u8 34)))]),Q 45 (.app 1 1 (V 43) (V 44)),Q 46 (.toStr (V 45)),M 2 46]
@[simp] theorem label_quoted_r14_go : type_of% (ops_go label_quoted_r14.eq_1 T K fr S) := ops_go label_quoted_r14.eq_1 T K fr S
def label_quoted : PCodeFn :=
  ⟨1, [.tmp 2],
  (.seq (.region label_quoted_r0) (.seq (.clr [(6, 7)] (.region label_quoted_r1)) (.seq (.seq (.clr [(7, 8)] (.region label_quoted_r2)) (.block 0 (.loop label_quoted_l0))) (.seq (.clr [(43, 47)] (.region label_quoted_r14)) .ret)))), false⟩

def strings_Join_r0 : List POper := [Q 4 (.mov (.cst (.str [])))]
@[simp] theorem strings_Join_r0_go : type_of% (ops_go strings_Join_r0.eq_1 T K fr S) := ops_go strings_Join_r0.eq_1 T K fr S
def strings_Join_r1 : List POper := [M 11 0,Q 12 (.len false (V 11))]
@[simp] theorem strings_Join_r1_go : type_of% (ops_go strings_Join_r1.eq_1 T K fr S) := ops_go strings_Join_r1.eq_1 T K fr S
def strings_Join_r2 : List POper := [Q 14 (.arith .eql (V 12) (I 0)),M 13 14]
@[simp] theorem strings_Join_r2_go : type_of% (ops_go strings_Join_r2.eq_1 T K fr S) := ops_go strings_Join_r2.eq_1 T K fr S
def strings_Join_r3 : List POper := [Q 4 (.mov (.cst (.str [])))]
@[simp] theorem strings_Join_r3_go : type_of% (ops_go strings_Join_r3.eq_1 T K fr S) := ops_go strings_Join_r3.eq_1 T K fr S
def strings_Join_r4 : List POper := [Q 16 (.arith .eql (V 12) (I 1)),M 15 16]
@[simp] theorem strings_Join_r4_go : type_of% (ops_go strings_Join_r4.eq_1 T K fr S) := ops_go strings_Join_r4.eq_1 T K fr S
def strings_Join_r5 : List POper := [M 17 0,Q 18 (.iaddr 1 (V 17) (I 0)),LD 19 18,M 4 19]
@[simp] theorem strings_Join_r5_go : type_of% (ops_go strings_Join_r5.eq_1 T K fr S) := ops_go strings_Join_r5.eq_1 T K fr S
def strings_Join_r6 : List POper := [Q 5 (.mov (I 0))]
@[simp] theorem strings_Join_r6_go : type_of% (ops_go strings_Join_r6.eq_1 T K fr S) := ops_go strings_Join_r6.eq_1 T K fr S
def strings_Join_r7 : List POper := [M 20 1,Q 21 (.len true (V 20)),Q 22 (.arith .gtr (V 21) (I 0))]
@[simp] theorem strings_Join_r7_go : type_of% (ops_go strings_Join_r7.eq_1 T K fr S) := ops_go strings_Join_r7.eq_1 T K fr S
def strings_Join_r8 : List POper := [M 23 1,Q 24 (.len true (V 23)),M 25 0,Q 26 (.len false (V 25)),Q 27 (.arith .sub (V 26) (I 1)),Q 28 (.arith .quo (I 9223372036854775807) (V 27)),Q 29 (.arith .geq (V 24) (V 28))]
@[simp] theorem strings_Join_r8_go : type_of% (ops_go strings_Join_r8.eq_1 T K fr S) := ops_go strings_Join_r8.eq_1 T K fr S
def strings_Join_r10 : List POper := [M 31 5,M 32 1,Q 33 (.len true (V 32)),M 34 0,Q 35 (.len false (V 34)),Q 36 (.arith .sub (V 35) (I 1)),Q 37 (.arith .mul (V 33) (V 36)),Q 38 (.arith .add (V 31) (V 37)),M 5 38]
@[simp] theorem strings_Join_r10_go : type_of% (ops_go strings_Join_r10.eq_1 T K fr S) := ops_go strings_Join_r10.eq_1 T K fr S
def strings_Join_r11 : List POper := [M 39 0,Q 40 (.len false (V 39)),Q 41 (.mov (I 0))]
@[simp] theorem strings_Join_r11_go : type_of% (ops_go strings_Join_r11.eq_1 T K fr S) := ops_go strings_Join_r11.eq_1 T K fr S
def strings_Join_r12 : List POper := [Q 42 (.arith .lss (V 41) (V 40))]
@[simp] theorem strings_Join_r12_go : type_of% (ops_go strings_Join_r12.eq_1 T K fr S) := ops_go strings_Join_r12.eq_1 T K fr S
def strings_Join_r13 : List POper := [Q 43 (.iaddr 1 (V 39) (V 41)),LD 44 43,M 7 44]
@[simp] theorem strings_Join_r13_go : type_of% (ops_go strings_Join_r13.eq_1 T K fr S) := ops_go strings_Join_r13.eq_1 T K fr S
def strings_Join_r14 : List POper := [M 45 7,Q 46 (.len true (V 45)),M 47 5,Q 48 (.arith .sub (I 9223372036854775807) (V 47)),Q 49 (.arith .gtr (V 46) (V 48))]
@[simp] theorem strings_Join_r14_go : type_of% (ops_go strings_Join_r14.eq_1 T K fr S) := ops_go strings_Join_r14.eq_1 T K fr S
def strings_Join_r16 : List POper := [M 51 5,M 52 7,Q 53 (.len true (V 52)),Q 54 (.arith .add (V 51) (V 53)),M 5 54]
@[simp] theorem strings_Join_r16_go : type_of% (ops_go strings_Join_r16.eq_1 T K fr S) := ops_go strings_Join_r16.eq_1 T K fr S
def strings_Join_r17 : List POper := [Q 55 (.arith .add (V 41) (I 1)),M 41 55]
@[simp] theorem strings_Join_r17_go : type_of% (ops_go strings_Join_r17.eq_1 T K fr S) := ops_go strings_Join_r17.eq_1 T K fr S
def strings_Join_l0 : PCode :=
  (.seq (.region strings_Join_r12) (.seq (.cond (V 42) .skip (.exit 1)) (.seq (.block 2 (.seq (.clr [(43, 45)] (.region strings_Join_r13)) (.seq (.seq (.clr [(45, 49)] (.region strings_Join_r14)) (.cond (V 49) .bad .skip)) (.clr [(51, 55)] (.region strings_Join_r16))))) (.clr [(55, 56)] (.region strings_Join_r17)))))
@[simp] theorem strings_Join_l0_go : type_of% (code_go strings_Join_l0.eq_1 T K fr S) := code_go strings_Join_l0.eq_1 T K fr S
def strings_Join_r18 : List POper := [Q 8 (.alloc false [.nilp, .nils])]
@[simp] theorem strings_Join_r18_go : type_of% (ops_go strings_Join_r18.eq_1 T K fr S) := ops_go strings_Join_r18.eq_1 T K fr S
def strings_Join_r19 : List POper := [M 56 5,Q 57 (.call .std 213 [(V 8), (V 56)])]
@[simp] theorem strings_Join_r19_go : type_of% (ops_go strings_Join_r19.eq_1 T K fr S) := ops_go strings_Join_r19.eq_1 T K fr S
def strings_Join_r20 : List POper := [M 58 0,Q 59 (.iaddr 1 (V 58) (I 0)),LD 60 59,Q 61 (.call .std 214 [(V 8), (V 60)])]
@[simp] theorem strings_Join_r20_go : type_of% (ops_go strings_Join_r20.eq_1 T K fr S) := ops_go strings_Join_r20.eq_1 T K fr S
def strings_Join_r21 : List POper := [M 62 0,Q 63 (.slc 1 (some (I 1)) none (V 62)),Q 64 (.len false (V 63)),Q 65 (.mov (I 0))]
@[simp] theorem strings_Join_r21_go : type_of% (ops_go strings_Join_r21.eq_1 T K fr S) := ops_go strings_Join_r21.eq_1 T K fr S
def strings_Join_r22 : List POper := [Q 66 (.arith .lss (V 65) (V 64))]
@[simp] theorem strings_Join_r22_go : type_of% (ops_go strings_Join_r22.eq_1 T K fr S) := ops_go strings_Join_r22.eq_1 T K fr S
def strings_Join_r23 : List POper := [Q 67 (.iaddr 1 (V 63) (V 65)),LD 68 67,M 10 68]
@[simp] theorem strings_Join_r23_go : type_of% (ops_go strings_Join_r23.eq_1 T K fr S) := ops_go strings_Join_r23.eq_1 T K fr S
def strings_Join_r24 : List POper := [M 69 1,Q 70 (.call .std 214 [(V 8), (V 69)])]
@[simp] theorem strings_Join_r24_go : type_of% (ops_go strings_Join_r24.eq_1 T K fr S) := ops_go strings_Join_r24.eq_1 T K fr S
def strings_Join_r25 : List POper := [M 71 10,Q 72 (.call .std 214 [(V 8), (V 71)])]
@[simp] theorem strings_Join_r25_go : type_of% (ops_go strings_Join_r25.eq_1 T K fr S) := ops_go strings_Join_r25.eq_1 T K fr S
def strings_Join_r26 : List POper := [Q 73 (.arith .add (V 65) (I 1)),M 65 73]
@[simp] theorem strings_Join_r26_go : type_of% (ops_go strings_Join_r26.eq_1 T K fr S) := ops_go strings_Join_r26.eq_1 T K fr S
def strings_Join_l1 : PCode :=
  (.seq (.region strings_Join_r22) (.seq (.cond (V 66) .skip (.exit 3)) (.seq (.block 4 (.seq (.clr [(67, 69)] (.region strings_Join_r23)) (.seq (.clr [(69, 71)] (.region strings_Join_r24)) (.clr [(71, 73)] (.region strings_Join_r25))))) (.clr [(73, 74)] (.region strings_Join_r26)))))
@[simp] theorem strings_Join_l1_go : type_of% (code_go strings_Join_l1.eq_1 T K fr S) := code_go strings_Join_l1.eq_1 T K fr S
def strings_Join_r27 : List POper := [Q 74 (.call .std 215 [(V 8)]),M 4 74]
@[simp] theorem strings_Join_r27_go : type_of% (ops_go strings_Join_r27.eq_1 T K fr S) := ops_go strings_Join_r27.eq_1 T K fr S
def strings_Join : PCodeFn :=
  ⟨2, [.tmp 4],
  (.seq (.region strings_Join_r0) (.seq (.seq (.clr [(11, 12)] (.region strings_Join_r1)) (.block 0 (.seq (.clr [(14, 15)] (.region strings_Join_r2)) (.cond (V 13) (.seq (.region strings_Join_r3) .ret) (.seq (.clr [(16, 17)] (.region strings_Join_r4)) (.cond (V 15) (.seq (.clr [(17, 20)] (.region strings_Join_r5)) .ret) .skip)))))) (.seq (.region strings_Join_r6) (.seq (.seq (.clr [(20, 22)] (.region strings_Join_r7)) (.cond (V 22) (.seq (.seq (.clr [(23, 29)] (.region strings_Join_r8)) (.cond (V 29) .bad .skip)) (.clr [(31, 39)] (.region strings_Join_r10))) .skip)) (.seq (.seq (.region strings_Join_r11) (.block 1 (.loop strings_Join_l0))) (.seq (.region strings_Join_r18) (.seq (.clr [(56, 58)] (.region strings_Join_r19)) (.seq (.clr [(58, 62)] (.region strings_Join_r20)) (.seq (.seq (.clr [(62, 63)] (.region strings_Join_r21)) (.block 3 (.loop strings_Join_l1))) (.seq (.clr [(74, 75)] (.region strings_Join_r27)) .ret)))))))))), false⟩

def head_Head_Labels_r0 : List POper := [Q 4 (.mov (.cst .nils)),Q 5 (.mov (I 0))]
@[simp] theorem head_Head_Labels_r0_go : type_of% (ops_go head_Head_Labels_r0.eq_1 T K fr S) := ops_go head_Head_Labels_r0.eq_1 T K fr S
def head_Head_Labels_r1 : List POper := [M 9 0,M 10 1,Q 11 (.call .std 291 [(V 9), (V 10)]),M 8 11,EX 12 0 8,EX 13 1 8,Q 6 (.alloc false [.nils, .nils]),QN (.store 2 (V 6) (V 12)),M 7 13]
@[simp] theorem head_Head_Labels_r1_go : type_of% (ops_go head_Head_Labels_r1.eq_1 T K fr S) := ops_go head_Head_Labels_r1.eq_1 T K fr S
def head_Head_Labels_r2 : List POper := [FA 14 0 6,LD 15 14,Q 16 (.call .std 130 [(V 15)]),M 17 7,M 4 16,M 5 17]
@[simp] theorem head_Head_Labels_r2_go : type_of% (ops_go head_Head_Labels_r2.eq_1 T K fr S) := ops_go head_Head_Labels_r2.eq_1 T K fr S
def head_Head_Labels : PCodeFn :=
  ⟨2, [.tmp 4, .tmp 5],
  (.seq (.region head_Head_Labels_r0) (.seq (.clr [(8, 14)] (.region head_Head_Labels_r1)) (.seq (.clr [(14, 18)] (.region head_Head_Labels_r2)) .ret))), false⟩

def head_Head_Id_r0 : List POper := [Q 4 (.mov (I 0)),Q 5 (.mov (I 0))]
@[simp] theorem head_Head_Id_r0_go : type_of% (ops_go head_Head_Id_r0.eq_1 T K fr S) := ops_go head_Head_Id_r0.eq_1 T K fr S
def head_Head_Id_r1 : List POper := [M 9 0,Q 10 (.eqn false .p (V 9))]
@[simp] theorem head_Head_Id_r1_go : type_of% (ops_go head_Head_Id_r1.eq_1 T K fr S) := ops_go head_Head_Id_r1.eq_1 T K fr S
def head_Head_Id_r2 : List POper := [Q 4 (.mov (I 0)),Q 5 (.mov (I 1))]
@[simp] theorem head_Head_Id_r2_go : type_of% (ops_go head_Head_Id_r2.eq_1 T K fr S) := ops_go head_Head_Id_r2.eq_1 T K fr S
def head_Head_Id_r3 : List POper := [M 11 1,Q 12 (.call .std 40 [(V 11)]),M 6 12]
@[simp] theorem head_Head_Id_r3_go : type_of% (ops_go head_Head_Id_r3.eq_1 T K fr S) := ops_go head_Head_Id_r3.eq_1 T K fr S
def head_Head_Id_r4 : List POper := [M 13 6,Q 14 (.arith .neq (V 13) (I 0))]
@[simp] theorem head_Head_Id_r4_go : type_of% (ops_go head_Head_Id_r4.eq_1 T K fr S) := ops_go head_Head_Id_r4.eq_1 T K fr S
def head_Head_Id_r5 : List POper := [M 15 6,Q 4 (.mov (I 0)),M 5 15]
@[simp] theorem head_Head_Id_r5_go : type_of% (ops_go head_Head_Id_r5.eq_1 T K fr S) := ops_go head_Head_Id_r5.eq_1 T K fr S
def head_Head_Id_r6 : List POper := [M 17 0,NK' 18 17,FA 19 1 18,LD 20 19,M 21 1,Q 22 (.call .keep 24 [(V 21)]),Q 23 (.mlk true true (.int .i64 0) (V 20) (V 22)),M 16 23,EX 24 0 16,EX 25 1 16,M 7 24,M 8 25]
@[simp] theorem head_Head_Id_r6_go : type_of% (ops_go head_Head_Id_r6.eq_1 T K fr S) := ops_go head_Head_Id_r6.eq_1 T K fr S
def head_Head_Id_r7 : List POper := [M 26 8,Q 27 (.un .not (V 26))]
@[simp] theorem head_Head_Id_r7_go : type_of% (ops_go head_Head_Id_r7.eq_1 T K fr S) := ops_go head_Head_Id_r7.eq_1 T K fr S
def head_Head_Id_r8 : List POper := [Q 4 (.mov (I 0)),Q 5 (.mov (I 9))]
@[simp] theorem head_Head_Id_r8_go : type_of% (ops_go head_Head_Id_r8.eq_1 T K fr S) := ops_go head_Head_Id_r8.eq_1 T K fr S
def head_Head_Id_r9 : List POper := [M 28 7,M 4 28,Q 5 (.mov (I 0))]
@[simp] theorem head_Head_Id_r9_go : type_of% (ops_go head_Head_Id_r9.eq_1 T K fr S) := ops_go head_Head_Id_r9.eq_1 T K fr S
def head_Head_Id : PCodeFn :=
  ⟨2, [.tmp 4, .tmp 5],
  (.seq (.region head_Head_Id_r0) (.seq (.seq (.clr [(9, 10)] (.region head_Head_Id_r1)) (.cond (V 10) (.seq (.region head_Head_Id_r2) .ret) .skip)) (.seq (.seq (.clr [(11, 13)] (.region head_Head_Id_r3)) (.seq (.clr [(13, 14)] (.region head_Head_Id_r4)) (.cond (V 14) (.seq (.clr [(15, 16)] (.region head_Head_Id_r5)) .ret) .skip))) (.seq (.clr [(16, 26)] (.region head_Head_Id_r6)) (.seq (.seq (.clr [(26, 27)] (.region head_Head_Id_r7)) (.cond (V 27) (.seq (.region head_Head_Id_r8) .ret) .skip)) (.seq (.clr [(28, 29)] (.region head_Head_Id_r9)) .ret)))))), false⟩

def ref12_Between_r0 : List POper := [Q 6 (.mov (.cst .nils))]
@[simp] theorem ref12_Between_r0_go : type_of% (ops_go ref12_Between_r0.eq_1 T K fr S) := ops_go ref12_Between_r0.eq_1 T K fr S
def ref12_Between_r1 : List POper := [Q 7 (.mov (.cst .nils))]
@[simp] theorem ref12_Between_r1_go : type_of% (ops_go ref12_Between_r1.eq_1 T K fr S) := ops_go ref12_Between_r1.eq_1 T K fr S
def ref12_Between_r2 : List POper := [Q 8 (.mov (I 0))]
@[simp] theorem ref12_Between_r2_go : type_of% (ops_go ref12_Between_r2.eq_1 T K fr S) := ops_go ref12_Between_r2.eq_1 T K fr S
def ref12_Between_r3 : List POper := [M 9 8,M 10 0,Q 11 (.len false (V 10)),Q 12 (.arith .lss (V 9) (V 11))]
@[simp] theorem ref12_Between_r3_go : type_of% (ops_go ref12_Between_r3.eq_1 T K fr S) := ops_go ref12_Between_r3.eq_1 T K fr S
def ref12_Between_r5 : List POper := [M 15 0,M 16 8,Q 17 (.iaddr 2 (V 15) (V 16)),FA 18 0 17,LD 19 18,M 20 1,Q 21 (.arith .geq (V 19) (V 20)),M 22 21,QG (some 23) (.mov (V 0)) 22 true,QG (some 24) (.mov (V 8)) 22 true,QG (some 25) (.iaddr 2 (V 23) (V 24)) 22 true,QG (some 26) (.faddr 0 (V 25)) 22 true,QG (some 27) (.load false 1 false (V 26)) 22 true,QG (some 28) (.mov (V 2)) 22 true,QG (some 29) (.arith .leq (V 27) (V 28)) 22 true,Q 30 (.pick (V 22) (V 29) ff')]
@[simp] theorem ref12_Between_r5_go : type_of% (ops_go ref12_Between_r5.eq_1 T K fr S) := ops_go ref12_Between_r5.eq_1 T K fr S
def ref12_Between_r6 : List POper := [M 31 7,M 32 0,M 33 8,Q 34 (.iaddr 2 (V 32) (V 33)),Q 35 (.load true 2 false (V 34)),Q 36 (.bsl false (.agg [(.int .i64 0), (.int .i64 0)]) 1 [(0, (V 35))]),Q 37 (.app 2 16 (V 31) (V 36)),M 7 37]
@[simp] theorem ref12_Between_r6_go : type_of% (ops_go ref12_Between_r6.eq_1 T K fr S) := ops_go ref12_Between_r6.eq_1 T K fr S
def ref12_Between_r4 : List POper := [M 13 8,Q 14 (.arith .add (V 13) (I 1)),M 8 14]
@[simp] theorem ref12_Between_r4_go : type_of% (ops_go ref12_Between_r4.eq_1 T K fr S) := ops_go ref12_Between_r4.eq_1 T K fr S
def ref12_Between_l0 : PCode :=
  (.seq (.seq (.clr [(9, 12)] (.region ref12_Between_r3)) (.cond (V 12) .skip (.exit 0))) (.seq (.block 1 (.seq (.clr [(15, 30)] (.region ref12_Between_r5)) (.cond (V 30) (.clr [(31, 38)] (.region ref12_Between_r6)) .skip))) (.clr [(13, 15)] (.region ref12_Between_r4))))
@[simp] theorem ref12_Between_l0_go : type_of% (code_go ref12_Between_l0.eq_1 T K fr S) := code_go ref12_Between_l0.eq_1 T K fr S
def ref12_Between_r7 : List POper := [M 38 7,M 6 38]
@[simp] theorem ref12_Between_r7_go : type_of% (ops_go ref12_Between_r7.eq_1 T K fr S) := ops_go ref12_Between_r7.eq_1 T K fr S
def ref12_Between : PCodeFn :=
  ⟨3, [.tmp 6],
  (.seq (.region ref12_Between_r0) (.seq (.region ref12_Between_r1) (.seq (.seq (.region ref12_Between_r2) (.block 0 (.loop ref12_Between_l0))) (.seq (.clr [(38, 39)] (.region ref12_Between_r7)) .ret)))), false⟩

def label_Name_r0 : List POper := [Q 2 (.mov ff')]
@[simp] theorem label_Name_r0_go : type_of% (ops_go label_Name_r0.eq_1 T K fr S) := ops_go label_Name_r0.eq_1 T K fr S
def label_Name_r1 : List POper := [M 5 0,Q 6 (.len true (V 5)),Q 7 (.mov (I 0))]
@[simp] theorem label_Name_r1_go : type_of% (ops_go label_Name_r1.eq_1 T K fr S) := ops_go label_Name_r1.eq_1 T K fr S
def label_Name_r2 : List POper := [Q 8 (.arith .lss (V 7) (V 6))]
@[simp] theorem label_Name_r2_go : type_of% (ops_go label_Name_r2.eq_1 T K fr S) := ops_go label_Name_r2.eq_1 T K fr S
def label_Name_r3 : List POper := [M 9 7,M 3 9]
@[simp] theorem label_Name_r3_go : type_of% (ops_go label_Name_r3.eq_1 T K fr S) := ops_go label_Name_r3.eq_1 T K fr S
def label_Name_r4 : List POper := [M 10 0,M 11 3,Q 12 (.idxs (V 10) (V 11)),M 4 12]
@[simp] theorem label_Name_r4_go : type_of% (ops_go label_Name_r4.eq_1 T K fr S) := ops_go label_Name_r4.eq_1 T K fr S
def label_Name_r6 : List POper := [M 14 4,Q 15 (.arith .geq (V 14) (.cst (.int .u8 97))),M 16 15,QG (some 17) (.mov (V 4)) 16 true,QG (some 18) (.arith .leq (V 17) (.cst (.int .u8 122))) 16 true,Q 19 (.pick (V 16) (V 18) ff'),M 13 19]
@[simp] theorem label_Name_r6_go : type_of% (ops_go label_Name_r6.eq_1 T K fr S) := ops_go label_Name_r6.eq_1 T K fr S
def label_Name_r7 : List POper := [M 20 4,Q 21 (.arith .geq (V 20) (.cst (.int .u8 65))),M 22 21,QG (some 23) (.mov (V 4)) 22 true,QG (some 24) (.arith .leq (V 23) (.cst (.int .u8 90))) 22 true,Q 25 (.pick (V 22) (V 24) ff'),M 13 25]
@[simp] theorem label_Name_r7_go : type_of% (ops_go label_Name_r7.eq_1 T K fr S) := ops_go label_Name_r7.eq_1 T K fr S
def label_Name_r8 : List POper := [M 26 4,Q 27 (.arith .eql (V 26) (.cst (.int .u8 95))),M 13 27]
@[simp] theorem label_Name_r8_go : type_of% (ops_go label_Name_r8.eq_1 T K fr S) := ops_go label_Name_r8.eq_1 T K fr S
def label_Name_r9 : List POper := [M 29 3,Q 30 (.arith .gtr (V 29) (I 0)),M 31 30,QG (some 32) (.mov (V 4)) 31 true,QG (some 33) (.arith .geq (V 32) (.cst (.int .u8 48))) 31 true,Q 34 (.pick (V 31) (V 33) ff'),M 35 34,QG (some 36) (.mov (V 4)) 35 true,QG (some 37) (.arith .leq (V 36) (.cst (.int .u8 57))) 35 true,Q 38 (.pick (V 35) (V 37) ff'),M 28 38]
@[simp] theorem label_Name_r9_go : type_of% (ops_go label_Name_r9.eq_1 T K fr S) := ops_go label_Name_r9.eq_1 T K fr S
def label_Name_r5 : List POper := [Q 2 (.mov ff')]
@[simp] theorem label_Name_r5_go : type_of% (ops_go label_Name_r5.eq_1 T K fr S) := ops_go label_Name_r5.eq_1 T K fr S
def label_Name_r10 : List POper := [Q 39 (.arith .add (V 7) (I 1)),M 7 39]
@[simp] theorem label_Name_r10_go : type_of% (ops_go label_Name_r10.eq_1 T K fr S) := ops_go label_Name_r10.eq_1 T K fr S
def label_Name_l0 : PCode :=
  (.seq (.region label_Name_r2) (.seq (.cond (V 8) .skip (.exit 0)) (.seq (.block 1 (.seq (.clr [(9, 10)] (.region label_Name_r3)) (.seq (.clr [(10, 13)] (.region label_Name_r4)) (.block 2 (.seq (.seq (.clr [(14, 20)] (.region label_Name_r6)) (.cond (V 13) .skip (.seq (.clr [(20, 26)] (.region label_Name_r7)) (.cond (V 13) .skip (.clr [(26, 28)] (.region label_Name_r8)))))) (.cond (V 13) .skip (.seq (.clr [(29, 39)] (.region label_Name_r9)) (.cond (V 28) .skip (.seq (.region label_Name_r5) .ret))))))))) (.clr [(39, 40)] (.region label_Name_r10)))))
@[simp] theorem label_Name_l0_go : type_of% (code_go label_Name_l0.eq_1 T K fr S) := code_go label_Name_l0.eq_1 T K fr S
def label_Name_r11 : List POper := [M 40 0,Q 41 (.arith .neq (V 40) (.cst (.str []))),M 42 41,QG (some 43) (.mov (V 0)) 42 true,QG (some 44) (.len true (V 43)) 42 true,QG (some 45) (.arith .leq (V 44) (I 32)) 42 true,Q 46 (.pick (V 42) (V 45) ff'),M 2 46]
@[simp] theorem label_Name_r11_go : type_of% (ops_go label_Name_r11.eq_1 T K fr S) := ops_go label_Name_r11.eq_1 T K fr S
def label_Name : PCodeFn :=
  ⟨1, [.tmp 2],
  (.seq (.region label_Name_r0) (.seq (.seq (.clr [(5, 6)] (.region label_Name_r1)) (.block 0 (.loop label_Name_l0))) (.seq (.clr [(40, 47)] (.region label_Name_r11)) .ret))), false⟩

def chunk_Check_r0 : List POper := [Q 2 (.mov (I 0))]
@[simp] theorem chunk_Check_r0_go : type_of% (ops_go chunk_Check_r0.eq_1 T K fr S) := ops_go chunk_Check_r0.eq_1 T K fr S
def chunk_Check_r1 : List POper := [M 5 0,Q 6 (.len false (V 5)),Q 7 (.arith .eql (V 6) (I 0)),M 8 7,QG (some 9) (.mov (V 0)) 8 false,QG (some 10) (.len false (V 9)) 8 false,QG (some 11) (.arith .gtr (V 10) (I 120)) 8 false,Q 12 (.pick (V 8) tt' (V 11))]
@[simp] theorem chunk_Check_r1_go : type_of% (ops_go chunk_Check_r1.eq_1 T K fr S) := ops_go chunk_Check_r1.eq_1 T K fr S
def chunk_Check_r2 : List POper := [Q 2 (.mov (I 2))]
@[simp] theorem chunk_Check_r2_go : type_of% (ops_go chunk_Check_r2.eq_1 T K fr S) := ops_go chunk_Check_r2.eq_1 T K fr S
def chunk_Check_r3 : List POper := [M 13 0,Q 14 (.len false (V 13)),Q 15 (.mov (I 0))]
@[simp] theorem chunk_Check_r3_go : type_of% (ops_go chunk_Check_r3.eq_1 T K fr S) := ops_go chunk_Check_r3.eq_1 T K fr S
def chunk_Check_r4 : List POper := [Q 16 (.arith .lss (V 15) (V 14))]
@[simp] theorem chunk_Check_r4_go : type_of% (ops_go chunk_Check_r4.eq_1 T K fr S) := ops_go chunk_Check_r4.eq_1 T K fr S
def chunk_Check_r5 : List POper := [M 17 15,Q 18 (.iaddr 2 (V 13) (V 15)),Q 19 (.load true 2 false (V 18)),Q 4 (.alloc false [(.int .i64 0), (.int .i64 0)]),M 3 17,QN (.store 2 (V 4) (V 19))]
@[simp] theorem chunk_Check_r5_go : type_of% (ops_go chunk_Check_r5.eq_1 T K fr S) := ops_go chunk_Check_r5.eq_1 T K fr S
def chunk_Check_r6 : List POper := [Q 21 (.load true 2 false (V 4)),Q 22 (.call .std 260 [(V 21)]),Q 23 (.un .not (V 22)),M 20 23]
@[simp] theorem chunk_Check_r6_go : type_of% (ops_go chunk_Check_r6.eq_1 T K fr S) := ops_go chunk_Check_r6.eq_1 T K fr S
def chunk_Check_r7 : List POper := [Q 2 (.mov (I 11))]
@[simp] theorem chunk_Check_r7_go : type_of% (ops_go chunk_Check_r7.eq_1 T K fr S) := ops_go chunk_Check_r7.eq_1 T K fr S
def chunk_Check_r8 : List POper := [M 25 3,Q 26 (.arith .gtr (V 25) (I 0)),M 27 26,QG (some 28) (.faddr 0 (V 4)) 27 true,QG (some 29) (.load false 1 false (V 28)) 27 true,QG (some 30) (.mov (V 0)) 27 true,QG (some 31) (.mov (V 3)) 27 true,QG (some 32) (.arith .sub (V 31) (I 1)) 27 true,QG (some 33) (.iaddr 2 (V 30) (V 32)) 27 true,QG (some 34) (.faddr 0 (V 33)) 27 true,QG (some 35) (.load false 1 true (V 34)) 27 true,QG (some 36) (.arith .leq (V 29) (V 35)) 27 true,Q 37 (.pick (V 27) (V 36) ff'),M 24 37]
@[simp] theorem chunk_Check_r8_go : type_of% (ops_go chunk_Check_r8.eq_1 T K fr S) := ops_go chunk_Check_r8.eq_1 T K fr S
def chunk_Check_r9 : List POper := [Q 2 (.mov (I 13))]
@[simp] theorem chunk_Check_r9_go : type_of% (ops_go chunk_Check_r9.eq_1 T K fr S) := ops_go chunk_Check_r9.eq_1 T K fr S
def chunk_Check_r10 : List POper := [Q 38 (.arith .add (V 15) (I 1)),M 15 38]
@[simp] theorem chunk_Check_r10_go : type_of% (ops_go chunk_Check_r10.eq_1 T K fr S) := ops_go chunk_Check_r10.eq_1 T K fr S
def chunk_Check_l0 : PCode :=
  (.seq (.region chunk_Check_r4) (.seq (.cond (V 16) .skip (.exit 0)) (.seq (.block 1 (.seq (.clr [(17, 20)] (.region chunk_Check_r5)) (.block 2 (.seq (.clr [(21, 24)] (.region chunk_Check_r6)) (.cond (V 20) (.seq (.region chunk_Check_r7) .ret) (.seq (.clr [(25, 38)] (.region chunk_Check_r8)) (.cond (V 24) (.seq (.region chunk_Check_r9) .ret) .skip))))))) (.clr [(38, 39)] (.region chunk_Check_r10)))))
@[simp] theorem chunk_Check_l0_go : type_of% (code_go chunk_Check_l0.eq_1 T K fr S) := code_go chunk_Check_l0.eq_1 T K fr S
def chunk_Check_r11 : List POper := [Q 2 (.mov (I 0))]
@[simp] theorem chunk_Check_r11_go : type_of% (ops_go chunk_Check_r11.eq_1 T K fr S) := ops_go chunk_Check_r11.eq_1 T K fr S
def chunk_Check : PCodeFn :=
  ⟨1, [.tmp 2],
  (.seq (.region chunk_Check_r0) (.seq (.seq (.clr [(5, 12)] (.region chunk_Check_r1)) (.cond (V 12) (.seq (.region chunk_Check_r2) .ret) .skip)) (.seq (.seq (.region chunk_Check_r3) (.block 0 (.loop chunk_Check_l0))) (.seq (.region chunk_Check_r11) .ret)))), false⟩

def posting_Check_r0 : List POper := [Q 2 (.mov (I 0))]
@[simp] theorem posting_Check_r0_go : type_of% (ops_go posting_Check_r0.eq_1 T K fr S) := ops_go posting_Check_r0.eq_1 T K fr S
def posting_Check_r1 : List POper := [M 5 0,Q 6 (.len false (V 5)),Q 7 (.arith .gtr (V 6) (I 1024))]
@[simp] theorem posting_Check_r1_go : type_of% (ops_go posting_Check_r1.eq_1 T K fr S) := ops_go posting_Check_r1.eq_1 T K fr S
def posting_Check_r2 : List POper := [Q 2 (.mov (I 3))]
@[simp] theorem posting_Check_r2_go : type_of% (ops_go posting_Check_r2.eq_1 T K fr S) := ops_go posting_Check_r2.eq_1 T K fr S
def posting_Check_r3 : List POper := [M 8 0,Q 9 (.len false (V 8)),Q 10 (.mov (I 0))]
@[simp] theorem posting_Check_r3_go : type_of% (ops_go posting_Check_r3.eq_1 T K fr S) := ops_go posting_Check_r3.eq_1 T K fr S
def posting_Check_r4 : List POper := [Q 11 (.arith .lss (V 10) (V 9))]
@[simp] theorem posting_Check_r4_go : type_of% (ops_go posting_Check_r4.eq_1 T K fr S) := ops_go posting_Check_r4.eq_1 T K fr S
def posting_Check_r5 : List POper := [M 12 10,Q 13 (.iaddr 1 (V 8) (V 10)),LD 14 13,M 3 12,M 4 14]
@[simp] theorem posting_Check_r5_go : type_of% (ops_go posting_Check_r5.eq_1 T K fr S) := ops_go posting_Check_r5.eq_1 T K fr S
def posting_Check_r6 : List POper := [M 16 4,Q 17 (.arith .lss (V 16) (I 0)),M 18 17,QG (some 19) (.mov (V 4)) 18 false,QG (some 20) (.arith .gtr (V 19) (I 1099511627776)) 18 false,Q 21 (.pick (V 18) tt' (V 20)),M 15 21]
@[simp] theorem posting_Check_r6_go : type_of% (ops_go posting_Check_r6.eq_1 T K fr S) := ops_go posting_Check_r6.eq_1 T K fr S
def posting_Check_r7 : List POper := [Q 2 (.mov (I 2))]
@[simp] theorem posting_Check_r7_go : type_of% (ops_go posting_Check_r7.eq_1 T K fr S) := ops_go posting_Check_r7.eq_1 T K fr S
def posting_Check_r8 : List POper := [M 23 3,Q 24 (.arith .gtr (V 23) (I 0)),M 25 24,QG (some 26) (.mov (V 4)) 25 true,QG (some 27) (.mov (V 0)) 25 true,QG (some 28) (.mov (V 3)) 25 true,QG (some 29) (.arith .sub (V 28) (I 1)) 25 true,QG (some 30) (.iaddr 1 (V 27) (V 29)) 25 true,QG (some 31) (.load false 1 false (V 30)) 25 true,QG (some 32) (.arith .leq (V 26) (V 31)) 25 true,Q 33 (.pick (V 25) (V 32) ff'),M 22 33]
@[simp] theorem posting_Check_r8_go : type_of% (ops_go posting_Check_r8.eq_1 T K fr S) := ops_go posting_Check_r8.eq_1 T K fr S
def posting_Check_r9 : List POper := [Q 2 (.mov (I 13))]
@[simp] theorem posting_Check_r9_go : type_of% (ops_go posting_Check_r9.eq_1 T K fr S) := ops_go posting_Check_r9.eq_1 T K fr S
def posting_Check_r10 : List POper := [Q 34 (.arith .add (V 10) (I 1)),M 10 34]
@[simp] theorem posting_Check_r10_go : type_of% (ops_go posting_Check_r10.eq_1 T K fr S) := ops_go posting_Check_r10.eq_1 T K fr S
def posting_Check_l0 : PCode :=
  (.seq (.region posting_Check_r4) (.seq (.cond (V 11) .skip (.exit 0)) (.seq (.block 1 (.seq (.clr [(12, 15)] (.region posting_Check_r5)) (.block 2 (.seq (.clr [(16, 22)] (.region posting_Check_r6)) (.cond (V 15) (.seq (.region posting_Check_r7) .ret) (.seq (.clr [(23, 34)] (.region posting_Check_r8)) (.cond (V 22) (.seq (.region posting_Check_r9) .ret) .skip))))))) (.clr [(34, 35)] (.region posting_Check_r10)))))
@[simp] theorem posting_Check_l0_go : type_of% (code_go posting_Check_l0.eq_1 T K fr S) := code_go posting_Check_l0.eq_1 T K fr S
def posting_Check_r11 : List POper := [Q 2 (.mov (I 0))]
@[simp] theorem posting_Check_r11_go : type_of% (ops_go posting_Check_r11.eq_1 T K fr S) := ops_go posting_Check_r11.eq_1 T K fr S
def posting_Check : PCodeFn :=
  ⟨1, [.tmp 2],
  (.seq (.region posting_Check_r0) (.seq (.seq (.clr [(5, 7)] (.region posting_Check_r1)) (.cond (V 7) (.seq (.region posting_Check_r2) .ret) .skip)) (.seq (.seq (.region posting_Check_r3) (.block 0 (.loop posting_Check_l0))) (.seq (.region posting_Check_r11) .ret)))), false⟩

def slices_IndexFunc_Sample_r0 : List POper := [Q 4 (.mov (I 0))]
@[simp] theorem slices_IndexFunc_Sample_r0_go : type_of% (ops_go slices_IndexFunc_Sample_r0.eq_1 T K fr S) := ops_go slices_IndexFunc_Sample_r0.eq_1 T K fr S
def slices_IndexFunc_Sample_r1 : List POper := [M 6 0,Q 7 (.len false (V 6)),Q 8 (.mov (I 0))]
@[simp] theorem slices_IndexFunc_Sample_r1_go : type_of% (ops_go slices_IndexFunc_Sample_r1.eq_1 T K fr S) := ops_go slices_IndexFunc_Sample_r1.eq_1 T K fr S
def slices_IndexFunc_Sample_r2 : List POper := [Q 9 (.arith .lss (V 8) (V 7))]
@[simp] theorem slices_IndexFunc_Sample_r2_go : type_of% (ops_go slices_IndexFunc_Sample_r2.eq_1 T K fr S) := ops_go slices_IndexFunc_Sample_r2.eq_1 T K fr S
def slices_IndexFunc_Sample_r3 : List POper := [M 10 8,M 5 10]
@[simp] theorem slices_IndexFunc_Sample_r3_go : type_of% (ops_go slices_IndexFunc_Sample_r3.eq_1 T K fr S) := ops_go slices_IndexFunc_Sample_r3.eq_1 T K fr S
def slices_IndexFunc_Sample_r4 : List POper := [M 11 1,M 12 0,M 13 5,Q 14 (.iaddr 2 (V 12) (V 13)),Q 15 (.load true 2 false (V 14)),Q 16 (.callv .std (V 11) [(V 15)])]
@[simp] theorem slices_IndexFunc_Sample_r4_go : type_of% (ops_go slices_IndexFunc_Sample_r4.eq_1 T K fr S) := ops_go slices_IndexFunc_Sample_r4.eq_1 T K fr S
def slices_IndexFunc_Sample_r5 : List POper := [M 17 5,M 4 17]
@[simp] theorem slices_IndexFunc_Sample_r5_go : type_of% (ops_go slices_IndexFunc_Sample_r5.eq_1 T K fr S) := ops_go slices_IndexFunc_Sample_r5.eq_1 T K fr S
def slices_IndexFunc_Sample_r6 : List POper := [Q 18 (.arith .add (V 8) (I 1)),M 8 18]
@[simp] theorem slices_IndexFunc_Sample_r6_go : type_of% (ops_go slices_IndexFunc_Sample_r6.eq_1 T K fr S) := ops_go slices_IndexFunc_Sample_r6.eq_1 T K fr S
def slices_IndexFunc_Sample_l0 : PCode :=
  (.seq (.region slices_IndexFunc_Sample_r2) (.seq (.cond (V 9) .skip (.exit 0)) (.seq (.block 1 (.seq (.clr [(10, 11)] (.region slices_IndexFunc_Sample_r3)) (.seq (.clr [(11, 16)] (.region slices_IndexFunc_Sample_r4)) (.cond (V 16) (.seq (.clr [(17, 18)] (.region slices_IndexFunc_Sample_r5)) .ret) .skip)))) (.clr [(18, 19)] (.region slices_IndexFunc_Sample_r6)))))
@[simp] theorem slices_IndexFunc_Sample_l0_go : type_of% (code_go slices_IndexFunc_Sample_l0.eq_1 T K fr S) := code_go slices_IndexFunc_Sample_l0.eq_1 T K fr S
def slices_IndexFunc_Sample_r7 : List POper := [Q 4 (.mov (I (-1)))]
@[simp] theorem slices_IndexFunc_Sample_r7_go : type_of% (ops_go slices_IndexFunc_Sample_r7.eq_1 T K fr S) := ops_go slices_IndexFunc_Sample_r7.eq_1 T K fr S
def slices_IndexFunc_Sample : PCodeFn :=
  ⟨2, [.tmp 4],
  (.seq (.region slices_IndexFunc_Sample_r0) (.seq (.seq (.clr [(6, 7)] (.region slices_IndexFunc_Sample_r1)) (.block 0 (.loop slices_IndexFunc_Sample_l0))) (.seq (.region slices_IndexFunc_Sample_r7) .ret))), false⟩

def ref06_text_r0 : List POper := [Q 4 (.mov (I 0))]
@[simp] theorem ref06_text_r0_go : type_of% (ops_go ref06_text_r0.eq_1 T K fr S) := ops_go ref06_text_r0.eq_1 T K fr S
def ref06_text_r1 : List POper := [M 5 0,M 6 1,Q 7 (.arith .lss (V 5) (V 6))]
@[simp] theorem ref06_text_r1_go : type_of% (ops_go ref06_text_r1.eq_1 T K fr S) := ops_go ref06_text_r1.eq_1 T K fr S
def ref06_text_r2 : List POper := [Q 4 (.mov (I (-1)))]
@[simp] theorem ref06_text_r2_go : type_of% (ops_go ref06_text_r2.eq_1 T K fr S) := ops_go ref06_text_r2.eq_1 T K fr S
def ref06_text_r3 : List POper := [M 8 0,M 9 1,Q 10 (.arith .gtr (V 8) (V 9))]
@[simp] theorem ref06_text_r3_go : type_of% (ops_go ref06_text_r3.eq_1 T K fr S) := ops_go ref06_text_r3.eq_1 T K fr S
def ref06_text_r4 : List POper := [Q 4 (.mov (I 1))]
@[simp] theorem ref06_text_r4_go : type_of% (ops_go ref06_text_r4.eq_1 T K fr S) := ops_go ref06_text_r4.eq_1 T K fr S
def ref06_text_r5 : List POper := [Q 4 (.mov (I 0))]
@[simp] theorem ref06_text_r5_go : type_of% (ops_go ref06_text_r5.eq_1 T K fr S) := ops_go ref06_text_r5.eq_1 T K fr S
def ref06_text : PCodeFn :=
  ⟨2, [.tmp 4],
  (.seq (.region ref06_text_r0) (.seq (.seq (.clr [(5, 7)] (.region ref06_text_r1)) (.cond (V 7) (.seq (.region ref06_text_r2) .ret) .skip)) (.seq (.seq (.clr [(8, 10)] (.region ref06_text_r3)) (.cond (V 10) (.seq (.region ref06_text_r4) .ret) .skip)) (.seq (.region ref06_text_r5) .ret)))), false⟩

def slices_insertionSortCmpFunc_Series_r0 : List POper := [M 10 1,Q 11 (.arith .add (V 10) (I 1)),M 8 11]
@[simp] theorem slices_insertionSortCmpFunc_Series_r0_go : type_of% (ops_go slices_insertionSortCmpFunc_Series_r0.eq_1 T K fr S) := ops_go slices_insertionSortCmpFunc_Series_r0.eq_1 T K fr S
def slices_insertionSortCmpFunc_Series_r1 : List POper := [M 12 8,M 13 2,Q 14 (.arith .lss (V 12) (V 13))]
@[simp] theorem slices_insertionSortCmpFunc_Series_r1_go : type_of% (ops_go slices_insertionSortCmpFunc_Series_r1.eq_1 T K fr S) := ops_go slices_insertionSortCmpFunc_Series_r1.eq_1 T K fr S
def slices_insertionSortCmpFunc_Series_r3 : List POper := [M 17 8,M 9 17]
@[simp] theorem slices_insertionSortCmpFunc_Series_r3_go : type_of% (ops_go slices_insertionSortCmpFunc_Series_r3.eq_1 T K fr S) := ops_go slices_insertionSortCmpFunc_Series_r3.eq_1 T K fr S
def slices_insertionSortCmpFunc_Series_r4 : List POper := [M 18 9,M 19 1,Q 20 (.arith .gtr (V 18) (V 19)),M 21 20,QG (some 22) (.mov (V 3)) 21 true,QG (some 23) (.mov (V 0)) 21 true,QG (some 24) (.mov (V 9)) 21 true,QG (some 25) (.iaddr 2 (V 23) (V 24)) 21 true,QG (some 26) (.load true 2 true (V 25)) 21 true,QG (some 27) (.mov (V 0)) 21 true,QG (some 28) (.mov (V 9)) 21 true,QG (some 29) (.arith .sub (V 28) (I 1)) 21 true,QG (some 30) (.iaddr 2 (V 27) (V 29)) 21 true,QG (some 31) (.load true 2 true (V 30)) 21 true,QG (some 32) (.callv .std (V 22) [(V 26), (V 31)]) 21 true,QG (some 33) (.arith .lss (V 32) (I 0)) 21 true,Q 34 (.pick (V 21) (V 33) ff')]
@[simp] theorem slices_insertionSortCmpFunc_Series_r4_go : type_of% (ops_go slices_insertionSortCmpFunc_Series_r4.eq_1 T K fr S) := ops_go slices_insertionSortCmpFunc_Series_r4.eq_1 T K fr S
def slices_insertionSortCmpFunc_Series_r6 : List POper := [M 37 0,M 38 9,M 39 0,M 40 9,Q 41 (.arith .sub (V 40) (I 1)),M 42 0,M 43 9,Q 44 (.arith .sub (V 43) (I 1)),Q 45 (.iaddr 2 (V 42) (V 44)),Q 46 (.load true 2 true (V 45)),M 47 0,M 48 9,Q 49 (.iaddr 2 (V 47) (V 48)),Q 50 (.load true 2 true (V 49)),Q 51 (.iaddr 2 (V 37) (V 38)),QN (.store 2 (V 51) (V 46)),Q 52 (.iaddr 2 (V 39) (V 41)),QN (.store 2 (V 52) (V 50))]
@[simp] theorem slices_insertionSortCmpFunc_Series_r6_go : type_of% (ops_go slices_insertionSortCmpFunc_Series_r6.eq_1 T K fr S) := ops_go slices_insertionSortCmpFunc_Series_r6.eq_1 T K fr S
def slices_insertionSortCmpFunc_Series_r5 : List POper := [M 35 9,Q 36 (.arith .sub (V 35) (I 1)),M 9 36]
@[simp] theorem slices_insertionSortCmpFunc_Series_r5_go : type_of% (ops_go slices_insertionSortCmpFunc_Series_r5.eq_1 T K fr S) := ops_go slices_insertionSortCmpFunc_Series_r5.eq_1 T K fr S
def slices_insertionSortCmpFunc_Series_l1 : PCode :=
  (.seq (.seq (.clr [(18, 34)] (.region slices_insertionSortCmpFunc_Series_r4)) (.cond (V 34) .skip (.exit 2))) (.seq (.block 3 (.clr [(37, 53)] (.region slices_insertionSortCmpFunc_Series_r6))) (.clr [(35, 37)] (.region slices_insertionSortCmpFunc_Series_r5))))
@[simp] theorem slices_insertionSortCmpFunc_Series_l1_go : type_of% (code_go slices_insertionSortCmpFunc_Series_l1.eq_1 T K fr S) := code_go slices_insertionSortCmpFunc_Series_l1.eq_1 T K fr S
def slices_insertionSortCmpFunc_Series_r2 : List POper := [M 15 8,Q 16 (.arith .add (V 15) (I 1)),M 8 16]
@[simp] theorem slices_insertionSortCmpFunc_Series_r2_go : type_of% (ops_go slices_insertionSortCmpFunc_Series_r2.eq_1 T K fr S) := ops_go slices_insertionSortCmpFunc_Series_r2.eq_1 T K fr S
def slices_insertionSortCmpFunc_Series_l0 : PCode :=
  (.seq (.seq (.clr [(12, 14)] (.region slices_insertionSortCmpFunc_Series_r1)) (.cond (V 14) .skip (.exit 0))) (.seq (.block 1 (.seq (.clr [(17, 18)] (.region slices_insertionSortCmpFunc_Series_r3)) (.block 2 (.loop slices_insertionSortCmpFunc_Series_l1)))) (.clr [(15, 17)] (.region slices_insertionSortCmpFunc_Series_r2))))
@[simp] theorem slices_insertionSortCmpFunc_Series_l0_go : type_of% (code_go slices_insertionSortCmpFunc_Series_l0.eq_1 T K fr S) := code_go slices_insertionSortCmpFunc_Series_l0.eq_1 T K fr S
def slices_insertionSortCmpFunc_Series : PCodeFn :=
  ⟨4, [],
  (.seq (.clr [(10, 12)] (.region slices_insertionSortCmpFunc_Series_r0)) (.block 0 (.loop slices_insertionSortCmpFunc_Series_l0))), false⟩

def slices_heapSortCmpFunc_Series_r0 : List POper := [M 13 1,M 8 13]
@[simp] theorem slices_heapSortCmpFunc_Series_r0_go : type_of% (ops_go slices_heapSortCmpFunc_Series_r0.eq_1 T K fr S) := ops_go slices_heapSortCmpFunc_Series_r0.eq_1 T K fr S
def slices_heapSortCmpFunc_Series_r1 : List POper := [Q 9 (.mov (I 0))]
@[simp] theorem slices_heapSortCmpFunc_Series_r1_go : type_of% (ops_go slices_heapSortCmpFunc_Series_r1.eq_1 T K fr S) := ops_go slices_heapSortCmpFunc_Series_r1.eq_1 T K fr S
def slices_heapSortCmpFunc_Series_r2 : List POper := [M 14 2,M 15 1,Q 16 (.arith .sub (V 14) (V 15)),M 10 16]
@[simp] theorem slices_heapSortCmpFunc_Series_r2_go : type_of% (ops_go slices_heapSortCmpFunc_Series_r2.eq_1 T K fr S) := ops_go slices_heapSortCmpFunc_Series_r2.eq_1 T K fr S
def slices_heapSortCmpFunc_Series_r3 : List POper := [M 17 10,Q 18 (.arith .sub (V 17) (I 1)),Q 19 (.arith .quo (V 18) (I 2)),M 11 19]
@[simp] theorem slices_heapSortCmpFunc_Series_r3_go : type_of% (ops_go slices_heapSortCmpFunc_Series_r3.eq_1 T K fr S) := ops_go slices_heapSortCmpFunc_Series_r3.eq_1 T K fr S
def slices_heapSortCmpFunc_Series_r4 : List POper := [M 20 11,Q 21 (.arith .geq (V 20) (I 0))]
@[simp] theorem slices_heapSortCmpFunc_Series_r4_go : type_of% (ops_go slices_heapSortCmpFunc_Series_r4.eq_1 T K fr S) := ops_go slices_heapSortCmpFunc_Series_r4.eq_1 T K fr S
def slices_heapSortCmpFunc_Series_r6 : List POper := [M 24 0,M 25 11,M 26 10,M 27 8,M 28 3,Q 29 (.call .std 407 [(V 24), (V 25), (V 26), (V 27), (V 28)])]
@[simp] theorem slices_heapSortCmpFunc_Series_r6_go : type_of% (ops_go slices_heapSortCmpFunc_Series_r6.eq_1 T K fr S) := ops_go slices_heapSortCmpFunc_Series_r6.eq_1 T K fr S
def slices_heapSortCmpFunc_Series_r5 : List POper := [M 22 11,Q 23 (.arith .sub (V 22) (I 1)),M 11 23]
@[simp] theorem slices_heapSortCmpFunc_Series_r5_go : type_of% (ops_go slices_heapSortCmpFunc_Series_r5.eq_1 T K fr S) := ops_go slices_heapSortCmpFunc_Series_r5.eq_1 T K fr S
def slices_heapSortCmpFunc_Series_l0 : PCode :=
  (.seq (.seq (.clr [(20, 21)] (.region slices_heapSortCmpFunc_Series_r4)) (.cond (V 21) .skip (.exit 0))) (.seq (.block 1 (.clr [(24, 30)] (.region slices_heapSortCmpFunc_Series_r6))) (.clr [(22, 24)] (.region slices_heapSortCmpFunc_Series_r5))))
@[simp] theorem slices_heapSortCmpFunc_Series_l0_go : type_of% (code_go slices_heapSortCmpFunc_Series_l0.eq_1 T K fr S) := code_go slices_heapSortCmpFunc_Series_l0.eq_1 T K fr S
def slices_heapSortCmpFunc_Series_r7 : List POper := [M 30 10,Q 31 (.arith .sub (V 30) (I 1)),M 12 31]
@[simp] theorem slices_heapSortCmpFunc_Series_r7_go : type_of% (ops_go slices_heapSortCmpFunc_Series_r7.eq_1 T K fr S) := ops_go slices_heapSortCmpFunc_Series_r7.eq_1 T K fr S
def slices_heapSortCmpFunc_Series_r8 : List POper := [M 32 12,Q 33 (.arith .geq (V 32) (I 0))]
@[simp] theorem slices_heapSortCmpFunc_Series_r8_go : type_of% (ops_go slices_heapSortCmpFunc_Series_r8.eq_1 T K fr S) := ops_go slices_heapSortCmpFunc_Series_r8.eq_1 T K fr S
def slices_heapSortCmpFunc_Series_r10 : List POper := [M 36 0,M 37 8,M 38 0,M 39 8,M 40 12,Q 41 (.arith .add (V 39) (V 40)),M 42 0,M 43 8,M 44 12,Q 45 (.arith .add (V 43) (V 44)),Q 46 (.iaddr 2 (V 42) (V 45)),Q 47 (.load true 2 true (V 46)),M 48 0,M 49 8,Q 50 (.iaddr 2 (V 48) (V 49)),Q 51 (.load true 2 true (V 50)),Q 52 (.iaddr 2 (V 36) (V 37)),QN (.store 2 (V 52) (V 47)),Q 53 (.iaddr 2 (V 38) (V 41)),QN (.store 2 (V 53) (V 51))]
@[simp] theorem slices_heapSortCmpFunc_Series_r10_go : type_of% (ops_go slices_heapSortCmpFunc_Series_r10.eq_1 T K fr S) := ops_go slices_heapSortCmpFunc_Series_r10.eq_1 T K fr S
def slices_heapSortCmpFunc_Series_r11 : List POper := [M 54 0,M 55 9,M 56 12,M 57 8,M 58 3,Q 59 (.call .std 407 [(V 54), (V 55), (V 56), (V 57), (V 58)])]
@[simp] theorem slices_heapSortCmpFunc_Series_r11_go : type_of% (ops_go slices_heapSortCmpFunc_Series_r11.eq_1 T K fr S) := ops_go slices_heapSortCmpFunc_Series_r11.eq_1 T K fr S
def slices_heapSortCmpFunc_Series_r9 : List POper := [M 34 12,Q 35 (.arith .sub (V 34) (I 1)),M 12 35]
@[simp] theorem slices_heapSortCmpFunc_Series_r9_go : type_of% (ops_go slices_heapSortCmpFunc_Series_r9.eq_1 T K fr S) := ops_go slices_heapSortCmpFunc_Series_r9.eq_1 T K fr S
def slices_heapSortCmpFunc_Series_l1 : PCode :=
  (.seq (.seq (.clr [(32, 33)] (.region slices_heapSortCmpFunc_Series_r8)) (.cond (V 33) .skip (.exit 2))) (.seq (.block 3 (.seq (.clr [(36, 54)] (.region slices_heapSortCmpFunc_Series_r10)) (.clr [(54, 60)] (.region slices_heapSortCmpFunc_Series_r11)))) (.clr [(34, 36)] (.region slices_heapSortCmpFunc_Series_r9))))
@[simp] theorem slices_heapSortCmpFunc_Series_l1_go : type_of% (code_go slices_heapSortCmpFunc_Series_l1.eq_1 T K fr S) := code_go slices_heapSortCmpFunc_Series_l1.eq_1 T K fr S
def slices_heapSortCmpFunc_Series : PCodeFn :=
  ⟨4, [],
  (.seq (.clr [(13, 14)] (.region slices_heapSortCmpFunc_Series_r0)) (.seq (.region slices_heapSortCmpFunc_Series_r1) (.seq (.clr [(14, 17)] (.region slices_heapSortCmpFunc_Series_r2)) (.seq (.seq (.clr [(17, 20)] (.region slices_heapSortCmpFunc_Series_r3)) (.block 0 (.loop slices_heapSortCmpFunc_Series_l0))) (.seq (.clr [(30, 32)] (.region slices_heapSortCmpFunc_Series_r7)) (.block 2 (.loop slices_heapSortCmpFunc_Series_l1))))))), false⟩

def slices_breakPatternsCmpFunc_Series_r0 : List POper := [M 13 2,M 14 1,Q 15 (.arith .sub (V 13) (V 14)),M 8 15]
@[simp] theorem slices_breakPatternsCmpFunc_Series_r0_go : type_of% (ops_go slices_breakPatternsCmpFunc_Series_r0.eq_1 T K fr S) := ops_go slices_breakPatternsCmpFunc_Series_r0.eq_1 T K fr S
def slices_breakPatternsCmpFunc_Series_r1 : List POper := [M 16 8,Q 17 (.arith .geq (V 16) (I 8))]
@[simp] theorem slices_breakPatternsCmpFunc_Series_r1_go : type_of% (ops_go slices_breakPatternsCmpFunc_Series_r1.eq_1 T K fr S) := ops_go slices_breakPatternsCmpFunc_Series_r1.eq_1 T K fr S
def slices_breakPatternsCmpFunc_Series_r2 : List POper := [M 18 8,Q 19 (.toInt .u64 (V 18)),Q 9 (.alloc false [(.int .u64 0)]),QN (.store 1 (V 9) (V 19))]
@[simp] theorem slices_breakPatternsCmpFunc_Series_r2_go : type_of% (ops_go slices_breakPatternsCmpFunc_Series_r2.eq_1 T K fr S) := ops_go slices_breakPatternsCmpFunc_Series_r2.eq_1 T K fr S
def slices_breakPatternsCmpFunc_Series_r3 : List POper := [M 20 8,Q 21 (.call .pur 395 [(V 20)]),M 10 21]
@[simp] theorem slices_breakPatternsCmpFunc_Series_r3_go : type_of% (ops_go slices_breakPatternsCmpFunc_Series_r3.eq_1 T K fr S) := ops_go slices_breakPatternsCmpFunc_Series_r3.eq_1 T K fr S
def slices_breakPatternsCmpFunc_Series_r4 : List POper := [M 22 1,M 23 8,Q 24 (.arith .quo (V 23) (I 4)),Q 25 (.arith .mul (V 24) (I 2)),Q 26 (.arith .add (V 22) (V 25)),Q 27 (.arith .sub (V 26) (I 1)),M 11 27]
@[simp] theorem slices_breakPatternsCmpFunc_Series_r4_go : type_of% (ops_go slices_breakPatternsCmpFunc_Series_r4.eq_1 T K fr S) := ops_go slices_breakPatternsCmpFunc_Series_r4.eq_1 T K fr S
def slices_breakPatternsCmpFunc_Series_r5 : List POper := [M 28 11,M 29 1,M 30 8,Q 31 (.arith .quo (V 30) (I 4)),Q 32 (.arith .mul (V 31) (I 2)),Q 33 (.arith .add (V 29) (V 32)),Q 34 (.arith .add (V 33) (I 1)),Q 35 (.arith .leq (V 28) (V 34))]
@[simp] theorem slices_breakPatternsCmpFunc_Series_r5_go : type_of% (ops_go slices_breakPatternsCmpFunc_Series_r5.eq_1 T K fr S) := ops_go slices_breakPatternsCmpFunc_Series_r5.eq_1 T K fr S
def slices_breakPatternsCmpFunc_Series_r7 : List POper := [Q 38 (.call .std 396 [(V 9)]),M 39 10,Q 40 (.arith .sub (V 39) (.cst (.int .u64 1))),Q 41 (.arith .and (V 38) (V 40)),Q 42 (.toInt .i64 (V 41)),M 12 42]
@[simp] theorem slices_breakPatternsCmpFunc_Series_r7_go : type_of% (ops_go slices_breakPatternsCmpFunc_Series_r7.eq_1 T K fr S) := ops_go slices_breakPatternsCmpFunc_Series_r7.eq_1 T K fr S
def slices_breakPatternsCmpFunc_Series_r8 : List POper := [M 43 12,M 44 8,Q 45 (.arith .geq (V 43) (V 44))]
@[simp] theorem slices_breakPatternsCmpFunc_Series_r8_go : type_of% (ops_go slices_breakPatternsCmpFunc_Series_r8.eq_1 T K fr S) := ops_go slices_breakPatternsCmpFunc_Series_r8.eq_1 T K fr S
def slices_breakPatternsCmpFunc_Series_r9 : List POper := [M 46 12,M 47 8,Q 48 (.arith .sub (V 46) (V 47)),M 12 48]
@[simp] theorem slices_breakPatternsCmpFunc_Series_r9_go : type_of% (ops_go slices_breakPatternsCmpFunc_Series_r9.eq_1 T K fr S) := ops_go slices_breakPatternsCmpFunc_Series_r9.eq_1 T K fr S
def slices_breakPatternsCmpFunc_Series_r10 : List POper := [M 49 0,M 50 11,M 51 0,M 52 1,M 53 12,Q 54 (.arith .add (V 52) (V 53)),M 55 0,M 56 1,M 57 12,Q 58 (.arith .add (V 56) (V 57)),Q 59 (.iaddr 2 (V 55) (V 58)),Q 60 (.load true 2 true (V 59)),M 61 0,M 62 11,Q 63 (.iaddr 2 (V 61) (V 62)),Q 64 (.load true 2 true (V 63)),Q 65 (.iaddr 2 (V 49) (V 50)),QN (.store 2 (V 65) (V 60)),Q 66 (.iaddr 2 (V 51) (V 54)),QN (.store 2 (V 66) (V 64))]
@[simp] theorem slices_breakPatternsCmpFunc_Series_r10_go : type_of% (ops_go slices_breakPatternsCmpFunc_Series_r10.eq_1 T K fr S) := ops_go slices_breakPatternsCmpFunc_Series_r10.eq_1 T K fr S
def slices_breakPatternsCmpFunc_Series_r6 : List POper := [M 36 11,Q 37 (.arith .add (V 36) (I 1)),M 11 37]
@[simp] theorem slices_breakPatternsCmpFunc_Series_r6_go : type_of% (ops_go slices_breakPatternsCmpFunc_Series_r6.eq_1 T K fr S) := ops_go slices_breakPatternsCmpFunc_Series_r6.eq_1 T K fr S
def slices_breakPatternsCmpFunc_Series_l0 : PCode :=
  (.seq (.seq (.clr [(28, 35)] (.region slices_breakPatternsCmpFunc_Series_r5)) (.cond (V 35) .skip (.exit 0))) (.seq (.block 1 (.seq (.clr [(38, 43)] (.region slices_breakPatternsCmpFunc_Series_r7)) (.seq (.seq (.clr [(43, 45)] (.region slices_breakPatternsCmpFunc_Series_r8)) (.cond (V 45) (.clr [(46, 49)] (.region slices_breakPatternsCmpFunc_Series_r9)) .skip)) (.clr [(49, 67)] (.region slices_breakPatternsCmpFunc_Series_r10))))) (.clr [(36, 38)] (.region slices_breakPatternsCmpFunc_Series_r6))))
@[simp] theorem slices_breakPatternsCmpFunc_Series_l0_go : type_of% (code_go slices_breakPatternsCmpFunc_Series_l0.eq_1 T K fr S) := code_go slices_breakPatternsCmpFunc_Series_l0.eq_1 T K fr S
def slices_breakPatternsCmpFunc_Series : PCodeFn :=
  ⟨4, [],
  (.seq (.clr [(13, 16)] (.region slices_breakPatternsCmpFunc_Series_r0)) (.seq (.clr [(16, 17)] (.region slices_breakPatternsCmpFunc_Series_r1)) (.cond (V 17) (.seq (.clr [(18, 20)] (.region slices_breakPatternsCmpFunc_Series_r2)) (.seq (.clr [(20, 22)] (.region slices_breakPatternsCmpFunc_Series_r3)) (.seq (.clr [(22, 28)] (.region slices_breakPatternsCmpFunc_Series_r4)) (.block 0 (.loop slices_breakPatternsCmpFunc_Series_l0))))) .skip))), false⟩

def slices_choosePivotCmpFunc_Series_r0 : List POper := [Q 8 (.mov (I 0)),Q 9 (.mov (I 0))]
@[simp] theorem slices_choosePivotCmpFunc_Series_r0_go : type_of% (ops_go slices_choosePivotCmpFunc_Series_r0.eq_1 T K fr S) := ops_go slices_choosePivotCmpFunc_Series_r0.eq_1 T K fr S
def slices_choosePivotCmpFunc_Series_r1 : List POper := [M 15 2,M 16 1,Q 17 (.arith .sub (V 15) (V 16)),M 10 17]
@[simp] theorem slices_choosePivotCmpFunc_Series_r1_go : type_of% (ops_go slices_choosePivotCmpFunc_Series_r1.eq_1 T K fr S) := ops_go slices_choosePivotCmpFunc_Series_r1.eq_1 T K fr S
def slices_choosePivotCmpFunc_Series_r2 : List POper := [Q 11 (.alloc false [(.int .i64 0)])]
@[simp] theorem slices_choosePivotCmpFunc_Series_r2_go : type_of% (ops_go slices_choosePivotCmpFunc_Series_r2.eq_1 T K fr S) := ops_go slices_choosePivotCmpFunc_Series_r2.eq_1 T K fr S
def slices_choosePivotCmpFunc_Series_r3 : List POper := [M 18 1,M 19 10,Q 20 (.arith .quo (V 19) (I 4)),Q 21 (.arith .mul (V 20) (I 1)),Q 22 (.arith .add (V 18) (V 21)),M 12 22]
@[simp] theorem slices_choosePivotCmpFunc_Series_r3_go : type_of% (ops_go slices_choosePivotCmpFunc_Series_r3.eq_1 T K fr S) := ops_go slices_choosePivotCmpFunc_Series_r3.eq_1 T K fr S
def slices_choosePivotCmpFunc_Series_r4 : List POper := [M 23 1,M 24 10,Q 25 (.arith .quo (V 24) (I 4)),Q 26 (.arith .mul (V 25) (I 2)),Q 27 (.arith .add (V 23) (V 26)),M 13 27]
@[simp] theorem slices_choosePivotCmpFunc_Series_r4_go : type_of% (ops_go slices_choosePivotCmpFunc_Series_r4.eq_1 T K fr S) := ops_go slices_choosePivotCmpFunc_Series_r4.eq_1 T K fr S
def slices_choosePivotCmpFunc_Series_r5 : List POper := [M 28 1,M 29 10,Q 30 (.arith .quo (V 29) (I 4)),Q 31 (.arith .mul (V 30) (I 3)),Q 32 (.arith .add (V 28) (V 31)),M 14 32]
@[simp] theorem slices_choosePivotCmpFunc_Series_r5_go : type_of% (ops_go slices_choosePivotCmpFunc_Series_r5.eq_1 T K fr S) := ops_go slices_choosePivotCmpFunc_Series_r5.eq_1 T K fr S
def slices_choosePivotCmpFunc_Series_r6 : List POper := [M 33 10,Q 34 (.arith .geq (V 33) (I 8))]
@[simp] theorem slices_choosePivotCmpFunc_Series_r6_go : type_of% (ops_go slices_choosePivotCmpFunc_Series_r6.eq_1 T K fr S) := ops_go slices_choosePivotCmpFunc_Series_r6.eq_1 T K fr S
def slices_choosePivotCmpFunc_Series_r7 : List POper := [M 35 10,Q 36 (.arith .geq (V 35) (I 50))]
@[simp] theorem slices_choosePivotCmpFunc_Series_r7_go : type_of% (ops_go slices_choosePivotCmpFunc_Series_r7.eq_1 T K fr S) := ops_go slices_choosePivotCmpFunc_Series_r7.eq_1 T K fr S
def slices_choosePivotCmpFunc_Series_r8 : List POper := [M 37 0,M 38 12,M 39 3,Q 40 (.call .std 408 [(V 37), (V 38), (V 11), (V 39)]),M 12 40]
@[simp] theorem slices_choosePivotCmpFunc_Series_r8_go : type_of% (ops_go slices_choosePivotCmpFunc_Series_r8.eq_1 T K fr S) := ops_go slices_choosePivotCmpFunc_Series_r8.eq_1 T K fr S
def slices_choosePivotCmpFunc_Series_r9 : List POper := [M 41 0,M 42 13,M 43 3,Q 44 (.call .std 408 [(V 41), (V 42), (V 11), (V 43)]),M 13 44]
@[simp] theorem slices_choosePivotCmpFunc_Series_r9_go : type_of% (ops_go slices_choosePivotCmpFunc_Series_r9.eq_1 T K fr S) := ops_go slices_choosePivotCmpFunc_Series_r9.eq_1 T K fr S
def slices_choosePivotCmpFunc_Series_r10 : List POper := [M 45 0,M 46 14,M 47 3,Q 48 (.call .std 408 [(V 45), (V 46), (V 11), (V 47)]),M 14 48]
@[simp] theorem slices_choosePivotCmpFunc_Series_r10_go : type_of% (ops_go slices_choosePivotCmpFunc_Series_r10.eq_1 T K fr S) := ops_go slices_choosePivotCmpFunc_Series_r10.eq_1 T K fr S
def slices_choosePivotCmpFunc_Series_r11 : List POper := [M 49 0,M 50 12,M 51 13,M 52 14,M 53 3,Q 54 (.call .std 409 [(V 49), (V 50), (V 51), (V 52), (V 11), (V 53)]),M 13 54]
@[simp] theorem slices_choosePivotCmpFunc_Series_r11_go : type_of% (ops_go slices_choosePivotCmpFunc_Series_r11.eq_1 T K fr S) := ops_go slices_choosePivotCmpFunc_Series_r11.eq_1 T K fr S
def slices_choosePivotCmpFunc_Series_r12 : List POper := [LD 55 11]
@[simp] theorem slices_choosePivotCmpFunc_Series_r12_go : type_of% (ops_go slices_choosePivotCmpFunc_Series_r12.eq_1 T K fr S) := ops_go slices_choosePivotCmpFunc_Series_r12.eq_1 T K fr S
def slices_choosePivotCmpFunc_Series_r14 : List POper := [Q 58 (.arith .eql (V 55) (I 0)),M 57 58]
@[simp] theorem slices_choosePivotCmpFunc_Series_r14_go : type_of% (ops_go slices_choosePivotCmpFunc_Series_r14.eq_1 T K fr S) := ops_go slices_choosePivotCmpFunc_Series_r14.eq_1 T K fr S
def slices_choosePivotCmpFunc_Series_r15 : List POper := [M 59 13,M 8 59,Q 9 (.mov (I 1))]
@[simp] theorem slices_choosePivotCmpFunc_Series_r15_go : type_of% (ops_go slices_choosePivotCmpFunc_Series_r15.eq_1 T K fr S) := ops_go slices_choosePivotCmpFunc_Series_r15.eq_1 T K fr S
def slices_choosePivotCmpFunc_Series_r16 : List POper := [Q 61 (.arith .eql (V 55) (I 12)),M 60 61]
@[simp] theorem slices_choosePivotCmpFunc_Series_r16_go : type_of% (ops_go slices_choosePivotCmpFunc_Series_r16.eq_1 T K fr S) := ops_go slices_choosePivotCmpFunc_Series_r16.eq_1 T K fr S
def slices_choosePivotCmpFunc_Series_r17 : List POper := [M 62 13,M 8 62,Q 9 (.mov (I 2))]
@[simp] theorem slices_choosePivotCmpFunc_Series_r17_go : type_of% (ops_go slices_choosePivotCmpFunc_Series_r17.eq_1 T K fr S) := ops_go slices_choosePivotCmpFunc_Series_r17.eq_1 T K fr S
def slices_choosePivotCmpFunc_Series_r13 : List POper := [M 56 13,M 8 56,Q 9 (.mov (I 0))]
@[simp] theorem slices_choosePivotCmpFunc_Series_r13_go : type_of% (ops_go slices_choosePivotCmpFunc_Series_r13.eq_1 T K fr S) := ops_go slices_choosePivotCmpFunc_Series_r13.eq_1 T K fr S
def slices_choosePivotCmpFunc_Series : PCodeFn :=
  ⟨4, [.tmp 8, .tmp 9],
  (.seq (.region slices_choosePivotCmpFunc_Series_r0) (.seq (.clr [(15, 18)] (.region slices_choosePivotCmpFunc_Series_r1)) (.seq (.region slices_choosePivotCmpFunc_Series_r2) (.seq (.clr [(18, 23)] (.region slices_choosePivotCmpFunc_Series_r3)) (.seq (.clr [(23, 28)] (.region slices_choosePivotCmpFunc_Series_r4)) (.seq (.clr [(28, 33)] (.region slices_choosePivotCmpFunc_Series_r5)) (.seq (.seq (.clr [(33, 34)] (.region slices_choosePivotCmpFunc_Series_r6)) (.cond (V 34) (.seq (.seq (.clr [(35, 36)] (.region slices_choosePivotCmpFunc_Series_r7)) (.cond (V 36) (.seq (.clr [(37, 41)] (.region slices_choosePivotCmpFunc_Series_r8)) (.seq (.clr [(41, 45)] (.region slices_choosePivotCmpFunc_Series_r9)) (.clr [(45, 49)] (.region slices_choosePivotCmpFunc_Series_r10)))) .skip)) (.clr [(49, 55)] (.region slices_choosePivotCmpFunc_Series_r11))) .skip)) (.seq (.region slices_choosePivotCmpFunc_Series_r12) (.block 0 (.seq (.clr [(58, 59)] (.region slices_choosePivotCmpFunc_Series_r14)) (.cond (V 57) (.seq (.clr [(59, 60)] (.region slices_choosePivotCmpFunc_Series_r15)) .ret) (.seq (.clr [(61, 62)] (.region slices_choosePivotCmpFunc_Series_r16)) (.cond (V 60) (.seq (.clr [(62, 63)] (.region slices_choosePivotCmpFunc_Series_r17)) .ret) (.seq (.clr [(56, 57)] (.region slices_choosePivotCmpFunc_Series_r13)) .ret)))))))))))))), false⟩

def slices_reverseRangeCmpFunc_Series_r0 : List POper := [M 10 1,M 8 10]
@[simp] theorem slices_reverseRangeCmpFunc_Series_r0_go : type_of% (ops_go slices_reverseRangeCmpFunc_Series_r0.eq_1 T K fr S) := ops_go slices_reverseRangeCmpFunc_Series_r0.eq_1 T K fr S
def slices_reverseRangeCmpFunc_Series_r1 : List POper := [M 11 2,Q 12 (.arith .sub (V 11) (I 1)),M 9 12]
@[simp] theorem slices_reverseRangeCmpFunc_Series_r1_go : type_of% (ops_go slices_reverseRangeCmpFunc_Series_r1.eq_1 T K fr S) := ops_go slices_reverseRangeCmpFunc_Series_r1.eq_1 T K fr S
def slices_reverseRangeCmpFunc_Series_r2 : List POper := [M 13 8,M 14 9,Q 15 (.arith .lss (V 13) (V 14))]
@[simp] theorem slices_reverseRangeCmpFunc_Series_r2_go : type_of% (ops_go slices_reverseRangeCmpFunc_Series_r2.eq_1 T K fr S) := ops_go slices_reverseRangeCmpFunc_Series_r2.eq_1 T K fr S
def slices_reverseRangeCmpFunc_Series_r3 : List POper := [M 16 0,M 17 8,M 18 0,M 19 9,M 20 0,M 21 9,Q 22 (.iaddr 2 (V 20) (V 21)),Q 23 (.load true 2 true (V 22)),M 24 0,M 25 8,Q 26 (.iaddr 2 (V 24) (V 25)),Q 27 (.load true 2 true (V 26)),Q 28 (.iaddr 2 (V 16) (V 17)),QN (.store 2 (V 28) (V 23)),Q 29 (.iaddr 2 (V 18) (V 19)),QN (.store 2 (V 29) (V 27))]
@[simp] theorem slices_reverseRangeCmpFunc_Series_r3_go : type_of% (ops_go slices_reverseRangeCmpFunc_Series_r3.eq_1 T K fr S) := ops_go slices_reverseRangeCmpFunc_Series_r3.eq_1 T K fr S
def slices_reverseRangeCmpFunc_Series_r4 : List POper := [M 30 8,Q 31 (.arith .add (V 30) (I 1)),M 8 31]
@[simp] theorem slices_reverseRangeCmpFunc_Series_r4_go : type_of% (ops_go slices_reverseRangeCmpFunc_Series_r4.eq_1 T K fr S) := ops_go slices_reverseRangeCmpFunc_Series_r4.eq_1 T K fr S
def slices_reverseRangeCmpFunc_Series_r5 : List POper := [M 32 9,Q 33 (.arith .sub (V 32) (I 1)),M 9 33]
@[simp] theorem slices_reverseRangeCmpFunc_Series_r5_go : type_of% (ops_go slices_reverseRangeCmpFunc_Series_r5.eq_1 T K fr S) := ops_go slices_reverseRangeCmpFunc_Series_r5.eq_1 T K fr S
def slices_reverseRangeCmpFunc_Series_l0 : PCode :=
  (.seq (.seq (.clr [(13, 15)] (.region slices_reverseRangeCmpFunc_Series_r2)) (.cond (V 15) .skip (.exit 0))) (.block 1 (.seq (.clr [(16, 30)] (.region slices_reverseRangeCmpFunc_Series_r3)) (.seq (.clr [(30, 32)] (.region slices_reverseRangeCmpFunc_Series_r4)) (.clr [(32, 34)] (.region slices_reverseRangeCmpFunc_Series_r5))))))
@[simp] theorem slices_reverseRangeCmpFunc_Series_l0_go : type_of% (code_go slices_reverseRangeCmpFunc_Series_l0.eq_1 T K fr S) := code_go slices_reverseRangeCmpFunc_Series_l0.eq_1 T K fr S
def slices_reverseRangeCmpFunc_Series : PCodeFn :=
  ⟨4, [],
  (.seq (.clr [(10, 11)] (.region slices_reverseRangeCmpFunc_Series_r0)) (.seq (.clr [(11, 13)] (.region slices_reverseRangeCmpFunc_Series_r1)) (.block 0 (.loop slices_reverseRangeCmpFunc_Series_l0)))), false⟩

def slices_partialInsertionSortCmpFunc_Series_r0 : List POper := [Q 8 (.mov ff')]
@[simp] theorem slices_partialInsertionSortCmpFunc_Series_r0_go : type_of% (ops_go slices_partialInsertionSortCmpFunc_Series_r0.eq_1 T K fr S) := ops_go slices_partialInsertionSortCmpFunc_Series_r0.eq_1 T K fr S
def slices_partialInsertionSortCmpFunc_Series_r1 : List POper := [M 13 1,Q 14 (.arith .add (V 13) (I 1)),M 9 14]
@[simp] theorem slices_partialInsertionSortCmpFunc_Series_r1_go : type_of% (ops_go slices_partialInsertionSortCmpFunc_Series_r1.eq_1 T K fr S) := ops_go slices_partialInsertionSortCmpFunc_Series_r1.eq_1 T K fr S
def slices_partialInsertionSortCmpFunc_Series_r2 : List POper := [Q 10 (.mov (I 0))]
@[simp] theorem slices_partialInsertionSortCmpFunc_Series_r2_go : type_of% (ops_go slices_partialInsertionSortCmpFunc_Series_r2.eq_1 T K fr S) := ops_go slices_partialInsertionSortCmpFunc_Series_r2.eq_1 T K fr S
def slices_partialInsertionSortCmpFunc_Series_r3 : List POper := [M 15 10,Q 16 (.arith .lss (V 15) (I 5))]
@[simp] theorem slices_partialInsertionSortCmpFunc_Series_r3_go : type_of% (ops_go slices_partialInsertionSortCmpFunc_Series_r3.eq_1 T K fr S) := ops_go slices_partialInsertionSortCmpFunc_Series_r3.eq_1 T K fr S
def slices_partialInsertionSortCmpFunc_Series_r5 : List POper := [M 19 9,M 20 2,Q 21 (.arith .lss (V 19) (V 20)),M 22 21,QG (some 23) (.mov (V 3)) 22 true,QG (some 24) (.mov (V 0)) 22 true,QG (some 25) (.mov (V 9)) 22 true,QG (some 26) (.iaddr 2 (V 24) (V 25)) 22 true,QG (some 27) (.load true 2 true (V 26)) 22 true,QG (some 28) (.mov (V 0)) 22 true,QG (some 29) (.mov (V 9)) 22 true,QG (some 30) (.arith .sub (V 29) (I 1)) 22 true,QG (some 31) (.iaddr 2 (V 28) (V 30)) 22 true,QG (some 32) (.load true 2 true (V 31)) 22 true,QG (some 33) (.callv .std (V 23) [(V 27), (V 32)]) 22 true,QG (some 34) (.arith .lss (V 33) (I 0)) 22 true,QG (some 35) (.un .not (V 34)) 22 true,Q 36 (.pick (V 22) (V 35) ff')]
@[simp] theorem slices_partialInsertionSortCmpFunc_Series_r5_go : type_of% (ops_go slices_partialInsertionSortCmpFunc_Series_r5.eq_1 T K fr S) := ops_go slices_partialInsertionSortCmpFunc_Series_r5.eq_1 T K fr S
def slices_partialInsertionSortCmpFunc_Series_r6 : List POper := [M 37 9,Q 38 (.arith .add (V 37) (I 1)),M 9 38]
@[simp] theorem slices_partialInsertionSortCmpFunc_Series_r6_go : type_of% (ops_go slices_partialInsertionSortCmpFunc_Series_r6.eq_1 T K fr S) := ops_go slices_partialInsertionSortCmpFunc_Series_r6.eq_1 T K fr S
def slices_partialInsertionSortCmpFunc_Series_l1 : PCode :=
  (.seq (.seq (.clr [(19, 36)] (.region slices_partialInsertionSortCmpFunc_Series_r5)) (.cond (V 36) .skip (.exit 2))) (.block 3 (.clr [(37, 39)] (.region slices_partialInsertionSortCmpFunc_Series_r6))))
@[simp] theorem slices_partialInsertionSortCmpFunc_Series_l1_go : type_of% (code_go slices_partialInsertionSortCmpFunc_Series_l1.eq_1 T K fr S) := code_go slices_partialInsertionSortCmpFunc_Series_l1.eq_1 T K fr S
def slices_partialInsertionSortCmpFunc_Series_r7 : List POper := [M 39 9,M 40 2,Q 41 (.arith .eql (V 39) (V 40))]
@[simp] theorem slices_partialInsertionSortCmpFunc_Series_r7_go : type_of% (ops_go slices_partialInsertionSortCmpFunc_Series_r7.eq_1 T K fr S) := ops_go slices_partialInsertionSortCmpFunc_Series_r7.eq_1 T K fr S
def slices_partialInsertionSortCmpFunc_Series_r8 : List POper := [Q 8 (.mov tt')]
@[simp] theorem slices_partialInsertionSortCmpFunc_Series_r8_go : type_of% (ops_go slices_partialInsertionSortCmpFunc_Series_r8.eq_1 T K fr S) := ops_go slices_partialInsertionSortCmpFunc_Series_r8.eq_1 T K fr S
def slices_partialInsertionSortCmpFunc_Series_r9 : List POper := [M 42 2,M 43 1,Q 44 (.arith .sub (V 42) (V 43)),Q 45 (.arith .lss (V 44) (I 50))]
@[simp] theorem slices_partialInsertionSortCmpFunc_Series_r9_go : type_of% (ops_go slices_partialInsertionSortCmpFunc_Series_r9.eq_1 T K fr S) := ops_go slices_partialInsertionSortCmpFunc_Series_r9.eq_1 T K fr S
def slices_partialInsertionSortCmpFunc_Series_r10 : List POper := [Q 8 (.mov ff')]
@[simp] theorem slices_partialInsertionSortCmpFunc_Series_r10_go : type_of% (ops_go slices_partialInsertionSortCmpFunc_Series_r10.eq_1 T K fr S) := ops_go slices_partialInsertionSortCmpFunc_Series_r10.eq_1 T K fr S
def slices_partialInsertionSortCmpFunc_Series_r11 : List POper := [M 46 0,M 47 9,M 48 0,M 49 9,Q 50 (.arith .sub (V 49) (I 1)),M 51 0,M 52 9,Q 53 (.arith .sub (V 52) (I 1)),Q 54 (.iaddr 2 (V 51) (V 53)),Q 55 (.load true 2 true (V 54)),M 56 0,M 57 9,Q 58 (.iaddr 2 (V 56) (V 57)),Q 59 (.load true 2 true (V 58)),Q 60 (.iaddr 2 (V 46) (V 47)),QN (.store 2 (V 60) (V 55)),Q 61 (.iaddr 2 (V 48) (V 50)),QN (.store 2 (V 61) (V 59))]
@[simp] theorem slices_partialInsertionSortCmpFunc_Series_r11_go : type_of% (ops_go slices_partialInsertionSortCmpFunc_Series_r11.eq_1 T K fr S) := ops_go slices_partialInsertionSortCmpFunc_Series_r11.eq_1 T K fr S
def slices_partialInsertionSortCmpFunc_Series_r12 : List POper := [M 62 9,M 63 1,Q 64 (.arith .sub (V 62) (V 63)),Q 65 (.arith .geq (V 64) (I 2))]
@[simp] theorem slices_partialInsertionSortCmpFunc_Series_r12_go : type_of% (ops_go slices_partialInsertionSortCmpFunc_Series_r12.eq_1 T K fr S) := ops_go slices_partialInsertionSortCmpFunc_Series_r12.eq_1 T K fr S
def slices_partialInsertionSortCmpFunc_Series_r13 : List POper := [M 66 9,Q 67 (.arith .sub (V 66) (I 1)),M 11 67]
@[simp] theorem slices_partialInsertionSortCmpFunc_Series_r13_go : type_of% (ops_go slices_partialInsertionSortCmpFunc_Series_r13.eq_1 T K fr S) := ops_go slices_partialInsertionSortCmpFunc_Series_r13.eq_1 T K fr S
def slices_partialInsertionSortCmpFunc_Series_r14 : List POper := [M 68 11,Q 69 (.arith .geq (V 68) (I 1))]
@[simp] theorem slices_partialInsertionSortCmpFunc_Series_r14_go : type_of% (ops_go slices_partialInsertionSortCmpFunc_Series_r14.eq_1 T K fr S) := ops_go slices_partialInsertionSortCmpFunc_Series_r14.eq_1 T K fr S
def slices_partialInsertionSortCmpFunc_Series_r16 : List POper := [M 72 3,M 73 0,M 74 11,Q 75 (.iaddr 2 (V 73) (V 74)),Q 76 (.load true 2 true (V 75)),M 77 0,M 78 11,Q 79 (.arith .sub (V 78) (I 1)),Q 80 (.iaddr 2 (V 77) (V 79)),Q 81 (.load true 2 true (V 80)),Q 82 (.callv .std (V 72) [(V 76), (V 81)]),Q 83 (.arith .lss (V 82) (I 0)),Q 84 (.un .not (V 83))]
@[simp] theorem slices_partialInsertionSortCmpFunc_Series_r16_go : type_of% (ops_go slices_partialInsertionSortCmpFunc_Series_r16.eq_1 T K fr S) := ops_go slices_partialInsertionSortCmpFunc_Series_r16.eq_1 T K fr S
def slices_partialInsertionSortCmpFunc_Series_r17 : List POper := [M 85 0,M 86 11,M 87 0,M 88 11,Q 89 (.arith .sub (V 88) (I 1)),M 90 0,M 91 11,Q 92 (.arith .sub (V 91) (I 1)),Q 93 (.iaddr 2 (V 90) (V 92)),Q 94 (.load true 2 true (V 93)),M 95 0,M 96 11,Q 97 (.iaddr 2 (V 95) (V 96)),Q 98 (.load true 2 true (V 97)),Q 99 (.iaddr 2 (V 85) (V 86)),QN (.store 2 (V 99) (V 94)),Q 100 (.iaddr 2 (V 87) (V 89)),QN (.store 2 (V 100) (V 98))]
@[simp] theorem slices_partialInsertionSortCmpFunc_Series_r17_go : type_of% (ops_go slices_partialInsertionSortCmpFunc_Series_r17.eq_1 T K fr S) := ops_go slices_partialInsertionSortCmpFunc_Series_r17.eq_1 T K fr S
def slices_partialInsertionSortCmpFunc_Series_r15 : List POper := [M 70 11,Q 71 (.arith .sub (V 70) (I 1)),M 11 71]
@[simp] theorem slices_partialInsertionSortCmpFunc_Series_r15_go : type_of% (ops_go slices_partialInsertionSortCmpFunc_Series_r15.eq_1 T K fr S) := ops_go slices_partialInsertionSortCmpFunc_Series_r15.eq_1 T K fr S
def slices_partialInsertionSortCmpFunc_Series_l2 : PCode :=
  (.seq (.seq (.clr [(68, 69)] (.region slices_partialInsertionSortCmpFunc_Series_r14)) (.cond (V 69) .skip (.exit 4))) (.seq (.block 5 (.seq (.seq (.clr [(72, 84)] (.region slices_partialInsertionSortCmpFunc_Series_r16)) (.cond (V 84) (.exit 4) .skip)) (.clr [(85, 101)] (.region slices_partialInsertionSortCmpFunc_Series_r17)))) (.clr [(70, 72)] (.region slices_partialInsertionSortCmpFunc_Series_r15))))
@[simp] theorem slices_partialInsertionSortCmpFunc_Series_l2_go : type_of% (code_go slices_partialInsertionSortCmpFunc_Series_l2.eq_1 T K fr S) := code_go slices_partialInsertionSortCmpFunc_Series_l2.eq_1 T K fr S
def slices_partialInsertionSortCmpFunc_Series_r18 : List POper := [M 101 2,M 102 9,Q 103 (.arith .sub (V 101) (V 102)),Q 104 (.arith .geq (V 103) (I 2))]
@[simp] theorem slices_partialInsertionSortCmpFunc_Series_r18_go : type_of% (ops_go slices_partialInsertionSortCmpFunc_Series_r18.eq_1 T K fr S) := ops_go slices_partialInsertionSortCmpFunc_Series_r18.eq_1 T K fr S
def slices_partialInsertionSortCmpFunc_Series_r19 : List POper := [M 105 9,Q 106 (.arith .add (V 105) (I 1)),M 12 106]
@[simp] theorem slices_partialInsertionSortCmpFunc_Series_r19_go : type_of% (ops_go slices_partialInsertionSortCmpFunc_Series_r19.eq_1 T K fr S) := ops_go slices_partialInsertionSortCmpFunc_Series_r19.eq_1 T K fr S
def slices_partialInsertionSortCmpFunc_Series_r20 : List POper := [M 107 12,M 108 2,Q 109 (.arith .lss (V 107) (V 108))]
@[simp] theorem slices_partialInsertionSortCmpFunc_Series_r20_go : type_of% (ops_go slices_partialInsertionSortCmpFunc_Series_r20.eq_1 T K fr S) := ops_go slices_partialInsertionSortCmpFunc_Series_r20.eq_1 T K fr S
def slices_partialInsertionSortCmpFunc_Series_r22 : List POper := [M 112 3,M 113 0,M 114 12,Q 115 (.iaddr 2 (V 113) (V 114)),Q 116 (.load true 2 true (V 115)),M 117 0,M 118 12,Q 119 (.arith .sub (V 118) (I 1)),Q 120 (.iaddr 2 (V 117) (V 119)),Q 121 (.load true 2 true (V 120)),Q 122 (.callv .std (V 112) [(V 116), (V 121)]),Q 123 (.arith .lss (V 122) (I 0)),Q 124 (.un .not (V 123))]
@[simp] theorem slices_partialInsertionSortCmpFunc_Series_r22_go : type_of% (ops_go slices_partialInsertionSortCmpFunc_Series_r22.eq_1 T K fr S) := ops_go slices_partialInsertionSortCmpFunc_Series_r22.eq_1 T K fr S
def slices_partialInsertionSortCmpFunc_Series_r23 : List POper := [M 125 0,M 126 12,M 127 0,M 128 12,Q 129 (.arith .sub (V 128) (I 1)),M 130 0,M 131 12,Q 132 (.arith .sub (V 131) (I 1)),Q 133 (.iaddr 2 (V 130) (V 132)),Q 134 (.load true 2 true (V 133)),M 135 0,M 136 12,Q 137 (.iaddr 2 (V 135) (V 136)),Q 138 (.load true 2 true (V 137)),Q 139 (.iaddr 2 (V 125) (V 126)),QN (.store 2 (V 139) (V 134)),Q 140 (.iaddr 2 (V 127) (V 129)),QN (.store 2 (V 140) (V 138))]
@[simp] theorem slices_partialInsertionSortCmpFunc_Series_r23_go : type_of% (ops_go slices_partialInsertionSortCmpFunc_Series_r23.eq_1 T K fr S) := ops_go slices_partialInsertionSortCmpFunc_Series_r23.eq_1 T K fr S
def slices_partialInsertionSortCmpFunc_Series_r21 : List POper := [M 110 12,Q 111 (.arith .add (V 110) (I 1)),M 12 111]
@[simp] theorem slices_partialInsertionSortCmpFunc_Series_r21_go : type_of% (ops_go slices_partialInsertionSortCmpFunc_Series_r21.eq_1 T K fr S) := ops_go slices_partialInsertionSortCmpFunc_Series_r21.eq_1 T K fr S
def slices_partialInsertionSortCmpFunc_Series_l3 : PCode :=
  (.seq (.seq (.clr [(107, 109)] (.region slices_partialInsertionSortCmpFunc_Series_r20)) (.cond (V 109) .skip (.exit 6))) (.seq (.block 7 (.seq (.seq (.clr [(112, 124)] (.region slices_partialInsertionSortCmpFunc_Series_r22)) (.cond (V 124) (.exit 6) .skip)) (.clr [(125, 141)] (.region slices_partialInsertionSortCmpFunc_Series_r23)))) (.clr [(110, 112)] (.region slices_partialInsertionSortCmpFunc_Series_r21))))
@[simp] theorem slices_partialInsertionSortCmpFunc_Series_l3_go : type_of% (code_go slices_partialInsertionSortCmpFunc_Series_l3.eq_1 T K fr S) := code_go slices_partialInsertionSortCmpFunc_Series_l3.eq_1 T K fr S
def slices_partialInsertionSortCmpFunc_Series_r4 : List POper := [M 17 10,Q 18 (.arith .add (V 17) (I 1)),M 10 18]
@[simp] theorem slices_partialInsertionSortCmpFunc_Series_r4_go : type_of% (ops_go slices_partialInsertionSortCmpFunc_Series_r4.eq_1 T K fr S) := ops_go slices_partialInsertionSortCmpFunc_Series_r4.eq_1 T K fr S
def slices_partialInsertionSortCmpFunc_Series_l0 : PCode :=
  (.seq (.seq (.clr [(15, 16)] (.region slices_partialInsertionSortCmpFunc_Series_r3)) (.cond (V 16) .skip (.exit 0))) (.seq (.block 1 (.seq (.block 2 (.loop slices_partialInsertionSortCmpFunc_Series_l1)) (.seq (.seq (.clr [(39, 41)] (.region slices_partialInsertionSortCmpFunc_Series_r7)) (.cond (V 41) (.seq (.region slices_partialInsertionSortCmpFunc_Series_r8) .ret) .skip)) (.seq (.seq (.clr [(42, 45)] (.region slices_partialInsertionSortCmpFunc_Series_r9)) (.cond (V 45) (.seq (.region slices_partialInsertionSortCmpFunc_Series_r10) .ret) .skip)) (.seq (.clr [(46, 62)] (.region slices_partialInsertionSortCmpFunc_Series_r11)) (.seq (.seq (.clr [(62, 65)] (.region slices_partialInsertionSortCmpFunc_Series_r12)) (.cond (V 65) (.seq (.clr [(66, 68)] (.region slices_partialInsertionSortCmpFunc_Series_r13)) (.block 4 (.loop slices_partialInsertionSortCmpFunc_Series_l2))) .skip)) (.seq (.clr [(101, 104)] (.region slices_partialInsertionSortCmpFunc_Series_r18)) (.cond (V 104) (.seq (.clr [(105, 107)] (.region slices_partialInsertionSortCmpFunc_Series_r19)) (.block 6 (.loop slices_partialInsertionSortCmpFunc_Series_l3))) .skip)))))))) (.clr [(17, 19)] (.region slices_partialInsertionSortCmpFunc_Series_r4))))
@[simp] theorem slices_partialInsertionSortCmpFunc_Series_l0_go : type_of% (code_go slices_partialInsertionSortCmpFunc_Series_l0.eq_1 T K fr S) := code_go slices_partialInsertionSortCmpFunc_Series_l0.eq_1 T K fr S
def slices_partialInsertionSortCmpFunc_Series_r24 : List POper := [Q 8 (.mov ff')]
@[simp] theorem slices_partialInsertionSortCmpFunc_Series_r24_go : type_of% (ops_go slices_partialInsertionSortCmpFunc_Series_r24.eq_1 T K fr S) := ops_go slices_partialInsertionSortCmpFunc_Series_r24.eq_1 T K fr S
def slices_partialInsertionSortCmpFunc_Series : PCodeFn :=
  ⟨4, [.tmp 8],
  (.seq (.region slices_partialInsertionSortCmpFunc_Series_r0) (.seq (.clr [(13, 15)] (.region slices_partialInsertionSortCmpFunc_Series_r1)) (.seq (.seq (.region slices_partialInsertionSortCmpFunc_Series_r2) (.block 0 (.loop slices_partialInsertionSortCmpFunc_Series_l0))) (.seq (.region slices_partialInsertionSortCmpFunc_Series_r24) .ret)))), false⟩

def slices_partitionEqualCmpFunc_Series_r0 : List POper := [Q 10 (.mov (I 0))]
@[simp] theorem slices_partitionEqualCmpFunc_Series_r0_go : type_of% (ops_go slices_partitionEqualCmpFunc_Series_r0.eq_1 T K fr S) := ops_go slices_partitionEqualCmpFunc_Series_r0.eq_1 T K fr S
def slices_partitionEqualCmpFunc_Series_r1 : List POper := [M 13 0,M 14 1,M 15 0,M 16 3,M 17 0,M 18 3,Q 19 (.iaddr 2 (V 17) (V 18)),Q 20 (.load true 2 true (V 19)),M 21 0,M 22 1,Q 23 (.iaddr 2 (V 21) (V 22)),Q 24 (.load true 2 true (V 23)),Q 25 (.iaddr 2 (V 13) (V 14)),QN (.store 2 (V 25) (V 20)),Q 26 (.iaddr 2 (V 15) (V 16)),QN (.store 2 (V 26) (V 24))]
@[simp] theorem slices_partitionEqualCmpFunc_Series_r1_go : type_of% (ops_go slices_partitionEqualCmpFunc_Series_r1.eq_1 T K fr S) := ops_go slices_partitionEqualCmpFunc_Series_r1.eq_1 T K fr S
def slices_partitionEqualCmpFunc_Series_r2 : List POper := [M 27 1,Q 28 (.arith .add (V 27) (I 1)),M 29 2,Q 30 (.arith .sub (V 29) (I 1)),M 11 28,M 12 30]
@[simp] theorem slices_partitionEqualCmpFunc_Series_r2_go : type_of% (ops_go slices_partitionEqualCmpFunc_Series_r2.eq_1 T K fr S) := ops_go slices_partitionEqualCmpFunc_Series_r2.eq_1 T K fr S
def slices_partitionEqualCmpFunc_Series_r3 : List POper := [M 31 11,M 32 12,Q 33 (.arith .leq (V 31) (V 32)),M 34 33,QG (some 35) (.mov (V 4)) 34 true,QG (some 36) (.mov (V 0)) 34 true,QG (some 37) (.mov (V 1)) 34 true,QG (some 38) (.iaddr 2 (V 36) (V 37)) 34 true,QG (some 39) (.load true 2 true (V 38)) 34 true,QG (some 40) (.mov (V 0)) 34 true,QG (some 41) (.mov (V 11)) 34 true,QG (some 42) (.iaddr 2 (V 40) (V 41)) 34 true,QG (some 43) (.load true 2 true (V 42)) 34 true,QG (some 44) (.callv .std (V 35) [(V 39), (V 43)]) 34 true,QG (some 45) (.arith .lss (V 44) (I 0)) 34 true,QG (some 46) (.un .not (V 45)) 34 true,Q 47 (.pick (V 34) (V 46) ff')]
@[simp] theorem slices_partitionEqualCmpFunc_Series_r3_go : type_of% (ops_go slices_partitionEqualCmpFunc_Series_r3.eq_1 T K fr S) := ops_go slices_partitionEqualCmpFunc_Series_r3.eq_1 T K fr S
def slices_partitionEqualCmpFunc_Series_r4 : List POper := [M 48 11,Q 49 (.arith .add (V 48) (I 1)),M 11 49]
@[simp] theorem slices_partitionEqualCmpFunc_Series_r4_go : type_of% (ops_go slices_partitionEqualCmpFunc_Series_r4.eq_1 T K fr S) := ops_go slices_partitionEqualCmpFunc_Series_r4.eq_1 T K fr S
def slices_partitionEqualCmpFunc_Series_l1 : PCode :=
  (.seq (.seq (.clr [(31, 47)] (.region slices_partitionEqualCmpFunc_Series_r3)) (.cond (V 47) .skip (.exit 2))) (.block 3 (.clr [(48, 50)] (.region slices_partitionEqualCmpFunc_Series_r4))))
@[simp] theorem slices_partitionEqualCmpFunc_Series_l1_go : type_of% (code_go slices_partitionEqualCmpFunc_Series_l1.eq_1 T K fr S) := code_go slices_partitionEqualCmpFunc_Series_l1.eq_1 T K fr S
def slices_partitionEqualCmpFunc_Series_r5 : List POper := [M 50 11,M 51 12,Q 52 (.arith .leq (V 50) (V 51)),M 53 52,QG (some 54) (.mov (V 4)) 53 true,QG (some 55) (.mov (V 0)) 53 true,QG (some 56) (.mov (V 1)) 53 true,QG (some 57) (.iaddr 2 (V 55) (V 56)) 53 true,QG (some 58) (.load true 2 true (V 57)) 53 true,QG (some 59) (.mov (V 0)) 53 true,QG (some 60) (.mov (V 12)) 53 true,QG (some 61) (.iaddr 2 (V 59) (V 60)) 53 true,QG (some 62) (.load true 2 true (V 61)) 53 true,QG (some 63) (.callv .std (V 54) [(V 58), (V 62)]) 53 true,QG (some 64) (.arith .lss (V 63) (I 0)) 53 true,Q 65 (.pick (V 53) (V 64) ff')]
@[simp] theorem slices_partitionEqualCmpFunc_Series_r5_go : type_of% (ops_go slices_partitionEqualCmpFunc_Series_r5.eq_1 T K fr S) := ops_go slices_partitionEqualCmpFunc_Series_r5.eq_1 T K fr S
def slices_partitionEqualCmpFunc_Series_r6 : List POper := [M 66 12,Q 67 (.arith .sub (V 66) (I 1)),M 12 67]
@[simp] theorem slices_partitionEqualCmpFunc_Series_r6_go : type_of% (ops_go slices_partitionEqualCmpFunc_Series_r6.eq_1 T K fr S) := ops_go slices_partitionEqualCmpFunc_Series_r6.eq_1 T K fr S
def slices_partitionEqualCmpFunc_Series_l2 : PCode :=
  (.seq (.seq (.clr [(50, 65)] (.region slices_partitionEqualCmpFunc_Series_r5)) (.cond (V 65) .skip (.exit 4))) (.block 5 (.clr [(66, 68)] (.region slices_partitionEqualCmpFunc_Series_r6))))
@[simp] theorem slices_partitionEqualCmpFunc_Series_l2_go : type_of% (code_go slices_partitionEqualCmpFunc_Series_l2.eq_1 T K fr S) := code_go slices_partitionEqualCmpFunc_Series_l2.eq_1 T K fr S
def slices_partitionEqualCmpFunc_Series_r7 : List POper := [M 68 11,M 69 12,Q 70 (.arith .gtr (V 68) (V 69))]
@[simp] theorem slices_partitionEqualCmpFunc_Series_r7_go : type_of% (ops_go slices_partitionEqualCmpFunc_Series_r7.eq_1 T K fr S) := ops_go slices_partitionEqualCmpFunc_Series_r7.eq_1 T K fr S
def slices_partitionEqualCmpFunc_Series_r8 : List POper := [M 71 0,M 72 11,M 73 0,M 74 12,M 75 0,M 76 12,Q 77 (.iaddr 2 (V 75) (V 76)),Q 78 (.load true 2 true (V 77)),M 79 0,M 80 11,Q 81 (.iaddr 2 (V 79) (V 80)),Q 82 (.load true 2 true (V 81)),Q 83 (.iaddr 2 (V 71) (V 72)),QN (.store 2 (V 83) (V 78)),Q 84 (.iaddr 2 (V 73) (V 74)),QN (.store 2 (V 84) (V 82))]
@[simp] theorem slices_partitionEqualCmpFunc_Series_r8_go : type_of% (ops_go slices_partitionEqualCmpFunc_Series_r8.eq_1 T K fr S) := ops_go slices_partitionEqualCmpFunc_Series_r8.eq_1 T K fr S
def slices_partitionEqualCmpFunc_Series_r9 : List POper := [M 85 11,Q 86 (.arith .add (V 85) (I 1)),M 11 86]
@[simp] theorem slices_partitionEqualCmpFunc_Series_r9_go : type_of% (ops_go slices_partitionEqualCmpFunc_Series_r9.eq_1 T K fr S) := ops_go slices_partitionEqualCmpFunc_Series_r9.eq_1 T K fr S
def slices_partitionEqualCmpFunc_Series_r10 : List POper := [M 87 12,Q 88 (.arith .sub (V 87) (I 1)),M 12 88]
@[simp] theorem slices_partitionEqualCmpFunc_Series_r10_go : type_of% (ops_go slices_partitionEqualCmpFunc_Series_r10.eq_1 T K fr S) := ops_go slices_partitionEqualCmpFunc_Series_r10.eq_1 T K fr S
def slices_partitionEqualCmpFunc_Series_l0 : PCode :=
  (.block 1 (.seq (.block 2 (.loop slices_partitionEqualCmpFunc_Series_l1)) (.seq (.block 4 (.loop slices_partitionEqualCmpFunc_Series_l2)) (.seq (.seq (.clr [(68, 70)] (.region slices_partitionEqualCmpFunc_Series_r7)) (.cond (V 70) (.exit 0) .skip)) (.seq (.clr [(71, 85)] (.region slices_partitionEqualCmpFunc_Series_r8)) (.seq (.clr [(85, 87)] (.region slices_partitionEqualCmpFunc_Series_r9)) (.clr [(87, 89)] (.region slices_partitionEqualCmpFunc_Series_r10))))))))
@[simp] theorem slices_partitionEqualCmpFunc_Series_l0_go : type_of% (code_go slices_partitionEqualCmpFunc_Series_l0.eq_1 T K fr S) := code_go slices_partitionEqualCmpFunc_Series_l0.eq_1 T K fr S
def slices_partitionEqualCmpFunc_Series_r11 : List POper := [M 89 11,M 10 89]
@[simp] theorem slices_partitionEqualCmpFunc_Series_r11_go : type_of% (ops_go slices_partitionEqualCmpFunc_Series_r11.eq_1 T K fr S) := ops_go slices_partitionEqualCmpFunc_Series_r11.eq_1 T K fr S
def slices_partitionEqualCmpFunc_Series : PCodeFn :=
  ⟨5, [.tmp 10],
  (.seq (.region slices_partitionEqualCmpFunc_Series_r0) (.seq (.clr [(13, 27)] (.region slices_partitionEqualCmpFunc_Series_r1)) (.seq (.clr [(27, 31)] (.region slices_partitionEqualCmpFunc_Series_r2)) (.seq (.block 0 (.loop slices_partitionEqualCmpFunc_Series_l0)) (.seq (.clr [(89, 90)] (.region slices_partitionEqualCmpFunc_Series_r11)) .ret))))), false⟩

end Ps
