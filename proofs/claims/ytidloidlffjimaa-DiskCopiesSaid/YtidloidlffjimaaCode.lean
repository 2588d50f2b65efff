/- The functions' code, as the pure semantics has it: printed by program. -/
import Derived.Test.YtidloidlffjimaaWalk
namespace Ps
open Go
set_option maxRecDepth 10000
variable (T : Tbl) (K : List Kt) (fr : Fr) (S : St)

def law04_DiskCopies_r0 : List POper := [Q 6 (.mov ff')]
@[simp] theorem law04_DiskCopies_r0_go : type_of% (ops_go law04_DiskCopies_r0.eq_1 T K fr S) := ops_go law04_DiskCopies_r0.eq_1 T K fr S
def law04_DiskCopies_r1 : List POper := [M 16 0,Q 17 (.call .std 16 [(V 16)]),M 15 17,EX 18 0 15,EX 19 1 15,M 7 18,M 8 19]
@[simp] theorem law04_DiskCopies_r1_go : type_of% (ops_go law04_DiskCopies_r1.eq_1 T K fr S) := ops_go law04_DiskCopies_r1.eq_1 T K fr S
def law04_DiskCopies_r2 : List POper := [M 21 0,Q 22 (.call .pur 17 [(V 21)]),M 20 22,EX 23 0 20,EX 24 1 20,Q 9 (.alloc false [(.int .i64 0), .nils, .nils, .nils, (.int .i64 0), (.bool false), (.int .i64 0)]),QN (.store 7 (V 9) (V 23)),M 10 24]
@[simp] theorem law04_DiskCopies_r2_go : type_of% (ops_go law04_DiskCopies_r2.eq_1 T K fr S) := ops_go law04_DiskCopies_r2.eq_1 T K fr S
def law04_DiskCopies_r3 : List POper := [M 25 8,Q 26 (.arith .neq (V 25) (I 0)),M 27 26,QG (some 28) (.mov (V 10)) 27 false,QG (some 29) (.arith .neq (V 28) (I 0)) 27 false,Q 30 (.pick (V 27) tt' (V 29))]
@[simp] theorem law04_DiskCopies_r3_go : type_of% (ops_go law04_DiskCopies_r3.eq_1 T K fr S) := ops_go law04_DiskCopies_r3.eq_1 T K fr S
def law04_DiskCopies_r4 : List POper := [M 31 8,M 32 10,Q 33 (.arith .eql (V 31) (V 32)),M 34 33,QG (some 35) (.call .pur 18 []) 34 true,Q 36 (.pick (V 34) (V 35) ff'),M 6 36]
@[simp] theorem law04_DiskCopies_r4_go : type_of% (ops_go law04_DiskCopies_r4.eq_1 T K fr S) := ops_go law04_DiskCopies_r4.eq_1 T K fr S
def law04_DiskCopies_r5 : List POper := [Q 11 (.mov (I 0))]
@[simp] theorem law04_DiskCopies_r5_go : type_of% (ops_go law04_DiskCopies_r5.eq_1 T K fr S) := ops_go law04_DiskCopies_r5.eq_1 T K fr S
def law04_DiskCopies_r6 : List POper := [M 37 11,M 38 1,Q 39 (.len false (V 38)),Q 40 (.arith .lss (V 37) (V 39)),M 41 40,QG (some 42) (.mov (V 11)) 41 true,QG (some 43) (.arith .lss (V 42) (I 30)) 41 true,Q 44 (.pick (V 41) (V 43) ff')]
@[simp] theorem law04_DiskCopies_r6_go : type_of% (ops_go law04_DiskCopies_r6.eq_1 T K fr S) := ops_go law04_DiskCopies_r6.eq_1 T K fr S
def law04_DiskCopies_r8 : List POper := [M 47 7,M 48 1,M 49 11,Q 50 (.iaddr 6 (V 48) (V 49)),Q 51 (.load true 6 false (V 50)),Q 52 (.call .std 19 [(V 47), (V 51)])]
@[simp] theorem law04_DiskCopies_r8_go : type_of% (ops_go law04_DiskCopies_r8.eq_1 T K fr S) := ops_go law04_DiskCopies_r8.eq_1 T K fr S
def law04_DiskCopies_r9 : List POper := [Q 54 (.load true 7 false (V 9)),M 55 1,M 56 11,Q 57 (.iaddr 6 (V 55) (V 56)),Q 58 (.load true 6 true (V 57)),Q 59 (.call .std 20 [(V 54), (V 58)]),M 53 59,EX 60 0 53,EX 61 1 53,EX 62 2 53,QN (.store 7 (V 9) (V 60))]
@[simp] theorem law04_DiskCopies_r9_go : type_of% (ops_go law04_DiskCopies_r9.eq_1 T K fr S) := ops_go law04_DiskCopies_r9.eq_1 T K fr S
def law04_DiskCopies_r7 : List POper := [M 45 11,Q 46 (.arith .add (V 45) (I 1)),M 11 46]
@[simp] theorem law04_DiskCopies_r7_go : type_of% (ops_go law04_DiskCopies_r7.eq_1 T K fr S) := ops_go law04_DiskCopies_r7.eq_1 T K fr S
def law04_DiskCopies_l0 : PCode :=
 (.seq (.seq (.clr [(37, 44)] (.region law04_DiskCopies_r6)) (.cond (V 44) .skip (.exit 0))) (.seq (.block 1 (.seq (.clr [(47, 53)] (.region law04_DiskCopies_r8)) (.clr [(53, 63)] (.region law04_DiskCopies_r9)))) (.clr [(45, 47)] (.region law04_DiskCopies_r7))))
@[simp] theorem law04_DiskCopies_l0_go : type_of% (code_go law04_DiskCopies_l0.eq_1 T K fr S) := code_go law04_DiskCopies_l0.eq_1 T K fr S
def law04_DiskCopies_r10 : List POper := [M 63 7,Q 64 (.call .std 462 [(V 63)]),M 12 64]
@[simp] theorem law04_DiskCopies_r10_go : type_of% (ops_go law04_DiskCopies_r10.eq_1 T K fr S) := ops_go law04_DiskCopies_r10.eq_1 T K fr S
def law04_DiskCopies_r11 : List POper := [M 65 12,Q 66 (.eqn false .p (V 65))]
@[simp] theorem law04_DiskCopies_r11_go : type_of% (ops_go law04_DiskCopies_r11.eq_1 T K fr S) := ops_go law04_DiskCopies_r11.eq_1 T K fr S
def law04_DiskCopies_r12 : List POper := [Q 6 (.mov ff')]
@[simp] theorem law04_DiskCopies_r12_go : type_of% (ops_go law04_DiskCopies_r12.eq_1 T K fr S) := ops_go law04_DiskCopies_r12.eq_1 T K fr S
def law04_DiskCopies_r13 : List POper := [Q 67 (.load true 7 false (V 9)),Q 13 (.alloc false [(.int .i64 0), .nils, .nils, .nils, (.int .i64 0), (.bool false), (.int .i64 0)]),QN (.store 7 (V 13) (V 67))]
@[simp] theorem law04_DiskCopies_r13_go : type_of% (ops_go law04_DiskCopies_r13.eq_1 T K fr S) := ops_go law04_DiskCopies_r13.eq_1 T K fr S
def law04_DiskCopies_r14 : List POper := [Q 14 (.mov (I 0))]
@[simp] theorem law04_DiskCopies_r14_go : type_of% (ops_go law04_DiskCopies_r14.eq_1 T K fr S) := ops_go law04_DiskCopies_r14.eq_1 T K fr S
def law04_DiskCopies_r15 : List POper := [M 68 14,M 69 2,Q 70 (.len false (V 69)),Q 71 (.arith .lss (V 68) (V 70)),M 72 71,QG (some 73) (.mov (V 14)) 72 true,QG (some 74) (.arith .lss (V 73) (I 15)) 72 true,Q 75 (.pick (V 72) (V 74) ff')]
@[simp] theorem law04_DiskCopies_r15_go : type_of% (ops_go law04_DiskCopies_r15.eq_1 T K fr S) := ops_go law04_DiskCopies_r15.eq_1 T K fr S
def law04_DiskCopies_r17 : List POper := [M 78 12,M 79 2,M 80 14,Q 81 (.iaddr 6 (V 79) (V 80)),Q 82 (.load true 6 false (V 81)),Q 83 (.call .std 19 [(V 78), (V 82)])]
@[simp] theorem law04_DiskCopies_r17_go : type_of% (ops_go law04_DiskCopies_r17.eq_1 T K fr S) := ops_go law04_DiskCopies_r17.eq_1 T K fr S
def law04_DiskCopies_r18 : List POper := [Q 85 (.load true 7 false (V 13)),M 86 2,M 87 14,Q 88 (.iaddr 6 (V 86) (V 87)),Q 89 (.load true 6 true (V 88)),Q 90 (.call .std 20 [(V 85), (V 89)]),M 84 90,EX 91 0 84,EX 92 1 84,EX 93 2 84,QN (.store 7 (V 13) (V 91))]
@[simp] theorem law04_DiskCopies_r18_go : type_of% (ops_go law04_DiskCopies_r18.eq_1 T K fr S) := ops_go law04_DiskCopies_r18.eq_1 T K fr S
def law04_DiskCopies_r16 : List POper := [M 76 14,Q 77 (.arith .add (V 76) (I 1)),M 14 77]
@[simp] theorem law04_DiskCopies_r16_go : type_of% (ops_go law04_DiskCopies_r16.eq_1 T K fr S) := ops_go law04_DiskCopies_r16.eq_1 T K fr S
def law04_DiskCopies_l1 : PCode :=
 (.seq (.seq (.clr [(68, 75)] (.region law04_DiskCopies_r15)) (.cond (V 75) .skip (.exit 2))) (.seq (.block 3 (.seq (.clr [(78, 84)] (.region law04_DiskCopies_r17)) (.clr [(84, 94)] (.region law04_DiskCopies_r18)))) (.clr [(76, 78)] (.region law04_DiskCopies_r16))))
@[simp] theorem law04_DiskCopies_l1_go : type_of% (code_go law04_DiskCopies_l1.eq_1 T K fr S) := code_go law04_DiskCopies_l1.eq_1 T K fr S
def law04_DiskCopies_r19 : List POper := [M 94 7,Q 95 (.load true 7 false (V 9)),Q 96 (.call .std 21 [(V 94), (V 95)]),M 97 96,QG (some 98) (.mov (V 12)) 97 true,QG (some 99) (.load true 7 false (V 13)) 97 true,QG (some 100) (.call .std 21 [(V 98), (V 99)]) 97 true,Q 101 (.pick (V 97) (V 100) ff'),M 102 101,QG (some 103) (.call .pur 18 []) 102 true,Q 104 (.pick (V 102) (V 103) ff'),M 6 104]
@[simp] theorem law04_DiskCopies_r19_go : type_of% (ops_go law04_DiskCopies_r19.eq_1 T K fr S) := ops_go law04_DiskCopies_r19.eq_1 T K fr S
def law04_DiskCopies : PCodeFn :=
 ⟨3, [.tmp 6],
 (.seq (.region law04_DiskCopies_r0) (.seq (.clr [(15, 20)] (.region law04_DiskCopies_r1)) (.seq (.clr [(20, 25)] (.region law04_DiskCopies_r2)) (.seq (.seq (.clr [(25, 30)] (.region law04_DiskCopies_r3)) (.cond (V 30) (.seq (.clr [(31, 37)] (.region law04_DiskCopies_r4)) .ret) .skip)) (.seq (.seq (.region law04_DiskCopies_r5) (.block 0 (.loop law04_DiskCopies_l0))) (.seq (.clr [(63, 65)] (.region law04_DiskCopies_r10)) (.seq (.seq (.clr [(65, 66)] (.region law04_DiskCopies_r11)) (.cond (V 66) (.seq (.region law04_DiskCopies_r12) .ret) .skip)) (.seq (.clr [(67, 68)] (.region law04_DiskCopies_r13)) (.seq (.seq (.region law04_DiskCopies_r14) (.block 2 (.loop law04_DiskCopies_l1))) (.seq (.clr [(94, 105)] (.region law04_DiskCopies_r19)) .ret)))))))))), false⟩

def disk_New_r0 : List POper := [Q 2 (.mov (.cst .nilp)),Q 3 (.mov (I 0))]
@[simp] theorem disk_New_r0_go : type_of% (ops_go disk_New_r0.eq_1 T K fr S) := ops_go disk_New_r0.eq_1 T K fr S
def disk_New_r1 : List POper := [M 4 0,Q 5 (.arith .lss (V 4) (I 1)),M 6 5,QG (some 7) (.mov (V 0)) 6 false,QG (some 8) (.arith .gtr (V 7) (I 4194304)) 6 false,Q 9 (.pick (V 6) tt' (V 8))]
@[simp] theorem disk_New_r1_go : type_of% (ops_go disk_New_r1.eq_1 T K fr S) := ops_go disk_New_r1.eq_1 T K fr S
def disk_New_r2 : List POper := [Q 2 (.mov (.cst .nilp)),Q 3 (.mov (I 2))]
@[simp] theorem disk_New_r2_go : type_of% (ops_go disk_New_r2.eq_1 T K fr S) := ops_go disk_New_r2.eq_1 T K fr S
def disk_New_r3 : List POper := [M 10 0,Q 11 (.mkm),Q 12 (.mkm),Q 13 (.build [(.int .i64 0), .nilm, .nilm, .nils, (.int .i64 0), (.int .i64 0), (.bool false)] [(0, 1, (V 10)), (1, 1, (V 11)), (2, 1, (V 12)), (4, 1, (I (-1)))]),Q 14 (.box false (V 13)),M 2 14,Q 3 (.mov (I 0))]
@[simp] theorem disk_New_r3_go : type_of% (ops_go disk_New_r3.eq_1 T K fr S) := ops_go disk_New_r3.eq_1 T K fr S
def disk_New : PCodeFn :=
 ⟨1, [.tmp 2, .tmp 3],
 (.seq (.region disk_New_r0) (.seq (.seq (.clr [(4, 9)] (.region disk_New_r1)) (.cond (V 9) (.seq (.region disk_New_r2) .ret) .skip)) (.seq (.clr [(10, 15)] (.region disk_New_r3)) .ret))), false⟩

def ref04_New_r0 : List POper := [Q 2 (.alloc false [(.int .i64 0), .nils, .nils, .nils, (.int .i64 0), (.bool false), (.int .i64 0)]),Q 3 (.mov (I 0))]
@[simp] theorem ref04_New_r0_go : type_of% (ops_go ref04_New_r0.eq_1 T K fr S) := ops_go ref04_New_r0.eq_1 T K fr S
def ref04_New_r1 : List POper := [M 4 0,Q 5 (.arith .lss (V 4) (I 1)),M 6 5,QG (some 7) (.mov (V 0)) 6 false,QG (some 8) (.arith .gtr (V 7) (I 4194304)) 6 false,Q 9 (.pick (V 6) tt' (V 8))]
@[simp] theorem ref04_New_r1_go : type_of% (ops_go ref04_New_r1.eq_1 T K fr S) := ops_go ref04_New_r1.eq_1 T K fr S
def ref04_New_r2 : List POper := [Q 10 (.build [(.int .i64 0), .nils, .nils, .nils, (.int .i64 0), (.bool false), (.int .i64 0)] []),QN (.store 7 (V 2) (V 10)),Q 3 (.mov (I 2))]
@[simp] theorem ref04_New_r2_go : type_of% (ops_go ref04_New_r2.eq_1 T K fr S) := ops_go ref04_New_r2.eq_1 T K fr S
def ref04_New_r3 : List POper := [M 11 0,Q 12 (.build [(.int .i64 0), .nils, .nils, .nils, (.int .i64 0), (.bool false), (.int .i64 0)] [(0, 1, (V 11)), (4, 1, (I (-1)))]),QN (.store 7 (V 2) (V 12)),Q 3 (.mov (I 0))]
@[simp] theorem ref04_New_r3_go : type_of% (ops_go ref04_New_r3.eq_1 T K fr S) := ops_go ref04_New_r3.eq_1 T K fr S
def ref04_New : PCodeFn :=
 ⟨1, [.cell 2 true 7, .tmp 3],
 (.seq (.region ref04_New_r0) (.seq (.seq (.clr [(4, 9)] (.region ref04_New_r1)) (.cond (V 9) (.seq (.clr [(10, 11)] (.region ref04_New_r2)) .ret) .skip)) (.seq (.clr [(11, 13)] (.region ref04_New_r3)) .ret))), false⟩

def law04_lives_r0 : List POper := [Q 0 (.mov ff')]
@[simp] theorem law04_lives_r0_go : type_of% (ops_go law04_lives_r0.eq_1 T K fr S) := ops_go law04_lives_r0.eq_1 T K fr S
def law04_lives_r1 : List POper := [Q 10 (.call .std 16 [(I 10)]),M 9 10,EX 11 0 9,EX 12 1 9,M 1 11,M 2 12]
@[simp] theorem law04_lives_r1_go : type_of% (ops_go law04_lives_r1.eq_1 T K fr S) := ops_go law04_lives_r1.eq_1 T K fr S
def law04_lives_r2 : List POper := [M 13 2,Q 14 (.arith .neq (V 13) (I 0)),M 15 14,QG (some 16) (.mov (V 1)) 15 false,QG (some 17) (.eqn false .p (V 16)) 15 false,Q 18 (.pick (V 15) tt' (V 17))]
@[simp] theorem law04_lives_r2_go : type_of% (ops_go law04_lives_r2.eq_1 T K fr S) := ops_go law04_lives_r2.eq_1 T K fr S
def law04_lives_r3 : List POper := [Q 0 (.mov ff')]
@[simp] theorem law04_lives_r3_go : type_of% (ops_go law04_lives_r3.eq_1 T K fr S) := ops_go law04_lives_r3.eq_1 T K fr S
def law04_lives_r4 : List POper := [M 19 1,Q 20 (.call .std 77 [(V 19), (.cst (.str [97]))]),M 3 20]
@[simp] theorem law04_lives_r4_go : type_of% (ops_go law04_lives_r4.eq_1 T K fr S) := ops_go law04_lives_r4.eq_1 T K fr S
def law04_lives_r5 : List POper := [M 21 1,Q 22 (.mov (.cst .und)),Q 23 (.bsl false (.int .u8 0) 5 [(0, (.cst (.int .u8 104))), (1, (.cst (.int .u8 101))), (2, (.cst (.int .u8 108))), (3, (.cst (.int .u8 108))), (4, (.cst (.int .u8 111)))]),Q 24 (.call .std 78 [(V 21), (.cst (.str [97])), (V 23)]),M 4 24]
@[simp] theorem law04_lives_r5_go : type_of% (ops_go law04_lives_r5.eq_1 T K fr S) := ops_go law04_lives_r5.eq_1 T K fr S
def law04_lives_r6 : List POper := [M 25 1,Q 26 (.call .std 79 [(V 25)]),M 5 26]
@[simp] theorem law04_lives_r6_go : type_of% (ops_go law04_lives_r6.eq_1 T K fr S) := ops_go law04_lives_r6.eq_1 T K fr S
def law04_lives_r7 : List POper := [M 27 1,Q 28 (.bsl false (.int .i64 0) 1 [(0, (I 2))]),Q 29 (.call .std 80 [(V 27), (I 0), (V 28)]),M 6 29]
@[simp] theorem law04_lives_r7_go : type_of% (ops_go law04_lives_r7.eq_1 T K fr S) := ops_go law04_lives_r7.eq_1 T K fr S
def law04_lives_r8 : List POper := [M 31 1,Q 32 (.call .std 81 [(V 31), (.cst (.str [97]))]),M 30 32,EX 33 0 30,EX 34 1 30,M 7 33,M 8 34]
@[simp] theorem law04_lives_r8_go : type_of% (ops_go law04_lives_r8.eq_1 T K fr S) := ops_go law04_lives_r8.eq_1 T K fr S
def law04_lives_r9 : List POper := [M 35 3,Q 36 (.arith .eql (V 35) (I 0)),M 37 36,QG (some 38) (.mov (V 4)) 37 true,QG (some 39) (.arith .eql (V 38) (I 0)) 37 true,Q 40 (.pick (V 37) (V 39) ff'),M 41 40,QG (some 42) (.mov (V 5)) 41 true,QG (some 43) (.arith .eql (V 42) (I 0)) 41 true,Q 44 (.pick (V 41) (V 43) ff'),M 45 44,QG (some 46) (.mov (V 6)) 45 true,QG (some 47) (.arith .eql (V 46) (I 0)) 45 true,Q 48 (.pick (V 45) (V 47) ff'),M 49 48,QG (some 50) (.mov (V 7)) 49 true,QG (some 51) (.toStr (V 50)) 49 true,QG (some 52) (.arith .eql (V 51) (.cst (.str [104, 101]))) 49 true,Q 53 (.pick (V 49) (V 52) ff'),M 54 53,QG (some 55) (.mov (V 8)) 54 true,QG (some 56) (.arith .eql (V 55) (I 0)) 54 true,Q 57 (.pick (V 54) (V 56) ff'),M 58 57,Q 59 (.pick (V 58) tt' ff'),M 60 59,Q 61 (.pick (V 60) tt' ff'),M 62 61,Q 63 (.pick (V 62) tt' ff'),M 64 63,Q 65 (.pick (V 64) tt' ff'),M 0 65]
@[simp] theorem law04_lives_r9_go : type_of% (ops_go law04_lives_r9.eq_1 T K fr S) := ops_go law04_lives_r9.eq_1 T K fr S
def law04_lives : PCodeFn :=
 ⟨0, [.tmp 0],
 (.seq (.region law04_lives_r0) (.seq (.clr [(9, 13)] (.region law04_lives_r1)) (.seq (.seq (.clr [(13, 18)] (.region law04_lives_r2)) (.cond (V 18) (.seq (.region law04_lives_r3) .ret) .skip)) (.seq (.clr [(19, 21)] (.region law04_lives_r4)) (.seq (.clr [(21, 25)] (.region law04_lives_r5)) (.seq (.clr [(25, 27)] (.region law04_lives_r6)) (.seq (.clr [(27, 30)] (.region law04_lives_r7)) (.seq (.clr [(30, 35)] (.region law04_lives_r8)) (.seq (.clr [(35, 66)] (.region law04_lives_r9)) .ret))))))))), false⟩

def law04_do_r0 : List POper := [Q 3 (.box true (V 1)),Q 4 (.mov (I 0)),Q 5 (.mov (.cst .nils))]
@[simp] theorem law04_do_r0_go : type_of% (ops_go law04_do_r0.eq_1 T K fr S) := ops_go law04_do_r0.eq_1 T K fr S
def law04_do_r1 : List POper := [FA 8 0 3,LD 9 8]
@[simp] theorem law04_do_r1_go : type_of% (ops_go law04_do_r1.eq_1 T K fr S) := ops_go law04_do_r1.eq_1 T K fr S
def law04_do_r2 : List POper := [Q 11 (.arith .eql (V 9) (I 1)),M 10 11]
@[simp] theorem law04_do_r2_go : type_of% (ops_go law04_do_r2.eq_1 T K fr S) := ops_go law04_do_r2.eq_1 T K fr S
def law04_do_r3 : List POper := [M 12 0,FA 13 1 3,LD 14 13,Q 15 (.call .std 77 [(V 12), (V 14)]),M 4 15,Q 5 (.mov (.cst .nils))]
@[simp] theorem law04_do_r3_go : type_of% (ops_go law04_do_r3.eq_1 T K fr S) := ops_go law04_do_r3.eq_1 T K fr S
def law04_do_r4 : List POper := [Q 17 (.arith .eql (V 9) (I 2)),M 16 17]
@[simp] theorem law04_do_r4_go : type_of% (ops_go law04_do_r4.eq_1 T K fr S) := ops_go law04_do_r4.eq_1 T K fr S
def law04_do_r5 : List POper := [M 18 0,FA 19 1 3,LD 20 19,FA 21 3 3,LD 22 21,Q 23 (.call .std 78 [(V 18), (V 20), (V 22)]),M 4 23,Q 5 (.mov (.cst .nils))]
@[simp] theorem law04_do_r5_go : type_of% (ops_go law04_do_r5.eq_1 T K fr S) := ops_go law04_do_r5.eq_1 T K fr S
def law04_do_r6 : List POper := [Q 25 (.arith .eql (V 9) (I 3)),M 24 25]
@[simp] theorem law04_do_r6_go : type_of% (ops_go law04_do_r6.eq_1 T K fr S) := ops_go law04_do_r6.eq_1 T K fr S
def law04_do_r7 : List POper := [M 26 0,FA 27 1 3,LD 28 27,FA 29 2 3,LD 30 29,Q 31 (.call .std 82 [(V 26), (V 28), (V 30)]),M 4 31,Q 5 (.mov (.cst .nils))]
@[simp] theorem law04_do_r7_go : type_of% (ops_go law04_do_r7.eq_1 T K fr S) := ops_go law04_do_r7.eq_1 T K fr S
def law04_do_r8 : List POper := [Q 33 (.arith .eql (V 9) (I 4)),M 32 33]
@[simp] theorem law04_do_r8_go : type_of% (ops_go law04_do_r8.eq_1 T K fr S) := ops_go law04_do_r8.eq_1 T K fr S
def law04_do_r9 : List POper := [M 34 0,FA 35 1 3,LD 36 35,Q 37 (.call .std 83 [(V 34), (V 36)]),M 4 37,Q 5 (.mov (.cst .nils))]
@[simp] theorem law04_do_r9_go : type_of% (ops_go law04_do_r9.eq_1 T K fr S) := ops_go law04_do_r9.eq_1 T K fr S
def law04_do_r10 : List POper := [Q 39 (.arith .eql (V 9) (I 5)),M 38 39]
@[simp] theorem law04_do_r10_go : type_of% (ops_go law04_do_r10.eq_1 T K fr S) := ops_go law04_do_r10.eq_1 T K fr S
def law04_do_r11 : List POper := [M 40 0,FA 41 1 3,LD 42 41,Q 43 (.call .std 84 [(V 40), (V 42)]),M 4 43,Q 5 (.mov (.cst .nils))]
@[simp] theorem law04_do_r11_go : type_of% (ops_go law04_do_r11.eq_1 T K fr S) := ops_go law04_do_r11.eq_1 T K fr S
def law04_do_r12 : List POper := [Q 45 (.arith .eql (V 9) (I 6)),M 44 45]
@[simp] theorem law04_do_r12_go : type_of% (ops_go law04_do_r12.eq_1 T K fr S) := ops_go law04_do_r12.eq_1 T K fr S
def law04_do_r13 : List POper := [M 46 0,Q 47 (.call .std 79 [(V 46)]),M 4 47,Q 5 (.mov (.cst .nils))]
@[simp] theorem law04_do_r13_go : type_of% (ops_go law04_do_r13.eq_1 T K fr S) := ops_go law04_do_r13.eq_1 T K fr S
def law04_do_r14 : List POper := [Q 49 (.arith .eql (V 9) (I 7)),M 48 49]
@[simp] theorem law04_do_r14_go : type_of% (ops_go law04_do_r14.eq_1 T K fr S) := ops_go law04_do_r14.eq_1 T K fr S
def law04_do_r15 : List POper := [M 51 0,FA 52 1 3,LD 53 52,Q 54 (.call .std 81 [(V 51), (V 53)]),M 50 54,EX 55 0 50,EX 56 1 50,M 6 55,M 7 56]
@[simp] theorem law04_do_r15_go : type_of% (ops_go law04_do_r15.eq_1 T K fr S) := ops_go law04_do_r15.eq_1 T K fr S
def law04_do_r16 : List POper := [M 57 7,M 58 6,M 4 57,M 5 58]
@[simp] theorem law04_do_r16_go : type_of% (ops_go law04_do_r16.eq_1 T K fr S) := ops_go law04_do_r16.eq_1 T K fr S
def law04_do_r17 : List POper := [Q 60 (.arith .eql (V 9) (I 8)),M 59 60]
@[simp] theorem law04_do_r17_go : type_of% (ops_go law04_do_r17.eq_1 T K fr S) := ops_go law04_do_r17.eq_1 T K fr S
def law04_do_r18 : List POper := [M 61 0,FA 62 4 3,LD 63 62,Q 64 (.call .std 85 [(V 61), (V 63)])]
@[simp] theorem law04_do_r18_go : type_of% (ops_go law04_do_r18.eq_1 T K fr S) := ops_go law04_do_r18.eq_1 T K fr S
def law04_do_r19 : List POper := [Q 66 (.arith .eql (V 9) (I 9)),M 65 66]
@[simp] theorem law04_do_r19_go : type_of% (ops_go law04_do_r19.eq_1 T K fr S) := ops_go law04_do_r19.eq_1 T K fr S
def law04_do_r20 : List POper := [M 67 0,FA 68 4 3,LD 69 68,FA 70 5 3,LD 71 70,Q 72 (.call .std 80 [(V 67), (V 69), (V 71)]),M 4 72,Q 5 (.mov (.cst .nils))]
@[simp] theorem law04_do_r20_go : type_of% (ops_go law04_do_r20.eq_1 T K fr S) := ops_go law04_do_r20.eq_1 T K fr S
def law04_do_r21 : List POper := [Q 4 (.mov (I 0)),Q 5 (.mov (.cst .nils))]
@[simp] theorem law04_do_r21_go : type_of% (ops_go law04_do_r21.eq_1 T K fr S) := ops_go law04_do_r21.eq_1 T K fr S
def law04_do : PCodeFn :=
 ⟨2, [.tmp 4, .tmp 5],
 (.seq (.region law04_do_r0) (.seq (.seq (.clr [(8, 9)] (.region law04_do_r1)) (.block 0 (.seq (.clr [(11, 12)] (.region law04_do_r2)) (.cond (V 10) (.seq (.clr [(12, 16)] (.region law04_do_r3)) .ret) (.seq (.clr [(17, 18)] (.region law04_do_r4)) (.cond (V 16) (.seq (.clr [(18, 24)] (.region law04_do_r5)) .ret) (.seq (.clr [(25, 26)] (.region law04_do_r6)) (.cond (V 24) (.seq (.clr [(26, 32)] (.region law04_do_r7)) .ret) (.seq (.clr [(33, 34)] (.region law04_do_r8)) (.cond (V 32) (.seq (.clr [(34, 38)] (.region law04_do_r9)) .ret) (.seq (.clr [(39, 40)] (.region law04_do_r10)) (.cond (V 38) (.seq (.clr [(40, 44)] (.region law04_do_r11)) .ret) (.seq (.clr [(45, 46)] (.region law04_do_r12)) (.cond (V 44) (.seq (.clr [(46, 48)] (.region law04_do_r13)) .ret) (.seq (.clr [(49, 50)] (.region law04_do_r14)) (.cond (V 48) (.seq (.clr [(50, 57)] (.region law04_do_r15)) (.seq (.clr [(57, 59)] (.region law04_do_r16)) .ret)) (.seq (.clr [(60, 61)] (.region law04_do_r17)) (.cond (V 59) (.clr [(61, 65)] (.region law04_do_r18)) (.seq (.clr [(66, 67)] (.region law04_do_r19)) (.cond (V 65) (.seq (.clr [(67, 73)] (.region law04_do_r20)) .ret) .skip)))))))))))))))))))) (.seq (.region law04_do_r21) .ret))), true⟩

def law04_done_r0 : List POper := [Q 2 (.box true (V 0)),Q 3 (.box true (V 1)),Q 4 (.alloc false [(.int .i64 0), .nils, .nils, .nils, (.int .i64 0), (.bool false), (.int .i64 0)]),Q 5 (.mov (I 0)),Q 6 (.mov (.cst .nils))]
@[simp] theorem law04_done_r0_go : type_of% (ops_go law04_done_r0.eq_1 T K fr S) := ops_go law04_done_r0.eq_1 T K fr S
def law04_done_r1 : List POper := [FA 11 0 3,LD 12 11,Q 13 (.arith .geq (V 12) (I 1)),M 14 13,QG (some 15) (.faddr 0 (V 3)) 14 true,QG (some 16) (.load false 1 false (V 15)) 14 true,QG (some 17) (.arith .leq (V 16) (I 6)) 14 true,Q 18 (.pick (V 14) (V 17) ff')]
@[simp] theorem law04_done_r1_go : type_of% (ops_go law04_done_r1.eq_1 T K fr S) := ops_go law04_done_r1.eq_1 T K fr S
def law04_done_r2 : List POper := [Q 20 (.load true 7 false (V 2)),FA 21 0 3,LD 22 21,FA 23 1 3,LD 24 23,FA 25 2 3,LD 26 25,FA 27 3 3,LD 28 27,Q 29 (.call .std 86 [(V 20), (V 22), (V 24), (V 26), (V 28)]),M 19 29,EX 30 0 19,EX 31 1 19,Q 7 (.alloc false [(.int .i64 0), .nils, .nils, .nils, (.int .i64 0), (.bool false), (.int .i64 0)]),QN (.store 7 (V 7) (V 30)),M 8 31]
@[simp] theorem law04_done_r2_go : type_of% (ops_go law04_done_r2.eq_1 T K fr S) := ops_go law04_done_r2.eq_1 T K fr S
def law04_done_r3 : List POper := [Q 32 (.load true 7 false (V 7)),M 33 8,QN (.store 7 (V 4) (V 32)),M 5 33,Q 6 (.mov (.cst .nils))]
@[simp] theorem law04_done_r3_go : type_of% (ops_go law04_done_r3.eq_1 T K fr S) := ops_go law04_done_r3.eq_1 T K fr S
def law04_done_r4 : List POper := [FA 34 0 3,LD 35 34]
@[simp] theorem law04_done_r4_go : type_of% (ops_go law04_done_r4.eq_1 T K fr S) := ops_go law04_done_r4.eq_1 T K fr S
def law04_done_r5 : List POper := [Q 37 (.arith .eql (V 35) (I 7)),M 36 37]
@[simp] theorem law04_done_r5_go : type_of% (ops_go law04_done_r5.eq_1 T K fr S) := ops_go law04_done_r5.eq_1 T K fr S
def law04_done_r6 : List POper := [Q 39 (.load true 7 false (V 2)),FA 40 1 3,LD 41 40,Q 42 (.call .std 87 [(V 39), (V 41)]),M 38 42,EX 43 0 38,EX 44 1 38,M 9 43,M 10 44]
@[simp] theorem law04_done_r6_go : type_of% (ops_go law04_done_r6.eq_1 T K fr S) := ops_go law04_done_r6.eq_1 T K fr S
def law04_done_r7 : List POper := [Q 45 (.load true 7 false (V 2)),M 46 10,M 47 9,QN (.store 7 (V 4) (V 45)),M 5 46,M 6 47]
@[simp] theorem law04_done_r7_go : type_of% (ops_go law04_done_r7.eq_1 T K fr S) := ops_go law04_done_r7.eq_1 T K fr S
def law04_done_r8 : List POper := [Q 49 (.arith .eql (V 35) (I 8)),M 48 49]
@[simp] theorem law04_done_r8_go : type_of% (ops_go law04_done_r8.eq_1 T K fr S) := ops_go law04_done_r8.eq_1 T K fr S
def law04_done_r9 : List POper := [Q 50 (.load true 7 false (V 2)),FA 51 4 3,LD 52 51,Q 53 (.call .std 88 [(V 50), (V 52)]),QN (.store 7 (V 4) (V 53)),Q 5 (.mov (I 0)),Q 6 (.mov (.cst .nils))]
@[simp] theorem law04_done_r9_go : type_of% (ops_go law04_done_r9.eq_1 T K fr S) := ops_go law04_done_r9.eq_1 T K fr S
def law04_done_r10 : List POper := [Q 55 (.arith .eql (V 35) (I 9)),M 54 55]
@[simp] theorem law04_done_r10_go : type_of% (ops_go law04_done_r10.eq_1 T K fr S) := ops_go law04_done_r10.eq_1 T K fr S
def law04_done_r11 : List POper := [Q 56 (.load true 7 false (V 2)),FA 57 4 3,LD 58 57,FA 59 5 3,LD 60 59,Q 61 (.call .std 89 [(V 56), (V 58), (V 60)]),QN (.store 7 (V 4) (V 61)),Q 5 (.mov (I 0)),Q 6 (.mov (.cst .nils))]
@[simp] theorem law04_done_r11_go : type_of% (ops_go law04_done_r11.eq_1 T K fr S) := ops_go law04_done_r11.eq_1 T K fr S
def law04_done_r12 : List POper := [Q 62 (.load true 7 false (V 2)),QN (.store 7 (V 4) (V 62)),Q 5 (.mov (I 0)),Q 6 (.mov (.cst .nils))]
@[simp] theorem law04_done_r12_go : type_of% (ops_go law04_done_r12.eq_1 T K fr S) := ops_go law04_done_r12.eq_1 T K fr S
def law04_done : PCodeFn :=
 ⟨2, [.cell 4 true 7, .tmp 5, .tmp 6],
 (.seq (.region law04_done_r0) (.seq (.seq (.clr [(11, 18)] (.region law04_done_r1)) (.cond (V 18) (.seq (.clr [(19, 32)] (.region law04_done_r2)) (.seq (.clr [(32, 34)] (.region law04_done_r3)) .ret)) .skip)) (.seq (.seq (.clr [(34, 35)] (.region law04_done_r4)) (.block 0 (.seq (.clr [(37, 38)] (.region law04_done_r5)) (.cond (V 36) (.seq (.clr [(38, 45)] (.region law04_done_r6)) (.seq (.clr [(45, 48)] (.region law04_done_r7)) .ret)) (.seq (.clr [(49, 50)] (.region law04_done_r8)) (.cond (V 48) (.seq (.clr [(50, 54)] (.region law04_done_r9)) .ret) (.seq (.clr [(55, 56)] (.region law04_done_r10)) (.cond (V 54) (.seq (.clr [(56, 62)] (.region law04_done_r11)) .ret) .skip)))))))) (.seq (.clr [(62, 63)] (.region law04_done_r12)) .ret)))), false⟩

def disk_Disk_Copy_r0 : List POper := [Q 2 (.mov (.cst .nilp))]
@[simp] theorem disk_Disk_Copy_r0_go : type_of% (ops_go disk_Disk_Copy_r0.eq_1 T K fr S) := ops_go disk_Disk_Copy_r0.eq_1 T K fr S
def disk_Disk_Copy_r1 : List POper := [M 9 0,Q 10 (.eqn false .p (V 9)),M 11 10,QG (some 12) (.mov (V 0)) 11 false,QG (some 13) (.nilck (V 12)) 11 false,QG (some 14) (.faddr 2 (V 13)) 11 false,QG (some 15) (.load false 1 false (V 14)) 11 false,QG (some 16) (.eqn false .m (V 15)) 11 false,Q 17 (.pick (V 11) tt' (V 16))]
@[simp] theorem disk_Disk_Copy_r1_go : type_of% (ops_go disk_Disk_Copy_r1.eq_1 T K fr S) := ops_go disk_Disk_Copy_r1.eq_1 T K fr S
def disk_Disk_Copy_r2 : List POper := [Q 2 (.mov (.cst .nilp))]
@[simp] theorem disk_Disk_Copy_r2_go : type_of% (ops_go disk_Disk_Copy_r2.eq_1 T K fr S) := ops_go disk_Disk_Copy_r2.eq_1 T K fr S
def disk_Disk_Copy_r3 : List POper := [Q 18 (.mkm),Q 3 (.alloc false [.nilm]),QN (.store 1 (V 3) (V 18))]
@[simp] theorem disk_Disk_Copy_r3_go : type_of% (ops_go disk_Disk_Copy_r3.eq_1 T K fr S) := ops_go disk_Disk_Copy_r3.eq_1 T K fr S
def disk_Disk_Copy_r4 : List POper := [Q 19 (.mkfn 463 [(V 3)]),Q 4 (.alloc false [.nilf]),QN (.store 1 (V 4) (V 19))]
@[simp] theorem disk_Disk_Copy_r4_go : type_of% (ops_go disk_Disk_Copy_r4.eq_1 T K fr S) := ops_go disk_Disk_Copy_r4.eq_1 T K fr S
def disk_Disk_Copy_r5 : List POper := [Q 20 (.mkfn 464 [(V 4)]),M 5 20]
@[simp] theorem disk_Disk_Copy_r5_go : type_of% (ops_go disk_Disk_Copy_r5.eq_1 T K fr S) := ops_go disk_Disk_Copy_r5.eq_1 T K fr S
def disk_Disk_Copy_r6 : List POper := [M 21 0,NK' 22 21,Q 23 (.load true 7 false (V 22)),Q 6 (.alloc false [(.int .i64 0), .nilm, .nilm, .nils, (.int .i64 0), (.int .i64 0), (.bool false)]),QN (.store 7 (V 6) (V 23))]
@[simp] theorem disk_Disk_Copy_r6_go : type_of% (ops_go disk_Disk_Copy_r6.eq_1 T K fr S) := ops_go disk_Disk_Copy_r6.eq_1 T K fr S
def disk_Disk_Copy_r7 : List POper := [M 24 5,M 25 0,NK' 26 25,FA 27 1 26,LD 28 27,Q 29 (.callv .pur (V 24) [(V 28)]),M 30 5,M 31 0,NK' 32 31,FA 33 2 32,LD 34 33,Q 35 (.callv .std (V 30) [(V 34)]),FA 36 1 6,QN (.store 1 (V 36) (V 29)),FA 37 2 6,QN (.store 1 (V 37) (V 35)),FA 38 3 6,QN (.store 1 (V 38) (.cst .nils))]
@[simp] theorem disk_Disk_Copy_r7_go : type_of% (ops_go disk_Disk_Copy_r7.eq_1 T K fr S) := ops_go disk_Disk_Copy_r7.eq_1 T K fr S
def disk_Disk_Copy_r8 : List POper := [M 39 0,NK' 40 39,FA 41 3 40,LD 42 41,Q 43 (.len false (V 42)),Q 44 (.mov (I 0))]
@[simp] theorem disk_Disk_Copy_r8_go : type_of% (ops_go disk_Disk_Copy_r8.eq_1 T K fr S) := ops_go disk_Disk_Copy_r8.eq_1 T K fr S
def disk_Disk_Copy_r9 : List POper := [Q 45 (.arith .lss (V 44) (V 43))]
@[simp] theorem disk_Disk_Copy_r9_go : type_of% (ops_go disk_Disk_Copy_r9.eq_1 T K fr S) := ops_go disk_Disk_Copy_r9.eq_1 T K fr S
def disk_Disk_Copy_r10 : List POper := [Q 46 (.iaddr 3 (V 42) (V 44)),Q 47 (.load true 3 false (V 46)),Q 8 (.alloc false [(.str []), (.str []), .nilp]),QN (.store 3 (V 8) (V 47))]
@[simp] theorem disk_Disk_Copy_r10_go : type_of% (ops_go disk_Disk_Copy_r10.eq_1 T K fr S) := ops_go disk_Disk_Copy_r10.eq_1 T K fr S
def disk_Disk_Copy_r11 : List POper := [LD 48 4,FA 49 2 8,LD 50 49,Q 51 (.callv .std (V 48) [(V 50)]),FA 52 2 8,QN (.store 1 (V 52) (V 51))]
@[simp] theorem disk_Disk_Copy_r11_go : type_of% (ops_go disk_Disk_Copy_r11.eq_1 T K fr S) := ops_go disk_Disk_Copy_r11.eq_1 T K fr S
def disk_Disk_Copy_r12 : List POper := [FA 53 3 6,LD 54 53,Q 55 (.load true 3 false (V 8)),Q 56 (.bsl false (.agg [(.str []), (.str []), .nilp]) 1 [(0, (V 55))]),Q 57 (.app 3 40 (V 54) (V 56)),FA 58 3 6,QN (.store 1 (V 58) (V 57))]
@[simp] theorem disk_Disk_Copy_r12_go : type_of% (ops_go disk_Disk_Copy_r12.eq_1 T K fr S) := ops_go disk_Disk_Copy_r12.eq_1 T K fr S
def disk_Disk_Copy_r13 : List POper := [Q 59 (.arith .add (V 44) (I 1)),M 44 59]
@[simp] theorem disk_Disk_Copy_r13_go : type_of% (ops_go disk_Disk_Copy_r13.eq_1 T K fr S) := ops_go disk_Disk_Copy_r13.eq_1 T K fr S
def disk_Disk_Copy_l0 : PCode :=
 (.seq (.region disk_Disk_Copy_r9) (.seq (.cond (V 45) .skip (.exit 0)) (.seq (.block 1 (.seq (.clr [(46, 48)] (.region disk_Disk_Copy_r10)) (.seq (.clr [(48, 53)] (.region disk_Disk_Copy_r11)) (.clr [(53, 59)] (.region disk_Disk_Copy_r12))))) (.clr [(59, 60)] (.region disk_Disk_Copy_r13)))))
@[simp] theorem disk_Disk_Copy_l0_go : type_of% (code_go disk_Disk_Copy_l0.eq_1 T K fr S) := code_go disk_Disk_Copy_l0.eq_1 T K fr S
def disk_Disk_Copy_r14 : List POper := [M 2 6]
@[simp] theorem disk_Disk_Copy_r14_go : type_of% (ops_go disk_Disk_Copy_r14.eq_1 T K fr S) := ops_go disk_Disk_Copy_r14.eq_1 T K fr S
def disk_Disk_Copy : PCodeFn :=
 ⟨1, [.tmp 2],
 (.seq (.region disk_Disk_Copy_r0) (.seq (.seq (.clr [(9, 17)] (.region disk_Disk_Copy_r1)) (.cond (V 17) (.seq (.region disk_Disk_Copy_r2) .ret) .skip)) (.seq (.clr [(18, 19)] (.region disk_Disk_Copy_r3)) (.seq (.clr [(19, 20)] (.region disk_Disk_Copy_r4)) (.seq (.clr [(20, 21)] (.region disk_Disk_Copy_r5)) (.seq (.clr [(21, 24)] (.region disk_Disk_Copy_r6)) (.seq (.clr [(24, 39)] (.region disk_Disk_Copy_r7)) (.seq (.seq (.clr [(39, 42)] (.region disk_Disk_Copy_r8)) (.block 0 (.loop disk_Disk_Copy_l0))) (.seq (.region disk_Disk_Copy_r14) .ret))))))))), false⟩

def law04_whole_r0 : List POper := [Q 3 (.box true (V 1)),Q 4 (.mov ff')]
@[simp] theorem law04_whole_r0_go : type_of% (ops_go law04_whole_r0.eq_1 T K fr S) := ops_go law04_whole_r0.eq_1 T K fr S
def law04_whole_r1 : List POper := [M 11 0,Q 12 (.call .std 90 [(V 11)]),M 5 12]
@[simp] theorem law04_whole_r1_go : type_of% (ops_go law04_whole_r1.eq_1 T K fr S) := ops_go law04_whole_r1.eq_1 T K fr S
def law04_whole_r2 : List POper := [M 13 5,Q 14 (.load true 7 true (V 3)),Q 15 (.call .std 92 [(V 14)]),Q 16 (.call .std 91 [(V 13), (V 15)]),Q 17 (.un .not (V 16)),M 18 17,QG (some 19) (.mov (V 0)) 18 false,QG (some 20) (.call .std 93 [(V 19)]) 18 false,QG (some 21) (.faddr 6 (V 3)) 18 false,QG (some 22) (.load false 1 true (V 21)) 18 false,QG (some 23) (.arith .neq (V 20) (V 22)) 18 false,Q 24 (.pick (V 18) tt' (V 23))]
@[simp] theorem law04_whole_r2_go : type_of% (ops_go law04_whole_r2.eq_1 T K fr S) := ops_go law04_whole_r2.eq_1 T K fr S
def law04_whole_r3 : List POper := [Q 4 (.mov ff')]
@[simp] theorem law04_whole_r3_go : type_of% (ops_go law04_whole_r3.eq_1 T K fr S) := ops_go law04_whole_r3.eq_1 T K fr S
def law04_whole_r4 : List POper := [Q 6 (.mov (I 0))]
@[simp] theorem law04_whole_r4_go : type_of% (ops_go law04_whole_r4.eq_1 T K fr S) := ops_go law04_whole_r4.eq_1 T K fr S
def law04_whole_r5 : List POper := [M 25 6,M 26 5,Q 27 (.len false (V 26)),Q 28 (.arith .lss (V 25) (V 27))]
@[simp] theorem law04_whole_r5_go : type_of% (ops_go law04_whole_r5.eq_1 T K fr S) := ops_go law04_whole_r5.eq_1 T K fr S
def law04_whole_r7 : List POper := [M 32 0,M 33 5,M 34 6,Q 35 (.iaddr 1 (V 33) (V 34)),LD 36 35,Q 37 (.call .std 81 [(V 32), (V 36)]),M 31 37,EX 38 0 31,EX 39 1 31,M 7 38,M 8 39]
@[simp] theorem law04_whole_r7_go : type_of% (ops_go law04_whole_r7.eq_1 T K fr S) := ops_go law04_whole_r7.eq_1 T K fr S
def law04_whole_r8 : List POper := [Q 41 (.load true 7 true (V 3)),M 42 5,M 43 6,Q 44 (.iaddr 1 (V 42) (V 43)),Q 45 (.load false 1 true (V 44)),Q 46 (.call .std 87 [(V 41), (V 45)]),M 40 46,EX 47 0 40,EX 48 1 40,M 9 47,M 10 48]
@[simp] theorem law04_whole_r8_go : type_of% (ops_go law04_whole_r8.eq_1 T K fr S) := ops_go law04_whole_r8.eq_1 T K fr S
def law04_whole_r9 : List POper := [M 49 7,Q 50 (.toStr (V 49)),M 51 9,Q 52 (.toStr (V 51)),Q 53 (.arith .neq (V 50) (V 52)),M 54 53,QG (some 55) (.mov (V 8)) 54 false,QG (some 56) (.mov (V 10)) 54 false,QG (some 57) (.arith .neq (V 55) (V 56)) 54 false,Q 58 (.pick (V 54) tt' (V 57))]
@[simp] theorem law04_whole_r9_go : type_of% (ops_go law04_whole_r9.eq_1 T K fr S) := ops_go law04_whole_r9.eq_1 T K fr S
def law04_whole_r10 : List POper := [Q 4 (.mov ff')]
@[simp] theorem law04_whole_r10_go : type_of% (ops_go law04_whole_r10.eq_1 T K fr S) := ops_go law04_whole_r10.eq_1 T K fr S
def law04_whole_r6 : List POper := [M 29 6,Q 30 (.arith .add (V 29) (I 1)),M 6 30]
@[simp] theorem law04_whole_r6_go : type_of% (ops_go law04_whole_r6.eq_1 T K fr S) := ops_go law04_whole_r6.eq_1 T K fr S
def law04_whole_l0 : PCode :=
 (.seq (.seq (.clr [(25, 28)] (.region law04_whole_r5)) (.cond (V 28) .skip (.exit 0))) (.seq (.block 1 (.seq (.clr [(31, 40)] (.region law04_whole_r7)) (.seq (.clr [(40, 49)] (.region law04_whole_r8)) (.seq (.clr [(49, 58)] (.region law04_whole_r9)) (.cond (V 58) (.seq (.region law04_whole_r10) .ret) .skip))))) (.clr [(29, 31)] (.region law04_whole_r6))))
@[simp] theorem law04_whole_l0_go : type_of% (code_go law04_whole_l0.eq_1 T K fr S) := code_go law04_whole_l0.eq_1 T K fr S
def law04_whole_r11 : List POper := [Q 4 (.mov tt')]
@[simp] theorem law04_whole_r11_go : type_of% (ops_go law04_whole_r11.eq_1 T K fr S) := ops_go law04_whole_r11.eq_1 T K fr S
def law04_whole : PCodeFn :=
 ⟨2, [.tmp 4],
 (.seq (.region law04_whole_r0) (.seq (.clr [(11, 13)] (.region law04_whole_r1)) (.seq (.seq (.clr [(13, 24)] (.region law04_whole_r2)) (.cond (V 24) (.seq (.region law04_whole_r3) .ret) .skip)) (.seq (.seq (.region law04_whole_r4) (.block 0 (.loop law04_whole_l0))) (.seq (.region law04_whole_r11) .ret))))), false⟩

def disk_Disk_Create_r0 : List POper := [Q 4 (.mov (I 0))]
@[simp] theorem disk_Disk_Create_r0_go : type_of% (ops_go disk_Disk_Create_r0.eq_1 T K fr S) := ops_go disk_Disk_Create_r0.eq_1 T K fr S
def disk_Disk_Create_r1 : List POper := [M 8 0,M 9 1,Q 10 (.call .std 194 [(V 8), (V 9)]),M 7 10,EX 11 0 7,EX 12 1 7,M 5 11,M 6 12]
@[simp] theorem disk_Disk_Create_r1_go : type_of% (ops_go disk_Disk_Create_r1.eq_1 T K fr S) := ops_go disk_Disk_Create_r1.eq_1 T K fr S
def disk_Disk_Create_r2 : List POper := [M 14 6,Q 15 (.arith .eql (V 14) (I 0)),M 13 15]
@[simp] theorem disk_Disk_Create_r2_go : type_of% (ops_go disk_Disk_Create_r2.eq_1 T K fr S) := ops_go disk_Disk_Create_r2.eq_1 T K fr S
def disk_Disk_Create_r3 : List POper := [Q 4 (.mov (I 10))]
@[simp] theorem disk_Disk_Create_r3_go : type_of% (ops_go disk_Disk_Create_r3.eq_1 T K fr S) := ops_go disk_Disk_Create_r3.eq_1 T K fr S
def disk_Disk_Create_r4 : List POper := [M 17 6,Q 18 (.arith .neq (V 17) (I 9)),M 16 18]
@[simp] theorem disk_Disk_Create_r4_go : type_of% (ops_go disk_Disk_Create_r4.eq_1 T K fr S) := ops_go disk_Disk_Create_r4.eq_1 T K fr S
def disk_Disk_Create_r5 : List POper := [M 19 6,M 4 19]
@[simp] theorem disk_Disk_Create_r5_go : type_of% (ops_go disk_Disk_Create_r5.eq_1 T K fr S) := ops_go disk_Disk_Create_r5.eq_1 T K fr S
def disk_Disk_Create_r6 : List POper := [M 21 0,NK' 22 21,FA 23 2 22,LD 24 23,Q 25 (.mlen (V 24)),Q 26 (.arith .geq (V 25) (I 64)),M 20 26]
@[simp] theorem disk_Disk_Create_r6_go : type_of% (ops_go disk_Disk_Create_r6.eq_1 T K fr S) := ops_go disk_Disk_Create_r6.eq_1 T K fr S
def disk_Disk_Create_r7 : List POper := [Q 4 (.mov (I 7))]
@[simp] theorem disk_Disk_Create_r7_go : type_of% (ops_go disk_Disk_Create_r7.eq_1 T K fr S) := ops_go disk_Disk_Create_r7.eq_1 T K fr S
def disk_Disk_Create_r8 : List POper := [M 27 0,M 28 1,Q 29 (.build [.nils, (.int .i64 0)] []),Q 30 (.box false (V 29)),Q 31 (.build [(.str []), (.str []), .nilp] [(1, 1, (V 28)), (2, 1, (V 30))]),Q 32 (.call .std 195 [(V 27), (V 31)]),M 4 32]
@[simp] theorem disk_Disk_Create_r8_go : type_of% (ops_go disk_Disk_Create_r8.eq_1 T K fr S) := ops_go disk_Disk_Create_r8.eq_1 T K fr S
def disk_Disk_Create : PCodeFn :=
 ⟨2, [.tmp 4],
 (.seq (.region disk_Disk_Create_r0) (.seq (.clr [(5, 6), (7, 13)] (.region disk_Disk_Create_r1)) (.seq (.block 0 (.seq (.clr [(14, 16)] (.region disk_Disk_Create_r2)) (.cond (V 13) (.seq (.region disk_Disk_Create_r3) .ret) (.seq (.clr [(17, 19)] (.region disk_Disk_Create_r4)) (.cond (V 16) (.seq (.clr [(19, 20)] (.region disk_Disk_Create_r5)) .ret) (.seq (.clr [(21, 27)] (.region disk_Disk_Create_r6)) (.cond (V 20) (.seq (.region disk_Disk_Create_r7) .ret) .skip))))))) (.seq (.clr [(27, 33)] (.region disk_Disk_Create_r8)) .ret)))), false⟩

def disk_Disk_Append_r0 : List POper := [Q 6 (.mov (I 0))]
@[simp] theorem disk_Disk_Append_r0_go : type_of% (ops_go disk_Disk_Append_r0.eq_1 T K fr S) := ops_go disk_Disk_Append_r0.eq_1 T K fr S
def disk_Disk_Append_r1 : List POper := [M 14 0,M 15 1,Q 16 (.call .std 194 [(V 14), (V 15)]),M 13 16,EX 17 0 13,EX 18 1 13,M 7 17,M 8 18]
@[simp] theorem disk_Disk_Append_r1_go : type_of% (ops_go disk_Disk_Append_r1.eq_1 T K fr S) := ops_go disk_Disk_Append_r1.eq_1 T K fr S
def disk_Disk_Append_r2 : List POper := [M 19 8,Q 20 (.arith .neq (V 19) (I 0))]
@[simp] theorem disk_Disk_Append_r2_go : type_of% (ops_go disk_Disk_Append_r2.eq_1 T K fr S) := ops_go disk_Disk_Append_r2.eq_1 T K fr S
def disk_Disk_Append_r3 : List POper := [M 21 8,M 6 21]
@[simp] theorem disk_Disk_Append_r3_go : type_of% (ops_go disk_Disk_Append_r3.eq_1 T K fr S) := ops_go disk_Disk_Append_r3.eq_1 T K fr S
def disk_Disk_Append_r4 : List POper := [M 22 0,NK' 23 22,FA 24 0 23,LD 25 24,M 9 25]
@[simp] theorem disk_Disk_Append_r4_go : type_of% (ops_go disk_Disk_Append_r4.eq_1 T K fr S) := ops_go disk_Disk_Append_r4.eq_1 T K fr S
def disk_Disk_Append_r5 : List POper := [M 26 0,NK' 27 26,FA 28 2 27,LD 29 28]
@[simp] theorem disk_Disk_Append_r5_go : type_of% (ops_go disk_Disk_Append_r5.eq_1 T K fr S) := ops_go disk_Disk_Append_r5.eq_1 T K fr S
def disk_Disk_Append_r7 : List POper := [EX 34 1 33,M 11 34]
@[simp] theorem disk_Disk_Append_r7_go : type_of% (ops_go disk_Disk_Append_r7.eq_1 T K fr S) := ops_go disk_Disk_Append_r7.eq_1 T K fr S
def disk_Disk_Append_r8 : List POper := [M 35 9,M 36 11,NK' 37 36,FA 38 0 37,LD 39 38,Q 40 (.len false (V 39)),Q 41 (.arith .sub (V 35) (V 40)),M 9 41]
@[simp] theorem disk_Disk_Append_r8_go : type_of% (ops_go disk_Disk_Append_r8.eq_1 T K fr S) := ops_go disk_Disk_Append_r8.eq_1 T K fr S
def disk_Disk_Append_r9 : List POper := [M 42 2,Q 43 (.len false (V 42)),M 44 9,Q 45 (.arith .gtr (V 43) (V 44))]
@[simp] theorem disk_Disk_Append_r9_go : type_of% (ops_go disk_Disk_Append_r9.eq_1 T K fr S) := ops_go disk_Disk_Append_r9.eq_1 T K fr S
def disk_Disk_Append_r10 : List POper := [Q 6 (.mov (I 7))]
@[simp] theorem disk_Disk_Append_r10_go : type_of% (ops_go disk_Disk_Append_r10.eq_1 T K fr S) := ops_go disk_Disk_Append_r10.eq_1 T K fr S
def disk_Disk_Append_r11 : List POper := [M 46 0,Q 47 (.call .std 196 [(V 46)]),M 12 47]
@[simp] theorem disk_Disk_Append_r11_go : type_of% (ops_go disk_Disk_Append_r11.eq_1 T K fr S) := ops_go disk_Disk_Append_r11.eq_1 T K fr S
def disk_Disk_Append_r12 : List POper := [M 48 12,Q 49 (.arith .neq (V 48) (I 0))]
@[simp] theorem disk_Disk_Append_r12_go : type_of% (ops_go disk_Disk_Append_r12.eq_1 T K fr S) := ops_go disk_Disk_Append_r12.eq_1 T K fr S
def disk_Disk_Append_r13 : List POper := [M 50 12,M 6 50]
@[simp] theorem disk_Disk_Append_r13_go : type_of% (ops_go disk_Disk_Append_r13.eq_1 T K fr S) := ops_go disk_Disk_Append_r13.eq_1 T K fr S
def disk_Disk_Append_r14 : List POper := [M 51 7,M 52 7,NK' 53 52,FA 54 0 53,LD 55 54,M 56 2,Q 57 (.app 1 1 (V 55) (V 56)),NK' 58 51,FA 59 0 58,QN (.store 1 (V 59) (V 57))]
@[simp] theorem disk_Disk_Append_r14_go : type_of% (ops_go disk_Disk_Append_r14.eq_1 T K fr S) := ops_go disk_Disk_Append_r14.eq_1 T K fr S
def disk_Disk_Append_r15 : List POper := [Q 6 (.mov (I 0))]
@[simp] theorem disk_Disk_Append_r15_go : type_of% (ops_go disk_Disk_Append_r15.eq_1 T K fr S) := ops_go disk_Disk_Append_r15.eq_1 T K fr S
def disk_Disk_Append : PCodeFn :=
 ⟨3, [.tmp 6],
 (.seq (.region disk_Disk_Append_r0) (.seq (.clr [(13, 19)] (.region disk_Disk_Append_r1)) (.seq (.seq (.clr [(19, 20)] (.region disk_Disk_Append_r2)) (.cond (V 20) (.seq (.clr [(21, 22)] (.region disk_Disk_Append_r3)) .ret) .skip)) (.seq (.clr [(22, 26)] (.region disk_Disk_Append_r4)) (.seq (.rng disk_Disk_Append_r5 (.tmp 29) 33 disk_Disk_Append_r7 [(11, 12), (26, 42)] (.region disk_Disk_Append_r8)) (.seq (.seq (.clr [(42, 45)] (.region disk_Disk_Append_r9)) (.cond (V 45) (.seq (.region disk_Disk_Append_r10) .ret) .skip)) (.seq (.seq (.clr [(46, 48)] (.region disk_Disk_Append_r11)) (.seq (.clr [(48, 49)] (.region disk_Disk_Append_r12)) (.cond (V 49) (.seq (.clr [(50, 51)] (.region disk_Disk_Append_r13)) .ret) .skip))) (.seq (.clr [(51, 60)] (.region disk_Disk_Append_r14)) (.seq (.region disk_Disk_Append_r15) .ret))))))))), false⟩

def disk_Disk_SyncDir_r0 : List POper := [Q 2 (.mov (I 0))]
@[simp] theorem disk_Disk_SyncDir_r0_go : type_of% (ops_go disk_Disk_SyncDir_r0.eq_1 T K fr S) := ops_go disk_Disk_SyncDir_r0.eq_1 T K fr S
def disk_Disk_SyncDir_r1 : List POper := [M 4 0,Q 5 (.eqn false .p (V 4)),M 6 5,QG (some 7) (.mov (V 0)) 6 false,QG (some 8) (.nilck (V 7)) 6 false,QG (some 9) (.faddr 2 (V 8)) 6 false,QG (some 10) (.load false 1 false (V 9)) 6 false,QG (some 11) (.eqn false .m (V 10)) 6 false,Q 12 (.pick (V 6) tt' (V 11))]
@[simp] theorem disk_Disk_SyncDir_r1_go : type_of% (ops_go disk_Disk_SyncDir_r1.eq_1 T K fr S) := ops_go disk_Disk_SyncDir_r1.eq_1 T K fr S
def disk_Disk_SyncDir_r2 : List POper := [Q 2 (.mov (I 1))]
@[simp] theorem disk_Disk_SyncDir_r2_go : type_of% (ops_go disk_Disk_SyncDir_r2.eq_1 T K fr S) := ops_go disk_Disk_SyncDir_r2.eq_1 T K fr S
def disk_Disk_SyncDir_r3 : List POper := [M 13 0,Q 14 (.call .std 196 [(V 13)]),M 3 14]
@[simp] theorem disk_Disk_SyncDir_r3_go : type_of% (ops_go disk_Disk_SyncDir_r3.eq_1 T K fr S) := ops_go disk_Disk_SyncDir_r3.eq_1 T K fr S
def disk_Disk_SyncDir_r4 : List POper := [M 15 3,Q 16 (.arith .neq (V 15) (I 0))]
@[simp] theorem disk_Disk_SyncDir_r4_go : type_of% (ops_go disk_Disk_SyncDir_r4.eq_1 T K fr S) := ops_go disk_Disk_SyncDir_r4.eq_1 T K fr S
def disk_Disk_SyncDir_r5 : List POper := [M 17 3,M 2 17]
@[simp] theorem disk_Disk_SyncDir_r5_go : type_of% (ops_go disk_Disk_SyncDir_r5.eq_1 T K fr S) := ops_go disk_Disk_SyncDir_r5.eq_1 T K fr S
def disk_Disk_SyncDir_r6 : List POper := [M 18 0,M 19 0,M 20 0,NK' 21 20,FA 22 2 21,LD 23 22,Q 24 (.call .std 197 [(V 23)]),NK' 25 18,FA 26 1 25,QN (.store 1 (V 26) (V 24)),NK' 27 19,FA 28 3 27,QN (.store 1 (V 28) (.cst .nils))]
@[simp] theorem disk_Disk_SyncDir_r6_go : type_of% (ops_go disk_Disk_SyncDir_r6.eq_1 T K fr S) := ops_go disk_Disk_SyncDir_r6.eq_1 T K fr S
def disk_Disk_SyncDir_r7 : List POper := [Q 2 (.mov (I 0))]
@[simp] theorem disk_Disk_SyncDir_r7_go : type_of% (ops_go disk_Disk_SyncDir_r7.eq_1 T K fr S) := ops_go disk_Disk_SyncDir_r7.eq_1 T K fr S
def disk_Disk_SyncDir : PCodeFn :=
 ⟨1, [.tmp 2],
 (.seq (.region disk_Disk_SyncDir_r0) (.seq (.seq (.clr [(4, 12)] (.region disk_Disk_SyncDir_r1)) (.cond (V 12) (.seq (.region disk_Disk_SyncDir_r2) .ret) .skip)) (.seq (.seq (.clr [(13, 15)] (.region disk_Disk_SyncDir_r3)) (.seq (.clr [(15, 16)] (.region disk_Disk_SyncDir_r4)) (.cond (V 16) (.seq (.clr [(17, 18)] (.region disk_Disk_SyncDir_r5)) .ret) .skip))) (.seq (.clr [(18, 29)] (.region disk_Disk_SyncDir_r6)) (.seq (.region disk_Disk_SyncDir_r7) .ret))))), false⟩

def disk_Disk_Crash_r0 : List POper := [Q 6 (.mov (I 0))]
@[simp] theorem disk_Disk_Crash_r0_go : type_of% (ops_go disk_Disk_Crash_r0.eq_1 T K fr S) := ops_go disk_Disk_Crash_r0.eq_1 T K fr S
def disk_Disk_Crash_r1 : List POper := [M 13 0,Q 14 (.eqn false .p (V 13)),M 15 14,QG (some 16) (.mov (V 0)) 15 false,QG (some 17) (.nilck (V 16)) 15 false,QG (some 18) (.faddr 2 (V 17)) 15 false,QG (some 19) (.load false 1 false (V 18)) 15 false,QG (some 20) (.eqn false .m (V 19)) 15 false,Q 21 (.pick (V 15) tt' (V 20))]
@[simp] theorem disk_Disk_Crash_r1_go : type_of% (ops_go disk_Disk_Crash_r1.eq_1 T K fr S) := ops_go disk_Disk_Crash_r1.eq_1 T K fr S
def disk_Disk_Crash_r2 : List POper := [Q 6 (.mov (I 1))]
@[simp] theorem disk_Disk_Crash_r2_go : type_of% (ops_go disk_Disk_Crash_r2.eq_1 T K fr S) := ops_go disk_Disk_Crash_r2.eq_1 T K fr S
def disk_Disk_Crash_r3 : List POper := [M 22 0,NK' 23 22,FA 24 3 23,LD 25 24,M 26 1,Q 27 (.toInt .u64 (V 26)),M 28 0,NK' 29 28,FA 30 3 29,LD 31 30,Q 32 (.len false (V 31)),Q 33 (.arith .add (V 32) (I 1)),Q 34 (.toInt .u64 (V 33)),Q 35 (.arith .rem (V 27) (V 34)),Q 36 (.slc 3 none (some (V 35)) (V 25)),Q 37 (.len false (V 36)),Q 38 (.mov (I 0))]
@[simp] theorem disk_Disk_Crash_r3_go : type_of% (ops_go disk_Disk_Crash_r3.eq_1 T K fr S) := ops_go disk_Disk_Crash_r3.eq_1 T K fr S
def disk_Disk_Crash_r4 : List POper := [Q 39 (.arith .lss (V 38) (V 37))]
@[simp] theorem disk_Disk_Crash_r4_go : type_of% (ops_go disk_Disk_Crash_r4.eq_1 T K fr S) := ops_go disk_Disk_Crash_r4.eq_1 T K fr S
def disk_Disk_Crash_r5 : List POper := [Q 40 (.iaddr 3 (V 36) (V 38)),Q 41 (.load true 3 false (V 40)),Q 8 (.alloc false [(.str []), (.str []), .nilp]),QN (.store 3 (V 8) (V 41))]
@[simp] theorem disk_Disk_Crash_r5_go : type_of% (ops_go disk_Disk_Crash_r5.eq_1 T K fr S) := ops_go disk_Disk_Crash_r5.eq_1 T K fr S
def disk_Disk_Crash_r6 : List POper := [Q 42 (.load true 3 false (V 8)),M 43 0,NK' 44 43,FA 45 1 44,LD 46 45,Q 47 (.call .std 198 [(V 42), (V 46)])]
@[simp] theorem disk_Disk_Crash_r6_go : type_of% (ops_go disk_Disk_Crash_r6.eq_1 T K fr S) := ops_go disk_Disk_Crash_r6.eq_1 T K fr S
def disk_Disk_Crash_r7 : List POper := [Q 48 (.arith .add (V 38) (I 1)),M 38 48]
@[simp] theorem disk_Disk_Crash_r7_go : type_of% (ops_go disk_Disk_Crash_r7.eq_1 T K fr S) := ops_go disk_Disk_Crash_r7.eq_1 T K fr S
def disk_Disk_Crash_l0 : PCode :=
 (.seq (.region disk_Disk_Crash_r4) (.seq (.cond (V 39) .skip (.exit 0)) (.seq (.block 1 (.seq (.clr [(40, 42)] (.region disk_Disk_Crash_r5)) (.clr [(42, 48)] (.region disk_Disk_Crash_r6)))) (.clr [(48, 49)] (.region disk_Disk_Crash_r7)))))
@[simp] theorem disk_Disk_Crash_l0_go : type_of% (code_go disk_Disk_Crash_l0.eq_1 T K fr S) := code_go disk_Disk_Crash_l0.eq_1 T K fr S
def disk_Disk_Crash_r8 : List POper := [M 49 0,NK' 50 49,FA 51 1 50,LD 52 51,Q 53 (.call .std 200 [(V 52)]),Q 54 (.call .std 199 [(V 53)]),Q 55 (.len false (V 54)),Q 56 (.mov (I 0))]
@[simp] theorem disk_Disk_Crash_r8_go : type_of% (ops_go disk_Disk_Crash_r8.eq_1 T K fr S) := ops_go disk_Disk_Crash_r8.eq_1 T K fr S
def disk_Disk_Crash_r9 : List POper := [Q 57 (.arith .lss (V 56) (V 55))]
@[simp] theorem disk_Disk_Crash_r9_go : type_of% (ops_go disk_Disk_Crash_r9.eq_1 T K fr S) := ops_go disk_Disk_Crash_r9.eq_1 T K fr S
def disk_Disk_Crash_r10 : List POper := [M 58 56,Q 59 (.iaddr 1 (V 54) (V 56)),LD 60 59,M 9 58,M 10 60]
@[simp] theorem disk_Disk_Crash_r10_go : type_of% (ops_go disk_Disk_Crash_r10.eq_1 T K fr S) := ops_go disk_Disk_Crash_r10.eq_1 T K fr S
def disk_Disk_Crash_r11 : List POper := [M 61 0,NK' 62 61,FA 63 1 62,LD 64 63,M 65 10,Q 66 (.mlk true false .nilp (V 64) (V 65)),M 11 66]
@[simp] theorem disk_Disk_Crash_r11_go : type_of% (ops_go disk_Disk_Crash_r11.eq_1 T K fr S) := ops_go disk_Disk_Crash_r11.eq_1 T K fr S
def disk_Disk_Crash_r12 : List POper := [M 67 11,NK' 68 67,FA 69 1 68,LD 70 69,M 12 70]
@[simp] theorem disk_Disk_Crash_r12_go : type_of% (ops_go disk_Disk_Crash_r12.eq_1 T K fr S) := ops_go disk_Disk_Crash_r12.eq_1 T K fr S
def disk_Disk_Crash_r13 : List POper := [M 71 9,M 72 2,Q 73 (.len false (V 72)),Q 74 (.arith .lss (V 71) (V 73))]
@[simp] theorem disk_Disk_Crash_r13_go : type_of% (ops_go disk_Disk_Crash_r13.eq_1 T K fr S) := ops_go disk_Disk_Crash_r13.eq_1 T K fr S
def disk_Disk_Crash_r14 : List POper := [M 75 12,M 76 2,M 77 9,Q 78 (.iaddr 1 (V 76) (V 77)),Q 79 (.load false 1 true (V 78)),Q 80 (.toInt .u64 (V 79)),M 81 11,NK' 82 81,FA 83 0 82,LD 84 83,Q 85 (.len false (V 84)),M 86 11,NK' 87 86,FA 88 1 87,LD 89 88,Q 90 (.arith .sub (V 85) (V 89)),Q 91 (.arith .add (V 90) (I 1)),Q 92 (.toInt .u64 (V 91)),Q 93 (.arith .rem (V 80) (V 92)),Q 94 (.toInt .i64 (V 93)),Q 95 (.arith .add (V 75) (V 94)),M 12 95]
@[simp] theorem disk_Disk_Crash_r14_go : type_of% (ops_go disk_Disk_Crash_r14.eq_1 T K fr S) := ops_go disk_Disk_Crash_r14.eq_1 T K fr S
def disk_Disk_Crash_r15 : List POper := [M 96 11,M 97 11,M 98 11,NK' 99 98,FA 100 0 99,LD 101 100,M 102 12,M 103 12,Q 104 (.slc3 1 none (V 102) (V 103) (V 101)),M 105 12,NK' 106 96,FA 107 0 106,QN (.store 1 (V 107) (V 104)),NK' 108 97,FA 109 1 108,QN (.store 1 (V 109) (V 105))]
@[simp] theorem disk_Disk_Crash_r15_go : type_of% (ops_go disk_Disk_Crash_r15.eq_1 T K fr S) := ops_go disk_Disk_Crash_r15.eq_1 T K fr S
def disk_Disk_Crash_r16 : List POper := [Q 110 (.arith .add (V 56) (I 1)),M 56 110]
@[simp] theorem disk_Disk_Crash_r16_go : type_of% (ops_go disk_Disk_Crash_r16.eq_1 T K fr S) := ops_go disk_Disk_Crash_r16.eq_1 T K fr S
def disk_Disk_Crash_l1 : PCode :=
 (.seq (.region disk_Disk_Crash_r9) (.seq (.cond (V 57) .skip (.exit 2)) (.seq (.block 3 (.seq (.clr [(58, 61)] (.region disk_Disk_Crash_r10)) (.seq (.clr [(61, 67)] (.region disk_Disk_Crash_r11)) (.seq (.clr [(67, 71)] (.region disk_Disk_Crash_r12)) (.seq (.seq (.clr [(71, 74)] (.region disk_Disk_Crash_r13)) (.cond (V 74) (.clr [(75, 96)] (.region disk_Disk_Crash_r14)) .skip)) (.clr [(96, 110)] (.region disk_Disk_Crash_r15))))))) (.clr [(110, 111)] (.region disk_Disk_Crash_r16)))))
@[simp] theorem disk_Disk_Crash_l1_go : type_of% (code_go disk_Disk_Crash_l1.eq_1 T K fr S) := code_go disk_Disk_Crash_l1.eq_1 T K fr S
def disk_Disk_Crash_r17 : List POper := [M 111 0,M 112 0,M 113 0,M 114 0,M 115 0,NK' 116 115,FA 117 1 116,LD 118 117,Q 119 (.call .std 197 [(V 118)]),NK' 120 111,FA 121 2 120,QN (.store 1 (V 121) (V 119)),NK' 122 112,FA 123 3 122,QN (.store 1 (V 123) (.cst .nils)),NK' 124 113,FA 125 4 124,QN (.store 1 (V 125) (I (-1))),NK' 126 114,FA 127 6 126,QN (.store 1 (V 127) ff')]
@[simp] theorem disk_Disk_Crash_r17_go : type_of% (ops_go disk_Disk_Crash_r17.eq_1 T K fr S) := ops_go disk_Disk_Crash_r17.eq_1 T K fr S
def disk_Disk_Crash_r18 : List POper := [Q 6 (.mov (I 0))]
@[simp] theorem disk_Disk_Crash_r18_go : type_of% (ops_go disk_Disk_Crash_r18.eq_1 T K fr S) := ops_go disk_Disk_Crash_r18.eq_1 T K fr S
def disk_Disk_Crash : PCodeFn :=
 ⟨3, [.tmp 6],
 (.seq (.region disk_Disk_Crash_r0) (.seq (.seq (.clr [(13, 21)] (.region disk_Disk_Crash_r1)) (.cond (V 21) (.seq (.region disk_Disk_Crash_r2) .ret) .skip)) (.seq (.seq (.clr [(22, 36)] (.region disk_Disk_Crash_r3)) (.block 0 (.loop disk_Disk_Crash_l0))) (.seq (.seq (.clr [(49, 54)] (.region disk_Disk_Crash_r8)) (.block 2 (.loop disk_Disk_Crash_l1))) (.seq (.clr [(111, 128)] (.region disk_Disk_Crash_r17)) (.seq (.region disk_Disk_Crash_r18) .ret)))))), false⟩

def disk_Disk_Read_r0 : List POper := [Q 4 (.mov (.cst .nils)),Q 5 (.mov (I 0))]
@[simp] theorem disk_Disk_Read_r0_go : type_of% (ops_go disk_Disk_Read_r0.eq_1 T K fr S) := ops_go disk_Disk_Read_r0.eq_1 T K fr S
def disk_Disk_Read_r1 : List POper := [M 9 0,M 10 1,Q 11 (.call .std 194 [(V 9), (V 10)]),M 8 11,EX 12 0 8,EX 13 1 8,M 6 12,M 7 13]
@[simp] theorem disk_Disk_Read_r1_go : type_of% (ops_go disk_Disk_Read_r1.eq_1 T K fr S) := ops_go disk_Disk_Read_r1.eq_1 T K fr S
def disk_Disk_Read_r2 : List POper := [M 14 7,Q 15 (.arith .neq (V 14) (I 0))]
@[simp] theorem disk_Disk_Read_r2_go : type_of% (ops_go disk_Disk_Read_r2.eq_1 T K fr S) := ops_go disk_Disk_Read_r2.eq_1 T K fr S
def disk_Disk_Read_r3 : List POper := [M 16 7,Q 4 (.mov (.cst .nils)),M 5 16]
@[simp] theorem disk_Disk_Read_r3_go : type_of% (ops_go disk_Disk_Read_r3.eq_1 T K fr S) := ops_go disk_Disk_Read_r3.eq_1 T K fr S
def disk_Disk_Read_r4 : List POper := [M 17 0,NK' 18 17,FA 19 6 18,LD 20 19]
@[simp] theorem disk_Disk_Read_r4_go : type_of% (ops_go disk_Disk_Read_r4.eq_1 T K fr S) := ops_go disk_Disk_Read_r4.eq_1 T K fr S
def disk_Disk_Read_r5 : List POper := [Q 4 (.mov (.cst .nils)),Q 5 (.mov (I 6))]
@[simp] theorem disk_Disk_Read_r5_go : type_of% (ops_go disk_Disk_Read_r5.eq_1 T K fr S) := ops_go disk_Disk_Read_r5.eq_1 T K fr S
def disk_Disk_Read_r6 : List POper := [M 21 6,NK' 22 21,FA 23 0 22,LD 24 23,Q 25 (.call .std 201 [(V 24)]),M 4 25,Q 5 (.mov (I 0))]
@[simp] theorem disk_Disk_Read_r6_go : type_of% (ops_go disk_Disk_Read_r6.eq_1 T K fr S) := ops_go disk_Disk_Read_r6.eq_1 T K fr S
def disk_Disk_Read : PCodeFn :=
 ⟨2, [.tmp 4, .tmp 5],
 (.seq (.region disk_Disk_Read_r0) (.seq (.clr [(8, 14)] (.region disk_Disk_Read_r1)) (.seq (.seq (.clr [(14, 15)] (.region disk_Disk_Read_r2)) (.cond (V 15) (.seq (.clr [(16, 17)] (.region disk_Disk_Read_r3)) .ret) .skip)) (.seq (.seq (.clr [(17, 20)] (.region disk_Disk_Read_r4)) (.cond (V 20) (.seq (.region disk_Disk_Read_r5) .ret) .skip)) (.seq (.clr [(21, 26)] (.region disk_Disk_Read_r6)) .ret))))), false⟩

def disk_Disk_Rename_r0 : List POper := [Q 6 (.mov (I 0))]
@[simp] theorem disk_Disk_Rename_r0_go : type_of% (ops_go disk_Disk_Rename_r0.eq_1 T K fr S) := ops_go disk_Disk_Rename_r0.eq_1 T K fr S
def disk_Disk_Rename_r1 : List POper := [M 10 0,M 11 1,Q 12 (.call .std 194 [(V 10), (V 11)]),M 9 12,EX 13 0 9,EX 14 1 9,M 7 13,M 8 14]
@[simp] theorem disk_Disk_Rename_r1_go : type_of% (ops_go disk_Disk_Rename_r1.eq_1 T K fr S) := ops_go disk_Disk_Rename_r1.eq_1 T K fr S
def disk_Disk_Rename_r2 : List POper := [M 15 8,Q 16 (.arith .neq (V 15) (I 0)),M 17 16,QG (some 18) (.mov (V 8)) 17 true,QG (some 19) (.arith .neq (V 18) (I 9)) 17 true,Q 20 (.pick (V 17) (V 19) ff')]
@[simp] theorem disk_Disk_Rename_r2_go : type_of% (ops_go disk_Disk_Rename_r2.eq_1 T K fr S) := ops_go disk_Disk_Rename_r2.eq_1 T K fr S
def disk_Disk_Rename_r3 : List POper := [M 21 8,M 6 21]
@[simp] theorem disk_Disk_Rename_r3_go : type_of% (ops_go disk_Disk_Rename_r3.eq_1 T K fr S) := ops_go disk_Disk_Rename_r3.eq_1 T K fr S
def disk_Disk_Rename_r4 : List POper := [M 22 2,Q 23 (.call .pur 202 [(V 22)]),Q 24 (.un .not (V 23))]
@[simp] theorem disk_Disk_Rename_r4_go : type_of% (ops_go disk_Disk_Rename_r4.eq_1 T K fr S) := ops_go disk_Disk_Rename_r4.eq_1 T K fr S
def disk_Disk_Rename_r5 : List POper := [Q 6 (.mov (I 8))]
@[simp] theorem disk_Disk_Rename_r5_go : type_of% (ops_go disk_Disk_Rename_r5.eq_1 T K fr S) := ops_go disk_Disk_Rename_r5.eq_1 T K fr S
def disk_Disk_Rename_r6 : List POper := [M 25 8,Q 26 (.arith .neq (V 25) (I 0))]
@[simp] theorem disk_Disk_Rename_r6_go : type_of% (ops_go disk_Disk_Rename_r6.eq_1 T K fr S) := ops_go disk_Disk_Rename_r6.eq_1 T K fr S
def disk_Disk_Rename_r7 : List POper := [M 27 8,M 6 27]
@[simp] theorem disk_Disk_Rename_r7_go : type_of% (ops_go disk_Disk_Rename_r7.eq_1 T K fr S) := ops_go disk_Disk_Rename_r7.eq_1 T K fr S
def disk_Disk_Rename_r8 : List POper := [M 28 0,M 29 1,M 30 2,Q 31 (.build [(.str []), (.str []), .nilp] [(0, 1, (V 29)), (1, 1, (V 30))]),Q 32 (.call .std 195 [(V 28), (V 31)]),M 6 32]
@[simp] theorem disk_Disk_Rename_r8_go : type_of% (ops_go disk_Disk_Rename_r8.eq_1 T K fr S) := ops_go disk_Disk_Rename_r8.eq_1 T K fr S
def disk_Disk_Rename : PCodeFn :=
 ⟨3, [.tmp 6],
 (.seq (.region disk_Disk_Rename_r0) (.seq (.clr [(7, 8), (9, 15)] (.region disk_Disk_Rename_r1)) (.seq (.seq (.clr [(15, 20)] (.region disk_Disk_Rename_r2)) (.cond (V 20) (.seq (.clr [(21, 22)] (.region disk_Disk_Rename_r3)) .ret) .skip)) (.seq (.seq (.clr [(22, 24)] (.region disk_Disk_Rename_r4)) (.cond (V 24) (.seq (.region disk_Disk_Rename_r5) .ret) .skip)) (.seq (.seq (.clr [(25, 26)] (.region disk_Disk_Rename_r6)) (.cond (V 26) (.seq (.clr [(27, 28)] (.region disk_Disk_Rename_r7)) .ret) .skip)) (.seq (.clr [(28, 33)] (.region disk_Disk_Rename_r8)) .ret)))))), false⟩

def disk_Disk_Remove_r0 : List POper := [Q 4 (.mov (I 0))]
@[simp] theorem disk_Disk_Remove_r0_go : type_of% (ops_go disk_Disk_Remove_r0.eq_1 T K fr S) := ops_go disk_Disk_Remove_r0.eq_1 T K fr S
def disk_Disk_Remove_r1 : List POper := [M 8 0,M 9 1,Q 10 (.call .std 194 [(V 8), (V 9)]),M 7 10,EX 11 0 7,EX 12 1 7,M 5 11,M 6 12]
@[simp] theorem disk_Disk_Remove_r1_go : type_of% (ops_go disk_Disk_Remove_r1.eq_1 T K fr S) := ops_go disk_Disk_Remove_r1.eq_1 T K fr S
def disk_Disk_Remove_r2 : List POper := [M 13 6,Q 14 (.arith .neq (V 13) (I 0))]
@[simp] theorem disk_Disk_Remove_r2_go : type_of% (ops_go disk_Disk_Remove_r2.eq_1 T K fr S) := ops_go disk_Disk_Remove_r2.eq_1 T K fr S
def disk_Disk_Remove_r3 : List POper := [M 15 6,M 4 15]
@[simp] theorem disk_Disk_Remove_r3_go : type_of% (ops_go disk_Disk_Remove_r3.eq_1 T K fr S) := ops_go disk_Disk_Remove_r3.eq_1 T K fr S
def disk_Disk_Remove_r4 : List POper := [M 16 0,M 17 1,Q 18 (.build [(.str []), (.str []), .nilp] [(0, 1, (V 17))]),Q 19 (.call .std 195 [(V 16), (V 18)]),M 4 19]
@[simp] theorem disk_Disk_Remove_r4_go : type_of% (ops_go disk_Disk_Remove_r4.eq_1 T K fr S) := ops_go disk_Disk_Remove_r4.eq_1 T K fr S
def disk_Disk_Remove : PCodeFn :=
 ⟨2, [.tmp 4],
 (.seq (.region disk_Disk_Remove_r0) (.seq (.seq (.clr [(5, 6), (7, 13)] (.region disk_Disk_Remove_r1)) (.seq (.clr [(13, 14)] (.region disk_Disk_Remove_r2)) (.cond (V 14) (.seq (.clr [(15, 16)] (.region disk_Disk_Remove_r3)) .ret) .skip))) (.seq (.clr [(16, 20)] (.region disk_Disk_Remove_r4)) .ret))), false⟩

def disk_Disk_Sync_r0 : List POper := [Q 4 (.mov (I 0))]
@[simp] theorem disk_Disk_Sync_r0_go : type_of% (ops_go disk_Disk_Sync_r0.eq_1 T K fr S) := ops_go disk_Disk_Sync_r0.eq_1 T K fr S
def disk_Disk_Sync_r1 : List POper := [M 9 0,M 10 1,Q 11 (.call .std 194 [(V 9), (V 10)]),M 8 11,EX 12 0 8,EX 13 1 8,M 5 12,M 6 13]
@[simp] theorem disk_Disk_Sync_r1_go : type_of% (ops_go disk_Disk_Sync_r1.eq_1 T K fr S) := ops_go disk_Disk_Sync_r1.eq_1 T K fr S
def disk_Disk_Sync_r2 : List POper := [M 14 6,Q 15 (.arith .neq (V 14) (I 0))]
@[simp] theorem disk_Disk_Sync_r2_go : type_of% (ops_go disk_Disk_Sync_r2.eq_1 T K fr S) := ops_go disk_Disk_Sync_r2.eq_1 T K fr S
def disk_Disk_Sync_r3 : List POper := [M 16 6,M 4 16]
@[simp] theorem disk_Disk_Sync_r3_go : type_of% (ops_go disk_Disk_Sync_r3.eq_1 T K fr S) := ops_go disk_Disk_Sync_r3.eq_1 T K fr S
def disk_Disk_Sync_r4 : List POper := [M 17 0,Q 18 (.call .std 196 [(V 17)]),M 7 18]
@[simp] theorem disk_Disk_Sync_r4_go : type_of% (ops_go disk_Disk_Sync_r4.eq_1 T K fr S) := ops_go disk_Disk_Sync_r4.eq_1 T K fr S
def disk_Disk_Sync_r5 : List POper := [M 19 7,Q 20 (.arith .neq (V 19) (I 0))]
@[simp] theorem disk_Disk_Sync_r5_go : type_of% (ops_go disk_Disk_Sync_r5.eq_1 T K fr S) := ops_go disk_Disk_Sync_r5.eq_1 T K fr S
def disk_Disk_Sync_r6 : List POper := [M 21 7,M 4 21]
@[simp] theorem disk_Disk_Sync_r6_go : type_of% (ops_go disk_Disk_Sync_r6.eq_1 T K fr S) := ops_go disk_Disk_Sync_r6.eq_1 T K fr S
def disk_Disk_Sync_r7 : List POper := [M 22 5,M 23 5,NK' 24 23,FA 25 0 24,LD 26 25,Q 27 (.len false (V 26)),NK' 28 22,FA 29 1 28,QN (.store 1 (V 29) (V 27))]
@[simp] theorem disk_Disk_Sync_r7_go : type_of% (ops_go disk_Disk_Sync_r7.eq_1 T K fr S) := ops_go disk_Disk_Sync_r7.eq_1 T K fr S
def disk_Disk_Sync_r8 : List POper := [Q 4 (.mov (I 0))]
@[simp] theorem disk_Disk_Sync_r8_go : type_of% (ops_go disk_Disk_Sync_r8.eq_1 T K fr S) := ops_go disk_Disk_Sync_r8.eq_1 T K fr S
def disk_Disk_Sync : PCodeFn :=
 ⟨2, [.tmp 4],
 (.seq (.region disk_Disk_Sync_r0) (.seq (.clr [(8, 14)] (.region disk_Disk_Sync_r1)) (.seq (.seq (.clr [(14, 15)] (.region disk_Disk_Sync_r2)) (.cond (V 15) (.seq (.clr [(16, 17)] (.region disk_Disk_Sync_r3)) .ret) .skip)) (.seq (.seq (.clr [(17, 19)] (.region disk_Disk_Sync_r4)) (.seq (.clr [(19, 20)] (.region disk_Disk_Sync_r5)) (.cond (V 20) (.seq (.clr [(21, 22)] (.region disk_Disk_Sync_r6)) .ret) .skip))) (.seq (.clr [(22, 30)] (.region disk_Disk_Sync_r7)) (.seq (.region disk_Disk_Sync_r8) .ret)))))), false⟩

def disk_Disk_Fuse_r0 : List POper := [M 4 0,Q 5 (.eqn true .p (V 4)),M 6 5,QG (some 7) (.mov (V 0)) 6 true,QG (some 8) (.nilck (V 7)) 6 true,QG (some 9) (.faddr 2 (V 8)) 6 true,QG (some 10) (.load false 1 false (V 9)) 6 true,QG (some 11) (.eqn true .m (V 10)) 6 true,Q 12 (.pick (V 6) (V 11) ff')]
@[simp] theorem disk_Disk_Fuse_r0_go : type_of% (ops_go disk_Disk_Fuse_r0.eq_1 T K fr S) := ops_go disk_Disk_Fuse_r0.eq_1 T K fr S
def disk_Disk_Fuse_r1 : List POper := [M 13 0,M 14 1,Q 15 (.mnmx true (V 14) (I (-1))),NK' 16 13,FA 17 4 16,QN (.store 1 (V 17) (V 15))]
@[simp] theorem disk_Disk_Fuse_r1_go : type_of% (ops_go disk_Disk_Fuse_r1.eq_1 T K fr S) := ops_go disk_Disk_Fuse_r1.eq_1 T K fr S
def disk_Disk_Fuse : PCodeFn :=
 ⟨2, [],
 (.seq (.clr [(4, 12)] (.region disk_Disk_Fuse_r0)) (.cond (V 12) (.clr [(13, 18)] (.region disk_Disk_Fuse_r1)) .skip)), false⟩

def ref04_Change_r0 : List POper := [Q 5 (.box false (V 0)),Q 10 (.alloc false [(.int .i64 0), .nils, .nils, .nils, (.int .i64 0), (.bool false), (.int .i64 0)]),Q 11 (.mov (I 0))]
@[simp] theorem ref04_Change_r0_go : type_of% (ops_go ref04_Change_r0.eq_1 T K fr S) := ops_go ref04_Change_r0.eq_1 T K fr S
def ref04_Change_r1 : List POper := [M 19 1,Q 20 (.arith .neq (V 19) (I 6)),M 21 20,QG (some 22) (.mov (V 2)) 21 true,QG (some 23) (.call .pur 203 [(V 22)]) 21 true,QG (some 24) (.un .not (V 23)) 21 true,Q 25 (.pick (V 21) (V 24) ff'),M 26 25,QG (some 27) (.mov (V 1)) 26 false,QG (some 28) (.arith .eql (V 27) (I 3)) 26 false,QG (some 29) (.mov (V 28)) 26 false,QG (some 30) (.mov (V 3)) 29 true,QG (some 31) (.call .pur 203 [(V 30)]) 29 true,QG (some 32) (.un .not (V 31)) 29 true,QG (some 33) (.pick (V 29) (V 32) ff') 26 false,Q 34 (.pick (V 26) tt' (V 33))]
@[simp] theorem ref04_Change_r1_go : type_of% (ops_go ref04_Change_r1.eq_1 T K fr S) := ops_go ref04_Change_r1.eq_1 T K fr S
def ref04_Change_r2 : List POper := [Q 35 (.load true 7 false (V 5)),QN (.store 7 (V 10) (V 35)),Q 11 (.mov (I 8))]
@[simp] theorem ref04_Change_r2_go : type_of% (ops_go ref04_Change_r2.eq_1 T K fr S) := ops_go ref04_Change_r2.eq_1 T K fr S
def ref04_Change_r3 : List POper := [Q 36 (.load true 7 false (V 5)),Q 37 (.call .std 204 [(V 36)]),M 12 37]
@[simp] theorem ref04_Change_r3_go : type_of% (ops_go ref04_Change_r3.eq_1 T K fr S) := ops_go ref04_Change_r3.eq_1 T K fr S
def ref04_Change_r4 : List POper := [M 38 12,M 39 2,Q 40 (.call .std 205 [(V 38), (V 39)]),M 13 40]
@[simp] theorem ref04_Change_r4_go : type_of% (ops_go ref04_Change_r4.eq_1 T K fr S) := ops_go ref04_Change_r4.eq_1 T K fr S
def ref04_Change_r5 : List POper := [M 41 1,Q 42 (.arith .eql (V 41) (I 1)),M 43 42,QG (some 44) (.mov (V 13)) 43 true,QG (some 45) (.arith .geq (V 44) (I 0)) 43 true,Q 46 (.pick (V 43) (V 45) ff')]
@[simp] theorem ref04_Change_r5_go : type_of% (ops_go ref04_Change_r5.eq_1 T K fr S) := ops_go ref04_Change_r5.eq_1 T K fr S
def ref04_Change_r6 : List POper := [Q 47 (.load true 7 false (V 5)),QN (.store 7 (V 10) (V 47)),Q 11 (.mov (I 10))]
@[simp] theorem ref04_Change_r6_go : type_of% (ops_go ref04_Change_r6.eq_1 T K fr S) := ops_go ref04_Change_r6.eq_1 T K fr S
def ref04_Change_r7 : List POper := [M 48 1,Q 49 (.arith .eql (V 48) (I 1)),M 50 49,QG (some 51) (.mov (V 12)) 50 true,QG (some 52) (.len false (V 51)) 50 true,QG (some 53) (.arith .geq (V 52) (I 64)) 50 true,Q 54 (.pick (V 50) (V 53) ff')]
@[simp] theorem ref04_Change_r7_go : type_of% (ops_go ref04_Change_r7.eq_1 T K fr S) := ops_go ref04_Change_r7.eq_1 T K fr S
def ref04_Change_r8 : List POper := [Q 55 (.load true 7 false (V 5)),QN (.store 7 (V 10) (V 55)),Q 11 (.mov (I 7))]
@[simp] theorem ref04_Change_r8_go : type_of% (ops_go ref04_Change_r8.eq_1 T K fr S) := ops_go ref04_Change_r8.eq_1 T K fr S
def ref04_Change_r9 : List POper := [M 56 1,Q 57 (.arith .gtr (V 56) (I 1)),M 58 57,QG (some 59) (.mov (V 1)) 58 true,QG (some 60) (.arith .lss (V 59) (I 6)) 58 true,Q 61 (.pick (V 58) (V 60) ff'),M 62 61,QG (some 63) (.mov (V 13)) 62 true,QG (some 64) (.arith .lss (V 63) (I 0)) 62 true,Q 65 (.pick (V 62) (V 64) ff')]
@[simp] theorem ref04_Change_r9_go : type_of% (ops_go ref04_Change_r9.eq_1 T K fr S) := ops_go ref04_Change_r9.eq_1 T K fr S
def ref04_Change_r10 : List POper := [Q 66 (.load true 7 false (V 5)),QN (.store 7 (V 10) (V 66)),Q 11 (.mov (I 9))]
@[simp] theorem ref04_Change_r10_go : type_of% (ops_go ref04_Change_r10.eq_1 T K fr S) := ops_go ref04_Change_r10.eq_1 T K fr S
def ref04_Change_r11 : List POper := [Q 14 (.mov (I 0))]
@[simp] theorem ref04_Change_r11_go : type_of% (ops_go ref04_Change_r11.eq_1 T K fr S) := ops_go ref04_Change_r11.eq_1 T K fr S
def ref04_Change_r12 : List POper := [Q 15 (.mov (I 0))]
@[simp] theorem ref04_Change_r12_go : type_of% (ops_go ref04_Change_r12.eq_1 T K fr S) := ops_go ref04_Change_r12.eq_1 T K fr S
def ref04_Change_r13 : List POper := [M 67 15,M 68 12,Q 69 (.len false (V 68)),Q 70 (.arith .lss (V 67) (V 69))]
@[simp] theorem ref04_Change_r13_go : type_of% (ops_go ref04_Change_r13.eq_1 T K fr S) := ops_go ref04_Change_r13.eq_1 T K fr S
def ref04_Change_r15 : List POper := [M 73 14,FA 74 1 5,LD 75 74,M 76 12,M 77 15,Q 78 (.iaddr 2 (V 76) (V 77)),FA 79 1 78,LD 80 79,Q 81 (.iaddr 2 (V 75) (V 80)),FA 82 0 81,LD 83 82,Q 84 (.len false (V 83)),Q 85 (.arith .add (V 73) (V 84)),M 14 85]
@[simp] theorem ref04_Change_r15_go : type_of% (ops_go ref04_Change_r15.eq_1 T K fr S) := ops_go ref04_Change_r15.eq_1 T K fr S
def ref04_Change_r14 : List POper := [M 71 15,Q 72 (.arith .add (V 71) (I 1)),M 15 72]
@[simp] theorem ref04_Change_r14_go : type_of% (ops_go ref04_Change_r14.eq_1 T K fr S) := ops_go ref04_Change_r14.eq_1 T K fr S
def ref04_Change_l0 : PCode :=
 (.seq (.seq (.clr [(67, 70)] (.region ref04_Change_r13)) (.cond (V 70) .skip (.exit 0))) (.seq (.block 1 (.clr [(73, 86)] (.region ref04_Change_r15))) (.clr [(71, 73)] (.region ref04_Change_r14))))
@[simp] theorem ref04_Change_l0_go : type_of% (code_go ref04_Change_l0.eq_1 T K fr S) := code_go ref04_Change_l0.eq_1 T K fr S
def ref04_Change_r16 : List POper := [M 86 1,Q 87 (.arith .eql (V 86) (I 2)),M 88 87,QG (some 89) (.mov (V 4)) 88 true,QG (some 90) (.len false (V 89)) 88 true,QG (some 91) (.faddr 0 (V 5)) 88 true,QG (some 92) (.load false 1 false (V 91)) 88 true,QG (some 93) (.mov (V 14)) 88 true,QG (some 94) (.arith .sub (V 92) (V 93)) 88 true,QG (some 95) (.arith .gtr (V 90) (V 94)) 88 true,Q 96 (.pick (V 88) (V 95) ff')]
@[simp] theorem ref04_Change_r16_go : type_of% (ops_go ref04_Change_r16.eq_1 T K fr S) := ops_go ref04_Change_r16.eq_1 T K fr S
def ref04_Change_r17 : List POper := [Q 97 (.load true 7 false (V 5)),QN (.store 7 (V 10) (V 97)),Q 11 (.mov (I 7))]
@[simp] theorem ref04_Change_r17_go : type_of% (ops_go ref04_Change_r17.eq_1 T K fr S) := ops_go ref04_Change_r17.eq_1 T K fr S
def ref04_Change_r18 : List POper := [Q 99 (.load true 7 false (V 5)),Q 100 (.call .std 206 [(V 99)]),M 98 100,EX 101 0 98,EX 102 1 98,QN (.store 7 (V 5) (V 101)),M 16 102]
@[simp] theorem ref04_Change_r18_go : type_of% (ops_go ref04_Change_r18.eq_1 T K fr S) := ops_go ref04_Change_r18.eq_1 T K fr S
def ref04_Change_r19 : List POper := [M 103 16,Q 104 (.arith .neq (V 103) (I 0))]
@[simp] theorem ref04_Change_r19_go : type_of% (ops_go ref04_Change_r19.eq_1 T K fr S) := ops_go ref04_Change_r19.eq_1 T K fr S
def ref04_Change_r20 : List POper := [Q 105 (.load true 7 false (V 5)),M 106 16,QN (.store 7 (V 10) (V 105)),M 11 106]
@[simp] theorem ref04_Change_r20_go : type_of% (ops_go ref04_Change_r20.eq_1 T K fr S) := ops_go ref04_Change_r20.eq_1 T K fr S
def ref04_Change_r21 : List POper := [Q 107 (.emp0),FA 108 1 5,LD 109 108,Q 110 (.gapp 2 32 (V 107) (V 109)),M 17 110]
@[simp] theorem ref04_Change_r21_go : type_of% (ops_go ref04_Change_r21.eq_1 T K fr S) := ops_go ref04_Change_r21.eq_1 T K fr S
def ref04_Change_r22 : List POper := [Q 111 (.emp0),FA 112 3 5,LD 113 112,Q 114 (.gapp 4 48 (V 111) (V 113)),M 18 114]
@[simp] theorem ref04_Change_r22_go : type_of% (ops_go ref04_Change_r22.eq_1 T K fr S) := ops_go ref04_Change_r22.eq_1 T K fr S
def ref04_Change_r23 : List POper := [M 115 1]
@[simp] theorem ref04_Change_r23_go : type_of% (ops_go ref04_Change_r23.eq_1 T K fr S) := ops_go ref04_Change_r23.eq_1 T K fr S
def ref04_Change_r24 : List POper := [Q 117 (.arith .eql (V 115) (I 1)),M 116 117]
@[simp] theorem ref04_Change_r24_go : type_of% (ops_go ref04_Change_r24.eq_1 T K fr S) := ops_go ref04_Change_r24.eq_1 T K fr S
def ref04_Change_r25 : List POper := [M 118 18,M 119 2,M 120 17,Q 121 (.len false (V 120)),Q 122 (.build [(.int .i64 0), (.str []), (.str []), (.int .i64 0)] [(0, 1, (I 1)), (1, 1, (V 119)), (3, 1, (V 121))]),Q 123 (.bsl false (.agg [(.int .i64 0), (.str []), (.str []), (.int .i64 0)]) 1 [(0, (V 122))]),Q 124 (.gapp 4 48 (V 118) (V 123)),M 18 124]
@[simp] theorem ref04_Change_r25_go : type_of% (ops_go ref04_Change_r25.eq_1 T K fr S) := ops_go ref04_Change_r25.eq_1 T K fr S
def ref04_Change_r26 : List POper := [M 125 17,Q 126 (.build [.nils, (.int .i64 0)] []),Q 127 (.bsl false (.agg [.nils, (.int .i64 0)]) 1 [(0, (V 126))]),Q 128 (.gapp 2 32 (V 125) (V 127)),M 17 128]
@[simp] theorem ref04_Change_r26_go : type_of% (ops_go ref04_Change_r26.eq_1 T K fr S) := ops_go ref04_Change_r26.eq_1 T K fr S
def ref04_Change_r27 : List POper := [Q 130 (.arith .eql (V 115) (I 2)),M 129 130]
@[simp] theorem ref04_Change_r27_go : type_of% (ops_go ref04_Change_r27.eq_1 T K fr S) := ops_go ref04_Change_r27.eq_1 T K fr S
def ref04_Change_r28 : List POper := [M 131 17,M 132 13,Q 133 (.emp0),M 134 17,M 135 13,Q 136 (.iaddr 2 (V 134) (V 135)),FA 137 0 136,LD 138 137,Q 139 (.gapp 1 1 (V 133) (V 138)),M 140 4,Q 141 (.gapp 1 1 (V 139) (V 140)),Q 142 (.iaddr 2 (V 131) (V 132)),FA 143 0 142,QN (.store 1 (V 143) (V 141))]
@[simp] theorem ref04_Change_r28_go : type_of% (ops_go ref04_Change_r28.eq_1 T K fr S) := ops_go ref04_Change_r28.eq_1 T K fr S
def ref04_Change_r29 : List POper := [Q 145 (.arith .eql (V 115) (I 3)),M 144 145]
@[simp] theorem ref04_Change_r29_go : type_of% (ops_go ref04_Change_r29.eq_1 T K fr S) := ops_go ref04_Change_r29.eq_1 T K fr S
def ref04_Change_r30 : List POper := [M 146 18,M 147 2,M 148 3,Q 149 (.build [(.int .i64 0), (.str []), (.str []), (.int .i64 0)] [(0, 1, (I 2)), (1, 1, (V 147)), (2, 1, (V 148))]),Q 150 (.bsl false (.agg [(.int .i64 0), (.str []), (.str []), (.int .i64 0)]) 1 [(0, (V 149))]),Q 151 (.gapp 4 48 (V 146) (V 150)),M 18 151]
@[simp] theorem ref04_Change_r30_go : type_of% (ops_go ref04_Change_r30.eq_1 T K fr S) := ops_go ref04_Change_r30.eq_1 T K fr S
def ref04_Change_r31 : List POper := [Q 153 (.arith .eql (V 115) (I 4)),M 152 153]
@[simp] theorem ref04_Change_r31_go : type_of% (ops_go ref04_Change_r31.eq_1 T K fr S) := ops_go ref04_Change_r31.eq_1 T K fr S
def ref04_Change_r32 : List POper := [M 154 18,M 155 2,Q 156 (.build [(.int .i64 0), (.str []), (.str []), (.int .i64 0)] [(0, 1, (I 3)), (1, 1, (V 155))]),Q 157 (.bsl false (.agg [(.int .i64 0), (.str []), (.str []), (.int .i64 0)]) 1 [(0, (V 156))]),Q 158 (.gapp 4 48 (V 154) (V 157)),M 18 158]
@[simp] theorem ref04_Change_r32_go : type_of% (ops_go ref04_Change_r32.eq_1 T K fr S) := ops_go ref04_Change_r32.eq_1 T K fr S
def ref04_Change_r33 : List POper := [Q 160 (.arith .eql (V 115) (I 5)),M 159 160]
@[simp] theorem ref04_Change_r33_go : type_of% (ops_go ref04_Change_r33.eq_1 T K fr S) := ops_go ref04_Change_r33.eq_1 T K fr S
def ref04_Change_r34 : List POper := [M 161 17,M 162 13,M 163 17,M 164 13,Q 165 (.iaddr 2 (V 163) (V 164)),FA 166 0 165,LD 167 166,Q 168 (.len false (V 167)),Q 169 (.iaddr 2 (V 161) (V 162)),FA 170 1 169,QN (.store 1 (V 170) (V 168))]
@[simp] theorem ref04_Change_r34_go : type_of% (ops_go ref04_Change_r34.eq_1 T K fr S) := ops_go ref04_Change_r34.eq_1 T K fr S
def ref04_Change_r35 : List POper := [Q 172 (.arith .eql (V 115) (I 6)),M 171 172]
@[simp] theorem ref04_Change_r35_go : type_of% (ops_go ref04_Change_r35.eq_1 T K fr S) := ops_go ref04_Change_r35.eq_1 T K fr S
def ref04_Change_r36 : List POper := [M 173 12,FA 174 2 5,QN (.store 1 (V 174) (V 173))]
@[simp] theorem ref04_Change_r36_go : type_of% (ops_go ref04_Change_r36.eq_1 T K fr S) := ops_go ref04_Change_r36.eq_1 T K fr S
def ref04_Change_r37 : List POper := [Q 18 (.mov (.cst .nils))]
@[simp] theorem ref04_Change_r37_go : type_of% (ops_go ref04_Change_r37.eq_1 T K fr S) := ops_go ref04_Change_r37.eq_1 T K fr S
def ref04_Change_r38 : List POper := [M 175 17,M 176 18,FA 177 1 5,QN (.store 1 (V 177) (V 175)),FA 178 3 5,QN (.store 1 (V 178) (V 176))]
@[simp] theorem ref04_Change_r38_go : type_of% (ops_go ref04_Change_r38.eq_1 T K fr S) := ops_go ref04_Change_r38.eq_1 T K fr S
def ref04_Change_r39 : List POper := [Q 179 (.load true 7 false (V 5)),QN (.store 7 (V 10) (V 179)),Q 11 (.mov (I 0))]
@[simp] theorem ref04_Change_r39_go : type_of% (ops_go ref04_Change_r39.eq_1 T K fr S) := ops_go ref04_Change_r39.eq_1 T K fr S
def ref04_Change : PCodeFn :=
 ⟨5, [.cell 10 true 7, .tmp 11],
 (.seq (.region ref04_Change_r0) (.seq (.seq (.clr [(19, 34)] (.region ref04_Change_r1)) (.cond (V 34) (.seq (.clr [(35, 36)] (.region ref04_Change_r2)) .ret) .skip)) (.seq (.clr [(36, 38)] (.region ref04_Change_r3)) (.seq (.clr [(38, 41)] (.region ref04_Change_r4)) (.seq (.seq (.clr [(41, 46)] (.region ref04_Change_r5)) (.cond (V 46) (.seq (.clr [(47, 48)] (.region ref04_Change_r6)) .ret) .skip)) (.seq (.seq (.clr [(48, 54)] (.region ref04_Change_r7)) (.cond (V 54) (.seq (.clr [(55, 56)] (.region ref04_Change_r8)) .ret) .skip)) (.seq (.seq (.clr [(56, 65)] (.region ref04_Change_r9)) (.cond (V 65) (.seq (.clr [(66, 67)] (.region ref04_Change_r10)) .ret) .skip)) (.seq (.region ref04_Change_r11) (.seq (.seq (.region ref04_Change_r12) (.block 0 (.loop ref04_Change_l0))) (.seq (.seq (.clr [(86, 96)] (.region ref04_Change_r16)) (.cond (V 96) (.seq (.clr [(97, 98)] (.region ref04_Change_r17)) .ret) .skip)) (.seq (.clr [(98, 103)] (.region ref04_Change_r18)) (.seq (.seq (.clr [(103, 104)] (.region ref04_Change_r19)) (.cond (V 104) (.seq (.clr [(105, 107)] (.region ref04_Change_r20)) .ret) .skip)) (.seq (.clr [(107, 111)] (.region ref04_Change_r21)) (.seq (.clr [(111, 115)] (.region ref04_Change_r22)) (.seq (.seq (.region ref04_Change_r23) (.block 2 (.seq (.clr [(117, 118)] (.region ref04_Change_r24)) (.cond (V 116) (.seq (.clr [(118, 125)] (.region ref04_Change_r25)) (.clr [(125, 129)] (.region ref04_Change_r26))) (.seq (.clr [(130, 131)] (.region ref04_Change_r27)) (.cond (V 129) (.clr [(131, 144)] (.region ref04_Change_r28)) (.seq (.clr [(145, 146)] (.region ref04_Change_r29)) (.cond (V 144) (.clr [(146, 152)] (.region ref04_Change_r30)) (.seq (.clr [(153, 154)] (.region ref04_Change_r31)) (.cond (V 152) (.clr [(154, 159)] (.region ref04_Change_r32)) (.seq (.clr [(160, 161)] (.region ref04_Change_r33)) (.cond (V 159) (.clr [(161, 171)] (.region ref04_Change_r34)) (.seq (.clr [(172, 173)] (.region ref04_Change_r35)) (.cond (V 171) (.seq (.clr [(173, 175)] (.region ref04_Change_r36)) (.region ref04_Change_r37)) .skip)))))))))))))) (.seq (.clr [(175, 179)] (.region ref04_Change_r38)) (.seq (.clr [(179, 180)] (.region ref04_Change_r39)) .ret))))))))))))))))), false⟩

def ref04_Read_r0 : List POper := [Q 2 (.box true (V 0)),Q 4 (.mov (.cst .nils)),Q 5 (.mov (I 0))]
@[simp] theorem ref04_Read_r0_go : type_of% (ops_go ref04_Read_r0.eq_1 T K fr S) := ops_go ref04_Read_r0.eq_1 T K fr S
def ref04_Read_r1 : List POper := [M 7 1,Q 8 (.call .pur 203 [(V 7)]),Q 9 (.un .not (V 8))]
@[simp] theorem ref04_Read_r1_go : type_of% (ops_go ref04_Read_r1.eq_1 T K fr S) := ops_go ref04_Read_r1.eq_1 T K fr S
def ref04_Read_r2 : List POper := [Q 4 (.mov (.cst .nils)),Q 5 (.mov (I 8))]
@[simp] theorem ref04_Read_r2_go : type_of% (ops_go ref04_Read_r2.eq_1 T K fr S) := ops_go ref04_Read_r2.eq_1 T K fr S
def ref04_Read_r3 : List POper := [Q 10 (.load true 7 false (V 2)),Q 11 (.call .std 204 [(V 10)]),M 12 1,Q 13 (.call .std 205 [(V 11), (V 12)]),M 6 13]
@[simp] theorem ref04_Read_r3_go : type_of% (ops_go ref04_Read_r3.eq_1 T K fr S) := ops_go ref04_Read_r3.eq_1 T K fr S
def ref04_Read_r4 : List POper := [M 14 6,Q 15 (.arith .lss (V 14) (I 0))]
@[simp] theorem ref04_Read_r4_go : type_of% (ops_go ref04_Read_r4.eq_1 T K fr S) := ops_go ref04_Read_r4.eq_1 T K fr S
def ref04_Read_r5 : List POper := [Q 4 (.mov (.cst .nils)),Q 5 (.mov (I 9))]
@[simp] theorem ref04_Read_r5_go : type_of% (ops_go ref04_Read_r5.eq_1 T K fr S) := ops_go ref04_Read_r5.eq_1 T K fr S
def ref04_Read_r6 : List POper := [FA 16 5 2,LD 17 16]
@[simp] theorem ref04_Read_r6_go : type_of% (ops_go ref04_Read_r6.eq_1 T K fr S) := ops_go ref04_Read_r6.eq_1 T K fr S
def ref04_Read_r7 : List POper := [Q 4 (.mov (.cst .nils)),Q 5 (.mov (I 6))]
@[simp] theorem ref04_Read_r7_go : type_of% (ops_go ref04_Read_r7.eq_1 T K fr S) := ops_go ref04_Read_r7.eq_1 T K fr S
def ref04_Read_r8 : List POper := [FA 18 1 2,LD 19 18,M 20 6,Q 21 (.iaddr 2 (V 19) (V 20)),FA 22 0 21,LD 23 22,M 4 23,Q 5 (.mov (I 0))]
@[simp] theorem ref04_Read_r8_go : type_of% (ops_go ref04_Read_r8.eq_1 T K fr S) := ops_go ref04_Read_r8.eq_1 T K fr S
def ref04_Read : PCodeFn :=
 ⟨2, [.tmp 4, .tmp 5],
 (.seq (.region ref04_Read_r0) (.seq (.seq (.clr [(7, 9)] (.region ref04_Read_r1)) (.cond (V 9) (.seq (.region ref04_Read_r2) .ret) .skip)) (.seq (.clr [(10, 14)] (.region ref04_Read_r3)) (.seq (.seq (.clr [(14, 15)] (.region ref04_Read_r4)) (.cond (V 15) (.seq (.region ref04_Read_r5) .ret) .skip)) (.seq (.seq (.clr [(16, 17)] (.region ref04_Read_r6)) (.cond (V 17) (.seq (.region ref04_Read_r7) .ret) .skip)) (.seq (.clr [(18, 24)] (.region ref04_Read_r8)) .ret)))))), false⟩

def ref04_Fuse_r0 : List POper := [Q 2 (.box false (V 0)),Q 4 (.alloc false [(.int .i64 0), .nils, .nils, .nils, (.int .i64 0), (.bool false), (.int .i64 0)])]
@[simp] theorem ref04_Fuse_r0_go : type_of% (ops_go ref04_Fuse_r0.eq_1 T K fr S) := ops_go ref04_Fuse_r0.eq_1 T K fr S
def ref04_Fuse_r1 : List POper := [M 5 1,Q 6 (.mnmx true (V 5) (I (-1))),FA 7 4 2,QN (.store 1 (V 7) (V 6))]
@[simp] theorem ref04_Fuse_r1_go : type_of% (ops_go ref04_Fuse_r1.eq_1 T K fr S) := ops_go ref04_Fuse_r1.eq_1 T K fr S
def ref04_Fuse_r2 : List POper := [Q 8 (.load true 7 false (V 2)),QN (.store 7 (V 4) (V 8))]
@[simp] theorem ref04_Fuse_r2_go : type_of% (ops_go ref04_Fuse_r2.eq_1 T K fr S) := ops_go ref04_Fuse_r2.eq_1 T K fr S
def ref04_Fuse : PCodeFn :=
 ⟨2, [.cell 4 true 7],
 (.seq (.region ref04_Fuse_r0) (.seq (.clr [(5, 8)] (.region ref04_Fuse_r1)) (.seq (.clr [(8, 9)] (.region ref04_Fuse_r2)) .ret))), false⟩

def ref04_Crash_r0 : List POper := [Q 3 (.box true (V 0)),Q 6 (.alloc false [(.int .i64 0), .nils, .nils, .nils, (.int .i64 0), (.bool false), (.int .i64 0)])]
@[simp] theorem ref04_Crash_r0_go : type_of% (ops_go ref04_Crash_r0.eq_1 T K fr S) := ops_go ref04_Crash_r0.eq_1 T K fr S
def ref04_Crash_r1 : List POper := [Q 12 (.load true 7 true (V 3)),M 13 1,Q 14 (.toInt .u64 (V 13)),FA 15 3 3,Q 16 (.load false 1 true (V 15)),Q 17 (.len false (V 16)),Q 18 (.arith .add (V 17) (I 1)),Q 19 (.toInt .u64 (V 18)),Q 20 (.arith .rem (V 14) (V 19)),Q 21 (.toInt .i64 (V 20)),Q 22 (.call .std 207 [(V 12), (V 21)]),M 7 22]
@[simp] theorem ref04_Crash_r1_go : type_of% (ops_go ref04_Crash_r1.eq_1 T K fr S) := ops_go ref04_Crash_r1.eq_1 T K fr S
def ref04_Crash_r2 : List POper := [Q 23 (.emp0),FA 24 1 3,LD 25 24,Q 26 (.gapp 2 32 (V 23) (V 25)),M 8 26]
@[simp] theorem ref04_Crash_r2_go : type_of% (ops_go ref04_Crash_r2.eq_1 T K fr S) := ops_go ref04_Crash_r2.eq_1 T K fr S
def ref04_Crash_r3 : List POper := [Q 9 (.mov (I 0))]
@[simp] theorem ref04_Crash_r3_go : type_of% (ops_go ref04_Crash_r3.eq_1 T K fr S) := ops_go ref04_Crash_r3.eq_1 T K fr S
def ref04_Crash_r4 : List POper := [M 27 9,M 28 7,Q 29 (.len false (V 28)),Q 30 (.arith .lss (V 27) (V 29))]
@[simp] theorem ref04_Crash_r4_go : type_of% (ops_go ref04_Crash_r4.eq_1 T K fr S) := ops_go ref04_Crash_r4.eq_1 T K fr S
def ref04_Crash_r6 : List POper := [M 33 8,M 34 7,M 35 9,Q 36 (.iaddr 2 (V 34) (V 35)),FA 37 1 36,LD 38 37,Q 39 (.iaddr 2 (V 33) (V 38)),Q 40 (.load true 2 false (V 39)),Q 10 (.alloc false [.nils, (.int .i64 0)]),QN (.store 2 (V 10) (V 40))]
@[simp] theorem ref04_Crash_r6_go : type_of% (ops_go ref04_Crash_r6.eq_1 T K fr S) := ops_go ref04_Crash_r6.eq_1 T K fr S
def ref04_Crash_r7 : List POper := [Q 11 (.mov (I 0))]
@[simp] theorem ref04_Crash_r7_go : type_of% (ops_go ref04_Crash_r7.eq_1 T K fr S) := ops_go ref04_Crash_r7.eq_1 T K fr S
def ref04_Crash_r8 : List POper := [M 41 9,M 42 2,Q 43 (.len false (V 42)),Q 44 (.arith .lss (V 41) (V 43))]
@[simp] theorem ref04_Crash_r8_go : type_of% (ops_go ref04_Crash_r8.eq_1 T K fr S) := ops_go ref04_Crash_r8.eq_1 T K fr S
def ref04_Crash_r9 : List POper := [M 45 2,M 46 9,Q 47 (.iaddr 1 (V 45) (V 46)),LD 48 47,Q 49 (.toInt .u64 (V 48)),FA 50 0 10,LD 51 50,Q 52 (.len false (V 51)),FA 53 1 10,LD 54 53,Q 55 (.arith .sub (V 52) (V 54)),Q 56 (.arith .add (V 55) (I 1)),Q 57 (.toInt .u64 (V 56)),Q 58 (.arith .rem (V 49) (V 57)),Q 59 (.toInt .i64 (V 58)),M 11 59]
@[simp] theorem ref04_Crash_r9_go : type_of% (ops_go ref04_Crash_r9.eq_1 T K fr S) := ops_go ref04_Crash_r9.eq_1 T K fr S
def ref04_Crash_r10 : List POper := [M 60 8,M 61 7,M 62 9,Q 63 (.iaddr 2 (V 61) (V 62)),FA 64 1 63,LD 65 64,FA 66 0 10,LD 67 66,FA 68 1 10,LD 69 68,M 70 11,Q 71 (.arith .add (V 69) (V 70)),Q 72 (.slc 1 none (some (V 71)) (V 67)),FA 73 1 10,LD 74 73,M 75 11,Q 76 (.arith .add (V 74) (V 75)),Q 77 (.build [.nils, (.int .i64 0)] [(0, 1, (V 72)), (1, 1, (V 76))]),Q 78 (.iaddr 2 (V 60) (V 65)),QN (.store 2 (V 78) (V 77))]
@[simp] theorem ref04_Crash_r10_go : type_of% (ops_go ref04_Crash_r10.eq_1 T K fr S) := ops_go ref04_Crash_r10.eq_1 T K fr S
def ref04_Crash_r5 : List POper := [M 31 9,Q 32 (.arith .add (V 31) (I 1)),M 9 32]
@[simp] theorem ref04_Crash_r5_go : type_of% (ops_go ref04_Crash_r5.eq_1 T K fr S) := ops_go ref04_Crash_r5.eq_1 T K fr S
def ref04_Crash_l0 : PCode :=
 (.seq (.seq (.clr [(27, 30)] (.region ref04_Crash_r4)) (.cond (V 30) .skip (.exit 0))) (.seq (.block 1 (.seq (.clr [(33, 41)] (.region ref04_Crash_r6)) (.seq (.region ref04_Crash_r7) (.seq (.seq (.clr [(41, 44)] (.region ref04_Crash_r8)) (.cond (V 44) (.clr [(45, 60)] (.region ref04_Crash_r9)) .skip)) (.clr [(60, 79)] (.region ref04_Crash_r10)))))) (.clr [(31, 33)] (.region ref04_Crash_r5))))
@[simp] theorem ref04_Crash_l0_go : type_of% (code_go ref04_Crash_l0.eq_1 T K fr S) := code_go ref04_Crash_l0.eq_1 T K fr S
def ref04_Crash_r11 : List POper := [FA 79 0 3,LD 80 79,M 81 8,M 82 7,FA 83 6 3,LD 84 83,Q 85 (.build [(.int .i64 0), .nils, .nils, .nils, (.int .i64 0), (.bool false), (.int .i64 0)] [(0, 1, (V 80)), (1, 1, (V 81)), (2, 1, (V 82)), (4, 1, (I (-1))), (6, 1, (V 84))]),QN (.store 7 (V 6) (V 85))]
@[simp] theorem ref04_Crash_r11_go : type_of% (ops_go ref04_Crash_r11.eq_1 T K fr S) := ops_go ref04_Crash_r11.eq_1 T K fr S
def ref04_Crash : PCodeFn :=
 ⟨3, [.cell 6 true 7],
 (.seq (.region ref04_Crash_r0) (.seq (.clr [(12, 23)] (.region ref04_Crash_r1)) (.seq (.clr [(23, 27)] (.region ref04_Crash_r2)) (.seq (.seq (.region ref04_Crash_r3) (.block 0 (.loop ref04_Crash_l0))) (.seq (.clr [(79, 86)] (.region ref04_Crash_r11)) .ret))))), false⟩

def disk_Disk_Copy_1_r0 : List POper := [Q 3 (.mov (.cst .nilp))]
@[simp] theorem disk_Disk_Copy_1_r0_go : type_of% (ops_go disk_Disk_Copy_1_r0.eq_1 T K fr S) := ops_go disk_Disk_Copy_1_r0.eq_1 T K fr S
def disk_Disk_Copy_1_r1 : List POper := [M 4 0,Q 5 (.eqn false .p (V 4))]
@[simp] theorem disk_Disk_Copy_1_r1_go : type_of% (ops_go disk_Disk_Copy_1_r1.eq_1 T K fr S) := ops_go disk_Disk_Copy_1_r1.eq_1 T K fr S
def disk_Disk_Copy_1_r2 : List POper := [Q 3 (.mov (.cst .nilp))]
@[simp] theorem disk_Disk_Copy_1_r2_go : type_of% (ops_go disk_Disk_Copy_1_r2.eq_1 T K fr S) := ops_go disk_Disk_Copy_1_r2.eq_1 T K fr S
def disk_Disk_Copy_1_r3 : List POper := [LD 6 1,M 7 0,Q 8 (.plk false .nilp (V 6) (V 7)),Q 9 (.eqn false .p (V 8))]
@[simp] theorem disk_Disk_Copy_1_r3_go : type_of% (ops_go disk_Disk_Copy_1_r3.eq_1 T K fr S) := ops_go disk_Disk_Copy_1_r3.eq_1 T K fr S
def disk_Disk_Copy_1_r4 : List POper := [LD 10 1,M 11 0,M 12 0,NK' 13 12,FA 14 0 13,LD 15 14,M 17 0,NK' 18 17,FA 19 1 18,LD 20 19,Q 16 (.call .keep 201 [(V 15)]),Q 21 (.build [.nils, (.int .i64 0)] [(0, 1, (V 16)), (1, 1, (V 20))]),Q 22 (.box false (V 21)),QN (.pset (V 10) (V 11) (V 22))]
@[simp] theorem disk_Disk_Copy_1_r4_go : type_of% (ops_go disk_Disk_Copy_1_r4.eq_1 T K fr S) := ops_go disk_Disk_Copy_1_r4.eq_1 T K fr S
def disk_Disk_Copy_1_r5 : List POper := [LD 23 1,M 24 0,Q 25 (.plk false .nilp (V 23) (V 24)),M 3 25]
@[simp] theorem disk_Disk_Copy_1_r5_go : type_of% (ops_go disk_Disk_Copy_1_r5.eq_1 T K fr S) := ops_go disk_Disk_Copy_1_r5.eq_1 T K fr S
def disk_Disk_Copy_1 : PCodeFn :=
 ⟨2, [.tmp 3],
 (.seq (.region disk_Disk_Copy_1_r0) (.seq (.seq (.clr [(4, 5)] (.region disk_Disk_Copy_1_r1)) (.cond (V 5) (.seq (.region disk_Disk_Copy_1_r2) .ret) .skip)) (.seq (.seq (.clr [(6, 9)] (.region disk_Disk_Copy_1_r3)) (.cond (V 9) (.clr [(10, 23)] (.region disk_Disk_Copy_1_r4)) .skip)) (.seq (.clr [(23, 26)] (.region disk_Disk_Copy_1_r5)) .ret)))), false⟩

def slices_Clone_byte_r0 : List POper := [Q 2 (.mov (.cst .nils))]
@[simp] theorem slices_Clone_byte_r0_go : type_of% (ops_go slices_Clone_byte_r0.eq_1 T K fr S) := ops_go slices_Clone_byte_r0.eq_1 T K fr S
def slices_Clone_byte_r1 : List POper := [M 3 0,Q 4 (.eqn false .s (V 3))]
@[simp] theorem slices_Clone_byte_r1_go : type_of% (ops_go slices_Clone_byte_r1.eq_1 T K fr S) := ops_go slices_Clone_byte_r1.eq_1 T K fr S
def slices_Clone_byte_r2 : List POper := [Q 2 (.mov (.cst .nils))]
@[simp] theorem slices_Clone_byte_r2_go : type_of% (ops_go slices_Clone_byte_r2.eq_1 T K fr S) := ops_go slices_Clone_byte_r2.eq_1 T K fr S
def slices_Clone_byte_r3 : List POper := [Q 5 (.bsl false (.int .u8 0) 0 []),M 6 0,Q 7 (.app 1 1 (V 5) (V 6)),M 2 7]
@[simp] theorem slices_Clone_byte_r3_go : type_of% (ops_go slices_Clone_byte_r3.eq_1 T K fr S) := ops_go slices_Clone_byte_r3.eq_1 T K fr S
def slices_Clone_byte : PCodeFn :=
 ⟨1, [.tmp 2],
 (.seq (.region slices_Clone_byte_r0) (.seq (.seq (.clr [(3, 4)] (.region slices_Clone_byte_r1)) (.cond (V 4) (.seq (.region slices_Clone_byte_r2) .ret) .skip)) (.seq (.clr [(5, 8)] (.region slices_Clone_byte_r3)) .ret))), true⟩

def disk_Disk_Copy_2_r0 : List POper := [Q 3 (.mov (.cst .nilm))]
@[simp] theorem disk_Disk_Copy_2_r0_go : type_of% (ops_go disk_Disk_Copy_2_r0.eq_1 T K fr S) := ops_go disk_Disk_Copy_2_r0.eq_1 T K fr S
def disk_Disk_Copy_2_r1 : List POper := [Q 7 (.mkm),M 4 7]
@[simp] theorem disk_Disk_Copy_2_r1_go : type_of% (ops_go disk_Disk_Copy_2_r1.eq_1 T K fr S) := ops_go disk_Disk_Copy_2_r1.eq_1 T K fr S
def disk_Disk_Copy_2_r5 : List POper := [M 15 4,M 16 5,LD 17 1,M 18 6,Q 19 (.callv .std (V 17) [(V 18)]),QN (.mset true (V 15) (V 16) (V 19))]
@[simp] theorem disk_Disk_Copy_2_r5_go : type_of% (ops_go disk_Disk_Copy_2_r5.eq_1 T K fr S) := ops_go disk_Disk_Copy_2_r5.eq_1 T K fr S
def disk_Disk_Copy_2_l0 : PCode :=
 (.seq .bad (.seq (.cond (V 11) .skip (.exit 0)) (.block 1 (.seq .bad (.clr [(15, 20)] (.region disk_Disk_Copy_2_r5))))))
@[simp] theorem disk_Disk_Copy_2_l0_go : type_of% (code_go disk_Disk_Copy_2_l0.eq_1 T K fr S) := code_go disk_Disk_Copy_2_l0.eq_1 T K fr S
def disk_Disk_Copy_2_r6 : List POper := [M 20 4,M 3 20]
@[simp] theorem disk_Disk_Copy_2_r6_go : type_of% (ops_go disk_Disk_Copy_2_r6.eq_1 T K fr S) := ops_go disk_Disk_Copy_2_r6.eq_1 T K fr S
def disk_Disk_Copy_2 : PCodeFn :=
 ⟨2, [.tmp 3],
 (.seq (.region disk_Disk_Copy_2_r0) (.seq (.clr [(7, 8)] (.region disk_Disk_Copy_2_r1)) (.seq (.seq .bad (.block 0 (.loop disk_Disk_Copy_2_l0))) (.seq (.clr [(20, 21)] (.region disk_Disk_Copy_2_r6)) .ret)))), false⟩

def disk_Disk_List_r0 : List POper := [Q 2 (.mov (.cst .nils))]
@[simp] theorem disk_Disk_List_r0_go : type_of% (ops_go disk_Disk_List_r0.eq_1 T K fr S) := ops_go disk_Disk_List_r0.eq_1 T K fr S
def disk_Disk_List_r1 : List POper := [M 3 0,Q 4 (.eqn false .p (V 3)),M 5 4,QG (some 6) (.mov (V 0)) 5 false,QG (some 7) (.nilck (V 6)) 5 false,QG (some 8) (.faddr 2 (V 7)) 5 false,QG (some 9) (.load false 1 false (V 8)) 5 false,QG (some 10) (.eqn false .m (V 9)) 5 false,Q 11 (.pick (V 5) tt' (V 10)),M 12 11,QG (some 13) (.mov (V 0)) 12 false,QG (some 14) (.nilck (V 13)) 12 false,QG (some 15) (.faddr 6 (V 14)) 12 false,QG (some 16) (.load false 1 false (V 15)) 12 false,Q 17 (.pick (V 12) tt' (V 16))]
@[simp] theorem disk_Disk_List_r1_go : type_of% (ops_go disk_Disk_List_r1.eq_1 T K fr S) := ops_go disk_Disk_List_r1.eq_1 T K fr S
def disk_Disk_List_r2 : List POper := [Q 2 (.mov (.cst .nils))]
@[simp] theorem disk_Disk_List_r2_go : type_of% (ops_go disk_Disk_List_r2.eq_1 T K fr S) := ops_go disk_Disk_List_r2.eq_1 T K fr S
def disk_Disk_List_r3 : List POper := [M 18 0,NK' 19 18,FA 20 2 19,LD 21 20,Q 22 (.call .std 200 [(V 21)]),Q 23 (.call .std 199 [(V 22)]),M 2 23]
@[simp] theorem disk_Disk_List_r3_go : type_of% (ops_go disk_Disk_List_r3.eq_1 T K fr S) := ops_go disk_Disk_List_r3.eq_1 T K fr S
def disk_Disk_List : PCodeFn :=
 ⟨1, [.tmp 2],
 (.seq (.region disk_Disk_List_r0) (.seq (.seq (.clr [(3, 17)] (.region disk_Disk_List_r1)) (.cond (V 17) (.seq (.region disk_Disk_List_r2) .ret) .skip)) (.seq (.clr [(18, 24)] (.region disk_Disk_List_r3)) .ret))), false⟩

def law04_same_r0 : List POper := [Q 4 (.mov ff')]
@[simp] theorem law04_same_r0_go : type_of% (ops_go law04_same_r0.eq_1 T K fr S) := ops_go law04_same_r0.eq_1 T K fr S
def law04_same_r1 : List POper := [M 6 0,Q 7 (.len false (V 6)),M 8 1,Q 9 (.len false (V 8)),Q 10 (.arith .neq (V 7) (V 9))]
@[simp] theorem law04_same_r1_go : type_of% (ops_go law04_same_r1.eq_1 T K fr S) := ops_go law04_same_r1.eq_1 T K fr S
def law04_same_r2 : List POper := [Q 4 (.mov ff')]
@[simp] theorem law04_same_r2_go : type_of% (ops_go law04_same_r2.eq_1 T K fr S) := ops_go law04_same_r2.eq_1 T K fr S
def law04_same_r3 : List POper := [Q 5 (.mov (I 0))]
@[simp] theorem law04_same_r3_go : type_of% (ops_go law04_same_r3.eq_1 T K fr S) := ops_go law04_same_r3.eq_1 T K fr S
def law04_same_r4 : List POper := [M 11 5,M 12 0,Q 13 (.len false (V 12)),Q 14 (.arith .lss (V 11) (V 13))]
@[simp] theorem law04_same_r4_go : type_of% (ops_go law04_same_r4.eq_1 T K fr S) := ops_go law04_same_r4.eq_1 T K fr S
def law04_same_r6 : List POper := [M 17 0,M 18 5,Q 19 (.iaddr 1 (V 17) (V 18)),Q 20 (.load false 1 true (V 19)),M 21 1,M 22 5,Q 23 (.iaddr 1 (V 21) (V 22)),Q 24 (.load false 1 true (V 23)),Q 25 (.arith .neq (V 20) (V 24))]
@[simp] theorem law04_same_r6_go : type_of% (ops_go law04_same_r6.eq_1 T K fr S) := ops_go law04_same_r6.eq_1 T K fr S
def law04_same_r7 : List POper := [Q 4 (.mov ff')]
@[simp] theorem law04_same_r7_go : type_of% (ops_go law04_same_r7.eq_1 T K fr S) := ops_go law04_same_r7.eq_1 T K fr S
def law04_same_r5 : List POper := [M 15 5,Q 16 (.arith .add (V 15) (I 1)),M 5 16]
@[simp] theorem law04_same_r5_go : type_of% (ops_go law04_same_r5.eq_1 T K fr S) := ops_go law04_same_r5.eq_1 T K fr S
def law04_same_l0 : PCode :=
 (.seq (.seq (.clr [(11, 14)] (.region law04_same_r4)) (.cond (V 14) .skip (.exit 0))) (.seq (.block 1 (.seq (.clr [(17, 25)] (.region law04_same_r6)) (.cond (V 25) (.seq (.region law04_same_r7) .ret) .skip))) (.clr [(15, 17)] (.region law04_same_r5))))
@[simp] theorem law04_same_l0_go : type_of% (code_go law04_same_l0.eq_1 T K fr S) := code_go law04_same_l0.eq_1 T K fr S
def law04_same_r8 : List POper := [Q 4 (.mov tt')]
@[simp] theorem law04_same_r8_go : type_of% (ops_go law04_same_r8.eq_1 T K fr S) := ops_go law04_same_r8.eq_1 T K fr S
def law04_same : PCodeFn :=
 ⟨2, [.tmp 4],
 (.seq (.region law04_same_r0) (.seq (.seq (.clr [(6, 10)] (.region law04_same_r1)) (.cond (V 10) (.seq (.region law04_same_r2) .ret) .skip)) (.seq (.seq (.region law04_same_r3) (.block 0 (.loop law04_same_l0))) (.seq (.region law04_same_r8) .ret)))), false⟩

def ref04_List_r0 : List POper := [Q 1 (.box true (V 0)),Q 2 (.mov (.cst .nils))]
@[simp] theorem ref04_List_r0_go : type_of% (ops_go ref04_List_r0.eq_1 T K fr S) := ops_go ref04_List_r0.eq_1 T K fr S
def ref04_List_r1 : List POper := [Q 3 (.mov (.cst .nils))]
@[simp] theorem ref04_List_r1_go : type_of% (ops_go ref04_List_r1.eq_1 T K fr S) := ops_go ref04_List_r1.eq_1 T K fr S
def ref04_List_r2 : List POper := [Q 6 (.load true 7 false (V 1)),Q 7 (.call .std 204 [(V 6)]),M 4 7]
@[simp] theorem ref04_List_r2_go : type_of% (ops_go ref04_List_r2.eq_1 T K fr S) := ops_go ref04_List_r2.eq_1 T K fr S
def ref04_List_r3 : List POper := [Q 5 (.mov (I 0))]
@[simp] theorem ref04_List_r3_go : type_of% (ops_go ref04_List_r3.eq_1 T K fr S) := ops_go ref04_List_r3.eq_1 T K fr S
def ref04_List_r4 : List POper := [M 8 5,M 9 4,Q 10 (.len false (V 9)),Q 11 (.arith .lss (V 8) (V 10)),M 12 11,QG (some 13) (.faddr 5 (V 1)) 12 true,QG (some 14) (.load false 1 false (V 13)) 12 true,QG (some 15) (.un .not (V 14)) 12 true,Q 16 (.pick (V 12) (V 15) ff')]
@[simp] theorem ref04_List_r4_go : type_of% (ops_go ref04_List_r4.eq_1 T K fr S) := ops_go ref04_List_r4.eq_1 T K fr S
def ref04_List_r6 : List POper := [M 19 3,M 20 4,M 21 5,Q 22 (.iaddr 2 (V 20) (V 21)),FA 23 0 22,LD 24 23,Q 25 (.bsl false (.str []) 1 [(0, (V 24))]),Q 26 (.app 1 16 (V 19) (V 25)),M 3 26]
@[simp] theorem ref04_List_r6_go : type_of% (ops_go ref04_List_r6.eq_1 T K fr S) := ops_go ref04_List_r6.eq_1 T K fr S
def ref04_List_r5 : List POper := [M 17 5,Q 18 (.arith .add (V 17) (I 1)),M 5 18]
@[simp] theorem ref04_List_r5_go : type_of% (ops_go ref04_List_r5.eq_1 T K fr S) := ops_go ref04_List_r5.eq_1 T K fr S
def ref04_List_l0 : PCode :=
 (.seq (.seq (.clr [(8, 16)] (.region ref04_List_r4)) (.cond (V 16) .skip (.exit 0))) (.seq (.block 1 (.clr [(19, 27)] (.region ref04_List_r6))) (.clr [(17, 19)] (.region ref04_List_r5))))
@[simp] theorem ref04_List_l0_go : type_of% (code_go ref04_List_l0.eq_1 T K fr S) := code_go ref04_List_l0.eq_1 T K fr S
def ref04_List_r7 : List POper := [M 27 3,M 2 27]
@[simp] theorem ref04_List_r7_go : type_of% (ops_go ref04_List_r7.eq_1 T K fr S) := ops_go ref04_List_r7.eq_1 T K fr S
def ref04_List : PCodeFn :=
 ⟨1, [.tmp 2],
 (.seq (.region ref04_List_r0) (.seq (.region ref04_List_r1) (.seq (.clr [(6, 8)] (.region ref04_List_r2)) (.seq (.seq (.region ref04_List_r3) (.block 0 (.loop ref04_List_l0))) (.seq (.clr [(27, 28)] (.region ref04_List_r7)) .ret))))), false⟩

def disk_Disk_Done_r0 : List POper := [Q 2 (.mov (I 0))]
@[simp] theorem disk_Disk_Done_r0_go : type_of% (ops_go disk_Disk_Done_r0.eq_1 T K fr S) := ops_go disk_Disk_Done_r0.eq_1 T K fr S
def disk_Disk_Done_r1 : List POper := [M 3 0,Q 4 (.eqn false .p (V 3))]
@[simp] theorem disk_Disk_Done_r1_go : type_of% (ops_go disk_Disk_Done_r1.eq_1 T K fr S) := ops_go disk_Disk_Done_r1.eq_1 T K fr S
def disk_Disk_Done_r2 : List POper := [Q 2 (.mov (I 0))]
@[simp] theorem disk_Disk_Done_r2_go : type_of% (ops_go disk_Disk_Done_r2.eq_1 T K fr S) := ops_go disk_Disk_Done_r2.eq_1 T K fr S
def disk_Disk_Done_r3 : List POper := [M 5 0,NK' 6 5,FA 7 5 6,LD 8 7,M 2 8]
@[simp] theorem disk_Disk_Done_r3_go : type_of% (ops_go disk_Disk_Done_r3.eq_1 T K fr S) := ops_go disk_Disk_Done_r3.eq_1 T K fr S
def disk_Disk_Done : PCodeFn :=
 ⟨1, [.tmp 2],
 (.seq (.region disk_Disk_Done_r0) (.seq (.seq (.clr [(3, 4)] (.region disk_Disk_Done_r1)) (.cond (V 4) (.seq (.region disk_Disk_Done_r2) .ret) .skip)) (.seq (.clr [(5, 9)] (.region disk_Disk_Done_r3)) .ret))), false⟩

def disk_Disk_find_r0 : List POper := [Q 4 (.mov (.cst .nilp)),Q 5 (.mov (I 0))]
@[simp] theorem disk_Disk_find_r0_go : type_of% (ops_go disk_Disk_find_r0.eq_1 T K fr S) := ops_go disk_Disk_find_r0.eq_1 T K fr S
def disk_Disk_find_r1 : List POper := [M 7 0,Q 8 (.eqn false .p (V 7)),M 9 8,QG (some 10) (.mov (V 0)) 9 false,QG (some 11) (.nilck (V 10)) 9 false,QG (some 12) (.faddr 2 (V 11)) 9 false,QG (some 13) (.load false 1 false (V 12)) 9 false,QG (some 14) (.eqn false .m (V 13)) 9 false,Q 15 (.pick (V 9) tt' (V 14)),M 6 15]
@[simp] theorem disk_Disk_find_r1_go : type_of% (ops_go disk_Disk_find_r1.eq_1 T K fr S) := ops_go disk_Disk_find_r1.eq_1 T K fr S
def disk_Disk_find_r2 : List POper := [Q 4 (.mov (.cst .nilp)),Q 5 (.mov (I 1))]
@[simp] theorem disk_Disk_find_r2_go : type_of% (ops_go disk_Disk_find_r2.eq_1 T K fr S) := ops_go disk_Disk_find_r2.eq_1 T K fr S
def disk_Disk_find_r3 : List POper := [M 17 1,Q 18 (.call .pur 202 [(V 17)]),Q 19 (.un .not (V 18)),M 16 19]
@[simp] theorem disk_Disk_find_r3_go : type_of% (ops_go disk_Disk_find_r3.eq_1 T K fr S) := ops_go disk_Disk_find_r3.eq_1 T K fr S
def disk_Disk_find_r4 : List POper := [Q 4 (.mov (.cst .nilp)),Q 5 (.mov (I 8))]
@[simp] theorem disk_Disk_find_r4_go : type_of% (ops_go disk_Disk_find_r4.eq_1 T K fr S) := ops_go disk_Disk_find_r4.eq_1 T K fr S
def disk_Disk_find_r5 : List POper := [M 21 0,NK' 22 21,FA 23 2 22,LD 24 23,M 25 1,Q 26 (.mlk true false .nilp (V 24) (V 25)),Q 27 (.eqn false .p (V 26)),M 20 27]
@[simp] theorem disk_Disk_find_r5_go : type_of% (ops_go disk_Disk_find_r5.eq_1 T K fr S) := ops_go disk_Disk_find_r5.eq_1 T K fr S
def disk_Disk_find_r6 : List POper := [Q 4 (.mov (.cst .nilp)),Q 5 (.mov (I 9))]
@[simp] theorem disk_Disk_find_r6_go : type_of% (ops_go disk_Disk_find_r6.eq_1 T K fr S) := ops_go disk_Disk_find_r6.eq_1 T K fr S
def disk_Disk_find_r7 : List POper := [M 28 0,NK' 29 28,FA 30 2 29,LD 31 30,M 32 1,Q 33 (.mlk true false .nilp (V 31) (V 32)),M 4 33,Q 5 (.mov (I 0))]
@[simp] theorem disk_Disk_find_r7_go : type_of% (ops_go disk_Disk_find_r7.eq_1 T K fr S) := ops_go disk_Disk_find_r7.eq_1 T K fr S
def disk_Disk_find : PCodeFn :=
 ⟨2, [.tmp 4, .tmp 5],
 (.seq (.region disk_Disk_find_r0) (.seq (.block 0 (.seq (.clr [(7, 16)] (.region disk_Disk_find_r1)) (.cond (V 6) (.seq (.region disk_Disk_find_r2) .ret) (.seq (.clr [(17, 20)] (.region disk_Disk_find_r3)) (.cond (V 16) (.seq (.region disk_Disk_find_r4) .ret) (.seq (.clr [(21, 28)] (.region disk_Disk_find_r5)) (.cond (V 20) (.seq (.region disk_Disk_find_r6) .ret) .skip))))))) (.seq (.clr [(28, 34)] (.region disk_Disk_find_r7)) .ret))), false⟩

def disk_Disk_enter_r0 : List POper := [Q 3 (.box true (V 1)),Q 4 (.mov (I 0))]
@[simp] theorem disk_Disk_enter_r0_go : type_of% (ops_go disk_Disk_enter_r0.eq_1 T K fr S) := ops_go disk_Disk_enter_r0.eq_1 T K fr S
def disk_Disk_enter_r1 : List POper := [M 6 0,Q 7 (.call .std 196 [(V 6)]),M 5 7]
@[simp] theorem disk_Disk_enter_r1_go : type_of% (ops_go disk_Disk_enter_r1.eq_1 T K fr S) := ops_go disk_Disk_enter_r1.eq_1 T K fr S
def disk_Disk_enter_r2 : List POper := [M 8 5,Q 9 (.arith .neq (V 8) (I 0))]
@[simp] theorem disk_Disk_enter_r2_go : type_of% (ops_go disk_Disk_enter_r2.eq_1 T K fr S) := ops_go disk_Disk_enter_r2.eq_1 T K fr S
def disk_Disk_enter_r3 : List POper := [M 10 5,M 4 10]
@[simp] theorem disk_Disk_enter_r3_go : type_of% (ops_go disk_Disk_enter_r3.eq_1 T K fr S) := ops_go disk_Disk_enter_r3.eq_1 T K fr S
def disk_Disk_enter_r4 : List POper := [Q 11 (.load true 3 true (V 3)),M 12 0,NK' 13 12,FA 14 2 13,LD 15 14,Q 16 (.call .std 198 [(V 11), (V 15)])]
@[simp] theorem disk_Disk_enter_r4_go : type_of% (ops_go disk_Disk_enter_r4.eq_1 T K fr S) := ops_go disk_Disk_enter_r4.eq_1 T K fr S
def disk_Disk_enter_r5 : List POper := [M 17 0,M 18 0,NK' 19 18,FA 20 3 19,LD 21 20,Q 22 (.load true 3 true (V 3)),Q 23 (.bsl false (.agg [(.str []), (.str []), .nilp]) 1 [(0, (V 22))]),Q 24 (.app 3 40 (V 21) (V 23)),NK' 25 17,FA 26 3 25,QN (.store 1 (V 26) (V 24))]
@[simp] theorem disk_Disk_enter_r5_go : type_of% (ops_go disk_Disk_enter_r5.eq_1 T K fr S) := ops_go disk_Disk_enter_r5.eq_1 T K fr S
def disk_Disk_enter_r6 : List POper := [Q 4 (.mov (I 0))]
@[simp] theorem disk_Disk_enter_r6_go : type_of% (ops_go disk_Disk_enter_r6.eq_1 T K fr S) := ops_go disk_Disk_enter_r6.eq_1 T K fr S
def disk_Disk_enter : PCodeFn :=
 ⟨2, [.tmp 4],
 (.seq (.region disk_Disk_enter_r0) (.seq (.seq (.clr [(6, 8)] (.region disk_Disk_enter_r1)) (.seq (.clr [(8, 9)] (.region disk_Disk_enter_r2)) (.cond (V 9) (.seq (.clr [(10, 11)] (.region disk_Disk_enter_r3)) .ret) .skip))) (.seq (.clr [(11, 17)] (.region disk_Disk_enter_r4)) (.seq (.clr [(17, 27)] (.region disk_Disk_enter_r5)) (.seq (.region disk_Disk_enter_r6) .ret))))), false⟩

def disk_Disk_step_r0 : List POper := [Q 2 (.mov (I 0))]
@[simp] theorem disk_Disk_step_r0_go : type_of% (ops_go disk_Disk_step_r0.eq_1 T K fr S) := ops_go disk_Disk_step_r0.eq_1 T K fr S
def disk_Disk_step_r1 : List POper := [M 3 0,NK' 4 3,FA 5 4 4,LD 6 5,Q 7 (.arith .eql (V 6) (I 0))]
@[simp] theorem disk_Disk_step_r1_go : type_of% (ops_go disk_Disk_step_r1.eq_1 T K fr S) := ops_go disk_Disk_step_r1.eq_1 T K fr S
def disk_Disk_step_r2 : List POper := [M 8 0,NK' 9 8,FA 10 6 9,QN (.store 1 (V 10) tt')]
@[simp] theorem disk_Disk_step_r2_go : type_of% (ops_go disk_Disk_step_r2.eq_1 T K fr S) := ops_go disk_Disk_step_r2.eq_1 T K fr S
def disk_Disk_step_r3 : List POper := [M 11 0,NK' 12 11,FA 13 6 12,LD 14 13]
@[simp] theorem disk_Disk_step_r3_go : type_of% (ops_go disk_Disk_step_r3.eq_1 T K fr S) := ops_go disk_Disk_step_r3.eq_1 T K fr S
def disk_Disk_step_r4 : List POper := [Q 2 (.mov (I 6))]
@[simp] theorem disk_Disk_step_r4_go : type_of% (ops_go disk_Disk_step_r4.eq_1 T K fr S) := ops_go disk_Disk_step_r4.eq_1 T K fr S
def disk_Disk_step_r5 : List POper := [M 15 0,NK' 16 15,FA 17 4 16,LD 18 17,Q 19 (.arith .gtr (V 18) (I 0))]
@[simp] theorem disk_Disk_step_r5_go : type_of% (ops_go disk_Disk_step_r5.eq_1 T K fr S) := ops_go disk_Disk_step_r5.eq_1 T K fr S
def disk_Disk_step_r6 : List POper := [M 20 0,NK' 21 20,FA 22 4 21,LD 23 22,Q 24 (.arith .sub (V 23) (I 1)),NK' 25 20,FA 26 4 25,QN (.store 1 (V 26) (V 24))]
@[simp] theorem disk_Disk_step_r6_go : type_of% (ops_go disk_Disk_step_r6.eq_1 T K fr S) := ops_go disk_Disk_step_r6.eq_1 T K fr S
def disk_Disk_step_r7 : List POper := [M 27 0,NK' 28 27,FA 29 5 28,LD 30 29,Q 31 (.arith .add (V 30) (I 1)),NK' 32 27,FA 33 5 32,QN (.store 1 (V 33) (V 31))]
@[simp] theorem disk_Disk_step_r7_go : type_of% (ops_go disk_Disk_step_r7.eq_1 T K fr S) := ops_go disk_Disk_step_r7.eq_1 T K fr S
def disk_Disk_step_r8 : List POper := [Q 2 (.mov (I 0))]
@[simp] theorem disk_Disk_step_r8_go : type_of% (ops_go disk_Disk_step_r8.eq_1 T K fr S) := ops_go disk_Disk_step_r8.eq_1 T K fr S
def disk_Disk_step : PCodeFn :=
 ⟨1, [.tmp 2],
 (.seq (.region disk_Disk_step_r0) (.seq (.seq (.clr [(3, 7)] (.region disk_Disk_step_r1)) (.cond (V 7) (.clr [(8, 11)] (.region disk_Disk_step_r2)) .skip)) (.seq (.seq (.clr [(11, 14)] (.region disk_Disk_step_r3)) (.cond (V 14) (.seq (.region disk_Disk_step_r4) .ret) .skip)) (.seq (.seq (.clr [(15, 19)] (.region disk_Disk_step_r5)) (.cond (V 19) (.clr [(20, 27)] (.region disk_Disk_step_r6)) .skip)) (.seq (.clr [(27, 34)] (.region disk_Disk_step_r7)) (.seq (.region disk_Disk_step_r8) .ret)))))), false⟩

def maps_Clone_file_r0 : List POper := [Q 2 (.mov (.cst .nilm))]
@[simp] theorem maps_Clone_file_r0_go : type_of% (ops_go maps_Clone_file_r0.eq_1 T K fr S) := ops_go maps_Clone_file_r0.eq_1 T K fr S
def maps_Clone_file_r1 : List POper := [M 3 0,Q 4 (.eqn false .m (V 3))]
@[simp] theorem maps_Clone_file_r1_go : type_of% (ops_go maps_Clone_file_r1.eq_1 T K fr S) := ops_go maps_Clone_file_r1.eq_1 T K fr S
def maps_Clone_file_r2 : List POper := [Q 2 (.mov (.cst .nilm))]
@[simp] theorem maps_Clone_file_r2_go : type_of% (ops_go maps_Clone_file_r2.eq_1 T K fr S) := ops_go maps_Clone_file_r2.eq_1 T K fr S
def maps_Clone_file_r3 : List POper := [M 5 0,Q 6 (.mkif 4 (V 5)),Q 7 (.call .std 292 [(V 6)]),Q 8 (.assert 4 false .nilm (V 7)),M 2 8]
@[simp] theorem maps_Clone_file_r3_go : type_of% (ops_go maps_Clone_file_r3.eq_1 T K fr S) := ops_go maps_Clone_file_r3.eq_1 T K fr S
def maps_Clone_file : PCodeFn :=
 ⟨1, [.tmp 2],
 (.seq (.region maps_Clone_file_r0) (.seq (.seq (.clr [(3, 4)] (.region maps_Clone_file_r1)) (.cond (V 4) (.seq (.region maps_Clone_file_r2) .ret) .skip)) (.seq (.clr [(5, 9)] (.region maps_Clone_file_r3)) .ret))), false⟩

def disk_entry_do_r0 : List POper := [Q 2 (.box true (V 0))]
@[simp] theorem disk_entry_do_r0_go : type_of% (ops_go disk_entry_do_r0.eq_1 T K fr S) := ops_go disk_entry_do_r0.eq_1 T K fr S
def disk_entry_do_r1 : List POper := [FA 5 2 2,LD 6 5,M 4 6]
@[simp] theorem disk_entry_do_r1_go : type_of% (ops_go disk_entry_do_r1.eq_1 T K fr S) := ops_go disk_entry_do_r1.eq_1 T K fr S
def disk_entry_do_r2 : List POper := [M 7 4,Q 8 (.eqn false .p (V 7))]
@[simp] theorem disk_entry_do_r2_go : type_of% (ops_go disk_entry_do_r2.eq_1 T K fr S) := ops_go disk_entry_do_r2.eq_1 T K fr S
def disk_entry_do_r3 : List POper := [M 9 1,FA 10 0 2,LD 11 10,Q 12 (.mlk true false .nilp (V 9) (V 11)),M 4 12]
@[simp] theorem disk_entry_do_r3_go : type_of% (ops_go disk_entry_do_r3.eq_1 T K fr S) := ops_go disk_entry_do_r3.eq_1 T K fr S
def disk_entry_do_r4 : List POper := [M 13 1,FA 14 0 2,LD 15 14,QN (.mdel true (V 13) (V 15))]
@[simp] theorem disk_entry_do_r4_go : type_of% (ops_go disk_entry_do_r4.eq_1 T K fr S) := ops_go disk_entry_do_r4.eq_1 T K fr S
def disk_entry_do_r5 : List POper := [FA 16 1 2,LD 17 16,Q 18 (.arith .neq (V 17) (.cst (.str [])))]
@[simp] theorem disk_entry_do_r5_go : type_of% (ops_go disk_entry_do_r5.eq_1 T K fr S) := ops_go disk_entry_do_r5.eq_1 T K fr S
def disk_entry_do_r6 : List POper := [M 19 1,FA 20 1 2,LD 21 20,M 22 4,QN (.mset true (V 19) (V 21) (V 22))]
@[simp] theorem disk_entry_do_r6_go : type_of% (ops_go disk_entry_do_r6.eq_1 T K fr S) := ops_go disk_entry_do_r6.eq_1 T K fr S
def disk_entry_do : PCodeFn :=
 ⟨2, [],
 (.seq (.region disk_entry_do_r0) (.seq (.clr [(5, 7)] (.region disk_entry_do_r1)) (.seq (.seq (.clr [(7, 8)] (.region disk_entry_do_r2)) (.cond (V 8) (.seq (.clr [(9, 13)] (.region disk_entry_do_r3)) (.clr [(13, 16)] (.region disk_entry_do_r4))) .skip)) (.seq (.clr [(16, 18)] (.region disk_entry_do_r5)) (.cond (V 18) (.clr [(19, 23)] (.region disk_entry_do_r6)) .skip))))), false⟩

def slices_Sorted_string_r0 : List POper := [Q 2 (.mov (.cst .nils))]
@[simp] theorem slices_Sorted_string_r0_go : type_of% (ops_go slices_Sorted_string_r0.eq_1 T K fr S) := ops_go slices_Sorted_string_r0.eq_1 T K fr S
def slices_Sorted_string_r1 : List POper := [M 4 0,Q 5 (.call .std 293 [(V 4)]),M 3 5]
@[simp] theorem slices_Sorted_string_r1_go : type_of% (ops_go slices_Sorted_string_r1.eq_1 T K fr S) := ops_go slices_Sorted_string_r1.eq_1 T K fr S
def slices_Sorted_string_r2 : List POper := [M 6 3,Q 7 (.call .std 239 [(V 6)])]
@[simp] theorem slices_Sorted_string_r2_go : type_of% (ops_go slices_Sorted_string_r2.eq_1 T K fr S) := ops_go slices_Sorted_string_r2.eq_1 T K fr S
def slices_Sorted_string_r3 : List POper := [M 8 3,M 2 8]
@[simp] theorem slices_Sorted_string_r3_go : type_of% (ops_go slices_Sorted_string_r3.eq_1 T K fr S) := ops_go slices_Sorted_string_r3.eq_1 T K fr S
def slices_Sorted_string : PCodeFn :=
 ⟨1, [.tmp 2],
 (.seq (.region slices_Sorted_string_r0) (.seq (.clr [(4, 6)] (.region slices_Sorted_string_r1)) (.seq (.clr [(6, 8)] (.region slices_Sorted_string_r2)) (.seq (.clr [(8, 9)] (.region slices_Sorted_string_r3)) .ret)))), false⟩

def maps_Keys_file_r0 : List POper := [Q 1 (.box false (V 0)),Q 2 (.mov (.cst .nilf))]
@[simp] theorem maps_Keys_file_r0_go : type_of% (ops_go maps_Keys_file_r0.eq_1 T K fr S) := ops_go maps_Keys_file_r0.eq_1 T K fr S
def maps_Keys_file_r1 : List POper := [Q 3 (.mkfn 294 [(V 1)]),M 2 3]
@[simp] theorem maps_Keys_file_r1_go : type_of% (ops_go maps_Keys_file_r1.eq_1 T K fr S) := ops_go maps_Keys_file_r1.eq_1 T K fr S
def maps_Keys_file : PCodeFn :=
 ⟨1, [.tmp 2],
 (.seq (.region maps_Keys_file_r0) (.seq (.clr [(3, 4)] (.region maps_Keys_file_r1)) .ret)), false⟩

def disk_named_r0 : List POper := [Q 2 (.mov ff')]
@[simp] theorem disk_named_r0_go : type_of% (ops_go disk_named_r0.eq_1 T K fr S) := ops_go disk_named_r0.eq_1 T K fr S
def disk_named_r1 : List POper := [M 5 0,Q 6 (.len true (V 5)),Q 7 (.mov (I 0))]
@[simp] theorem disk_named_r1_go : type_of% (ops_go disk_named_r1.eq_1 T K fr S) := ops_go disk_named_r1.eq_1 T K fr S
def disk_named_r2 : List POper := [Q 8 (.arith .lss (V 7) (V 6))]
@[simp] theorem disk_named_r2_go : type_of% (ops_go disk_named_r2.eq_1 T K fr S) := ops_go disk_named_r2.eq_1 T K fr S
def disk_named_r3 : List POper := [M 9 7,M 3 9]
@[simp] theorem disk_named_r3_go : type_of% (ops_go disk_named_r3.eq_1 T K fr S) := ops_go disk_named_r3.eq_1 T K fr S
def disk_named_r4 : List POper := [M 10 0,M 11 3,Q 12 (.idxs (V 10) (V 11)),M 4 12]
@[simp] theorem disk_named_r4_go : type_of% (ops_go disk_named_r4.eq_1 T K fr S) := ops_go disk_named_r4.eq_1 T K fr S
def disk_named_r5 : List POper := [M 13 4,Q 14 (.arith .geq (V 13) (.cst (.int .u8 97))),M 15 14,QG (some 16) (.mov (V 4)) 15 true,QG (some 17) (.arith .leq (V 16) (.cst (.int .u8 122))) 15 true,Q 18 (.pick (V 15) (V 17) ff'),M 19 18,QG (some 20) (.mov (V 4)) 19 false,QG (some 21) (.arith .geq (V 20) (.cst (.int .u8 48))) 19 false,QG (some 22) (.mov (V 21)) 19 false,QG (some 23) (.mov (V 4)) 22 true,QG (some 24) (.arith .leq (V 23) (.cst (.int .u8 57))) 22 true,QG (some 25) (.pick (V 22) (V 24) ff') 19 false,Q 26 (.pick (V 19) tt' (V 25)),M 27 26,QG (some 28) (.mov (V 4)) 27 false,QG (some 29) (.arith .eql (V 28) (.cst (.int .u8 46))) 27 false,Q 30 (.pick (V 27) tt' (V 29)),M 31 30,QG (some 32) (.mov (V 4)) 31 false,QG (some 33) (.arith .eql (V 32) (.cst (.int .u8 45))) 31 false,Q 34 (.pick (V 31) tt' (V 33)),Q 35 (.un .not (V 34))]
@[simp] theorem disk_named_r5_go : type_of% (ops_go disk_named_r5.eq_1 T K fr S) := ops_go disk_named_r5.eq_1 T K fr S
def disk_named_r6 : List POper := [Q 2 (.mov ff')]
@[simp] theorem disk_named_r6_go : type_of% (ops_go disk_named_r6.eq_1 T K fr S) := ops_go disk_named_r6.eq_1 T K fr S
def disk_named_r7 : List POper := [Q 36 (.arith .add (V 7) (I 1)),M 7 36]
@[simp] theorem disk_named_r7_go : type_of% (ops_go disk_named_r7.eq_1 T K fr S) := ops_go disk_named_r7.eq_1 T K fr S
def disk_named_l0 : PCode :=
 (.seq (.region disk_named_r2) (.seq (.cond (V 8) .skip (.exit 0)) (.seq (.block 1 (.seq (.clr [(9, 10)] (.region disk_named_r3)) (.seq (.clr [(10, 13)] (.region disk_named_r4)) (.seq (.clr [(13, 35)] (.region disk_named_r5)) (.cond (V 35) (.seq (.region disk_named_r6) .ret) .skip))))) (.clr [(36, 37)] (.region disk_named_r7)))))
@[simp] theorem disk_named_l0_go : type_of% (code_go disk_named_l0.eq_1 T K fr S) := code_go disk_named_l0.eq_1 T K fr S
def disk_named_r8 : List POper := [M 37 0,Q 38 (.arith .neq (V 37) (.cst (.str []))),M 39 38,QG (some 40) (.mov (V 0)) 39 true,QG (some 41) (.len true (V 40)) 39 true,QG (some 42) (.arith .leq (V 41) (I 24)) 39 true,Q 43 (.pick (V 39) (V 42) ff'),M 2 43]
@[simp] theorem disk_named_r8_go : type_of% (ops_go disk_named_r8.eq_1 T K fr S) := ops_go disk_named_r8.eq_1 T K fr S
def disk_named : PCodeFn :=
 ⟨1, [.tmp 2],
 (.seq (.region disk_named_r0) (.seq (.seq (.clr [(5, 6)] (.region disk_named_r1)) (.block 0 (.loop disk_named_l0))) (.seq (.clr [(37, 44)] (.region disk_named_r8)) .ret))), false⟩

def ref04_Named_r0 : List POper := [Q 2 (.mov ff')]
@[simp] theorem ref04_Named_r0_go : type_of% (ops_go ref04_Named_r0.eq_1 T K fr S) := ops_go ref04_Named_r0.eq_1 T K fr S
def ref04_Named_r1 : List POper := [Q 3 (.mov (I 0))]
@[simp] theorem ref04_Named_r1_go : type_of% (ops_go ref04_Named_r1.eq_1 T K fr S) := ops_go ref04_Named_r1.eq_1 T K fr S
def ref04_Named_r2 : List POper := [M 5 3,M 6 0,Q 7 (.len true (V 6)),Q 8 (.arith .lss (V 5) (V 7))]
@[simp] theorem ref04_Named_r2_go : type_of% (ops_go ref04_Named_r2.eq_1 T K fr S) := ops_go ref04_Named_r2.eq_1 T K fr S
def ref04_Named_r4 : List POper := [M 11 0,M 12 3,Q 13 (.idxs (V 11) (V 12)),M 4 13]
@[simp] theorem ref04_Named_r4_go : type_of% (ops_go ref04_Named_r4.eq_1 T K fr S) := ops_go ref04_Named_r4.eq_1 T K fr S
def ref04_Named_r5 : List POper := [M 14 4,Q 15 (.arith .lss (V 14) (.cst (.int .u8 97))),M 16 15,QG (some 17) (.mov (V 4)) 16 false,QG (some 18) (.arith .gtr (V 17) (.cst (.int .u8 122))) 16 false,Q 19 (.pick (V 16) tt' (V 18)),M 20 19,QG (some 21) (.mov (V 4)) 20 true,QG (some 22) (.arith .lss (V 21) (.cst (.int .u8 48))) 20 true,QG (some 23) (.mov (V 22)) 20 true,QG (some 24) (.mov (V 4)) 23 false,QG (some 25) (.arith .gtr (V 24) (.cst (.int .u8 57))) 23 false,QG (some 26) (.pick (V 23) tt' (V 25)) 20 true,Q 27 (.pick (V 20) (V 26) ff'),M 28 27,QG (some 29) (.mov (V 4)) 28 true,QG (some 30) (.arith .neq (V 29) (.cst (.int .u8 46))) 28 true,Q 31 (.pick (V 28) (V 30) ff'),M 32 31,QG (some 33) (.mov (V 4)) 32 true,QG (some 34) (.arith .neq (V 33) (.cst (.int .u8 45))) 32 true,Q 35 (.pick (V 32) (V 34) ff')]
@[simp] theorem ref04_Named_r5_go : type_of% (ops_go ref04_Named_r5.eq_1 T K fr S) := ops_go ref04_Named_r5.eq_1 T K fr S
def ref04_Named_r6 : List POper := [Q 2 (.mov ff')]
@[simp] theorem ref04_Named_r6_go : type_of% (ops_go ref04_Named_r6.eq_1 T K fr S) := ops_go ref04_Named_r6.eq_1 T K fr S
def ref04_Named_r3 : List POper := [M 9 3,Q 10 (.arith .add (V 9) (I 1)),M 3 10]
@[simp] theorem ref04_Named_r3_go : type_of% (ops_go ref04_Named_r3.eq_1 T K fr S) := ops_go ref04_Named_r3.eq_1 T K fr S
def ref04_Named_l0 : PCode :=
 (.seq (.seq (.clr [(5, 8)] (.region ref04_Named_r2)) (.cond (V 8) .skip (.exit 0))) (.seq (.block 1 (.seq (.clr [(11, 14)] (.region ref04_Named_r4)) (.seq (.clr [(14, 35)] (.region ref04_Named_r5)) (.cond (V 35) (.seq (.region ref04_Named_r6) .ret) .skip)))) (.clr [(9, 11)] (.region ref04_Named_r3))))
@[simp] theorem ref04_Named_l0_go : type_of% (code_go ref04_Named_l0.eq_1 T K fr S) := code_go ref04_Named_l0.eq_1 T K fr S
def ref04_Named_r7 : List POper := [M 36 0,Q 37 (.arith .neq (V 36) (.cst (.str []))),M 38 37,QG (some 39) (.mov (V 0)) 38 true,QG (some 40) (.len true (V 39)) 38 true,QG (some 41) (.arith .leq (V 40) (I 24)) 38 true,Q 42 (.pick (V 38) (V 41) ff'),M 2 42]
@[simp] theorem ref04_Named_r7_go : type_of% (ops_go ref04_Named_r7.eq_1 T K fr S) := ops_go ref04_Named_r7.eq_1 T K fr S
def ref04_Named : PCodeFn :=
 ⟨1, [.tmp 2],
 (.seq (.region ref04_Named_r0) (.seq (.seq (.region ref04_Named_r1) (.block 0 (.loop ref04_Named_l0))) (.seq (.clr [(36, 43)] (.region ref04_Named_r7)) .ret))), false⟩

def ref04_Live_r0 : List POper := [Q 1 (.box true (V 0)),Q 2 (.mov (.cst .nils))]
@[simp] theorem ref04_Live_r0_go : type_of% (ops_go ref04_Live_r0.eq_1 T K fr S) := ops_go ref04_Live_r0.eq_1 T K fr S
def ref04_Live_r1 : List POper := [Q 3 (.load true 7 false (V 1)),FA 4 3 1,LD 5 4,Q 6 (.len false (V 5)),Q 7 (.call .std 207 [(V 3), (V 6)]),M 2 7]
@[simp] theorem ref04_Live_r1_go : type_of% (ops_go ref04_Live_r1.eq_1 T K fr S) := ops_go ref04_Live_r1.eq_1 T K fr S
def ref04_Live : PCodeFn :=
 ⟨1, [.tmp 2],
 (.seq (.region ref04_Live_r0) (.seq (.clr [(3, 8)] (.region ref04_Live_r1)) .ret)), false⟩

def ref04_At_r0 : List POper := [Q 4 (.mov (I 0))]
@[simp] theorem ref04_At_r0_go : type_of% (ops_go ref04_At_r0.eq_1 T K fr S) := ops_go ref04_At_r0.eq_1 T K fr S
def ref04_At_r1 : List POper := [Q 5 (.mov (I 0))]
@[simp] theorem ref04_At_r1_go : type_of% (ops_go ref04_At_r1.eq_1 T K fr S) := ops_go ref04_At_r1.eq_1 T K fr S
def ref04_At_r2 : List POper := [M 6 5,M 7 0,Q 8 (.len false (V 7)),Q 9 (.arith .lss (V 6) (V 8))]
@[simp] theorem ref04_At_r2_go : type_of% (ops_go ref04_At_r2.eq_1 T K fr S) := ops_go ref04_At_r2.eq_1 T K fr S
def ref04_At_r4 : List POper := [M 12 0,M 13 5,Q 14 (.iaddr 2 (V 12) (V 13)),FA 15 0 14,LD 16 15,M 17 1,Q 18 (.arith .eql (V 16) (V 17))]
@[simp] theorem ref04_At_r4_go : type_of% (ops_go ref04_At_r4.eq_1 T K fr S) := ops_go ref04_At_r4.eq_1 T K fr S
def ref04_At_r5 : List POper := [M 19 0,M 20 5,Q 21 (.iaddr 2 (V 19) (V 20)),FA 22 1 21,LD 23 22,M 4 23]
@[simp] theorem ref04_At_r5_go : type_of% (ops_go ref04_At_r5.eq_1 T K fr S) := ops_go ref04_At_r5.eq_1 T K fr S
def ref04_At_r3 : List POper := [M 10 5,Q 11 (.arith .add (V 10) (I 1)),M 5 11]
@[simp] theorem ref04_At_r3_go : type_of% (ops_go ref04_At_r3.eq_1 T K fr S) := ops_go ref04_At_r3.eq_1 T K fr S
def ref04_At_l0 : PCode :=
 (.seq (.seq (.clr [(6, 9)] (.region ref04_At_r2)) (.cond (V 9) .skip (.exit 0))) (.seq (.block 1 (.seq (.clr [(12, 18)] (.region ref04_At_r4)) (.cond (V 18) (.seq (.clr [(19, 24)] (.region ref04_At_r5)) .ret) .skip))) (.clr [(10, 12)] (.region ref04_At_r3))))
@[simp] theorem ref04_At_l0_go : type_of% (code_go ref04_At_l0.eq_1 T K fr S) := code_go ref04_At_l0.eq_1 T K fr S
def ref04_At_r6 : List POper := [Q 4 (.mov (I (-1)))]
@[simp] theorem ref04_At_r6_go : type_of% (ops_go ref04_At_r6.eq_1 T K fr S) := ops_go ref04_At_r6.eq_1 T K fr S
def ref04_At : PCodeFn :=
 ⟨2, [.tmp 4],
 (.seq (.region ref04_At_r0) (.seq (.seq (.region ref04_At_r1) (.block 0 (.loop ref04_At_l0))) (.seq (.region ref04_At_r6) .ret))), false⟩

def ref04_step_r0 : List POper := [Q 1 (.box false (V 0)),Q 2 (.alloc false [(.int .i64 0), .nils, .nils, .nils, (.int .i64 0), (.bool false), (.int .i64 0)]),Q 3 (.mov (I 0))]
@[simp] theorem ref04_step_r0_go : type_of% (ops_go ref04_step_r0.eq_1 T K fr S) := ops_go ref04_step_r0.eq_1 T K fr S
def ref04_step_r1 : List POper := [FA 4 4 1,LD 5 4,Q 6 (.arith .eql (V 5) (I 0))]
@[simp] theorem ref04_step_r1_go : type_of% (ops_go ref04_step_r1.eq_1 T K fr S) := ops_go ref04_step_r1.eq_1 T K fr S
def ref04_step_r2 : List POper := [FA 7 5 1,QN (.store 1 (V 7) tt')]
@[simp] theorem ref04_step_r2_go : type_of% (ops_go ref04_step_r2.eq_1 T K fr S) := ops_go ref04_step_r2.eq_1 T K fr S
def ref04_step_r3 : List POper := [FA 8 5 1,LD 9 8]
@[simp] theorem ref04_step_r3_go : type_of% (ops_go ref04_step_r3.eq_1 T K fr S) := ops_go ref04_step_r3.eq_1 T K fr S
def ref04_step_r4 : List POper := [Q 10 (.load true 7 false (V 1)),QN (.store 7 (V 2) (V 10)),Q 3 (.mov (I 6))]
@[simp] theorem ref04_step_r4_go : type_of% (ops_go ref04_step_r4.eq_1 T K fr S) := ops_go ref04_step_r4.eq_1 T K fr S
def ref04_step_r5 : List POper := [FA 11 4 1,LD 12 11,Q 13 (.arith .gtr (V 12) (I 0))]
@[simp] theorem ref04_step_r5_go : type_of% (ops_go ref04_step_r5.eq_1 T K fr S) := ops_go ref04_step_r5.eq_1 T K fr S
def ref04_step_r6 : List POper := [FA 14 4 1,LD 15 14,Q 16 (.arith .sub (V 15) (I 1)),FA 17 4 1,QN (.store 1 (V 17) (V 16))]
@[simp] theorem ref04_step_r6_go : type_of% (ops_go ref04_step_r6.eq_1 T K fr S) := ops_go ref04_step_r6.eq_1 T K fr S
def ref04_step_r7 : List POper := [FA 18 6 1,LD 19 18,Q 20 (.arith .add (V 19) (I 1)),FA 21 6 1,QN (.store 1 (V 21) (V 20))]
@[simp] theorem ref04_step_r7_go : type_of% (ops_go ref04_step_r7.eq_1 T K fr S) := ops_go ref04_step_r7.eq_1 T K fr S
def ref04_step_r8 : List POper := [Q 22 (.load true 7 false (V 1)),QN (.store 7 (V 2) (V 22)),Q 3 (.mov (I 0))]
@[simp] theorem ref04_step_r8_go : type_of% (ops_go ref04_step_r8.eq_1 T K fr S) := ops_go ref04_step_r8.eq_1 T K fr S
def ref04_step : PCodeFn :=
 ⟨1, [.cell 2 true 7, .tmp 3],
 (.seq (.region ref04_step_r0) (.seq (.seq (.clr [(4, 6)] (.region ref04_step_r1)) (.cond (V 6) (.clr [(7, 8)] (.region ref04_step_r2)) .skip)) (.seq (.seq (.clr [(8, 9)] (.region ref04_step_r3)) (.cond (V 9) (.seq (.clr [(10, 11)] (.region ref04_step_r4)) .ret) .skip)) (.seq (.seq (.clr [(11, 13)] (.region ref04_step_r5)) (.cond (V 13) (.clr [(14, 18)] (.region ref04_step_r6)) .skip)) (.seq (.clr [(18, 22)] (.region ref04_step_r7)) (.seq (.clr [(22, 23)] (.region ref04_step_r8)) .ret)))))), false⟩

def ref04_Dir_r0 : List POper := [Q 2 (.box true (V 0)),Q 4 (.mov (.cst .nils))]
@[simp] theorem ref04_Dir_r0_go : type_of% (ops_go ref04_Dir_r0.eq_1 T K fr S) := ops_go ref04_Dir_r0.eq_1 T K fr S
def ref04_Dir_r1 : List POper := [FA 9 2 2,LD 10 9,M 5 10]
@[simp] theorem ref04_Dir_r1_go : type_of% (ops_go ref04_Dir_r1.eq_1 T K fr S) := ops_go ref04_Dir_r1.eq_1 T K fr S
def ref04_Dir_r2 : List POper := [Q 6 (.mov (I 0))]
@[simp] theorem ref04_Dir_r2_go : type_of% (ops_go ref04_Dir_r2.eq_1 T K fr S) := ops_go ref04_Dir_r2.eq_1 T K fr S
def ref04_Dir_r3 : List POper := [M 11 6,M 12 1,Q 13 (.arith .lss (V 11) (V 12))]
@[simp] theorem ref04_Dir_r3_go : type_of% (ops_go ref04_Dir_r3.eq_1 T K fr S) := ops_go ref04_Dir_r3.eq_1 T K fr S
def ref04_Dir_r5 : List POper := [FA 16 3 2,LD 17 16,M 18 6,Q 19 (.iaddr 4 (V 17) (V 18)),Q 20 (.load true 4 false (V 19)),Q 7 (.alloc false [(.int .i64 0), (.str []), (.str []), (.int .i64 0)]),QN (.store 4 (V 7) (V 20))]
@[simp] theorem ref04_Dir_r5_go : type_of% (ops_go ref04_Dir_r5.eq_1 T K fr S) := ops_go ref04_Dir_r5.eq_1 T K fr S
def ref04_Dir_r6 : List POper := [FA 21 0 7,LD 22 21]
@[simp] theorem ref04_Dir_r6_go : type_of% (ops_go ref04_Dir_r6.eq_1 T K fr S) := ops_go ref04_Dir_r6.eq_1 T K fr S
def ref04_Dir_r7 : List POper := [Q 24 (.arith .eql (V 22) (I 1)),M 23 24]
@[simp] theorem ref04_Dir_r7_go : type_of% (ops_go ref04_Dir_r7.eq_1 T K fr S) := ops_go ref04_Dir_r7.eq_1 T K fr S
def ref04_Dir_r8 : List POper := [M 25 5,FA 26 1 7,LD 27 26,FA 28 3 7,LD 29 28,Q 30 (.build [(.str []), (.int .i64 0)] [(0, 1, (V 27)), (1, 1, (V 29))]),Q 31 (.call .std 295 [(V 25), (V 30)]),M 5 31]
@[simp] theorem ref04_Dir_r8_go : type_of% (ops_go ref04_Dir_r8.eq_1 T K fr S) := ops_go ref04_Dir_r8.eq_1 T K fr S
def ref04_Dir_r9 : List POper := [Q 33 (.arith .eql (V 22) (I 2)),M 32 33]
@[simp] theorem ref04_Dir_r9_go : type_of% (ops_go ref04_Dir_r9.eq_1 T K fr S) := ops_go ref04_Dir_r9.eq_1 T K fr S
def ref04_Dir_r10 : List POper := [M 34 5,FA 35 1 7,LD 36 35,Q 37 (.call .std 205 [(V 34), (V 36)]),M 8 37]
@[simp] theorem ref04_Dir_r10_go : type_of% (ops_go ref04_Dir_r10.eq_1 T K fr S) := ops_go ref04_Dir_r10.eq_1 T K fr S
def ref04_Dir_r11 : List POper := [M 38 5,FA 39 1 7,LD 40 39,Q 41 (.call .pur 296 [(V 38), (V 40)]),FA 42 2 7,LD 43 42,M 44 8,Q 45 (.build [(.str []), (.int .i64 0)] [(0, 1, (V 43)), (1, 1, (V 44))]),Q 46 (.call .std 295 [(V 41), (V 45)]),M 5 46]
@[simp] theorem ref04_Dir_r11_go : type_of% (ops_go ref04_Dir_r11.eq_1 T K fr S) := ops_go ref04_Dir_r11.eq_1 T K fr S
def ref04_Dir_r12 : List POper := [Q 48 (.arith .eql (V 22) (I 3)),M 47 48]
@[simp] theorem ref04_Dir_r12_go : type_of% (ops_go ref04_Dir_r12.eq_1 T K fr S) := ops_go ref04_Dir_r12.eq_1 T K fr S
def ref04_Dir_r13 : List POper := [M 49 5,FA 50 1 7,LD 51 50,Q 52 (.call .std 296 [(V 49), (V 51)]),M 5 52]
@[simp] theorem ref04_Dir_r13_go : type_of% (ops_go ref04_Dir_r13.eq_1 T K fr S) := ops_go ref04_Dir_r13.eq_1 T K fr S
def ref04_Dir_r4 : List POper := [M 14 6,Q 15 (.arith .add (V 14) (I 1)),M 6 15]
@[simp] theorem ref04_Dir_r4_go : type_of% (ops_go ref04_Dir_r4.eq_1 T K fr S) := ops_go ref04_Dir_r4.eq_1 T K fr S
def ref04_Dir_l0 : PCode :=
 (.seq (.seq (.clr [(11, 13)] (.region ref04_Dir_r3)) (.cond (V 13) .skip (.exit 0))) (.seq (.block 1 (.seq (.clr [(16, 21)] (.region ref04_Dir_r5)) (.seq (.clr [(21, 22)] (.region ref04_Dir_r6)) (.block 2 (.seq (.clr [(24, 25)] (.region ref04_Dir_r7)) (.cond (V 23) (.clr [(25, 32)] (.region ref04_Dir_r8)) (.seq (.clr [(33, 34)] (.region ref04_Dir_r9)) (.cond (V 32) (.seq (.clr [(34, 38)] (.region ref04_Dir_r10)) (.clr [(38, 47)] (.region ref04_Dir_r11))) (.seq (.clr [(48, 49)] (.region ref04_Dir_r12)) (.cond (V 47) (.clr [(49, 53)] (.region ref04_Dir_r13)) .skip)))))))))) (.clr [(14, 16)] (.region ref04_Dir_r4))))
@[simp] theorem ref04_Dir_l0_go : type_of% (code_go ref04_Dir_l0.eq_1 T K fr S) := code_go ref04_Dir_l0.eq_1 T K fr S
def ref04_Dir_r14 : List POper := [M 53 5,M 4 53]
@[simp] theorem ref04_Dir_r14_go : type_of% (ops_go ref04_Dir_r14.eq_1 T K fr S) := ops_go ref04_Dir_r14.eq_1 T K fr S
def ref04_Dir : PCodeFn :=
 ⟨2, [.tmp 4],
 (.seq (.region ref04_Dir_r0) (.seq (.clr [(9, 11)] (.region ref04_Dir_r1)) (.seq (.seq (.region ref04_Dir_r2) (.block 0 (.loop ref04_Dir_l0))) (.seq (.clr [(53, 54)] (.region ref04_Dir_r14)) .ret)))), false⟩

def ref04_with_r0 : List POper := [Q 3 (.box true (V 1)),Q 4 (.mov (.cst .nils))]
@[simp] theorem ref04_with_r0_go : type_of% (ops_go ref04_with_r0.eq_1 T K fr S) := ops_go ref04_with_r0.eq_1 T K fr S
def ref04_with_r1 : List POper := [Q 5 (.mov (.cst .nils))]
@[simp] theorem ref04_with_r1_go : type_of% (ops_go ref04_with_r1.eq_1 T K fr S) := ops_go ref04_with_r1.eq_1 T K fr S
def ref04_with_r2 : List POper := [Q 6 (.mov ff')]
@[simp] theorem ref04_with_r2_go : type_of% (ops_go ref04_with_r2.eq_1 T K fr S) := ops_go ref04_with_r2.eq_1 T K fr S
def ref04_with_r3 : List POper := [Q 7 (.mov (I 0))]
@[simp] theorem ref04_with_r3_go : type_of% (ops_go ref04_with_r3.eq_1 T K fr S) := ops_go ref04_with_r3.eq_1 T K fr S
def ref04_with_r4 : List POper := [M 8 7,M 9 0,Q 10 (.len false (V 9)),Q 11 (.arith .lss (V 8) (V 10))]
@[simp] theorem ref04_with_r4_go : type_of% (ops_go ref04_with_r4.eq_1 T K fr S) := ops_go ref04_with_r4.eq_1 T K fr S
def ref04_with_r6 : List POper := [M 14 6,Q 15 (.un .not (V 14)),M 16 15,QG (some 17) (.faddr 0 (V 3)) 16 true,QG (some 18) (.load false 1 true (V 17)) 16 true,QG (some 19) (.mov (V 0)) 16 true,QG (some 20) (.mov (V 7)) 16 true,QG (some 21) (.iaddr 2 (V 19) (V 20)) 16 true,QG (some 22) (.faddr 0 (V 21)) 16 true,QG (some 23) (.load false 1 true (V 22)) 16 true,QG (some 24) (.arith .lss (V 18) (V 23)) 16 true,Q 25 (.pick (V 16) (V 24) ff')]
@[simp] theorem ref04_with_r6_go : type_of% (ops_go ref04_with_r6.eq_1 T K fr S) := ops_go ref04_with_r6.eq_1 T K fr S
def ref04_with_r7 : List POper := [M 26 5,Q 27 (.load true 2 false (V 3)),Q 28 (.bsl false (.agg [(.str []), (.int .i64 0)]) 1 [(0, (V 27))]),Q 29 (.app 2 24 (V 26) (V 28)),M 5 29]
@[simp] theorem ref04_with_r7_go : type_of% (ops_go ref04_with_r7.eq_1 T K fr S) := ops_go ref04_with_r7.eq_1 T K fr S
def ref04_with_r8 : List POper := [Q 6 (.mov tt')]
@[simp] theorem ref04_with_r8_go : type_of% (ops_go ref04_with_r8.eq_1 T K fr S) := ops_go ref04_with_r8.eq_1 T K fr S
def ref04_with_r9 : List POper := [M 30 0,M 31 7,Q 32 (.iaddr 2 (V 30) (V 31)),FA 33 0 32,Q 34 (.load false 1 true (V 33)),FA 35 0 3,Q 36 (.load false 1 true (V 35)),Q 37 (.arith .neq (V 34) (V 36))]
@[simp] theorem ref04_with_r9_go : type_of% (ops_go ref04_with_r9.eq_1 T K fr S) := ops_go ref04_with_r9.eq_1 T K fr S
def ref04_with_r10 : List POper := [M 38 5,M 39 0,M 40 7,Q 41 (.iaddr 2 (V 39) (V 40)),Q 42 (.load true 2 false (V 41)),Q 43 (.bsl false (.agg [(.str []), (.int .i64 0)]) 1 [(0, (V 42))]),Q 44 (.app 2 24 (V 38) (V 43)),M 5 44]
@[simp] theorem ref04_with_r10_go : type_of% (ops_go ref04_with_r10.eq_1 T K fr S) := ops_go ref04_with_r10.eq_1 T K fr S
def ref04_with_r5 : List POper := [M 12 7,Q 13 (.arith .add (V 12) (I 1)),M 7 13]
@[simp] theorem ref04_with_r5_go : type_of% (ops_go ref04_with_r5.eq_1 T K fr S) := ops_go ref04_with_r5.eq_1 T K fr S
def ref04_with_l0 : PCode :=
 (.seq (.seq (.clr [(8, 11)] (.region ref04_with_r4)) (.cond (V 11) .skip (.exit 0))) (.seq (.block 1 (.seq (.seq (.clr [(14, 25)] (.region ref04_with_r6)) (.cond (V 25) (.seq (.clr [(26, 30)] (.region ref04_with_r7)) (.region ref04_with_r8)) .skip)) (.seq (.clr [(30, 37)] (.region ref04_with_r9)) (.cond (V 37) (.clr [(38, 45)] (.region ref04_with_r10)) .skip)))) (.clr [(12, 14)] (.region ref04_with_r5))))
@[simp] theorem ref04_with_l0_go : type_of% (code_go ref04_with_l0.eq_1 T K fr S) := code_go ref04_with_l0.eq_1 T K fr S
def ref04_with_r11 : List POper := [M 45 6,Q 46 (.un .not (V 45))]
@[simp] theorem ref04_with_r11_go : type_of% (ops_go ref04_with_r11.eq_1 T K fr S) := ops_go ref04_with_r11.eq_1 T K fr S
def ref04_with_r12 : List POper := [M 47 5,Q 48 (.load true 2 false (V 3)),Q 49 (.bsl false (.agg [(.str []), (.int .i64 0)]) 1 [(0, (V 48))]),Q 50 (.app 2 24 (V 47) (V 49)),M 5 50]
@[simp] theorem ref04_with_r12_go : type_of% (ops_go ref04_with_r12.eq_1 T K fr S) := ops_go ref04_with_r12.eq_1 T K fr S
def ref04_with_r13 : List POper := [M 51 5,M 4 51]
@[simp] theorem ref04_with_r13_go : type_of% (ops_go ref04_with_r13.eq_1 T K fr S) := ops_go ref04_with_r13.eq_1 T K fr S
def ref04_with : PCodeFn :=
 ⟨2, [.tmp 4],
 (.seq (.region ref04_with_r0) (.seq (.region ref04_with_r1) (.seq (.region ref04_with_r2) (.seq (.seq (.region ref04_with_r3) (.block 0 (.loop ref04_with_l0))) (.seq (.seq (.clr [(45, 46)] (.region ref04_with_r11)) (.cond (V 46) (.clr [(47, 51)] (.region ref04_with_r12)) .skip)) (.seq (.clr [(51, 52)] (.region ref04_with_r13)) .ret)))))), false⟩

def ref04_without_r0 : List POper := [Q 4 (.mov (.cst .nils))]
@[simp] theorem ref04_without_r0_go : type_of% (ops_go ref04_without_r0.eq_1 T K fr S) := ops_go ref04_without_r0.eq_1 T K fr S
def ref04_without_r1 : List POper := [Q 5 (.mov (.cst .nils))]
@[simp] theorem ref04_without_r1_go : type_of% (ops_go ref04_without_r1.eq_1 T K fr S) := ops_go ref04_without_r1.eq_1 T K fr S
def ref04_without_r2 : List POper := [Q 6 (.mov (I 0))]
@[simp] theorem ref04_without_r2_go : type_of% (ops_go ref04_without_r2.eq_1 T K fr S) := ops_go ref04_without_r2.eq_1 T K fr S
def ref04_without_r3 : List POper := [M 7 6,M 8 0,Q 9 (.len false (V 8)),Q 10 (.arith .lss (V 7) (V 9))]
@[simp] theorem ref04_without_r3_go : type_of% (ops_go ref04_without_r3.eq_1 T K fr S) := ops_go ref04_without_r3.eq_1 T K fr S
def ref04_without_r5 : List POper := [M 13 0,M 14 6,Q 15 (.iaddr 2 (V 13) (V 14)),FA 16 0 15,LD 17 16,M 18 1,Q 19 (.arith .neq (V 17) (V 18))]
@[simp] theorem ref04_without_r5_go : type_of% (ops_go ref04_without_r5.eq_1 T K fr S) := ops_go ref04_without_r5.eq_1 T K fr S
def ref04_without_r6 : List POper := [M 20 5,M 21 0,M 22 6,Q 23 (.iaddr 2 (V 21) (V 22)),Q 24 (.load true 2 false (V 23)),Q 25 (.bsl false (.agg [(.str []), (.int .i64 0)]) 1 [(0, (V 24))]),Q 26 (.app 2 24 (V 20) (V 25)),M 5 26]
@[simp] theorem ref04_without_r6_go : type_of% (ops_go ref04_without_r6.eq_1 T K fr S) := ops_go ref04_without_r6.eq_1 T K fr S
def ref04_without_r4 : List POper := [M 11 6,Q 12 (.arith .add (V 11) (I 1)),M 6 12]
@[simp] theorem ref04_without_r4_go : type_of% (ops_go ref04_without_r4.eq_1 T K fr S) := ops_go ref04_without_r4.eq_1 T K fr S
def ref04_without_l0 : PCode :=
 (.seq (.seq (.clr [(7, 10)] (.region ref04_without_r3)) (.cond (V 10) .skip (.exit 0))) (.seq (.block 1 (.seq (.clr [(13, 19)] (.region ref04_without_r5)) (.cond (V 19) (.clr [(20, 27)] (.region ref04_without_r6)) .skip))) (.clr [(11, 13)] (.region ref04_without_r4))))
@[simp] theorem ref04_without_l0_go : type_of% (code_go ref04_without_l0.eq_1 T K fr S) := code_go ref04_without_l0.eq_1 T K fr S
def ref04_without_r7 : List POper := [M 27 5,M 4 27]
@[simp] theorem ref04_without_r7_go : type_of% (ops_go ref04_without_r7.eq_1 T K fr S) := ops_go ref04_without_r7.eq_1 T K fr S
def ref04_without : PCodeFn :=
 ⟨2, [.tmp 4],
 (.seq (.region ref04_without_r0) (.seq (.region ref04_without_r1) (.seq (.seq (.region ref04_without_r2) (.block 0 (.loop ref04_without_l0))) (.seq (.clr [(27, 28)] (.region ref04_without_r7)) .ret)))), false⟩

def slices_order2Ordered_string_r0 : List POper := [Q 8 (.mov (I 0)),Q 9 (.mov (I 0))]
@[simp] theorem slices_order2Ordered_string_r0_go : type_of% (ops_go slices_order2Ordered_string_r0.eq_1 T K fr S) := ops_go slices_order2Ordered_string_r0.eq_1 T K fr S
def slices_order2Ordered_string_r1 : List POper := [M 10 0,M 11 2,Q 12 (.iaddr 1 (V 10) (V 11)),Q 13 (.load false 1 true (V 12)),M 14 0,M 15 1,Q 16 (.iaddr 1 (V 14) (V 15)),Q 17 (.load false 1 true (V 16)),Q 18 (.call .pur 369 [(V 13), (V 17)])]
@[simp] theorem slices_order2Ordered_string_r1_go : type_of% (ops_go slices_order2Ordered_string_r1.eq_1 T K fr S) := ops_go slices_order2Ordered_string_r1.eq_1 T K fr S
def slices_order2Ordered_string_r2 : List POper := [M 19 3,NK' 20 19,LD 21 20,Q 22 (.arith .add (V 21) (I 1)),NK' 23 19,QN (.store 1 (V 23) (V 22))]
@[simp] theorem slices_order2Ordered_string_r2_go : type_of% (ops_go slices_order2Ordered_string_r2.eq_1 T K fr S) := ops_go slices_order2Ordered_string_r2.eq_1 T K fr S
def slices_order2Ordered_string_r3 : List POper := [M 24 2,M 25 1,M 8 24,M 9 25]
@[simp] theorem slices_order2Ordered_string_r3_go : type_of% (ops_go slices_order2Ordered_string_r3.eq_1 T K fr S) := ops_go slices_order2Ordered_string_r3.eq_1 T K fr S
def slices_order2Ordered_string_r4 : List POper := [M 26 1,M 27 2,M 8 26,M 9 27]
@[simp] theorem slices_order2Ordered_string_r4_go : type_of% (ops_go slices_order2Ordered_string_r4.eq_1 T K fr S) := ops_go slices_order2Ordered_string_r4.eq_1 T K fr S
def slices_order2Ordered_string : PCodeFn :=
 ⟨4, [.tmp 8, .tmp 9],
 (.seq (.region slices_order2Ordered_string_r0) (.seq (.seq (.clr [(10, 18)] (.region slices_order2Ordered_string_r1)) (.cond (V 18) (.seq (.clr [(19, 24)] (.region slices_order2Ordered_string_r2)) (.seq (.clr [(24, 26)] (.region slices_order2Ordered_string_r3)) .ret)) .skip)) (.seq (.clr [(26, 28)] (.region slices_order2Ordered_string_r4)) .ret))), false⟩


end Ps
