/- The functions' code, as the pure semantics has it: printed by program. -/
import Derived.Test.YtndfknoclbkkhaaCodeB
namespace Ps
open Go
set_option maxRecDepth 10000

def z41_r0 : List POper := [Q 2 (.mov (I 0))]
@[simp] theorem z41_r0_go : type_of% (og z41_r0.eq_1) := og rfl
def z41_r1 : List POper := [M 3 0,Q 4 (.arith .geq (V 3) (.cst (.int .u32 65536)))]
@[simp] theorem z41_r1_go : type_of% (og z41_r1.eq_1) := og rfl
def z41_r2 : List POper := [M 5 0,Q 6 (.arith .shr (V 5) (.cst (.int .u64 16))),M 0 6]
@[simp] theorem z41_r2_go : type_of% (og z41_r2.eq_1) := og rfl
def z41_r3 : List POper := [Q 2 (.mov (I 16))]
@[simp] theorem z41_r3_go : type_of% (og z41_r3.eq_1) := og rfl
def z41_r4 : List POper := [M 7 0,Q 8 (.arith .geq (V 7) (.cst (.int .u32 256)))]
@[simp] theorem z41_r4_go : type_of% (og z41_r4.eq_1) := og rfl
def z41_r5 : List POper := [M 9 0,Q 10 (.arith .shr (V 9) (.cst (.int .u64 8))),M 0 10]
@[simp] theorem z41_r5_go : type_of% (og z41_r5.eq_1) := og rfl
def z41_r6 : List POper := [M 11 2,Q 12 (.arith .add (V 11) (I 8)),M 2 12]
@[simp] theorem z41_r6_go : type_of% (og z41_r6.eq_1) := og rfl
def z41_r7 : List POper := [M 13 2,M 14 0,Q 15 (.toInt .u8 (V 14)),Q 16 (.idxs (.cst (.str [0, 1, 2, 2, 3, 3, 3, 3, 4, 4, 4, 4, 4, 4, 4, 4, 5, 5, 5, 5, 5, 5, 5, 5, 5, 5, 5, 5, 5, 5, 5, 5, 6, 6, 6, 6, 6, 6, 6, 6, 6, 6, 6, 6, 6, 6, 6, 6, 6, 6, 6, 6, 6, 6, 6, 6, 6, 6, 6, 6, 6, 6, 6, 6, 7, 7, 7, 7, 7, 7, 7, 7, 7, 7, 7, 7, 7, 7, 7, 7, 7, 7, 7, 7, 7, 7, 7, 7, 7, 7, 7, 7, 7, 7, 7, 7, 7, 7, 7, 7, 7, 7, 7, 7, 7, 7, 7, 7, 7, 7, 7, 7, 7, 7, 7, 7, 7, 7, 7, 7, 7, 7, 7, 7, 7, 7, 7, 7, 8, 8, 8, 8, 8, 8, 8, 8, 8, 8, 8, 8, 8, 8, 8, 8, 8, 8, 8, 8, 8, 8, 8, 8, 8, 8, 8, 8, 8, 8, 8, 8, 8, 8, 8, 8, 8, 8, 8, 8, 8, 8, 8, 8, 8, 8, 8, 8, 8, 8, 8, 8, 8, 8, 8, 8, 8, 8, 8, 8, 8, 8, 8, 8, 8, 8, 8, 8, 8, 8, 8, 8, 8, 8, 8, 8, 8, 8, 8, 8, 8, 8, 8, 8, 8, 8, 8, 8, 8, 8, 8, 8, 8, 8, 8, 8, 8, 8, 8, 8, 8, 8, 8, 8, 8, 8, 8, 8, 8, 8, 8, 8, 8, 8, 8, 8, 8, 8, 8, 8, 8, 8, 8, 8, 8, 8, 8, 8])) (V 15)),Q 17 (.toInt .i64 (V 16)),Q 18 (.arith .add (V 13) (V 17)),M 2 18]
@[simp] theorem z41_r7_go : type_of% (og z41_r7.eq_1) := og rfl
def z41 : PCodeFn :=
  ⟨1, [.tmp 2],
  (.seq (.region z41_r0) (.seq (.seq (.clr [(3, 4)] (.region z41_r1)) (.cond (V 4) (.seq (.clr [(5, 7)] (.region z41_r2)) (.region z41_r3)) .skip)) (.seq (.seq (.clr [(7, 8)] (.region z41_r4)) (.cond (V 8) (.seq (.clr [(9, 11)] (.region z41_r5)) (.clr [(11, 13)] (.region z41_r6))) .skip)) (.seq (.clr [(13, 19)] (.region z41_r7)) .ret)))), false⟩

def z39_r0 : List POper := [Q 2 (.mov (I 0))]
@[simp] theorem z39_r0_go : type_of% (og z39_r0.eq_1) := og rfl
def z39_r1 : List POper := [M 3 0,Q 4 (.arith .geq (V 3) (.cst (.int .u64 4294967296)))]
@[simp] theorem z39_r1_go : type_of% (og z39_r1.eq_1) := og rfl
def z39_r2 : List POper := [M 5 0,Q 6 (.arith .shr (V 5) (.cst (.int .u64 32))),M 0 6]
@[simp] theorem z39_r2_go : type_of% (og z39_r2.eq_1) := og rfl
def z39_r3 : List POper := [Q 2 (.mov (I 32))]
@[simp] theorem z39_r3_go : type_of% (og z39_r3.eq_1) := og rfl
def z39_r4 : List POper := [M 7 0,Q 8 (.arith .geq (V 7) (.cst (.int .u64 65536)))]
@[simp] theorem z39_r4_go : type_of% (og z39_r4.eq_1) := og rfl
def z39_r5 : List POper := [M 9 0,Q 10 (.arith .shr (V 9) (.cst (.int .u64 16))),M 0 10]
@[simp] theorem z39_r5_go : type_of% (og z39_r5.eq_1) := og rfl
def z39_r6 : List POper := [M 11 2,Q 12 (.arith .add (V 11) (I 16)),M 2 12]
@[simp] theorem z39_r6_go : type_of% (og z39_r6.eq_1) := og rfl
def z39_r7 : List POper := [M 13 0,Q 14 (.arith .geq (V 13) (.cst (.int .u64 256)))]
@[simp] theorem z39_r7_go : type_of% (og z39_r7.eq_1) := og rfl
def z39_r8 : List POper := [M 15 0,Q 16 (.arith .shr (V 15) (.cst (.int .u64 8))),M 0 16]
@[simp] theorem z39_r8_go : type_of% (og z39_r8.eq_1) := og rfl
def z39_r9 : List POper := [M 17 2,Q 18 (.arith .add (V 17) (I 8)),M 2 18]
@[simp] theorem z39_r9_go : type_of% (og z39_r9.eq_1) := og rfl
def z39_r10 : List POper := [M 19 2,M 20 0,Q 21 (.toInt .u8 (V 20)),Q 22 (.idxs (.cst (.str [0, 1, 2, 2, 3, 3, 3, 3, 4, 4, 4, 4, 4, 4, 4, 4, 5, 5, 5, 5, 5, 5, 5, 5, 5, 5, 5, 5, 5, 5, 5, 5, 6, 6, 6, 6, 6, 6, 6, 6, 6, 6, 6, 6, 6, 6, 6, 6, 6, 6, 6, 6, 6, 6, 6, 6, 6, 6, 6, 6, 6, 6, 6, 6, 7, 7, 7, 7, 7, 7, 7, 7, 7, 7, 7, 7, 7, 7, 7, 7, 7, 7, 7, 7, 7, 7, 7, 7, 7, 7, 7, 7, 7, 7, 7, 7, 7, 7, 7, 7, 7, 7, 7, 7, 7, 7, 7, 7, 7, 7, 7, 7, 7, 7, 7, 7, 7, 7, 7, 7, 7, 7, 7, 7, 7, 7, 7, 7, 8, 8, 8, 8, 8, 8, 8, 8, 8, 8, 8, 8, 8, 8, 8, 8, 8, 8, 8, 8, 8, 8, 8, 8, 8, 8, 8, 8, 8, 8, 8, 8, 8, 8, 8, 8, 8, 8, 8, 8, 8, 8, 8, 8, 8, 8, 8, 8, 8, 8, 8, 8, 8, 8, 8, 8, 8, 8, 8, 8, 8, 8, 8, 8, 8, 8, 8, 8, 8, 8, 8, 8, 8, 8, 8, 8, 8, 8, 8, 8, 8, 8, 8, 8, 8, 8, 8, 8, 8, 8, 8, 8, 8, 8, 8, 8, 8, 8, 8, 8, 8, 8, 8, 8, 8, 8, 8, 8, 8, 8, 8, 8, 8, 8, 8, 8, 8, 8, 8, 8, 8, 8, 8, 8, 8, 8, 8, 8])) (V 21)),Q 23 (.toInt .i64 (V 22)),Q 24 (.arith .add (V 19) (V 23)),M 2 24]
@[simp] theorem z39_r10_go : type_of% (og z39_r10.eq_1) := og rfl
def z39 : PCodeFn :=
  ⟨1, [.tmp 2],
  (.seq (.region z39_r0) (.seq (.seq (.clr [(3, 4)] (.region z39_r1)) (.cond (V 4) (.seq (.clr [(5, 7)] (.region z39_r2)) (.region z39_r3)) .skip)) (.seq (.seq (.clr [(7, 8)] (.region z39_r4)) (.cond (V 8) (.seq (.clr [(9, 11)] (.region z39_r5)) (.clr [(11, 13)] (.region z39_r6))) .skip)) (.seq (.seq (.clr [(13, 14)] (.region z39_r7)) (.cond (V 14) (.seq (.clr [(15, 17)] (.region z39_r8)) (.clr [(17, 19)] (.region z39_r9))) .skip)) (.seq (.clr [(19, 25)] (.region z39_r10)) .ret))))), false⟩

def z37_r0 : List POper := [Q 2 (.mov ff')]
@[simp] theorem z37_r0_go : type_of% (og z37_r0.eq_1) := og rfl
def z37_r1 : List POper := [M 3 0,M 4 0,Q 5 (.arith .neq (V 3) (V 4)),M 2 5]
@[simp] theorem z37_r1_go : type_of% (og z37_r1.eq_1) := og rfl
def z37 : PCodeFn :=
  ⟨1, [.tmp 2],
  (.seq (.region z37_r0) (.seq (.clr [(3, 6)] (.region z37_r1)) .ret)), false⟩

def z77_r0 : List POper := [Q 2 (.mov ff')]
@[simp] theorem z77_r0_go : type_of% (og z77_r0.eq_1) := og rfl
def z77_r1 : List POper := [Q 3 (.mov (I 0))]
@[simp] theorem z77_r1_go : type_of% (og z77_r1.eq_1) := og rfl
def z77_r2 : List POper := [M 6 3,M 7 0,Q 8 (.len true (V 7)),Q 9 (.arith .lss (V 6) (V 8))]
@[simp] theorem z77_r2_go : type_of% (og z77_r2.eq_1) := og rfl
def z77_r4 : List POper := [M 12 0,M 13 3,Q 14 (.idxs (V 12) (V 13)),M 4 14]
@[simp] theorem z77_r4_go : type_of% (og z77_r4.eq_1) := og rfl
def z77_r5 : List POper := [M 15 4,Q 16 (.arith .geq (V 15) (.cst (.int .u8 97))),M 17 16,QG (some 18) (.mov (V 4)) 17 true,QG (some 19) (.arith .leq (V 18) (.cst (.int .u8 122))) 17 true,Q 20 (.pick (V 17) (V 19) ff'),M 21 20,QG (some 22) (.mov (V 4)) 21 false,QG (some 23) (.arith .geq (V 22) (.cst (.int .u8 65))) 21 false,QG (some 24) (.mov (V 23)) 21 false,QG (some 25) (.mov (V 4)) 24 true,QG (some 26) (.arith .leq (V 25) (.cst (.int .u8 90))) 24 true,QG (some 27) (.pick (V 24) (V 26) ff') 21 false,Q 28 (.pick (V 21) tt' (V 27)),M 29 28,QG (some 30) (.mov (V 4)) 29 false,QG (some 31) (.arith .eql (V 30) (.cst (.int .u8 95))) 29 false,Q 32 (.pick (V 29) tt' (V 31)),M 5 32]
@[simp] theorem z77_r5_go : type_of% (og z77_r5.eq_1) := og rfl
def z77_r6 : List POper := [M 33 5,Q 34 (.un .not (V 33)),M 35 34,QG (some 36) (.mov (V 3)) 35 true,QG (some 37) (.arith .eql (V 36) (I 0)) 35 true,QG (some 38) (.mov (V 37)) 35 true,QG (some 39) (.mov (V 4)) 38 false,QG (some 40) (.arith .lss (V 39) (.cst (.int .u8 48))) 38 false,QG (some 41) (.pick (V 38) tt' (V 40)) 35 true,QG (some 42) (.mov (V 41)) 35 true,QG (some 43) (.mov (V 4)) 42 false,QG (some 44) (.arith .gtr (V 43) (.cst (.int .u8 57))) 42 false,QG (some 45) (.pick (V 42) tt' (V 44)) 35 true,Q 46 (.pick (V 35) (V 45) ff')]
@[simp] theorem z77_r6_go : type_of% (og z77_r6.eq_1) := og rfl
def z77_r7 : List POper := [Q 2 (.mov ff')]
@[simp] theorem z77_r7_go : type_of% (og z77_r7.eq_1) := og rfl
def z77_r3 : List POper := [M 10 3,Q 11 (.arith .add (V 10) (I 1)),M 3 11]
@[simp] theorem z77_r3_go : type_of% (og z77_r3.eq_1) := og rfl
def z77_l0 : PCode :=
  (.seq (.seq (.clr [(6, 9)] (.region z77_r2)) (.cond (V 9) .skip (.exit 0))) (.seq (.block 1 (.seq (.clr [(12, 15)] (.region z77_r4)) (.seq (.clr [(15, 33)] (.region z77_r5)) (.seq (.clr [(33, 46)] (.region z77_r6)) (.cond (V 46) (.seq (.region z77_r7) .ret) .skip))))) (.clr [(10, 12)] (.region z77_r3))))
@[simp] theorem z77_l0_go : type_of% (cg z77_l0.eq_1) := cg rfl
def z77_r8 : List POper := [M 47 0,Q 48 (.arith .neq (V 47) (.cst (.str []))),M 49 48,QG (some 50) (.mov (V 0)) 49 true,QG (some 51) (.len true (V 50)) 49 true,QG (some 52) (.arith .leq (V 51) (I 32)) 49 true,Q 53 (.pick (V 49) (V 52) ff'),M 2 53]
@[simp] theorem z77_r8_go : type_of% (og z77_r8.eq_1) := og rfl
def z77 : PCodeFn :=
  ⟨1, [.tmp 2],
  (.seq (.region z77_r0) (.seq (.seq (.region z77_r1) (.block 0 (.loop z77_l0))) (.seq (.clr [(47, 54)] (.region z77_r8)) .ret))), false⟩

def z87_r0 : List POper := [Q 1 (.box true (V 0)),Q 2 (.mov ff')]
@[simp] theorem z87_r0_go : type_of% (og z87_r0.eq_1) := og rfl
def z87_r1 : List POper := [FA 3 0 1,LD 4 3,Q 5 (.arith .geq (V 4) (I 0)),M 6 5,QG (some 7) (.faddr 0 (V 1)) 6 true,QG (some 8) (.load false 1 false (V 7)) 6 true,QG (some 9) (.arith .leq (V 8) (I 1099511627776)) 6 true,Q 10 (.pick (V 6) (V 9) ff'),M 11 10,QG (some 12) (.faddr 1 (V 1)) 11 true,QG (some 13) (.load false 1 false (V 12)) 11 true,QG (some 14) (.arith .geq (V 13) (I (-1152921504606846976))) 11 true,Q 15 (.pick (V 11) (V 14) ff'),M 16 15,QG (some 17) (.faddr 1 (V 1)) 16 true,QG (some 18) (.load false 1 false (V 17)) 16 true,QG (some 19) (.arith .leq (V 18) (I 1152921504606846976)) 16 true,Q 20 (.pick (V 16) (V 19) ff'),M 2 20]
@[simp] theorem z87_r1_go : type_of% (og z87_r1.eq_1) := og rfl
def z87 : PCodeFn :=
  ⟨1, [.tmp 2],
  (.seq (.region z87_r0) (.seq (.clr [(3, 21)] (.region z87_r1)) .ret)), false⟩

def z25_r0 : List POper := [M 4 0,Q 5 (.call .std 300 [(V 4)])]
@[simp] theorem z25_r0_go : type_of% (og z25_r0.eq_1) := og rfl
def z25_r1 : List POper := [M 6 1,Q 7 (.arith .lss (V 6) (I 0))]
@[simp] theorem z25_r1_go : type_of% (og z25_r1.eq_1) := og rfl
def z25_r4 : List POper := [M 22 0,M 23 1,Q 24 (.call .std 301 [(V 22), (V 23)])]
@[simp] theorem z25_r4_go : type_of% (og z25_r4.eq_1) := og rfl
def z25 : PCodeFn :=
  ⟨2, [],
  (.seq (.clr [(4, 6)] (.region z25_r0)) (.seq (.seq (.clr [(6, 7)] (.region z25_r1)) (.cond (V 7) .bad .skip)) (.seq .bad (.cond (V 21) (.clr [(22, 25)] (.region z25_r4)) .skip)))), false⟩

def z12_r0 : List POper := [Q 4 (.mov (I 0)),Q 5 (.mov (.cst .nili))]
@[simp] theorem z12_r0_go : type_of% (og z12_r0.eq_1) := og rfl
def z12_r1 : List POper := [M 6 0,Q 7 (.call .std 300 [(V 6)])]
@[simp] theorem z12_r1_go : type_of% (og z12_r1.eq_1) := og rfl
def z12_r2 : List POper := [M 8 0,M 9 0,NK' 10 9,FA 11 1 10,LD 12 11,M 13 1,Q 14 (.app 1 1 (V 12) (V 13)),NK' 15 8,FA 16 1 15,QN (.store 1 (V 16) (V 14))]
@[simp] theorem z12_r2_go : type_of% (og z12_r2.eq_1) := og rfl
def z12_r3 : List POper := [M 17 1,Q 18 (.len true (V 17)),M 4 18,Q 5 (.mov (.cst .nili))]
@[simp] theorem z12_r3_go : type_of% (og z12_r3.eq_1) := og rfl
def z12 : PCodeFn :=
  ⟨2, [.tmp 4, .tmp 5],
  (.seq (.region z12_r0) (.seq (.clr [(6, 8)] (.region z12_r1)) (.seq (.clr [(8, 17)] (.region z12_r2)) (.seq (.clr [(17, 19)] (.region z12_r3)) .ret)))), false⟩

def z21_r0 : List POper := [Q 2 (.mov (.cst (.str [])))]
@[simp] theorem z21_r0_go : type_of% (og z21_r0.eq_1) := og rfl
def z21 : PCodeFn :=
  ⟨1, [.tmp 2],
  (.seq (.region z21_r0) (.seq .bad .ret)), false⟩

def z85_r0 : List POper := [Q 1 (.box true (V 0)),Q 2 (.mov ff')]
@[simp] theorem z85_r0_go : type_of% (og z85_r0.eq_1) := og rfl
def z85_r1 : List POper := [FA 3 0 1,LD 4 3,Q 5 (.arith .leq (I 0) (V 4)),M 6 5,QG (some 7) (.faddr 0 (V 1)) 6 true,QG (some 8) (.load false 1 false (V 7)) 6 true,QG (some 9) (.arith .leq (V 8) (I 1099511627776)) 6 true,Q 10 (.pick (V 6) (V 9) ff'),M 11 10,QG (some 12) (.faddr 1 (V 1)) 11 true,QG (some 13) (.load false 1 false (V 12)) 11 true,QG (some 14) (.arith .leq (I (-1152921504606846976)) (V 13)) 11 true,Q 15 (.pick (V 11) (V 14) ff'),M 16 15,QG (some 17) (.faddr 1 (V 1)) 16 true,QG (some 18) (.load false 1 false (V 17)) 16 true,QG (some 19) (.arith .leq (V 18) (I 1152921504606846976)) 16 true,Q 20 (.pick (V 16) (V 19) ff'),M 2 20]
@[simp] theorem z85_r1_go : type_of% (og z85_r1.eq_1) := og rfl
def z85 : PCodeFn :=
  ⟨1, [.tmp 2],
  (.seq (.region z85_r0) (.seq (.clr [(3, 21)] (.region z85_r1)) .ret)), false⟩

def z8_r0 : List POper := [M 12 1,M 10 12]
@[simp] theorem z8_r0_go : type_of% (og z8_r0.eq_1) := og rfl
def z8_r1 : List POper := [M 13 10,Q 14 (.arith .mul (I 2) (V 13)),Q 15 (.arith .add (V 14) (I 1)),M 11 15]
@[simp] theorem z8_r1_go : type_of% (og z8_r1.eq_1) := og rfl
def z8_r2 : List POper := [M 16 11,M 17 2,Q 18 (.arith .geq (V 16) (V 17))]
@[simp] theorem z8_r2_go : type_of% (og z8_r2.eq_1) := og rfl
def z8_r3 : List POper := [M 19 11,Q 20 (.arith .add (V 19) (I 1)),M 21 2,Q 22 (.arith .lss (V 20) (V 21)),M 23 22,QG (some 24) (.mov (V 4)) 23 true,QG (some 25) (.mov (V 0)) 23 true,QG (some 26) (.mov (V 3)) 23 true,QG (some 27) (.mov (V 11)) 23 true,QG (some 28) (.arith .add (V 26) (V 27)) 23 true,QG (some 29) (.iaddr 2 (V 25) (V 28)) 23 true,QG (some 30) (.load true 2 false (V 29)) 23 true,QG (some 31) (.mov (V 0)) 23 true,QG (some 32) (.mov (V 3)) 23 true,QG (some 33) (.mov (V 11)) 23 true,QG (some 34) (.arith .add (V 32) (V 33)) 23 true,QG (some 35) (.arith .add (V 34) (I 1)) 23 true,QG (some 36) (.iaddr 2 (V 31) (V 35)) 23 true,QG (some 37) (.load true 2 false (V 36)) 23 true,QG (some 38) (.callv .std (V 24) [(V 30), (V 37)]) 23 true,QG (some 39) (.arith .lss (V 38) (I 0)) 23 true,Q 40 (.pick (V 23) (V 39) ff')]
@[simp] theorem z8_r3_go : type_of% (og z8_r3.eq_1) := og rfl
def z8_r4 : List POper := [M 41 11,Q 42 (.arith .add (V 41) (I 1)),M 11 42]
@[simp] theorem z8_r4_go : type_of% (og z8_r4.eq_1) := og rfl
def z8_r5 : List POper := [M 43 4,M 44 0,M 45 3,M 46 10,Q 47 (.arith .add (V 45) (V 46)),Q 48 (.iaddr 2 (V 44) (V 47)),Q 49 (.load true 2 false (V 48)),M 50 0,M 51 3,M 52 11,Q 53 (.arith .add (V 51) (V 52)),Q 54 (.iaddr 2 (V 50) (V 53)),Q 55 (.load true 2 false (V 54)),Q 56 (.callv .std (V 43) [(V 49), (V 55)]),Q 57 (.arith .lss (V 56) (I 0)),Q 58 (.un .not (V 57))]
@[simp] theorem z8_r5_go : type_of% (og z8_r5.eq_1) := og rfl
def z8_r6 : List POper := [M 59 0,M 60 3,M 61 10,Q 62 (.arith .add (V 60) (V 61)),M 63 0,M 64 3,M 65 11,Q 66 (.arith .add (V 64) (V 65)),M 67 0,M 68 3,M 69 11,Q 70 (.arith .add (V 68) (V 69)),Q 71 (.iaddr 2 (V 67) (V 70)),Q 72 (.load true 2 false (V 71)),M 73 0,M 74 3,M 75 10,Q 76 (.arith .add (V 74) (V 75)),Q 77 (.iaddr 2 (V 73) (V 76)),Q 78 (.load true 2 false (V 77)),Q 79 (.iaddr 2 (V 59) (V 62)),QN (.store 2 (V 79) (V 72)),Q 80 (.iaddr 2 (V 63) (V 66)),QN (.store 2 (V 80) (V 78))]
@[simp] theorem z8_r6_go : type_of% (og z8_r6.eq_1) := og rfl
def z8_r7 : List POper := [M 81 11,M 10 81]
@[simp] theorem z8_r7_go : type_of% (og z8_r7.eq_1) := og rfl
def z8_l0 : PCode :=
  (.block 1 (.seq (.clr [(13, 16)] (.region z8_r1)) (.seq (.seq (.clr [(16, 18)] (.region z8_r2)) (.cond (V 18) (.exit 0) .skip)) (.seq (.seq (.clr [(19, 40)] (.region z8_r3)) (.cond (V 40) (.clr [(41, 43)] (.region z8_r4)) .skip)) (.seq (.seq (.clr [(43, 58)] (.region z8_r5)) (.cond (V 58) .ret .skip)) (.seq (.clr [(59, 81)] (.region z8_r6)) (.clr [(81, 82)] (.region z8_r7))))))))
@[simp] theorem z8_l0_go : type_of% (cg z8_l0.eq_1) := cg rfl
def z8 : PCodeFn :=
  ⟨5, [],
  (.seq (.clr [(12, 13)] (.region z8_r0)) (.block 0 (.loop z8_l0))), true⟩

def z22_r0 : List POper := [Q 2 (.mov (.cst (.int .u64 0)))]
@[simp] theorem z22_r0_go : type_of% (og z22_r0.eq_1) := og rfl
def z22_r1 : List POper := [M 3 0,Q 4 (.toInt .u64 (V 3)),Q 5 (.call .pur 317 [(V 4)]),Q 6 (.arith .shl (.cst (.int .u64 1)) (V 5)),M 2 6]
@[simp] theorem z22_r1_go : type_of% (og z22_r1.eq_1) := og rfl
def z22 : PCodeFn :=
  ⟨1, [.tmp 2],
  (.seq (.region z22_r0) (.seq (.clr [(3, 7)] (.region z22_r1)) .ret)), false⟩

def z24_r0 : List POper := [Q 2 (.mov (.cst (.int .u64 0)))]
@[simp] theorem z24_r0_go : type_of% (og z24_r0.eq_1) := og rfl
def z24_r1 : List POper := [M 3 0,NK' 4 3,LD 5 4,M 6 0,NK' 7 6,LD 8 7,Q 9 (.arith .shl (V 8) (.cst (.int .u64 13))),Q 10 (.arith .xor (V 5) (V 9)),NK' 11 3,QN (.store 1 (V 11) (V 10))]
@[simp] theorem z24_r1_go : type_of% (og z24_r1.eq_1) := og rfl
def z24_r2 : List POper := [M 12 0,NK' 13 12,LD 14 13,M 15 0,NK' 16 15,LD 17 16,Q 18 (.arith .shr (V 17) (.cst (.int .u64 7))),Q 19 (.arith .xor (V 14) (V 18)),NK' 20 12,QN (.store 1 (V 20) (V 19))]
@[simp] theorem z24_r2_go : type_of% (og z24_r2.eq_1) := og rfl
def z24_r3 : List POper := [M 21 0,NK' 22 21,LD 23 22,M 24 0,NK' 25 24,LD 26 25,Q 27 (.arith .shl (V 26) (.cst (.int .u64 17))),Q 28 (.arith .xor (V 23) (V 27)),NK' 29 21,QN (.store 1 (V 29) (V 28))]
@[simp] theorem z24_r3_go : type_of% (og z24_r3.eq_1) := og rfl
def z24_r4 : List POper := [M 30 0,NK' 31 30,LD 32 31,M 2 32]
@[simp] theorem z24_r4_go : type_of% (og z24_r4.eq_1) := og rfl
def z24 : PCodeFn :=
  ⟨1, [.tmp 2],
  (.seq (.region z24_r0) (.seq (.clr [(3, 12)] (.region z24_r1)) (.seq (.clr [(12, 21)] (.region z24_r2)) (.seq (.clr [(21, 30)] (.region z24_r3)) (.seq (.clr [(30, 33)] (.region z24_r4)) .ret))))), true⟩

def z1_r0 : List POper := [Q 8 (.mov (I 0))]
@[simp] theorem z1_r0_go : type_of% (og z1_r0.eq_1) := og rfl
def z1_r1 : List POper := [M 9 0,M 10 1,Q 11 (.arith .sub (V 10) (I 1)),M 12 1,M 13 1,Q 14 (.arith .add (V 13) (I 1)),M 15 2,M 16 3,Q 17 (.call .std 409 [(V 9), (V 11), (V 12), (V 14), (V 15), (V 16)]),M 8 17]
@[simp] theorem z1_r1_go : type_of% (og z1_r1.eq_1) := og rfl
def z1 : PCodeFn :=
  ⟨4, [.tmp 8],
  (.seq (.region z1_r0) (.seq (.clr [(9, 18)] (.region z1_r1)) .ret)), true⟩

def z11_r0 : List POper := [Q 12 (.mov (I 0))]
@[simp] theorem z11_r0_go : type_of% (og z11_r0.eq_1) := og rfl
def z11_r1 : List POper := [M 14 0,M 15 1,M 16 2,M 17 4,M 18 5,Q 19 (.call .std 416 [(V 14), (V 15), (V 16), (V 17), (V 18)]),M 13 19,EX 20 0 13,EX 21 1 13,M 1 20,M 2 21]
@[simp] theorem z11_r1_go : type_of% (og z11_r1.eq_1) := og rfl
def z11_r2 : List POper := [M 23 0,M 24 2,M 25 3,M 26 4,M 27 5,Q 28 (.call .std 416 [(V 23), (V 24), (V 25), (V 26), (V 27)]),M 22 28,EX 29 0 22,EX 30 1 22,M 2 29,M 3 30]
@[simp] theorem z11_r2_go : type_of% (og z11_r2.eq_1) := og rfl
def z11_r3 : List POper := [M 32 0,M 33 1,M 34 2,M 35 4,M 36 5,Q 37 (.call .std 416 [(V 32), (V 33), (V 34), (V 35), (V 36)]),M 31 37,EX 38 0 31,EX 39 1 31,M 1 38,M 2 39]
@[simp] theorem z11_r3_go : type_of% (og z11_r3.eq_1) := og rfl
def z11_r4 : List POper := [M 40 2,M 12 40]
@[simp] theorem z11_r4_go : type_of% (og z11_r4.eq_1) := og rfl
def z11 : PCodeFn :=
  ⟨6, [.tmp 12],
  (.seq (.region z11_r0) (.seq (.clr [(13, 22)] (.region z11_r1)) (.seq (.clr [(22, 31)] (.region z11_r2)) (.seq (.clr [(31, 40)] (.region z11_r3)) (.seq (.clr [(40, 41)] (.region z11_r4)) .ret))))), true⟩

def z14_r0 : List POper := [M 2 0,NK' 3 2,FA 4 0 3,LD 5 4,Q 6 (.eqn false .p (V 5))]
@[simp] theorem z14_r0_go : type_of% (og z14_r0.eq_1) := og rfl
def z14 : PCodeFn :=
  ⟨1, [],
  (.seq (.clr [(2, 6)] (.region z14_r0)) (.cond (V 6) .bad (.seq .bad (.cond (V 19) .bad .skip)))), false⟩

def z23_r2 : List POper := [M 26 0,M 27 4,NK' 28 26,FA 29 1 28,QN (.store 1 (V 29) (V 27))]
@[simp] theorem z23_r2_go : type_of% (og z23_r2.eq_1) := og rfl
def z23 : PCodeFn :=
  ⟨2, [],
  (.seq .bad (.seq .bad (.clr [(26, 30)] (.region z23_r2)))), false⟩

def z13_r0 : List POper := [Q 10 (.mov (I 0)),Q 11 (.mov (I 0))]
@[simp] theorem z13_r0_go : type_of% (og z13_r0.eq_1) := og rfl
def z13_r1 : List POper := [M 12 4,M 13 0,M 14 2,Q 15 (.iaddr 2 (V 13) (V 14)),Q 16 (.load true 2 false (V 15)),M 17 0,M 18 1,Q 19 (.iaddr 2 (V 17) (V 18)),Q 20 (.load true 2 false (V 19)),Q 21 (.callv .std (V 12) [(V 16), (V 20)]),Q 22 (.arith .lss (V 21) (I 0))]
@[simp] theorem z13_r1_go : type_of% (og z13_r1.eq_1) := og rfl
def z13_r2 : List POper := [M 23 3,NK' 24 23,LD 25 24,Q 26 (.arith .add (V 25) (I 1)),NK' 27 23,QN (.store 1 (V 27) (V 26))]
@[simp] theorem z13_r2_go : type_of% (og z13_r2.eq_1) := og rfl
def z13_r3 : List POper := [M 28 2,M 29 1,M 10 28,M 11 29]
@[simp] theorem z13_r3_go : type_of% (og z13_r3.eq_1) := og rfl
def z13_r4 : List POper := [M 30 1,M 31 2,M 10 30,M 11 31]
@[simp] theorem z13_r4_go : type_of% (og z13_r4.eq_1) := og rfl
def z13 : PCodeFn :=
  ⟨5, [.tmp 10, .tmp 11],
  (.seq (.region z13_r0) (.seq (.seq (.clr [(12, 22)] (.region z13_r1)) (.cond (V 22) (.seq (.clr [(23, 28)] (.region z13_r2)) (.seq (.clr [(28, 30)] (.region z13_r3)) .ret)) .skip)) (.seq (.clr [(30, 32)] (.region z13_r4)) .ret))), true⟩


end Ps
