/- The functions' code, as the pure semantics has it: printed by program. -/
import Derived.Test.YtppjibgophfdfaaCodeB
namespace Ps
open Go
set_option maxRecDepth 10000
variable (T : Tbl) (K : List Kt) (fr : Fr) (S : St)

def z4_r0 : List POper := [⟨some 2, .mov (.cst (.int .i64 0)), none⟩]
@[simp] theorem z4_r0_go : gval T (.ops z4_r0 :: K) fr S = gval T (.ops [⟨some 2, .mov (.cst (.int .i64 0)), none⟩] :: K) fr S := rfl
def z4_r1 : List POper := [⟨some 4, .mov (.tmp 0), none⟩,⟨some 5, .eqn false .p (.tmp 4), none⟩,⟨some 6, .mov (.tmp 5), none⟩,⟨some 7, .mov (.tmp 0), some (6, false)⟩,⟨some 8, .nilck (.tmp 7), some (6, false)⟩,⟨some 9, .faddr 2 (.tmp 8), some (6, false)⟩,⟨some 10, .load false 1 false (.tmp 9), some (6, false)⟩,⟨some 11, .eqn false .m (.tmp 10), some (6, false)⟩,⟨some 12, .pick (.tmp 6) (.cst (.bool true)) (.tmp 11), none⟩]
@[simp] theorem z4_r1_go : gval T (.ops z4_r1 :: K) fr S = gval T (.ops [⟨some 4, .mov (.tmp 0), none⟩,⟨some 5, .eqn false .p (.tmp 4), none⟩,⟨some 6, .mov (.tmp 5), none⟩,⟨some 7, .mov (.tmp 0), some (6, false)⟩,⟨some 8, .nilck (.tmp 7), some (6, false)⟩,⟨some 9, .faddr 2 (.tmp 8), some (6, false)⟩,⟨some 10, .load false 1 false (.tmp 9), some (6, false)⟩,⟨some 11, .eqn false .m (.tmp 10), some (6, false)⟩,⟨some 12, .pick (.tmp 6) (.cst (.bool true)) (.tmp 11), none⟩] :: K) fr S := rfl
def z4_r2 : List POper := [⟨some 2, .mov (.cst (.int .i64 1)), none⟩]
@[simp] theorem z4_r2_go : gval T (.ops z4_r2 :: K) fr S = gval T (.ops [⟨some 2, .mov (.cst (.int .i64 1)), none⟩] :: K) fr S := rfl
def z4_r3 : List POper := [⟨some 13, .mov (.tmp 0), none⟩,⟨some 14, .call .std 196 [(.tmp 13)], none⟩,⟨some 3, .mov (.tmp 14), none⟩]
@[simp] theorem z4_r3_go : gval T (.ops z4_r3 :: K) fr S = gval T (.ops [⟨some 13, .mov (.tmp 0), none⟩,⟨some 14, .call .std 196 [(.tmp 13)], none⟩,⟨some 3, .mov (.tmp 14), none⟩] :: K) fr S := rfl
def z4_r4 : List POper := [⟨some 15, .mov (.tmp 3), none⟩,⟨some 16, .arith .neq (.tmp 15) (.cst (.int .i64 0)), none⟩]
@[simp] theorem z4_r4_go : gval T (.ops z4_r4 :: K) fr S = gval T (.ops [⟨some 15, .mov (.tmp 3), none⟩,⟨some 16, .arith .neq (.tmp 15) (.cst (.int .i64 0)), none⟩] :: K) fr S := rfl
def z4_r5 : List POper := [⟨some 17, .mov (.tmp 3), none⟩,⟨some 2, .mov (.tmp 17), none⟩]
@[simp] theorem z4_r5_go : gval T (.ops z4_r5 :: K) fr S = gval T (.ops [⟨some 17, .mov (.tmp 3), none⟩,⟨some 2, .mov (.tmp 17), none⟩] :: K) fr S := rfl
def z4_r6 : List POper := [⟨some 18, .mov (.tmp 0), none⟩,⟨some 19, .mov (.tmp 0), none⟩,⟨some 20, .mov (.tmp 0), none⟩,⟨some 21, .nilck (.tmp 20), none⟩,⟨some 22, .faddr 2 (.tmp 21), none⟩,⟨some 23, .load false 1 false (.tmp 22), none⟩,⟨some 24, .call .std 197 [(.tmp 23)], none⟩,⟨some 25, .nilck (.tmp 18), none⟩,⟨some 26, .faddr 1 (.tmp 25), none⟩,⟨none, .store 1 (.tmp 26) (.tmp 24), none⟩,⟨some 27, .nilck (.tmp 19), none⟩,⟨some 28, .faddr 3 (.tmp 27), none⟩,⟨none, .store 1 (.tmp 28) (.cst .nils), none⟩]
@[simp] theorem z4_r6_go : gval T (.ops z4_r6 :: K) fr S = gval T (.ops [⟨some 18, .mov (.tmp 0), none⟩,⟨some 19, .mov (.tmp 0), none⟩,⟨some 20, .mov (.tmp 0), none⟩,⟨some 21, .nilck (.tmp 20), none⟩,⟨some 22, .faddr 2 (.tmp 21), none⟩,⟨some 23, .load false 1 false (.tmp 22), none⟩,⟨some 24, .call .std 197 [(.tmp 23)], none⟩,⟨some 25, .nilck (.tmp 18), none⟩,⟨some 26, .faddr 1 (.tmp 25), none⟩,⟨none, .store 1 (.tmp 26) (.tmp 24), none⟩,⟨some 27, .nilck (.tmp 19), none⟩,⟨some 28, .faddr 3 (.tmp 27), none⟩,⟨none, .store 1 (.tmp 28) (.cst .nils), none⟩] :: K) fr S := rfl
def z4_r7 : List POper := [⟨some 2, .mov (.cst (.int .i64 0)), none⟩]
@[simp] theorem z4_r7_go : gval T (.ops z4_r7 :: K) fr S = gval T (.ops [⟨some 2, .mov (.cst (.int .i64 0)), none⟩] :: K) fr S := rfl
def z4 : PCodeFn :=
  ⟨1, [.tmp 2],
  (.seq (.region z4_r0) (.seq (.seq (.clr [(4, 12)] (.region z4_r1)) (.cond (.tmp 12) (.seq (.region z4_r2) .ret) .skip)) (.seq (.seq (.clr [(13, 15)] (.region z4_r3)) (.seq (.clr [(15, 16)] (.region z4_r4)) (.cond (.tmp 16) (.seq (.clr [(17, 18)] (.region z4_r5)) .ret) .skip))) (.seq (.clr [(18, 29)] (.region z4_r6)) (.seq (.region z4_r7) .ret))))), false⟩

def z63_r0 : List POper := [⟨some 2, .mov (.cst .nils), none⟩,⟨some 3, .mov (.cst (.int .i64 0)), none⟩]
@[simp] theorem z63_r0_go : gval T (.ops z63_r0 :: K) fr S = gval T (.ops [⟨some 2, .mov (.cst .nils), none⟩,⟨some 3, .mov (.cst (.int .i64 0)), none⟩] :: K) fr S := rfl
def z63_r1 : List POper := [⟨some 4, .mov (.cst .nils), none⟩]
@[simp] theorem z63_r1_go : gval T (.ops z63_r1 :: K) fr S = gval T (.ops [⟨some 4, .mov (.cst .nils), none⟩] :: K) fr S := rfl
def z63_r2 : List POper := [⟨some 5, .mov (.cst (.int .i64 0)), none⟩]
@[simp] theorem z63_r2_go : gval T (.ops z63_r2 :: K) fr S = gval T (.ops [⟨some 5, .mov (.cst (.int .i64 0)), none⟩] :: K) fr S := rfl
def z63_r3 : List POper := [⟨some 11, .mov (.tmp 0), none⟩,⟨some 12, .mov (.tmp 5), none⟩,⟨some 13, .call .std 319 [(.tmp 11), (.tmp 12)], none⟩,⟨some 10, .mov (.tmp 13), none⟩,⟨some 14, .extract 0 (.tmp 10), none⟩,⟨some 15, .extract 1 (.tmp 10), none⟩,⟨some 16, .extract 2 (.tmp 10), none⟩,⟨some 6, .mov (.tmp 14), none⟩,⟨some 7, .mov (.tmp 15), none⟩,⟨some 8, .mov (.tmp 16), none⟩]
@[simp] theorem z63_r3_go : gval T (.ops z63_r3 :: K) fr S = gval T (.ops [⟨some 11, .mov (.tmp 0), none⟩,⟨some 12, .mov (.tmp 5), none⟩,⟨some 13, .call .std 319 [(.tmp 11), (.tmp 12)], none⟩,⟨some 10, .mov (.tmp 13), none⟩,⟨some 14, .extract 0 (.tmp 10), none⟩,⟨some 15, .extract 1 (.tmp 10), none⟩,⟨some 16, .extract 2 (.tmp 10), none⟩,⟨some 6, .mov (.tmp 14), none⟩,⟨some 7, .mov (.tmp 15), none⟩,⟨some 8, .mov (.tmp 16), none⟩] :: K) fr S := rfl
def z63_r4 : List POper := [⟨some 17, .mov (.tmp 8), none⟩,⟨some 18, .arith .neq (.tmp 17) (.cst (.int .i64 0)), none⟩]
@[simp] theorem z63_r4_go : gval T (.ops z63_r4 :: K) fr S = gval T (.ops [⟨some 17, .mov (.tmp 8), none⟩,⟨some 18, .arith .neq (.tmp 17) (.cst (.int .i64 0)), none⟩] :: K) fr S := rfl
def z63_r5 : List POper := [⟨some 19, .mov (.tmp 4), none⟩,⟨some 20, .mov (.tmp 5), none⟩,⟨some 2, .mov (.tmp 19), none⟩,⟨some 3, .mov (.tmp 20), none⟩]
@[simp] theorem z63_r5_go : gval T (.ops z63_r5 :: K) fr S = gval T (.ops [⟨some 19, .mov (.tmp 4), none⟩,⟨some 20, .mov (.tmp 5), none⟩,⟨some 2, .mov (.tmp 19), none⟩,⟨some 3, .mov (.tmp 20), none⟩] :: K) fr S := rfl
def z63_r6 : List POper := [⟨some 22, .mov (.tmp 6), none⟩,⟨some 23, .call .std 143 [(.tmp 22)], none⟩,⟨some 21, .mov (.tmp 23), none⟩,⟨some 24, .extract 0 (.tmp 21), none⟩,⟨some 25, .extract 1 (.tmp 21), none⟩,⟨some 9, .alloc false [(.int .i64 0), .nils, .nils, .nils, (.int .i64 0), (.int .i64 0)], none⟩,⟨none, .store 6 (.tmp 9) (.tmp 24), none⟩,⟨some 8, .mov (.tmp 25), none⟩]
@[simp] theorem z63_r6_go : gval T (.ops z63_r6 :: K) fr S = gval T (.ops [⟨some 22, .mov (.tmp 6), none⟩,⟨some 23, .call .std 143 [(.tmp 22)], none⟩,⟨some 21, .mov (.tmp 23), none⟩,⟨some 24, .extract 0 (.tmp 21), none⟩,⟨some 25, .extract 1 (.tmp 21), none⟩,⟨some 9, .alloc false [(.int .i64 0), .nils, .nils, .nils, (.int .i64 0), (.int .i64 0)], none⟩,⟨none, .store 6 (.tmp 9) (.tmp 24), none⟩,⟨some 8, .mov (.tmp 25), none⟩] :: K) fr S := rfl
def z63_r7 : List POper := [⟨some 26, .mov (.tmp 8), none⟩,⟨some 27, .arith .neq (.tmp 26) (.cst (.int .i64 0)), none⟩]
@[simp] theorem z63_r7_go : gval T (.ops z63_r7 :: K) fr S = gval T (.ops [⟨some 26, .mov (.tmp 8), none⟩,⟨some 27, .arith .neq (.tmp 26) (.cst (.int .i64 0)), none⟩] :: K) fr S := rfl
def z63_r8 : List POper := [⟨some 28, .mov (.tmp 4), none⟩,⟨some 29, .mov (.tmp 5), none⟩,⟨some 2, .mov (.tmp 28), none⟩,⟨some 3, .mov (.tmp 29), none⟩]
@[simp] theorem z63_r8_go : gval T (.ops z63_r8 :: K) fr S = gval T (.ops [⟨some 28, .mov (.tmp 4), none⟩,⟨some 29, .mov (.tmp 5), none⟩,⟨some 2, .mov (.tmp 28), none⟩,⟨some 3, .mov (.tmp 29), none⟩] :: K) fr S := rfl
def z63_r9 : List POper := [⟨some 30, .mov (.tmp 4), none⟩,⟨some 31, .load true 6 false (.tmp 9), none⟩,⟨some 32, .bsl false (.agg [(.int .i64 0), .nils, .nils, .nils, (.int .i64 0), (.int .i64 0)]) 1 [(0, (.tmp 31))], none⟩,⟨some 33, .app 6 96 (.tmp 30) (.tmp 32), none⟩,⟨some 34, .mov (.tmp 7), none⟩,⟨some 4, .mov (.tmp 33), none⟩,⟨some 5, .mov (.tmp 34), none⟩]
@[simp] theorem z63_r9_go : gval T (.ops z63_r9 :: K) fr S = gval T (.ops [⟨some 30, .mov (.tmp 4), none⟩,⟨some 31, .load true 6 false (.tmp 9), none⟩,⟨some 32, .bsl false (.agg [(.int .i64 0), .nils, .nils, .nils, (.int .i64 0), (.int .i64 0)]) 1 [(0, (.tmp 31))], none⟩,⟨some 33, .app 6 96 (.tmp 30) (.tmp 32), none⟩,⟨some 34, .mov (.tmp 7), none⟩,⟨some 4, .mov (.tmp 33), none⟩,⟨some 5, .mov (.tmp 34), none⟩] :: K) fr S := rfl
def z63_l0 : PCode :=
  (.block 1 (.seq (.clr [(10, 17)] (.region z63_r3)) (.seq (.seq (.clr [(17, 18)] (.region z63_r4)) (.cond (.tmp 18) (.seq (.clr [(19, 21)] (.region z63_r5)) .ret) .skip)) (.seq (.clr [(21, 26)] (.region z63_r6)) (.seq (.seq (.clr [(26, 27)] (.region z63_r7)) (.cond (.tmp 27) (.seq (.clr [(28, 30)] (.region z63_r8)) .ret) .skip)) (.clr [(30, 35)] (.region z63_r9)))))))
@[simp] theorem wal_whole_l0_go : gval T (.code z63_l0 :: K) fr S = gval T (.code (.block 1 (.seq (.clr [(10, 17)] (.region z63_r3)) (.seq (.seq (.clr [(17, 18)] (.region z63_r4)) (.cond (.tmp 18) (.seq (.clr [(19, 21)] (.region z63_r5)) .ret) .skip)) (.seq (.clr [(21, 26)] (.region z63_r6)) (.seq (.seq (.clr [(26, 27)] (.region z63_r7)) (.cond (.tmp 27) (.seq (.clr [(28, 30)] (.region z63_r8)) .ret) .skip)) (.clr [(30, 35)] (.region z63_r9))))))) :: K) fr S := rfl
def z63 : PCodeFn :=
  ⟨1, [.tmp 2, .tmp 3],
  (.seq (.region z63_r0) (.seq (.region z63_r1) (.seq (.region z63_r2) (.block 0 (.loop z63_l0))))), true⟩

def z68_r0 : List POper := [⟨some 3, .box false (.tmp 0), none⟩,⟨some 4, .box false (.tmp 1), none⟩,⟨some 5, .box false (.tmp 2), none⟩,⟨some 6, .mov (.cst (.int .i64 0)), none⟩]
@[simp] theorem z68_r0_go : gval T (.ops z68_r0 :: K) fr S = gval T (.ops [⟨some 3, .box false (.tmp 0), none⟩,⟨some 4, .box false (.tmp 1), none⟩,⟨some 5, .box false (.tmp 2), none⟩,⟨some 6, .mov (.cst (.int .i64 0)), none⟩] :: K) fr S := rfl
def z68_r1 : List POper := [⟨some 8, .load false 1 false (.tmp 3), none⟩,⟨some 9, .call .std 90 [(.tmp 8)], none⟩,⟨some 10, .call .std 118 [(.tmp 9), (.cst (.str [116, 109, 112]))], none⟩]
@[simp] theorem z68_r1_go : gval T (.ops z68_r1 :: K) fr S = gval T (.ops [⟨some 8, .load false 1 false (.tmp 3), none⟩,⟨some 9, .call .std 90 [(.tmp 8)], none⟩,⟨some 10, .call .std 118 [(.tmp 9), (.cst (.str [116, 109, 112]))], none⟩] :: K) fr S := rfl
def z68_r2 : List POper := [⟨some 11, .load false 1 false (.tmp 3), none⟩,⟨some 12, .call .std 83 [(.tmp 11), (.cst (.str [116, 109, 112]))], none⟩,⟨some 7, .mov (.tmp 12), none⟩]
@[simp] theorem z68_r2_go : gval T (.ops z68_r2 :: K) fr S = gval T (.ops [⟨some 11, .load false 1 false (.tmp 3), none⟩,⟨some 12, .call .std 83 [(.tmp 11), (.cst (.str [116, 109, 112]))], none⟩,⟨some 7, .mov (.tmp 12), none⟩] :: K) fr S := rfl
def z68_r3 : List POper := [⟨some 13, .mov (.tmp 7), none⟩,⟨some 14, .arith .neq (.tmp 13) (.cst (.int .i64 0)), none⟩]
@[simp] theorem z68_r3_go : gval T (.ops z68_r3 :: K) fr S = gval T (.ops [⟨some 13, .mov (.tmp 7), none⟩,⟨some 14, .arith .neq (.tmp 13) (.cst (.int .i64 0)), none⟩] :: K) fr S := rfl
def z68_r4 : List POper := [⟨some 15, .mov (.tmp 7), none⟩,⟨some 6, .mov (.tmp 15), none⟩]
@[simp] theorem z68_r4_go : gval T (.ops z68_r4 :: K) fr S = gval T (.ops [⟨some 15, .mov (.tmp 7), none⟩,⟨some 6, .mov (.tmp 15), none⟩] :: K) fr S := rfl
def z68_r5 : List POper := [⟨some 16, .mkfn 320 [(.tmp 3)], none⟩,⟨some 17, .mkfn 321 [(.tmp 3), (.tmp 5)], none⟩,⟨some 18, .mkfn 322 [(.tmp 3)], none⟩,⟨some 19, .mkfn 323 [(.tmp 3), (.tmp 4)], none⟩,⟨some 20, .load false 1 false (.tmp 3), none⟩,⟨some 21, .mkbfn 79 [(.tmp 20)], none⟩,⟨some 22, .bsl false .nilf 5 [(0, (.tmp 16)), (1, (.tmp 17)), (2, (.tmp 18)), (3, (.tmp 19)), (4, (.tmp 21))], none⟩,⟨some 23, .call .std 247 [(.tmp 22)], none⟩,⟨some 6, .mov (.tmp 23), none⟩]
@[simp] theorem z68_r5_go : gval T (.ops z68_r5 :: K) fr S = gval T (.ops [⟨some 16, .mkfn 320 [(.tmp 3)], none⟩,⟨some 17, .mkfn 321 [(.tmp 3), (.tmp 5)], none⟩,⟨some 18, .mkfn 322 [(.tmp 3)], none⟩,⟨some 19, .mkfn 323 [(.tmp 3), (.tmp 4)], none⟩,⟨some 20, .load false 1 false (.tmp 3), none⟩,⟨some 21, .mkbfn 79 [(.tmp 20)], none⟩,⟨some 22, .bsl false .nilf 5 [(0, (.tmp 16)), (1, (.tmp 17)), (2, (.tmp 18)), (3, (.tmp 19)), (4, (.tmp 21))], none⟩,⟨some 23, .call .std 247 [(.tmp 22)], none⟩,⟨some 6, .mov (.tmp 23), none⟩] :: K) fr S := rfl
def z68 : PCodeFn :=
  ⟨3, [.tmp 6],
  (.seq (.region z68_r0) (.seq (.seq (.clr [(8, 10)] (.region z68_r1)) (.cond (.tmp 10) (.seq (.clr [(11, 13)] (.region z68_r2)) (.seq (.clr [(13, 14)] (.region z68_r3)) (.cond (.tmp 14) (.seq (.clr [(15, 16)] (.region z68_r4)) .ret) .skip))) .skip)) (.seq (.clr [(16, 24)] (.region z68_r5)) .ret))), false⟩

def z5_r0 : List POper := [⟨some 2, .mov (.cst .nils), none⟩]
@[simp] theorem z5_r0_go : gval T (.ops z5_r0 :: K) fr S = gval T (.ops [⟨some 2, .mov (.cst .nils), none⟩] :: K) fr S := rfl
def z5_r1 : List POper := [⟨some 3, .mov (.tmp 0), none⟩,⟨some 4, .eqn false .s (.tmp 3), none⟩]
@[simp] theorem z5_r1_go : gval T (.ops z5_r1 :: K) fr S = gval T (.ops [⟨some 3, .mov (.tmp 0), none⟩,⟨some 4, .eqn false .s (.tmp 3), none⟩] :: K) fr S := rfl
def z5_r2 : List POper := [⟨some 2, .mov (.cst .nils), none⟩]
@[simp] theorem z5_r2_go : gval T (.ops z5_r2 :: K) fr S = gval T (.ops [⟨some 2, .mov (.cst .nils), none⟩] :: K) fr S := rfl
def z5_r3 : List POper := [⟨some 5, .bsl false (.int .u8 0) 0 [], none⟩,⟨some 6, .mov (.tmp 0), none⟩,⟨some 7, .app 1 1 (.tmp 5) (.tmp 6), none⟩,⟨some 2, .mov (.tmp 7), none⟩]
@[simp] theorem z5_r3_go : gval T (.ops z5_r3 :: K) fr S = gval T (.ops [⟨some 5, .bsl false (.int .u8 0) 0 [], none⟩,⟨some 6, .mov (.tmp 0), none⟩,⟨some 7, .app 1 1 (.tmp 5) (.tmp 6), none⟩,⟨some 2, .mov (.tmp 7), none⟩] :: K) fr S := rfl
def z5 : PCodeFn :=
  ⟨1, [.tmp 2],
  (.seq (.region z5_r0) (.seq (.seq (.clr [(3, 4)] (.region z5_r1)) (.cond (.tmp 4) (.seq (.region z5_r2) .ret) .skip)) (.seq (.clr [(5, 8)] (.region z5_r3)) .ret))), false⟩

def z15_r0 : List POper := [⟨some 4, .mov (.cst (.int .i64 0)), none⟩]
@[simp] theorem z15_r0_go : gval T (.ops z15_r0 :: K) fr S = gval T (.ops [⟨some 4, .mov (.cst (.int .i64 0)), none⟩] :: K) fr S := rfl
def z15_r1 : List POper := [⟨some 9, .mov (.tmp 0), none⟩,⟨some 10, .mov (.tmp 1), none⟩,⟨some 11, .call .std 194 [(.tmp 9), (.tmp 10)], none⟩,⟨some 8, .mov (.tmp 11), none⟩,⟨some 12, .extract 0 (.tmp 8), none⟩,⟨some 13, .extract 1 (.tmp 8), none⟩,⟨some 5, .mov (.tmp 12), none⟩,⟨some 6, .mov (.tmp 13), none⟩]
@[simp] theorem z15_r1_go : gval T (.ops z15_r1 :: K) fr S = gval T (.ops [⟨some 9, .mov (.tmp 0), none⟩,⟨some 10, .mov (.tmp 1), none⟩,⟨some 11, .call .std 194 [(.tmp 9), (.tmp 10)], none⟩,⟨some 8, .mov (.tmp 11), none⟩,⟨some 12, .extract 0 (.tmp 8), none⟩,⟨some 13, .extract 1 (.tmp 8), none⟩,⟨some 5, .mov (.tmp 12), none⟩,⟨some 6, .mov (.tmp 13), none⟩] :: K) fr S := rfl
def z15_r2 : List POper := [⟨some 14, .mov (.tmp 6), none⟩,⟨some 15, .arith .neq (.tmp 14) (.cst (.int .i64 0)), none⟩]
@[simp] theorem z15_r2_go : gval T (.ops z15_r2 :: K) fr S = gval T (.ops [⟨some 14, .mov (.tmp 6), none⟩,⟨some 15, .arith .neq (.tmp 14) (.cst (.int .i64 0)), none⟩] :: K) fr S := rfl
def z15_r3 : List POper := [⟨some 16, .mov (.tmp 6), none⟩,⟨some 4, .mov (.tmp 16), none⟩]
@[simp] theorem z15_r3_go : gval T (.ops z15_r3 :: K) fr S = gval T (.ops [⟨some 16, .mov (.tmp 6), none⟩,⟨some 4, .mov (.tmp 16), none⟩] :: K) fr S := rfl
def z15_r4 : List POper := [⟨some 17, .mov (.tmp 0), none⟩,⟨some 18, .call .std 196 [(.tmp 17)], none⟩,⟨some 7, .mov (.tmp 18), none⟩]
@[simp] theorem z15_r4_go : gval T (.ops z15_r4 :: K) fr S = gval T (.ops [⟨some 17, .mov (.tmp 0), none⟩,⟨some 18, .call .std 196 [(.tmp 17)], none⟩,⟨some 7, .mov (.tmp 18), none⟩] :: K) fr S := rfl
def z15_r5 : List POper := [⟨some 19, .mov (.tmp 7), none⟩,⟨some 20, .arith .neq (.tmp 19) (.cst (.int .i64 0)), none⟩]
@[simp] theorem z15_r5_go : gval T (.ops z15_r5 :: K) fr S = gval T (.ops [⟨some 19, .mov (.tmp 7), none⟩,⟨some 20, .arith .neq (.tmp 19) (.cst (.int .i64 0)), none⟩] :: K) fr S := rfl
def z15_r6 : List POper := [⟨some 21, .mov (.tmp 7), none⟩,⟨some 4, .mov (.tmp 21), none⟩]
@[simp] theorem z15_r6_go : gval T (.ops z15_r6 :: K) fr S = gval T (.ops [⟨some 21, .mov (.tmp 7), none⟩,⟨some 4, .mov (.tmp 21), none⟩] :: K) fr S := rfl
def z15_r7 : List POper := [⟨some 22, .mov (.tmp 5), none⟩,⟨some 23, .mov (.tmp 5), none⟩,⟨some 24, .nilck (.tmp 23), none⟩,⟨some 25, .faddr 0 (.tmp 24), none⟩,⟨some 26, .load false 1 false (.tmp 25), none⟩,⟨some 27, .len false (.tmp 26), none⟩,⟨some 28, .nilck (.tmp 22), none⟩,⟨some 29, .faddr 1 (.tmp 28), none⟩,⟨none, .store 1 (.tmp 29) (.tmp 27), none⟩]
@[simp] theorem z15_r7_go : gval T (.ops z15_r7 :: K) fr S = gval T (.ops [⟨some 22, .mov (.tmp 5), none⟩,⟨some 23, .mov (.tmp 5), none⟩,⟨some 24, .nilck (.tmp 23), none⟩,⟨some 25, .faddr 0 (.tmp 24), none⟩,⟨some 26, .load false 1 false (.tmp 25), none⟩,⟨some 27, .len false (.tmp 26), none⟩,⟨some 28, .nilck (.tmp 22), none⟩,⟨some 29, .faddr 1 (.tmp 28), none⟩,⟨none, .store 1 (.tmp 29) (.tmp 27), none⟩] :: K) fr S := rfl
def z15_r8 : List POper := [⟨some 4, .mov (.cst (.int .i64 0)), none⟩]
@[simp] theorem z15_r8_go : gval T (.ops z15_r8 :: K) fr S = gval T (.ops [⟨some 4, .mov (.cst (.int .i64 0)), none⟩] :: K) fr S := rfl
def z15 : PCodeFn :=
  ⟨2, [.tmp 4],
  (.seq (.region z15_r0) (.seq (.clr [(8, 14)] (.region z15_r1)) (.seq (.seq (.clr [(14, 15)] (.region z15_r2)) (.cond (.tmp 15) (.seq (.clr [(16, 17)] (.region z15_r3)) .ret) .skip)) (.seq (.seq (.clr [(17, 19)] (.region z15_r4)) (.seq (.clr [(19, 20)] (.region z15_r5)) (.cond (.tmp 20) (.seq (.clr [(21, 22)] (.region z15_r6)) .ret) .skip))) (.seq (.clr [(22, 30)] (.region z15_r7)) (.seq (.region z15_r8) .ret)))))), false⟩

def z24_r0 : List POper := [⟨some 2, .box true (.tmp 0), none⟩]
@[simp] theorem z24_r0_go : gval T (.ops z24_r0 :: K) fr S = gval T (.ops [⟨some 2, .box true (.tmp 0), none⟩] :: K) fr S := rfl
def z24_r1 : List POper := [⟨some 5, .faddr 2 (.tmp 2), none⟩,⟨some 6, .load false 1 false (.tmp 5), none⟩,⟨some 4, .mov (.tmp 6), none⟩]
@[simp] theorem z24_r1_go : gval T (.ops z24_r1 :: K) fr S = gval T (.ops [⟨some 5, .faddr 2 (.tmp 2), none⟩,⟨some 6, .load false 1 false (.tmp 5), none⟩,⟨some 4, .mov (.tmp 6), none⟩] :: K) fr S := rfl
def z24_r2 : List POper := [⟨some 7, .mov (.tmp 4), none⟩,⟨some 8, .eqn false .p (.tmp 7), none⟩]
@[simp] theorem z24_r2_go : gval T (.ops z24_r2 :: K) fr S = gval T (.ops [⟨some 7, .mov (.tmp 4), none⟩,⟨some 8, .eqn false .p (.tmp 7), none⟩] :: K) fr S := rfl
def z24_r3 : List POper := [⟨some 9, .mov (.tmp 1), none⟩,⟨some 10, .faddr 0 (.tmp 2), none⟩,⟨some 11, .load false 1 false (.tmp 10), none⟩,⟨some 12, .mlk true false .nilp (.tmp 9) (.tmp 11), none⟩,⟨some 4, .mov (.tmp 12), none⟩]
@[simp] theorem z24_r3_go : gval T (.ops z24_r3 :: K) fr S = gval T (.ops [⟨some 9, .mov (.tmp 1), none⟩,⟨some 10, .faddr 0 (.tmp 2), none⟩,⟨some 11, .load false 1 false (.tmp 10), none⟩,⟨some 12, .mlk true false .nilp (.tmp 9) (.tmp 11), none⟩,⟨some 4, .mov (.tmp 12), none⟩] :: K) fr S := rfl
def z24_r4 : List POper := [⟨some 13, .mov (.tmp 1), none⟩,⟨some 14, .faddr 0 (.tmp 2), none⟩,⟨some 15, .load false 1 false (.tmp 14), none⟩,⟨none, .mdel true (.tmp 13) (.tmp 15), none⟩]
@[simp] theorem z24_r4_go : gval T (.ops z24_r4 :: K) fr S = gval T (.ops [⟨some 13, .mov (.tmp 1), none⟩,⟨some 14, .faddr 0 (.tmp 2), none⟩,⟨some 15, .load false 1 false (.tmp 14), none⟩,⟨none, .mdel true (.tmp 13) (.tmp 15), none⟩] :: K) fr S := rfl
def z24_r5 : List POper := [⟨some 16, .faddr 1 (.tmp 2), none⟩,⟨some 17, .load false 1 false (.tmp 16), none⟩,⟨some 18, .arith .neq (.tmp 17) (.cst (.str [])), none⟩]
@[simp] theorem z24_r5_go : gval T (.ops z24_r5 :: K) fr S = gval T (.ops [⟨some 16, .faddr 1 (.tmp 2), none⟩,⟨some 17, .load false 1 false (.tmp 16), none⟩,⟨some 18, .arith .neq (.tmp 17) (.cst (.str [])), none⟩] :: K) fr S := rfl
def z24_r6 : List POper := [⟨some 19, .mov (.tmp 1), none⟩,⟨some 20, .faddr 1 (.tmp 2), none⟩,⟨some 21, .load false 1 false (.tmp 20), none⟩,⟨some 22, .mov (.tmp 4), none⟩,⟨none, .mset true (.tmp 19) (.tmp 21) (.tmp 22), none⟩]
@[simp] theorem z24_r6_go : gval T (.ops z24_r6 :: K) fr S = gval T (.ops [⟨some 19, .mov (.tmp 1), none⟩,⟨some 20, .faddr 1 (.tmp 2), none⟩,⟨some 21, .load false 1 false (.tmp 20), none⟩,⟨some 22, .mov (.tmp 4), none⟩,⟨none, .mset true (.tmp 19) (.tmp 21) (.tmp 22), none⟩] :: K) fr S := rfl
def z24 : PCodeFn :=
  ⟨2, [],
  (.seq (.region z24_r0) (.seq (.clr [(5, 7)] (.region z24_r1)) (.seq (.seq (.clr [(7, 8)] (.region z24_r2)) (.cond (.tmp 8) (.seq (.clr [(9, 13)] (.region z24_r3)) (.clr [(13, 16)] (.region z24_r4))) .skip)) (.seq (.clr [(16, 18)] (.region z24_r5)) (.cond (.tmp 18) (.clr [(19, 23)] (.region z24_r6)) .skip))))), false⟩

def z1_r0 : List POper := [⟨some 2, .mov (.cst .nils), none⟩]
@[simp] theorem z1_r0_go : gval T (.ops z1_r0 :: K) fr S = gval T (.ops [⟨some 2, .mov (.cst .nils), none⟩] :: K) fr S := rfl
def z1_r1 : List POper := [⟨some 4, .mov (.tmp 0), none⟩,⟨some 5, .call .std 293 [(.tmp 4)], none⟩,⟨some 3, .mov (.tmp 5), none⟩]
@[simp] theorem z1_r1_go : gval T (.ops z1_r1 :: K) fr S = gval T (.ops [⟨some 4, .mov (.tmp 0), none⟩,⟨some 5, .call .std 293 [(.tmp 4)], none⟩,⟨some 3, .mov (.tmp 5), none⟩] :: K) fr S := rfl
def z1_r2 : List POper := [⟨some 6, .mov (.tmp 3), none⟩,⟨some 7, .call .std 239 [(.tmp 6)], none⟩]
@[simp] theorem z1_r2_go : gval T (.ops z1_r2 :: K) fr S = gval T (.ops [⟨some 6, .mov (.tmp 3), none⟩,⟨some 7, .call .std 239 [(.tmp 6)], none⟩] :: K) fr S := rfl
def z1_r3 : List POper := [⟨some 8, .mov (.tmp 3), none⟩,⟨some 2, .mov (.tmp 8), none⟩]
@[simp] theorem z1_r3_go : gval T (.ops z1_r3 :: K) fr S = gval T (.ops [⟨some 8, .mov (.tmp 3), none⟩,⟨some 2, .mov (.tmp 8), none⟩] :: K) fr S := rfl
def z1 : PCodeFn :=
  ⟨1, [.tmp 2],
  (.seq (.region z1_r0) (.seq (.clr [(4, 6)] (.region z1_r1)) (.seq (.clr [(6, 8)] (.region z1_r2)) (.seq (.clr [(8, 9)] (.region z1_r3)) .ret)))), false⟩

def z18_r0 : List POper := [⟨some 1, .box false (.tmp 0), none⟩,⟨some 2, .mov (.cst .nilf), none⟩]
@[simp] theorem z18_r0_go : gval T (.ops z18_r0 :: K) fr S = gval T (.ops [⟨some 1, .box false (.tmp 0), none⟩,⟨some 2, .mov (.cst .nilf), none⟩] :: K) fr S := rfl
def z18_r1 : List POper := [⟨some 3, .mkfn 294 [(.tmp 1)], none⟩,⟨some 2, .mov (.tmp 3), none⟩]
@[simp] theorem z18_r1_go : gval T (.ops z18_r1 :: K) fr S = gval T (.ops [⟨some 3, .mkfn 294 [(.tmp 1)], none⟩,⟨some 2, .mov (.tmp 3), none⟩] :: K) fr S := rfl
def z18 : PCodeFn :=
  ⟨1, [.tmp 2],
  (.seq (.region z18_r0) (.seq (.clr [(3, 4)] (.region z18_r1)) .ret)), false⟩

def z11_r0 : List POper := [⟨some 2, .mov (.cst .nilm), none⟩]
@[simp] theorem z11_r0_go : gval T (.ops z11_r0 :: K) fr S = gval T (.ops [⟨some 2, .mov (.cst .nilm), none⟩] :: K) fr S := rfl
def z11_r1 : List POper := [⟨some 3, .mov (.tmp 0), none⟩,⟨some 4, .eqn false .m (.tmp 3), none⟩]
@[simp] theorem z11_r1_go : gval T (.ops z11_r1 :: K) fr S = gval T (.ops [⟨some 3, .mov (.tmp 0), none⟩,⟨some 4, .eqn false .m (.tmp 3), none⟩] :: K) fr S := rfl
def z11_r2 : List POper := [⟨some 2, .mov (.cst .nilm), none⟩]
@[simp] theorem z11_r2_go : gval T (.ops z11_r2 :: K) fr S = gval T (.ops [⟨some 2, .mov (.cst .nilm), none⟩] :: K) fr S := rfl
def z11_r3 : List POper := [⟨some 5, .mov (.tmp 0), none⟩,⟨some 6, .mkif 4 (.tmp 5), none⟩,⟨some 7, .call .std 292 [(.tmp 6)], none⟩,⟨some 8, .assert 4 false .nilm (.tmp 7), none⟩,⟨some 2, .mov (.tmp 8), none⟩]
@[simp] theorem z11_r3_go : gval T (.ops z11_r3 :: K) fr S = gval T (.ops [⟨some 5, .mov (.tmp 0), none⟩,⟨some 6, .mkif 4 (.tmp 5), none⟩,⟨some 7, .call .std 292 [(.tmp 6)], none⟩,⟨some 8, .assert 4 false .nilm (.tmp 7), none⟩,⟨some 2, .mov (.tmp 8), none⟩] :: K) fr S := rfl
def z11 : PCodeFn :=
  ⟨1, [.tmp 2],
  (.seq (.region z11_r0) (.seq (.seq (.clr [(3, 4)] (.region z11_r1)) (.cond (.tmp 4) (.seq (.region z11_r2) .ret) .skip)) (.seq (.clr [(5, 9)] (.region z11_r3)) .ret))), false⟩

def z56_r0 : List POper := [⟨some 4, .mov (.cst .nils), none⟩]
@[simp] theorem z56_r0_go : gval T (.ops z56_r0 :: K) fr S = gval T (.ops [⟨some 4, .mov (.cst .nils), none⟩] :: K) fr S := rfl
def z56_r1 : List POper := [⟨some 5, .mov (.tmp 0), none⟩,⟨some 6, .len false (.tmp 5), none⟩,⟨some 7, .mov (.tmp 1), none⟩,⟨some 8, .arith .add (.tmp 6) (.tmp 7), none⟩,⟨some 9, .mks 1 1 (.tmp 8), none⟩,⟨some 10, .mov (.tmp 0), none⟩,⟨some 11, .app 1 1 (.tmp 9) (.tmp 10), none⟩,⟨some 4, .mov (.tmp 11), none⟩]
@[simp] theorem z56_r1_go : gval T (.ops z56_r1 :: K) fr S = gval T (.ops [⟨some 5, .mov (.tmp 0), none⟩,⟨some 6, .len false (.tmp 5), none⟩,⟨some 7, .mov (.tmp 1), none⟩,⟨some 8, .arith .add (.tmp 6) (.tmp 7), none⟩,⟨some 9, .mks 1 1 (.tmp 8), none⟩,⟨some 10, .mov (.tmp 0), none⟩,⟨some 11, .app 1 1 (.tmp 9) (.tmp 10), none⟩,⟨some 4, .mov (.tmp 11), none⟩] :: K) fr S := rfl
def z56 : PCodeFn :=
  ⟨2, [.tmp 4],
  (.seq (.region z56_r0) (.seq (.clr [(5, 12)] (.region z56_r1)) .ret)), true⟩

def z27_r0 : List POper := [⟨some 4, .mov (.cst .nils), none⟩,⟨some 5, .mov (.cst (.int .i64 0)), none⟩]
@[simp] theorem z27_r0_go : gval T (.ops z27_r0 :: K) fr S = gval T (.ops [⟨some 4, .mov (.cst .nils), none⟩,⟨some 5, .mov (.cst (.int .i64 0)), none⟩] :: K) fr S := rfl
def z27_r1 : List POper := [⟨some 8, .mov (.tmp 1), none⟩,⟨some 9, .len true (.tmp 8), none⟩,⟨some 10, .arith .gtr (.tmp 9) (.cst (.int .i64 65535)), none⟩]
@[simp] theorem z27_r1_go : gval T (.ops z27_r1 :: K) fr S = gval T (.ops [⟨some 8, .mov (.tmp 1), none⟩,⟨some 9, .len true (.tmp 8), none⟩,⟨some 10, .arith .gtr (.tmp 9) (.cst (.int .i64 65535)), none⟩] :: K) fr S := rfl
def z27_r2 : List POper := [⟨some 4, .mov (.cst .nils), none⟩,⟨some 5, .mov (.cst (.int .i64 3)), none⟩]
@[simp] theorem z27_r2_go : gval T (.ops z27_r2 :: K) fr S = gval T (.ops [⟨some 4, .mov (.cst .nils), none⟩,⟨some 5, .mov (.cst (.int .i64 3)), none⟩] :: K) fr S := rfl
def z27_r3 : List POper := [⟨some 12, .mov (.tmp 0), none⟩,⟨some 13, .mov (.tmp 1), none⟩,⟨some 14, .len true (.tmp 13), none⟩,⟨some 15, .call .std 107 [(.tmp 12), (.tmp 14)], none⟩,⟨some 11, .mov (.tmp 15), none⟩,⟨some 16, .extract 0 (.tmp 11), none⟩,⟨some 17, .extract 1 (.tmp 11), none⟩,⟨some 6, .mov (.tmp 16), none⟩,⟨some 7, .mov (.tmp 17), none⟩]
@[simp] theorem z27_r3_go : gval T (.ops z27_r3 :: K) fr S = gval T (.ops [⟨some 12, .mov (.tmp 0), none⟩,⟨some 13, .mov (.tmp 1), none⟩,⟨some 14, .len true (.tmp 13), none⟩,⟨some 15, .call .std 107 [(.tmp 12), (.tmp 14)], none⟩,⟨some 11, .mov (.tmp 15), none⟩,⟨some 16, .extract 0 (.tmp 11), none⟩,⟨some 17, .extract 1 (.tmp 11), none⟩,⟨some 6, .mov (.tmp 16), none⟩,⟨some 7, .mov (.tmp 17), none⟩] :: K) fr S := rfl
def z27_r4 : List POper := [⟨some 18, .mov (.tmp 6), none⟩,⟨some 19, .mov (.tmp 1), none⟩,⟨some 20, .app 1 1 (.tmp 18) (.tmp 19), none⟩,⟨some 4, .mov (.tmp 20), none⟩,⟨some 5, .mov (.cst (.int .i64 0)), none⟩]
@[simp] theorem z27_r4_go : gval T (.ops z27_r4 :: K) fr S = gval T (.ops [⟨some 18, .mov (.tmp 6), none⟩,⟨some 19, .mov (.tmp 1), none⟩,⟨some 20, .app 1 1 (.tmp 18) (.tmp 19), none⟩,⟨some 4, .mov (.tmp 20), none⟩,⟨some 5, .mov (.cst (.int .i64 0)), none⟩] :: K) fr S := rfl
def z27 : PCodeFn :=
  ⟨2, [.tmp 4, .tmp 5],
  (.seq (.region z27_r0) (.seq (.seq (.clr [(8, 10)] (.region z27_r1)) (.cond (.tmp 10) (.seq (.region z27_r2) .ret) .skip)) (.seq (.clr [(7, 8), (11, 18)] (.region z27_r3)) (.seq (.clr [(18, 21)] (.region z27_r4)) .ret)))), true⟩

def z32_r0 : List POper := [⟨some 2, .mov (.cst (.int .i64 0)), none⟩]
@[simp] theorem z32_r0_go : gval T (.ops z32_r0 :: K) fr S = gval T (.ops [⟨some 2, .mov (.cst (.int .i64 0)), none⟩] :: K) fr S := rfl
def z32_r1 : List POper := [⟨some 5, .mov (.tmp 0), none⟩,⟨some 6, .len false (.tmp 5), none⟩,⟨some 7, .arith .gtr (.tmp 6) (.cst (.int .i64 1024)), none⟩]
@[simp] theorem z32_r1_go : gval T (.ops z32_r1 :: K) fr S = gval T (.ops [⟨some 5, .mov (.tmp 0), none⟩,⟨some 6, .len false (.tmp 5), none⟩,⟨some 7, .arith .gtr (.tmp 6) (.cst (.int .i64 1024)), none⟩] :: K) fr S := rfl
def z32_r2 : List POper := [⟨some 2, .mov (.cst (.int .i64 3)), none⟩]
@[simp] theorem z32_r2_go : gval T (.ops z32_r2 :: K) fr S = gval T (.ops [⟨some 2, .mov (.cst (.int .i64 3)), none⟩] :: K) fr S := rfl
def z32_r3 : List POper := [⟨some 8, .mov (.tmp 0), none⟩,⟨some 9, .len false (.tmp 8), none⟩,⟨some 10, .mov (.cst (.int .i64 0)), none⟩]
@[simp] theorem z32_r3_go : gval T (.ops z32_r3 :: K) fr S = gval T (.ops [⟨some 8, .mov (.tmp 0), none⟩,⟨some 9, .len false (.tmp 8), none⟩,⟨some 10, .mov (.cst (.int .i64 0)), none⟩] :: K) fr S := rfl
def z32_r4 : List POper := [⟨some 11, .arith .lss (.tmp 10) (.tmp 9), none⟩]
@[simp] theorem z32_r4_go : gval T (.ops z32_r4 :: K) fr S = gval T (.ops [⟨some 11, .arith .lss (.tmp 10) (.tmp 9), none⟩] :: K) fr S := rfl
def z32_r5 : List POper := [⟨some 12, .mov (.tmp 10), none⟩,⟨some 13, .iaddr 1 (.tmp 8) (.tmp 10), none⟩,⟨some 14, .load false 1 false (.tmp 13), none⟩,⟨some 3, .mov (.tmp 12), none⟩,⟨some 4, .mov (.tmp 14), none⟩]
@[simp] theorem z32_r5_go : gval T (.ops z32_r5 :: K) fr S = gval T (.ops [⟨some 12, .mov (.tmp 10), none⟩,⟨some 13, .iaddr 1 (.tmp 8) (.tmp 10), none⟩,⟨some 14, .load false 1 false (.tmp 13), none⟩,⟨some 3, .mov (.tmp 12), none⟩,⟨some 4, .mov (.tmp 14), none⟩] :: K) fr S := rfl
def z32_r6 : List POper := [⟨some 16, .mov (.tmp 4), none⟩,⟨some 17, .arith .lss (.tmp 16) (.cst (.int .i64 0)), none⟩,⟨some 18, .mov (.tmp 17), none⟩,⟨some 19, .mov (.tmp 4), some (18, false)⟩,⟨some 20, .arith .gtr (.tmp 19) (.cst (.int .i64 1099511627776)), some (18, false)⟩,⟨some 21, .pick (.tmp 18) (.cst (.bool true)) (.tmp 20), none⟩,⟨some 15, .mov (.tmp 21), none⟩]
@[simp] theorem z32_r6_go : gval T (.ops z32_r6 :: K) fr S = gval T (.ops [⟨some 16, .mov (.tmp 4), none⟩,⟨some 17, .arith .lss (.tmp 16) (.cst (.int .i64 0)), none⟩,⟨some 18, .mov (.tmp 17), none⟩,⟨some 19, .mov (.tmp 4), some (18, false)⟩,⟨some 20, .arith .gtr (.tmp 19) (.cst (.int .i64 1099511627776)), some (18, false)⟩,⟨some 21, .pick (.tmp 18) (.cst (.bool true)) (.tmp 20), none⟩,⟨some 15, .mov (.tmp 21), none⟩] :: K) fr S := rfl
def z32_r7 : List POper := [⟨some 2, .mov (.cst (.int .i64 2)), none⟩]
@[simp] theorem z32_r7_go : gval T (.ops z32_r7 :: K) fr S = gval T (.ops [⟨some 2, .mov (.cst (.int .i64 2)), none⟩] :: K) fr S := rfl
def z32_r8 : List POper := [⟨some 23, .mov (.tmp 3), none⟩,⟨some 24, .arith .gtr (.tmp 23) (.cst (.int .i64 0)), none⟩,⟨some 25, .mov (.tmp 24), none⟩,⟨some 26, .mov (.tmp 4), some (25, true)⟩,⟨some 27, .mov (.tmp 0), some (25, true)⟩,⟨some 28, .mov (.tmp 3), some (25, true)⟩,⟨some 29, .arith .sub (.tmp 28) (.cst (.int .i64 1)), some (25, true)⟩,⟨some 30, .iaddr 1 (.tmp 27) (.tmp 29), some (25, true)⟩,⟨some 31, .load false 1 false (.tmp 30), some (25, true)⟩,⟨some 32, .arith .leq (.tmp 26) (.tmp 31), some (25, true)⟩,⟨some 33, .pick (.tmp 25) (.tmp 32) (.cst (.bool false)), none⟩,⟨some 22, .mov (.tmp 33), none⟩]
@[simp] theorem z32_r8_go : gval T (.ops z32_r8 :: K) fr S = gval T (.ops [⟨some 23, .mov (.tmp 3), none⟩,⟨some 24, .arith .gtr (.tmp 23) (.cst (.int .i64 0)), none⟩,⟨some 25, .mov (.tmp 24), none⟩,⟨some 26, .mov (.tmp 4), some (25, true)⟩,⟨some 27, .mov (.tmp 0), some (25, true)⟩,⟨some 28, .mov (.tmp 3), some (25, true)⟩,⟨some 29, .arith .sub (.tmp 28) (.cst (.int .i64 1)), some (25, true)⟩,⟨some 30, .iaddr 1 (.tmp 27) (.tmp 29), some (25, true)⟩,⟨some 31, .load false 1 false (.tmp 30), some (25, true)⟩,⟨some 32, .arith .leq (.tmp 26) (.tmp 31), some (25, true)⟩,⟨some 33, .pick (.tmp 25) (.tmp 32) (.cst (.bool false)), none⟩,⟨some 22, .mov (.tmp 33), none⟩] :: K) fr S := rfl
def z32_r9 : List POper := [⟨some 2, .mov (.cst (.int .i64 13)), none⟩]
@[simp] theorem z32_r9_go : gval T (.ops z32_r9 :: K) fr S = gval T (.ops [⟨some 2, .mov (.cst (.int .i64 13)), none⟩] :: K) fr S := rfl
def z32_r10 : List POper := [⟨some 34, .arith .add (.tmp 10) (.cst (.int .i64 1)), none⟩,⟨some 10, .mov (.tmp 34), none⟩]
@[simp] theorem z32_r10_go : gval T (.ops z32_r10 :: K) fr S = gval T (.ops [⟨some 34, .arith .add (.tmp 10) (.cst (.int .i64 1)), none⟩,⟨some 10, .mov (.tmp 34), none⟩] :: K) fr S := rfl
def z32_l0 : PCode :=
  (.seq (.region z32_r4) (.seq (.cond (.tmp 11) .skip (.exit 0)) (.seq (.block 1 (.seq (.clr [(12, 15)] (.region z32_r5)) (.block 2 (.seq (.clr [(16, 22)] (.region z32_r6)) (.cond (.tmp 15) (.seq (.region z32_r7) .ret) (.seq (.clr [(23, 34)] (.region z32_r8)) (.cond (.tmp 22) (.seq (.region z32_r9) .ret) .skip))))))) (.clr [(34, 35)] (.region z32_r10)))))
@[simp] theorem posting_Check_l0_go : gval T (.code z32_l0 :: K) fr S = gval T (.code (.seq (.region z32_r4) (.seq (.cond (.tmp 11) .skip (.exit 0)) (.seq (.block 1 (.seq (.clr [(12, 15)] (.region z32_r5)) (.block 2 (.seq (.clr [(16, 22)] (.region z32_r6)) (.cond (.tmp 15) (.seq (.region z32_r7) .ret) (.seq (.clr [(23, 34)] (.region z32_r8)) (.cond (.tmp 22) (.seq (.region z32_r9) .ret) .skip))))))) (.clr [(34, 35)] (.region z32_r10))))) :: K) fr S := rfl
def z32_r11 : List POper := [⟨some 2, .mov (.cst (.int .i64 0)), none⟩]
@[simp] theorem z32_r11_go : gval T (.ops z32_r11 :: K) fr S = gval T (.ops [⟨some 2, .mov (.cst (.int .i64 0)), none⟩] :: K) fr S := rfl
def z32 : PCodeFn :=
  ⟨1, [.tmp 2],
  (.seq (.region z32_r0) (.seq (.seq (.clr [(5, 7)] (.region z32_r1)) (.cond (.tmp 7) (.seq (.region z32_r2) .ret) .skip)) (.seq (.seq (.region z32_r3) (.block 0 (.loop z32_l0))) (.seq (.region z32_r11) .ret)))), false⟩

def z53_r0 : List POper := [⟨some 2, .mov (.cst (.bool false)), none⟩]
@[simp] theorem z53_r0_go : gval T (.ops z53_r0 :: K) fr S = gval T (.ops [⟨some 2, .mov (.cst (.bool false)), none⟩] :: K) fr S := rfl
def z53_r1 : List POper := [⟨some 5, .mov (.tmp 0), none⟩,⟨some 6, .len true (.tmp 5), none⟩,⟨some 7, .mov (.cst (.int .i64 0)), none⟩]
@[simp] theorem z53_r1_go : gval T (.ops z53_r1 :: K) fr S = gval T (.ops [⟨some 5, .mov (.tmp 0), none⟩,⟨some 6, .len true (.tmp 5), none⟩,⟨some 7, .mov (.cst (.int .i64 0)), none⟩] :: K) fr S := rfl
def z53_r2 : List POper := [⟨some 8, .arith .lss (.tmp 7) (.tmp 6), none⟩]
@[simp] theorem z53_r2_go : gval T (.ops z53_r2 :: K) fr S = gval T (.ops [⟨some 8, .arith .lss (.tmp 7) (.tmp 6), none⟩] :: K) fr S := rfl
def z53_r3 : List POper := [⟨some 9, .mov (.tmp 7), none⟩,⟨some 3, .mov (.tmp 9), none⟩]
@[simp] theorem z53_r3_go : gval T (.ops z53_r3 :: K) fr S = gval T (.ops [⟨some 9, .mov (.tmp 7), none⟩,⟨some 3, .mov (.tmp 9), none⟩] :: K) fr S := rfl
def z53_r4 : List POper := [⟨some 10, .mov (.tmp 0), none⟩,⟨some 11, .mov (.tmp 3), none⟩,⟨some 12, .idxs (.tmp 10) (.tmp 11), none⟩,⟨some 4, .mov (.tmp 12), none⟩]
@[simp] theorem z53_r4_go : gval T (.ops z53_r4 :: K) fr S = gval T (.ops [⟨some 10, .mov (.tmp 0), none⟩,⟨some 11, .mov (.tmp 3), none⟩,⟨some 12, .idxs (.tmp 10) (.tmp 11), none⟩,⟨some 4, .mov (.tmp 12), none⟩] :: K) fr S := rfl
def z53_r6 : List POper := [⟨some 14, .mov (.tmp 4), none⟩,⟨some 15, .arith .geq (.tmp 14) (.cst (.int .u8 97)), none⟩,⟨some 16, .mov (.tmp 15), none⟩,⟨some 17, .mov (.tmp 4), some (16, true)⟩,⟨some 18, .arith .leq (.tmp 17) (.cst (.int .u8 122)), some (16, true)⟩,⟨some 19, .pick (.tmp 16) (.tmp 18) (.cst (.bool false)), none⟩,⟨some 13, .mov (.tmp 19), none⟩]
@[simp] theorem z53_r6_go : gval T (.ops z53_r6 :: K) fr S = gval T (.ops [⟨some 14, .mov (.tmp 4), none⟩,⟨some 15, .arith .geq (.tmp 14) (.cst (.int .u8 97)), none⟩,⟨some 16, .mov (.tmp 15), none⟩,⟨some 17, .mov (.tmp 4), some (16, true)⟩,⟨some 18, .arith .leq (.tmp 17) (.cst (.int .u8 122)), some (16, true)⟩,⟨some 19, .pick (.tmp 16) (.tmp 18) (.cst (.bool false)), none⟩,⟨some 13, .mov (.tmp 19), none⟩] :: K) fr S := rfl
def z53_r7 : List POper := [⟨some 20, .mov (.tmp 4), none⟩,⟨some 21, .arith .geq (.tmp 20) (.cst (.int .u8 65)), none⟩,⟨some 22, .mov (.tmp 21), none⟩,⟨some 23, .mov (.tmp 4), some (22, true)⟩,⟨some 24, .arith .leq (.tmp 23) (.cst (.int .u8 90)), some (22, true)⟩,⟨some 25, .pick (.tmp 22) (.tmp 24) (.cst (.bool false)), none⟩,⟨some 13, .mov (.tmp 25), none⟩]
@[simp] theorem z53_r7_go : gval T (.ops z53_r7 :: K) fr S = gval T (.ops [⟨some 20, .mov (.tmp 4), none⟩,⟨some 21, .arith .geq (.tmp 20) (.cst (.int .u8 65)), none⟩,⟨some 22, .mov (.tmp 21), none⟩,⟨some 23, .mov (.tmp 4), some (22, true)⟩,⟨some 24, .arith .leq (.tmp 23) (.cst (.int .u8 90)), some (22, true)⟩,⟨some 25, .pick (.tmp 22) (.tmp 24) (.cst (.bool false)), none⟩,⟨some 13, .mov (.tmp 25), none⟩] :: K) fr S := rfl
def z53_r8 : List POper := [⟨some 26, .mov (.tmp 4), none⟩,⟨some 27, .arith .eql (.tmp 26) (.cst (.int .u8 95)), none⟩,⟨some 13, .mov (.tmp 27), none⟩]
@[simp] theorem z53_r8_go : gval T (.ops z53_r8 :: K) fr S = gval T (.ops [⟨some 26, .mov (.tmp 4), none⟩,⟨some 27, .arith .eql (.tmp 26) (.cst (.int .u8 95)), none⟩,⟨some 13, .mov (.tmp 27), none⟩] :: K) fr S := rfl
def z53_r9 : List POper := [⟨some 29, .mov (.tmp 3), none⟩,⟨some 30, .arith .gtr (.tmp 29) (.cst (.int .i64 0)), none⟩,⟨some 31, .mov (.tmp 30), none⟩,⟨some 32, .mov (.tmp 4), some (31, true)⟩,⟨some 33, .arith .geq (.tmp 32) (.cst (.int .u8 48)), some (31, true)⟩,⟨some 34, .pick (.tmp 31) (.tmp 33) (.cst (.bool false)), none⟩,⟨some 35, .mov (.tmp 34), none⟩,⟨some 36, .mov (.tmp 4), some (35, true)⟩,⟨some 37, .arith .leq (.tmp 36) (.cst (.int .u8 57)), some (35, true)⟩,⟨some 38, .pick (.tmp 35) (.tmp 37) (.cst (.bool false)), none⟩,⟨some 28, .mov (.tmp 38), none⟩]
@[simp] theorem z53_r9_go : gval T (.ops z53_r9 :: K) fr S = gval T (.ops [⟨some 29, .mov (.tmp 3), none⟩,⟨some 30, .arith .gtr (.tmp 29) (.cst (.int .i64 0)), none⟩,⟨some 31, .mov (.tmp 30), none⟩,⟨some 32, .mov (.tmp 4), some (31, true)⟩,⟨some 33, .arith .geq (.tmp 32) (.cst (.int .u8 48)), some (31, true)⟩,⟨some 34, .pick (.tmp 31) (.tmp 33) (.cst (.bool false)), none⟩,⟨some 35, .mov (.tmp 34), none⟩,⟨some 36, .mov (.tmp 4), some (35, true)⟩,⟨some 37, .arith .leq (.tmp 36) (.cst (.int .u8 57)), some (35, true)⟩,⟨some 38, .pick (.tmp 35) (.tmp 37) (.cst (.bool false)), none⟩,⟨some 28, .mov (.tmp 38), none⟩] :: K) fr S := rfl
def z53_r5 : List POper := [⟨some 2, .mov (.cst (.bool false)), none⟩]
@[simp] theorem z53_r5_go : gval T (.ops z53_r5 :: K) fr S = gval T (.ops [⟨some 2, .mov (.cst (.bool false)), none⟩] :: K) fr S := rfl
def z53_r10 : List POper := [⟨some 39, .arith .add (.tmp 7) (.cst (.int .i64 1)), none⟩,⟨some 7, .mov (.tmp 39), none⟩]
@[simp] theorem z53_r10_go : gval T (.ops z53_r10 :: K) fr S = gval T (.ops [⟨some 39, .arith .add (.tmp 7) (.cst (.int .i64 1)), none⟩,⟨some 7, .mov (.tmp 39), none⟩] :: K) fr S := rfl
def z53_l0 : PCode :=
  (.seq (.region z53_r2) (.seq (.cond (.tmp 8) .skip (.exit 0)) (.seq (.block 1 (.seq (.clr [(9, 10)] (.region z53_r3)) (.seq (.clr [(10, 13)] (.region z53_r4)) (.block 2 (.seq (.seq (.clr [(14, 20)] (.region z53_r6)) (.cond (.tmp 13) .skip (.seq (.clr [(20, 26)] (.region z53_r7)) (.cond (.tmp 13) .skip (.clr [(26, 28)] (.region z53_r8)))))) (.cond (.tmp 13) .skip (.seq (.clr [(29, 39)] (.region z53_r9)) (.cond (.tmp 28) .skip (.seq (.region z53_r5) .ret))))))))) (.clr [(39, 40)] (.region z53_r10)))))
@[simp] theorem label_Name_l0_go : gval T (.code z53_l0 :: K) fr S = gval T (.code (.seq (.region z53_r2) (.seq (.cond (.tmp 8) .skip (.exit 0)) (.seq (.block 1 (.seq (.clr [(9, 10)] (.region z53_r3)) (.seq (.clr [(10, 13)] (.region z53_r4)) (.block 2 (.seq (.seq (.clr [(14, 20)] (.region z53_r6)) (.cond (.tmp 13) .skip (.seq (.clr [(20, 26)] (.region z53_r7)) (.cond (.tmp 13) .skip (.clr [(26, 28)] (.region z53_r8)))))) (.cond (.tmp 13) .skip (.seq (.clr [(29, 39)] (.region z53_r9)) (.cond (.tmp 28) .skip (.seq (.region z53_r5) .ret))))))))) (.clr [(39, 40)] (.region z53_r10))))) :: K) fr S := rfl
def z53_r11 : List POper := [⟨some 40, .mov (.tmp 0), none⟩,⟨some 41, .arith .neq (.tmp 40) (.cst (.str [])), none⟩,⟨some 42, .mov (.tmp 41), none⟩,⟨some 43, .mov (.tmp 0), some (42, true)⟩,⟨some 44, .len true (.tmp 43), some (42, true)⟩,⟨some 45, .arith .leq (.tmp 44) (.cst (.int .i64 32)), some (42, true)⟩,⟨some 46, .pick (.tmp 42) (.tmp 45) (.cst (.bool false)), none⟩,⟨some 2, .mov (.tmp 46), none⟩]
@[simp] theorem z53_r11_go : gval T (.ops z53_r11 :: K) fr S = gval T (.ops [⟨some 40, .mov (.tmp 0), none⟩,⟨some 41, .arith .neq (.tmp 40) (.cst (.str [])), none⟩,⟨some 42, .mov (.tmp 41), none⟩,⟨some 43, .mov (.tmp 0), some (42, true)⟩,⟨some 44, .len true (.tmp 43), some (42, true)⟩,⟨some 45, .arith .leq (.tmp 44) (.cst (.int .i64 32)), some (42, true)⟩,⟨some 46, .pick (.tmp 42) (.tmp 45) (.cst (.bool false)), none⟩,⟨some 2, .mov (.tmp 46), none⟩] :: K) fr S := rfl
def z53 : PCodeFn :=
  ⟨1, [.tmp 2],
  (.seq (.region z53_r0) (.seq (.seq (.clr [(5, 6)] (.region z53_r1)) (.block 0 (.loop z53_l0))) (.seq (.clr [(40, 47)] (.region z53_r11)) .ret))), false⟩

def z37_r0 : List POper := [⟨some 2, .mov (.cst (.int .i64 0)), none⟩]
@[simp] theorem z37_r0_go : gval T (.ops z37_r0 :: K) fr S = gval T (.ops [⟨some 2, .mov (.cst (.int .i64 0)), none⟩] :: K) fr S := rfl
def z37_r1 : List POper := [⟨some 5, .mov (.tmp 0), none⟩,⟨some 6, .len false (.tmp 5), none⟩,⟨some 7, .arith .eql (.tmp 6) (.cst (.int .i64 0)), none⟩,⟨some 8, .mov (.tmp 7), none⟩,⟨some 9, .mov (.tmp 0), some (8, false)⟩,⟨some 10, .len false (.tmp 9), some (8, false)⟩,⟨some 11, .arith .gtr (.tmp 10) (.cst (.int .i64 120)), some (8, false)⟩,⟨some 12, .pick (.tmp 8) (.cst (.bool true)) (.tmp 11), none⟩]
@[simp] theorem z37_r1_go : gval T (.ops z37_r1 :: K) fr S = gval T (.ops [⟨some 5, .mov (.tmp 0), none⟩,⟨some 6, .len false (.tmp 5), none⟩,⟨some 7, .arith .eql (.tmp 6) (.cst (.int .i64 0)), none⟩,⟨some 8, .mov (.tmp 7), none⟩,⟨some 9, .mov (.tmp 0), some (8, false)⟩,⟨some 10, .len false (.tmp 9), some (8, false)⟩,⟨some 11, .arith .gtr (.tmp 10) (.cst (.int .i64 120)), some (8, false)⟩,⟨some 12, .pick (.tmp 8) (.cst (.bool true)) (.tmp 11), none⟩] :: K) fr S := rfl
def z37_r2 : List POper := [⟨some 2, .mov (.cst (.int .i64 2)), none⟩]
@[simp] theorem z37_r2_go : gval T (.ops z37_r2 :: K) fr S = gval T (.ops [⟨some 2, .mov (.cst (.int .i64 2)), none⟩] :: K) fr S := rfl
def z37_r3 : List POper := [⟨some 13, .mov (.tmp 0), none⟩,⟨some 14, .len false (.tmp 13), none⟩,⟨some 15, .mov (.cst (.int .i64 0)), none⟩]
@[simp] theorem z37_r3_go : gval T (.ops z37_r3 :: K) fr S = gval T (.ops [⟨some 13, .mov (.tmp 0), none⟩,⟨some 14, .len false (.tmp 13), none⟩,⟨some 15, .mov (.cst (.int .i64 0)), none⟩] :: K) fr S := rfl
def z37_r4 : List POper := [⟨some 16, .arith .lss (.tmp 15) (.tmp 14), none⟩]
@[simp] theorem z37_r4_go : gval T (.ops z37_r4 :: K) fr S = gval T (.ops [⟨some 16, .arith .lss (.tmp 15) (.tmp 14), none⟩] :: K) fr S := rfl
def z37_r5 : List POper := [⟨some 17, .mov (.tmp 15), none⟩,⟨some 18, .iaddr 2 (.tmp 13) (.tmp 15), none⟩,⟨some 19, .load true 2 false (.tmp 18), none⟩,⟨some 4, .alloc false [(.int .i64 0), (.int .i64 0)], none⟩,⟨some 3, .mov (.tmp 17), none⟩,⟨none, .store 2 (.tmp 4) (.tmp 19), none⟩]
@[simp] theorem z37_r5_go : gval T (.ops z37_r5 :: K) fr S = gval T (.ops [⟨some 17, .mov (.tmp 15), none⟩,⟨some 18, .iaddr 2 (.tmp 13) (.tmp 15), none⟩,⟨some 19, .load true 2 false (.tmp 18), none⟩,⟨some 4, .alloc false [(.int .i64 0), (.int .i64 0)], none⟩,⟨some 3, .mov (.tmp 17), none⟩,⟨none, .store 2 (.tmp 4) (.tmp 19), none⟩] :: K) fr S := rfl
def z37_r6 : List POper := [⟨some 21, .load true 2 false (.tmp 4), none⟩,⟨some 22, .call .std 260 [(.tmp 21)], none⟩,⟨some 23, .un .not (.tmp 22), none⟩,⟨some 20, .mov (.tmp 23), none⟩]
@[simp] theorem z37_r6_go : gval T (.ops z37_r6 :: K) fr S = gval T (.ops [⟨some 21, .load true 2 false (.tmp 4), none⟩,⟨some 22, .call .std 260 [(.tmp 21)], none⟩,⟨some 23, .un .not (.tmp 22), none⟩,⟨some 20, .mov (.tmp 23), none⟩] :: K) fr S := rfl
def z37_r7 : List POper := [⟨some 2, .mov (.cst (.int .i64 11)), none⟩]
@[simp] theorem z37_r7_go : gval T (.ops z37_r7 :: K) fr S = gval T (.ops [⟨some 2, .mov (.cst (.int .i64 11)), none⟩] :: K) fr S := rfl
def z37_r8 : List POper := [⟨some 25, .mov (.tmp 3), none⟩,⟨some 26, .arith .gtr (.tmp 25) (.cst (.int .i64 0)), none⟩,⟨some 27, .mov (.tmp 26), none⟩,⟨some 28, .faddr 0 (.tmp 4), some (27, true)⟩,⟨some 29, .load false 1 false (.tmp 28), some (27, true)⟩,⟨some 30, .mov (.tmp 0), some (27, true)⟩,⟨some 31, .mov (.tmp 3), some (27, true)⟩,⟨some 32, .arith .sub (.tmp 31) (.cst (.int .i64 1)), some (27, true)⟩,⟨some 33, .iaddr 2 (.tmp 30) (.tmp 32), some (27, true)⟩,⟨some 34, .faddr 0 (.tmp 33), some (27, true)⟩,⟨some 35, .load false 1 true (.tmp 34), some (27, true)⟩,⟨some 36, .arith .leq (.tmp 29) (.tmp 35), some (27, true)⟩,⟨some 37, .pick (.tmp 27) (.tmp 36) (.cst (.bool false)), none⟩,⟨some 24, .mov (.tmp 37), none⟩]
@[simp] theorem z37_r8_go : gval T (.ops z37_r8 :: K) fr S = gval T (.ops [⟨some 25, .mov (.tmp 3), none⟩,⟨some 26, .arith .gtr (.tmp 25) (.cst (.int .i64 0)), none⟩,⟨some 27, .mov (.tmp 26), none⟩,⟨some 28, .faddr 0 (.tmp 4), some (27, true)⟩,⟨some 29, .load false 1 false (.tmp 28), some (27, true)⟩,⟨some 30, .mov (.tmp 0), some (27, true)⟩,⟨some 31, .mov (.tmp 3), some (27, true)⟩,⟨some 32, .arith .sub (.tmp 31) (.cst (.int .i64 1)), some (27, true)⟩,⟨some 33, .iaddr 2 (.tmp 30) (.tmp 32), some (27, true)⟩,⟨some 34, .faddr 0 (.tmp 33), some (27, true)⟩,⟨some 35, .load false 1 true (.tmp 34), some (27, true)⟩,⟨some 36, .arith .leq (.tmp 29) (.tmp 35), some (27, true)⟩,⟨some 37, .pick (.tmp 27) (.tmp 36) (.cst (.bool false)), none⟩,⟨some 24, .mov (.tmp 37), none⟩] :: K) fr S := rfl
def z37_r9 : List POper := [⟨some 2, .mov (.cst (.int .i64 13)), none⟩]
@[simp] theorem z37_r9_go : gval T (.ops z37_r9 :: K) fr S = gval T (.ops [⟨some 2, .mov (.cst (.int .i64 13)), none⟩] :: K) fr S := rfl
def z37_r10 : List POper := [⟨some 38, .arith .add (.tmp 15) (.cst (.int .i64 1)), none⟩,⟨some 15, .mov (.tmp 38), none⟩]
@[simp] theorem z37_r10_go : gval T (.ops z37_r10 :: K) fr S = gval T (.ops [⟨some 38, .arith .add (.tmp 15) (.cst (.int .i64 1)), none⟩,⟨some 15, .mov (.tmp 38), none⟩] :: K) fr S := rfl
def z37_l0 : PCode :=
  (.seq (.region z37_r4) (.seq (.cond (.tmp 16) .skip (.exit 0)) (.seq (.block 1 (.seq (.clr [(17, 20)] (.region z37_r5)) (.block 2 (.seq (.clr [(21, 24)] (.region z37_r6)) (.cond (.tmp 20) (.seq (.region z37_r7) .ret) (.seq (.clr [(25, 38)] (.region z37_r8)) (.cond (.tmp 24) (.seq (.region z37_r9) .ret) .skip))))))) (.clr [(38, 39)] (.region z37_r10)))))
@[simp] theorem chunk_Check_l0_go : gval T (.code z37_l0 :: K) fr S = gval T (.code (.seq (.region z37_r4) (.seq (.cond (.tmp 16) .skip (.exit 0)) (.seq (.block 1 (.seq (.clr [(17, 20)] (.region z37_r5)) (.block 2 (.seq (.clr [(21, 24)] (.region z37_r6)) (.cond (.tmp 20) (.seq (.region z37_r7) .ret) (.seq (.clr [(25, 38)] (.region z37_r8)) (.cond (.tmp 24) (.seq (.region z37_r9) .ret) .skip))))))) (.clr [(38, 39)] (.region z37_r10))))) :: K) fr S := rfl
def z37_r11 : List POper := [⟨some 2, .mov (.cst (.int .i64 0)), none⟩]
@[simp] theorem z37_r11_go : gval T (.ops z37_r11 :: K) fr S = gval T (.ops [⟨some 2, .mov (.cst (.int .i64 0)), none⟩] :: K) fr S := rfl
def z37 : PCodeFn :=
  ⟨1, [.tmp 2],
  (.seq (.region z37_r0) (.seq (.seq (.clr [(5, 12)] (.region z37_r1)) (.cond (.tmp 12) (.seq (.region z37_r2) .ret) .skip)) (.seq (.seq (.region z37_r3) (.block 0 (.loop z37_l0))) (.seq (.region z37_r11) .ret)))), false⟩

def z29_r0 : List POper := [⟨some 4, .mov (.cst (.int .i64 0)), none⟩]
@[simp] theorem z29_r0_go : gval T (.ops z29_r0 :: K) fr S = gval T (.ops [⟨some 4, .mov (.cst (.int .i64 0)), none⟩] :: K) fr S := rfl
def z29_r1 : List POper := [⟨some 5, .mov (.cst (.int .i64 0)), none⟩]
@[simp] theorem z29_r1_go : gval T (.ops z29_r1 :: K) fr S = gval T (.ops [⟨some 5, .mov (.cst (.int .i64 0)), none⟩] :: K) fr S := rfl
def z29_r2 : List POper := [⟨some 8, .mov (.tmp 5), none⟩,⟨some 9, .mov (.tmp 0), none⟩,⟨some 10, .len false (.tmp 9), none⟩,⟨some 11, .arith .lss (.tmp 8) (.tmp 10), none⟩,⟨some 12, .mov (.tmp 11), none⟩,⟨some 13, .mov (.tmp 5), some (12, true)⟩,⟨some 14, .mov (.tmp 1), some (12, true)⟩,⟨some 15, .len false (.tmp 14), some (12, true)⟩,⟨some 16, .arith .lss (.tmp 13) (.tmp 15), some (12, true)⟩,⟨some 17, .pick (.tmp 12) (.tmp 16) (.cst (.bool false)), none⟩]
@[simp] theorem z29_r2_go : gval T (.ops z29_r2 :: K) fr S = gval T (.ops [⟨some 8, .mov (.tmp 5), none⟩,⟨some 9, .mov (.tmp 0), none⟩,⟨some 10, .len false (.tmp 9), none⟩,⟨some 11, .arith .lss (.tmp 8) (.tmp 10), none⟩,⟨some 12, .mov (.tmp 11), none⟩,⟨some 13, .mov (.tmp 5), some (12, true)⟩,⟨some 14, .mov (.tmp 1), some (12, true)⟩,⟨some 15, .len false (.tmp 14), some (12, true)⟩,⟨some 16, .arith .lss (.tmp 13) (.tmp 15), some (12, true)⟩,⟨some 17, .pick (.tmp 12) (.tmp 16) (.cst (.bool false)), none⟩] :: K) fr S := rfl
def z29_r4 : List POper := [⟨some 20, .mov (.tmp 0), none⟩,⟨some 21, .mov (.tmp 5), none⟩,⟨some 22, .iaddr 2 (.tmp 20) (.tmp 21), none⟩,⟨some 23, .faddr 0 (.tmp 22), none⟩,⟨some 24, .load false 1 true (.tmp 23), none⟩,⟨some 25, .mov (.tmp 1), none⟩,⟨some 26, .mov (.tmp 5), none⟩,⟨some 27, .iaddr 2 (.tmp 25) (.tmp 26), none⟩,⟨some 28, .faddr 0 (.tmp 27), none⟩,⟨some 29, .load false 1 true (.tmp 28), none⟩,⟨some 30, .call .pur 216 [(.tmp 24), (.tmp 29)], none⟩,⟨some 6, .mov (.tmp 30), none⟩]
@[simp] theorem z29_r4_go : gval T (.ops z29_r4 :: K) fr S = gval T (.ops [⟨some 20, .mov (.tmp 0), none⟩,⟨some 21, .mov (.tmp 5), none⟩,⟨some 22, .iaddr 2 (.tmp 20) (.tmp 21), none⟩,⟨some 23, .faddr 0 (.tmp 22), none⟩,⟨some 24, .load false 1 true (.tmp 23), none⟩,⟨some 25, .mov (.tmp 1), none⟩,⟨some 26, .mov (.tmp 5), none⟩,⟨some 27, .iaddr 2 (.tmp 25) (.tmp 26), none⟩,⟨some 28, .faddr 0 (.tmp 27), none⟩,⟨some 29, .load false 1 true (.tmp 28), none⟩,⟨some 30, .call .pur 216 [(.tmp 24), (.tmp 29)], none⟩,⟨some 6, .mov (.tmp 30), none⟩] :: K) fr S := rfl
def z29_r5 : List POper := [⟨some 31, .mov (.tmp 6), none⟩,⟨some 32, .arith .neq (.tmp 31) (.cst (.int .i64 0)), none⟩]
@[simp] theorem z29_r5_go : gval T (.ops z29_r5 :: K) fr S = gval T (.ops [⟨some 31, .mov (.tmp 6), none⟩,⟨some 32, .arith .neq (.tmp 31) (.cst (.int .i64 0)), none⟩] :: K) fr S := rfl
def z29_r6 : List POper := [⟨some 33, .mov (.tmp 6), none⟩,⟨some 4, .mov (.tmp 33), none⟩]
@[simp] theorem z29_r6_go : gval T (.ops z29_r6 :: K) fr S = gval T (.ops [⟨some 33, .mov (.tmp 6), none⟩,⟨some 4, .mov (.tmp 33), none⟩] :: K) fr S := rfl
def z29_r7 : List POper := [⟨some 34, .mov (.tmp 0), none⟩,⟨some 35, .mov (.tmp 5), none⟩,⟨some 36, .iaddr 2 (.tmp 34) (.tmp 35), none⟩,⟨some 37, .faddr 1 (.tmp 36), none⟩,⟨some 38, .load false 1 true (.tmp 37), none⟩,⟨some 39, .mov (.tmp 1), none⟩,⟨some 40, .mov (.tmp 5), none⟩,⟨some 41, .iaddr 2 (.tmp 39) (.tmp 40), none⟩,⟨some 42, .faddr 1 (.tmp 41), none⟩,⟨some 43, .load false 1 true (.tmp 42), none⟩,⟨some 44, .call .pur 216 [(.tmp 38), (.tmp 43)], none⟩,⟨some 7, .mov (.tmp 44), none⟩]
@[simp] theorem z29_r7_go : gval T (.ops z29_r7 :: K) fr S = gval T (.ops [⟨some 34, .mov (.tmp 0), none⟩,⟨some 35, .mov (.tmp 5), none⟩,⟨some 36, .iaddr 2 (.tmp 34) (.tmp 35), none⟩,⟨some 37, .faddr 1 (.tmp 36), none⟩,⟨some 38, .load false 1 true (.tmp 37), none⟩,⟨some 39, .mov (.tmp 1), none⟩,⟨some 40, .mov (.tmp 5), none⟩,⟨some 41, .iaddr 2 (.tmp 39) (.tmp 40), none⟩,⟨some 42, .faddr 1 (.tmp 41), none⟩,⟨some 43, .load false 1 true (.tmp 42), none⟩,⟨some 44, .call .pur 216 [(.tmp 38), (.tmp 43)], none⟩,⟨some 7, .mov (.tmp 44), none⟩] :: K) fr S := rfl
def z29_r8 : List POper := [⟨some 45, .mov (.tmp 7), none⟩,⟨some 46, .arith .neq (.tmp 45) (.cst (.int .i64 0)), none⟩]
@[simp] theorem z29_r8_go : gval T (.ops z29_r8 :: K) fr S = gval T (.ops [⟨some 45, .mov (.tmp 7), none⟩,⟨some 46, .arith .neq (.tmp 45) (.cst (.int .i64 0)), none⟩] :: K) fr S := rfl
def z29_r9 : List POper := [⟨some 47, .mov (.tmp 7), none⟩,⟨some 4, .mov (.tmp 47), none⟩]
@[simp] theorem z29_r9_go : gval T (.ops z29_r9 :: K) fr S = gval T (.ops [⟨some 47, .mov (.tmp 7), none⟩,⟨some 4, .mov (.tmp 47), none⟩] :: K) fr S := rfl
def z29_r3 : List POper := [⟨some 18, .mov (.tmp 5), none⟩,⟨some 19, .arith .add (.tmp 18) (.cst (.int .i64 1)), none⟩,⟨some 5, .mov (.tmp 19), none⟩]
@[simp] theorem z29_r3_go : gval T (.ops z29_r3 :: K) fr S = gval T (.ops [⟨some 18, .mov (.tmp 5), none⟩,⟨some 19, .arith .add (.tmp 18) (.cst (.int .i64 1)), none⟩,⟨some 5, .mov (.tmp 19), none⟩] :: K) fr S := rfl
def z29_l0 : PCode :=
  (.seq (.seq (.clr [(8, 17)] (.region z29_r2)) (.cond (.tmp 17) .skip (.exit 0))) (.seq (.block 1 (.seq (.seq (.clr [(20, 31)] (.region z29_r4)) (.seq (.clr [(31, 32)] (.region z29_r5)) (.cond (.tmp 32) (.seq (.clr [(33, 34)] (.region z29_r6)) .ret) .skip))) (.seq (.clr [(34, 45)] (.region z29_r7)) (.seq (.clr [(45, 46)] (.region z29_r8)) (.cond (.tmp 46) (.seq (.clr [(47, 48)] (.region z29_r9)) .ret) .skip))))) (.clr [(18, 20)] (.region z29_r3))))
@[simp] theorem ref06_Compare_l0_go : gval T (.code z29_l0 :: K) fr S = gval T (.code (.seq (.seq (.clr [(8, 17)] (.region z29_r2)) (.cond (.tmp 17) .skip (.exit 0))) (.seq (.block 1 (.seq (.seq (.clr [(20, 31)] (.region z29_r4)) (.seq (.clr [(31, 32)] (.region z29_r5)) (.cond (.tmp 32) (.seq (.clr [(33, 34)] (.region z29_r6)) .ret) .skip))) (.seq (.clr [(34, 45)] (.region z29_r7)) (.seq (.clr [(45, 46)] (.region z29_r8)) (.cond (.tmp 46) (.seq (.clr [(47, 48)] (.region z29_r9)) .ret) .skip))))) (.clr [(18, 20)] (.region z29_r3)))) :: K) fr S := rfl
def z29_r10 : List POper := [⟨some 48, .mov (.tmp 0), none⟩,⟨some 49, .len false (.tmp 48), none⟩,⟨some 50, .mov (.tmp 1), none⟩,⟨some 51, .len false (.tmp 50), none⟩,⟨some 52, .arith .lss (.tmp 49) (.tmp 51), none⟩]
@[simp] theorem z29_r10_go : gval T (.ops z29_r10 :: K) fr S = gval T (.ops [⟨some 48, .mov (.tmp 0), none⟩,⟨some 49, .len false (.tmp 48), none⟩,⟨some 50, .mov (.tmp 1), none⟩,⟨some 51, .len false (.tmp 50), none⟩,⟨some 52, .arith .lss (.tmp 49) (.tmp 51), none⟩] :: K) fr S := rfl
def z29_r11 : List POper := [⟨some 4, .mov (.cst (.int .i64 (-1))), none⟩]
@[simp] theorem z29_r11_go : gval T (.ops z29_r11 :: K) fr S = gval T (.ops [⟨some 4, .mov (.cst (.int .i64 (-1))), none⟩] :: K) fr S := rfl
def z29_r12 : List POper := [⟨some 53, .mov (.tmp 0), none⟩,⟨some 54, .len false (.tmp 53), none⟩,⟨some 55, .mov (.tmp 1), none⟩,⟨some 56, .len false (.tmp 55), none⟩,⟨some 57, .arith .gtr (.tmp 54) (.tmp 56), none⟩]
@[simp] theorem z29_r12_go : gval T (.ops z29_r12 :: K) fr S = gval T (.ops [⟨some 53, .mov (.tmp 0), none⟩,⟨some 54, .len false (.tmp 53), none⟩,⟨some 55, .mov (.tmp 1), none⟩,⟨some 56, .len false (.tmp 55), none⟩,⟨some 57, .arith .gtr (.tmp 54) (.tmp 56), none⟩] :: K) fr S := rfl
def z29_r13 : List POper := [⟨some 4, .mov (.cst (.int .i64 1)), none⟩]
@[simp] theorem z29_r13_go : gval T (.ops z29_r13 :: K) fr S = gval T (.ops [⟨some 4, .mov (.cst (.int .i64 1)), none⟩] :: K) fr S := rfl
def z29_r14 : List POper := [⟨some 4, .mov (.cst (.int .i64 0)), none⟩]
@[simp] theorem z29_r14_go : gval T (.ops z29_r14 :: K) fr S = gval T (.ops [⟨some 4, .mov (.cst (.int .i64 0)), none⟩] :: K) fr S := rfl
def z29 : PCodeFn :=
  ⟨2, [.tmp 4],
  (.seq (.region z29_r0) (.seq (.seq (.region z29_r1) (.block 0 (.loop z29_l0))) (.seq (.seq (.clr [(48, 52)] (.region z29_r10)) (.cond (.tmp 52) (.seq (.region z29_r11) .ret) .skip)) (.seq (.seq (.clr [(53, 57)] (.region z29_r12)) (.cond (.tmp 57) (.seq (.region z29_r13) .ret) .skip)) (.seq (.region z29_r14) .ret))))), false⟩

def z28_r0 : List POper := [⟨some 4, .mov (.cst (.int .i64 0)), none⟩,⟨some 5, .mov (.cst (.int .i64 0)), none⟩,⟨some 6, .mov (.cst (.int .i64 0)), none⟩]
@[simp] theorem z28_r0_go : gval T (.ops z28_r0 :: K) fr S = gval T (.ops [⟨some 4, .mov (.cst (.int .i64 0)), none⟩,⟨some 5, .mov (.cst (.int .i64 0)), none⟩,⟨some 6, .mov (.cst (.int .i64 0)), none⟩] :: K) fr S := rfl
def z28_r1 : List POper := [⟨some 10, .mov (.tmp 1), none⟩,⟨some 11, .arith .lss (.tmp 10) (.cst (.int .i64 0)), none⟩,⟨some 12, .mov (.tmp 11), none⟩,⟨some 13, .mov (.tmp 1), some (12, false)⟩,⟨some 14, .mov (.tmp 0), some (12, false)⟩,⟨some 15, .len false (.tmp 14), some (12, false)⟩,⟨some 16, .arith .gtr (.tmp 13) (.tmp 15), some (12, false)⟩,⟨some 17, .pick (.tmp 12) (.cst (.bool true)) (.tmp 16), none⟩]
@[simp] theorem z28_r1_go : gval T (.ops z28_r1 :: K) fr S = gval T (.ops [⟨some 10, .mov (.tmp 1), none⟩,⟨some 11, .arith .lss (.tmp 10) (.cst (.int .i64 0)), none⟩,⟨some 12, .mov (.tmp 11), none⟩,⟨some 13, .mov (.tmp 1), some (12, false)⟩,⟨some 14, .mov (.tmp 0), some (12, false)⟩,⟨some 15, .len false (.tmp 14), some (12, false)⟩,⟨some 16, .arith .gtr (.tmp 13) (.tmp 15), some (12, false)⟩,⟨some 17, .pick (.tmp 12) (.cst (.bool true)) (.tmp 16), none⟩] :: K) fr S := rfl
def z28_r2 : List POper := [⟨some 4, .mov (.cst (.int .i64 0)), none⟩,⟨some 5, .mov (.cst (.int .i64 0)), none⟩,⟨some 6, .mov (.cst (.int .i64 2)), none⟩]
@[simp] theorem z28_r2_go : gval T (.ops z28_r2 :: K) fr S = gval T (.ops [⟨some 4, .mov (.cst (.int .i64 0)), none⟩,⟨some 5, .mov (.cst (.int .i64 0)), none⟩,⟨some 6, .mov (.cst (.int .i64 2)), none⟩] :: K) fr S := rfl
def z28_r3 : List POper := [⟨some 7, .mov (.cst (.int .u64 0)), none⟩]
@[simp] theorem z28_r3_go : gval T (.ops z28_r3 :: K) fr S = gval T (.ops [⟨some 7, .mov (.cst (.int .u64 0)), none⟩] :: K) fr S := rfl
def z28_r4 : List POper := [⟨some 18, .mov (.tmp 0), none⟩,⟨some 19, .mov (.tmp 1), none⟩,⟨some 20, .slc 1 (some (.tmp 19)) none (.tmp 18), none⟩,⟨some 21, .len false (.tmp 20), none⟩,⟨some 22, .mov (.cst (.int .i64 0)), none⟩]
@[simp] theorem z28_r4_go : gval T (.ops z28_r4 :: K) fr S = gval T (.ops [⟨some 18, .mov (.tmp 0), none⟩,⟨some 19, .mov (.tmp 1), none⟩,⟨some 20, .slc 1 (some (.tmp 19)) none (.tmp 18), none⟩,⟨some 21, .len false (.tmp 20), none⟩,⟨some 22, .mov (.cst (.int .i64 0)), none⟩] :: K) fr S := rfl
def z28_r5 : List POper := [⟨some 23, .arith .lss (.tmp 22) (.tmp 21), none⟩]
@[simp] theorem z28_r5_go : gval T (.ops z28_r5 :: K) fr S = gval T (.ops [⟨some 23, .arith .lss (.tmp 22) (.tmp 21), none⟩] :: K) fr S := rfl
def z28_r6 : List POper := [⟨some 24, .mov (.tmp 22), none⟩,⟨some 25, .iaddr 1 (.tmp 20) (.tmp 22), none⟩,⟨some 26, .load false 1 false (.tmp 25), none⟩,⟨some 8, .mov (.tmp 24), none⟩,⟨some 9, .mov (.tmp 26), none⟩]
@[simp] theorem z28_r6_go : gval T (.ops z28_r6 :: K) fr S = gval T (.ops [⟨some 24, .mov (.tmp 22), none⟩,⟨some 25, .iaddr 1 (.tmp 20) (.tmp 22), none⟩,⟨some 26, .load false 1 false (.tmp 25), none⟩,⟨some 8, .mov (.tmp 24), none⟩,⟨some 9, .mov (.tmp 26), none⟩] :: K) fr S := rfl
def z28_r7 : List POper := [⟨some 27, .mov (.tmp 8), none⟩,⟨some 28, .arith .eql (.tmp 27) (.cst (.int .i64 8)), none⟩,⟨some 29, .mov (.tmp 28), none⟩,⟨some 30, .mov (.tmp 9), some (29, true)⟩,⟨some 31, .arith .gtr (.tmp 30) (.cst (.int .u8 127)), some (29, true)⟩,⟨some 32, .pick (.tmp 29) (.tmp 31) (.cst (.bool false)), none⟩,⟨some 33, .mov (.tmp 32), none⟩,⟨some 34, .mov (.tmp 8), some (33, false)⟩,⟨some 35, .arith .gtr (.tmp 34) (.cst (.int .i64 0)), some (33, false)⟩,⟨some 36, .mov (.tmp 35), some (33, false)⟩,⟨some 37, .mov (.tmp 9), some (36, true)⟩,⟨some 38, .arith .eql (.tmp 37) (.cst (.int .u8 0)), some (36, true)⟩,⟨some 39, .pick (.tmp 36) (.tmp 38) (.cst (.bool false)), some (33, false)⟩,⟨some 40, .pick (.tmp 33) (.cst (.bool true)) (.tmp 39), none⟩]
@[simp] theorem z28_r7_go : gval T (.ops z28_r7 :: K) fr S = gval T (.ops [⟨some 27, .mov (.tmp 8), none⟩,⟨some 28, .arith .eql (.tmp 27) (.cst (.int .i64 8)), none⟩,⟨some 29, .mov (.tmp 28), none⟩,⟨some 30, .mov (.tmp 9), some (29, true)⟩,⟨some 31, .arith .gtr (.tmp 30) (.cst (.int .u8 127)), some (29, true)⟩,⟨some 32, .pick (.tmp 29) (.tmp 31) (.cst (.bool false)), none⟩,⟨some 33, .mov (.tmp 32), none⟩,⟨some 34, .mov (.tmp 8), some (33, false)⟩,⟨some 35, .arith .gtr (.tmp 34) (.cst (.int .i64 0)), some (33, false)⟩,⟨some 36, .mov (.tmp 35), some (33, false)⟩,⟨some 37, .mov (.tmp 9), some (36, true)⟩,⟨some 38, .arith .eql (.tmp 37) (.cst (.int .u8 0)), some (36, true)⟩,⟨some 39, .pick (.tmp 36) (.tmp 38) (.cst (.bool false)), some (33, false)⟩,⟨some 40, .pick (.tmp 33) (.cst (.bool true)) (.tmp 39), none⟩] :: K) fr S := rfl
def z28_r8 : List POper := [⟨some 4, .mov (.cst (.int .i64 0)), none⟩,⟨some 5, .mov (.cst (.int .i64 0)), none⟩,⟨some 6, .mov (.cst (.int .i64 5)), none⟩]
@[simp] theorem z28_r8_go : gval T (.ops z28_r8 :: K) fr S = gval T (.ops [⟨some 4, .mov (.cst (.int .i64 0)), none⟩,⟨some 5, .mov (.cst (.int .i64 0)), none⟩,⟨some 6, .mov (.cst (.int .i64 5)), none⟩] :: K) fr S := rfl
def z28_r9 : List POper := [⟨some 41, .mov (.tmp 7), none⟩,⟨some 42, .mov (.tmp 9), none⟩,⟨some 43, .arith .and (.tmp 42) (.cst (.int .u8 127)), none⟩,⟨some 44, .toInt .u64 (.tmp 43), none⟩,⟨some 45, .mov (.tmp 8), none⟩,⟨some 46, .arith .mul (.cst (.int .i64 7)) (.tmp 45), none⟩,⟨some 47, .arith .shl (.tmp 44) (.tmp 46), none⟩,⟨some 48, .arith .or (.tmp 41) (.tmp 47), none⟩,⟨some 7, .mov (.tmp 48), none⟩]
@[simp] theorem z28_r9_go : gval T (.ops z28_r9 :: K) fr S = gval T (.ops [⟨some 41, .mov (.tmp 7), none⟩,⟨some 42, .mov (.tmp 9), none⟩,⟨some 43, .arith .and (.tmp 42) (.cst (.int .u8 127)), none⟩,⟨some 44, .toInt .u64 (.tmp 43), none⟩,⟨some 45, .mov (.tmp 8), none⟩,⟨some 46, .arith .mul (.cst (.int .i64 7)) (.tmp 45), none⟩,⟨some 47, .arith .shl (.tmp 44) (.tmp 46), none⟩,⟨some 48, .arith .or (.tmp 41) (.tmp 47), none⟩,⟨some 7, .mov (.tmp 48), none⟩] :: K) fr S := rfl
def z28_r10 : List POper := [⟨some 49, .mov (.tmp 9), none⟩,⟨some 50, .arith .lss (.tmp 49) (.cst (.int .u8 128)), none⟩]
@[simp] theorem z28_r10_go : gval T (.ops z28_r10 :: K) fr S = gval T (.ops [⟨some 49, .mov (.tmp 9), none⟩,⟨some 50, .arith .lss (.tmp 49) (.cst (.int .u8 128)), none⟩] :: K) fr S := rfl
def z28_r11 : List POper := [⟨some 51, .mov (.tmp 7), none⟩,⟨some 52, .toInt .i64 (.tmp 51), none⟩,⟨some 53, .mov (.tmp 1), none⟩,⟨some 54, .mov (.tmp 8), none⟩,⟨some 55, .arith .add (.tmp 53) (.tmp 54), none⟩,⟨some 56, .arith .add (.tmp 55) (.cst (.int .i64 1)), none⟩,⟨some 4, .mov (.tmp 52), none⟩,⟨some 5, .mov (.tmp 56), none⟩,⟨some 6, .mov (.cst (.int .i64 0)), none⟩]
@[simp] theorem z28_r11_go : gval T (.ops z28_r11 :: K) fr S = gval T (.ops [⟨some 51, .mov (.tmp 7), none⟩,⟨some 52, .toInt .i64 (.tmp 51), none⟩,⟨some 53, .mov (.tmp 1), none⟩,⟨some 54, .mov (.tmp 8), none⟩,⟨some 55, .arith .add (.tmp 53) (.tmp 54), none⟩,⟨some 56, .arith .add (.tmp 55) (.cst (.int .i64 1)), none⟩,⟨some 4, .mov (.tmp 52), none⟩,⟨some 5, .mov (.tmp 56), none⟩,⟨some 6, .mov (.cst (.int .i64 0)), none⟩] :: K) fr S := rfl
def z28_r12 : List POper := [⟨some 57, .arith .add (.tmp 22) (.cst (.int .i64 1)), none⟩,⟨some 22, .mov (.tmp 57), none⟩]
@[simp] theorem z28_r12_go : gval T (.ops z28_r12 :: K) fr S = gval T (.ops [⟨some 57, .arith .add (.tmp 22) (.cst (.int .i64 1)), none⟩,⟨some 22, .mov (.tmp 57), none⟩] :: K) fr S := rfl
def z28_l0 : PCode :=
  (.seq (.region z28_r5) (.seq (.cond (.tmp 23) .skip (.exit 0)) (.seq (.block 1 (.seq (.clr [(24, 27)] (.region z28_r6)) (.seq (.seq (.clr [(27, 40)] (.region z28_r7)) (.cond (.tmp 40) (.seq (.region z28_r8) .ret) .skip)) (.seq (.clr [(41, 49)] (.region z28_r9)) (.seq (.clr [(49, 50)] (.region z28_r10)) (.cond (.tmp 50) (.seq (.clr [(51, 57)] (.region z28_r11)) .ret) .skip)))))) (.clr [(57, 58)] (.region z28_r12)))))
@[simp] theorem frame_GetUint_l0_go : gval T (.code z28_l0 :: K) fr S = gval T (.code (.seq (.region z28_r5) (.seq (.cond (.tmp 23) .skip (.exit 0)) (.seq (.block 1 (.seq (.clr [(24, 27)] (.region z28_r6)) (.seq (.seq (.clr [(27, 40)] (.region z28_r7)) (.cond (.tmp 40) (.seq (.region z28_r8) .ret) .skip)) (.seq (.clr [(41, 49)] (.region z28_r9)) (.seq (.clr [(49, 50)] (.region z28_r10)) (.cond (.tmp 50) (.seq (.clr [(51, 57)] (.region z28_r11)) .ret) .skip)))))) (.clr [(57, 58)] (.region z28_r12))))) :: K) fr S := rfl
def z28_r13 : List POper := [⟨some 4, .mov (.cst (.int .i64 0)), none⟩,⟨some 5, .mov (.cst (.int .i64 0)), none⟩,⟨some 6, .mov (.cst (.int .i64 4)), none⟩]
@[simp] theorem z28_r13_go : gval T (.ops z28_r13 :: K) fr S = gval T (.ops [⟨some 4, .mov (.cst (.int .i64 0)), none⟩,⟨some 5, .mov (.cst (.int .i64 0)), none⟩,⟨some 6, .mov (.cst (.int .i64 4)), none⟩] :: K) fr S := rfl
def z28 : PCodeFn :=
  ⟨2, [.tmp 4, .tmp 5, .tmp 6],
  (.seq (.region z28_r0) (.seq (.seq (.clr [(10, 17)] (.region z28_r1)) (.cond (.tmp 17) (.seq (.region z28_r2) .ret) .skip)) (.seq (.region z28_r3) (.seq (.seq (.clr [(18, 20)] (.region z28_r4)) (.block 0 (.loop z28_l0))) (.seq (.region z28_r13) .ret))))), false⟩

def z31_r0 : List POper := [⟨some 4, .mov (.cst (.str [])), none⟩,⟨some 5, .mov (.cst (.int .i64 0)), none⟩,⟨some 6, .mov (.cst (.int .i64 0)), none⟩]
@[simp] theorem z31_r0_go : gval T (.ops z31_r0 :: K) fr S = gval T (.ops [⟨some 4, .mov (.cst (.str [])), none⟩,⟨some 5, .mov (.cst (.int .i64 0)), none⟩,⟨some 6, .mov (.cst (.int .i64 0)), none⟩] :: K) fr S := rfl
def z31_r1 : List POper := [⟨some 11, .mov (.tmp 0), none⟩,⟨some 12, .mov (.tmp 1), none⟩,⟨some 13, .call .std 110 [(.tmp 11), (.tmp 12)], none⟩,⟨some 10, .mov (.tmp 13), none⟩,⟨some 14, .extract 0 (.tmp 10), none⟩,⟨some 15, .extract 1 (.tmp 10), none⟩,⟨some 16, .extract 2 (.tmp 10), none⟩,⟨some 7, .mov (.tmp 14), none⟩,⟨some 8, .mov (.tmp 15), none⟩,⟨some 9, .mov (.tmp 16), none⟩]
@[simp] theorem z31_r1_go : gval T (.ops z31_r1 :: K) fr S = gval T (.ops [⟨some 11, .mov (.tmp 0), none⟩,⟨some 12, .mov (.tmp 1), none⟩,⟨some 13, .call .std 110 [(.tmp 11), (.tmp 12)], none⟩,⟨some 10, .mov (.tmp 13), none⟩,⟨some 14, .extract 0 (.tmp 10), none⟩,⟨some 15, .extract 1 (.tmp 10), none⟩,⟨some 16, .extract 2 (.tmp 10), none⟩,⟨some 7, .mov (.tmp 14), none⟩,⟨some 8, .mov (.tmp 15), none⟩,⟨some 9, .mov (.tmp 16), none⟩] :: K) fr S := rfl
def z31_r2 : List POper := [⟨some 18, .mov (.tmp 9), none⟩,⟨some 19, .arith .neq (.tmp 18) (.cst (.int .i64 0)), none⟩,⟨some 17, .mov (.tmp 19), none⟩]
@[simp] theorem z31_r2_go : gval T (.ops z31_r2 :: K) fr S = gval T (.ops [⟨some 18, .mov (.tmp 9), none⟩,⟨some 19, .arith .neq (.tmp 18) (.cst (.int .i64 0)), none⟩,⟨some 17, .mov (.tmp 19), none⟩] :: K) fr S := rfl
def z31_r3 : List POper := [⟨some 20, .mov (.tmp 9), none⟩,⟨some 4, .mov (.cst (.str [])), none⟩,⟨some 5, .mov (.cst (.int .i64 0)), none⟩,⟨some 6, .mov (.tmp 20), none⟩]
@[simp] theorem z31_r3_go : gval T (.ops z31_r3 :: K) fr S = gval T (.ops [⟨some 20, .mov (.tmp 9), none⟩,⟨some 4, .mov (.cst (.str [])), none⟩,⟨some 5, .mov (.cst (.int .i64 0)), none⟩,⟨some 6, .mov (.tmp 20), none⟩] :: K) fr S := rfl
def z31_r4 : List POper := [⟨some 22, .mov (.tmp 7), none⟩,⟨some 23, .arith .gtr (.tmp 22) (.cst (.int .i64 65535)), none⟩,⟨some 21, .mov (.tmp 23), none⟩]
@[simp] theorem z31_r4_go : gval T (.ops z31_r4 :: K) fr S = gval T (.ops [⟨some 22, .mov (.tmp 7), none⟩,⟨some 23, .arith .gtr (.tmp 22) (.cst (.int .i64 65535)), none⟩,⟨some 21, .mov (.tmp 23), none⟩] :: K) fr S := rfl
def z31_r5 : List POper := [⟨some 4, .mov (.cst (.str [])), none⟩,⟨some 5, .mov (.cst (.int .i64 0)), none⟩,⟨some 6, .mov (.cst (.int .i64 3)), none⟩]
@[simp] theorem z31_r5_go : gval T (.ops z31_r5 :: K) fr S = gval T (.ops [⟨some 4, .mov (.cst (.str [])), none⟩,⟨some 5, .mov (.cst (.int .i64 0)), none⟩,⟨some 6, .mov (.cst (.int .i64 3)), none⟩] :: K) fr S := rfl
def z31_r6 : List POper := [⟨some 25, .mov (.tmp 7), none⟩,⟨some 26, .mov (.tmp 0), none⟩,⟨some 27, .len false (.tmp 26), none⟩,⟨some 28, .mov (.tmp 8), none⟩,⟨some 29, .arith .sub (.tmp 27) (.tmp 28), none⟩,⟨some 30, .arith .gtr (.tmp 25) (.tmp 29), none⟩,⟨some 24, .mov (.tmp 30), none⟩]
@[simp] theorem z31_r6_go : gval T (.ops z31_r6 :: K) fr S = gval T (.ops [⟨some 25, .mov (.tmp 7), none⟩,⟨some 26, .mov (.tmp 0), none⟩,⟨some 27, .len false (.tmp 26), none⟩,⟨some 28, .mov (.tmp 8), none⟩,⟨some 29, .arith .sub (.tmp 27) (.tmp 28), none⟩,⟨some 30, .arith .gtr (.tmp 25) (.tmp 29), none⟩,⟨some 24, .mov (.tmp 30), none⟩] :: K) fr S := rfl
def z31_r7 : List POper := [⟨some 4, .mov (.cst (.str [])), none⟩,⟨some 5, .mov (.cst (.int .i64 0)), none⟩,⟨some 6, .mov (.cst (.int .i64 4)), none⟩]
@[simp] theorem z31_r7_go : gval T (.ops z31_r7 :: K) fr S = gval T (.ops [⟨some 4, .mov (.cst (.str [])), none⟩,⟨some 5, .mov (.cst (.int .i64 0)), none⟩,⟨some 6, .mov (.cst (.int .i64 4)), none⟩] :: K) fr S := rfl
def z31_r8 : List POper := [⟨some 31, .mov (.tmp 0), none⟩,⟨some 32, .mov (.tmp 8), none⟩,⟨some 33, .mov (.tmp 8), none⟩,⟨some 34, .mov (.tmp 7), none⟩,⟨some 35, .arith .add (.tmp 33) (.tmp 34), none⟩,⟨some 36, .slc 1 (some (.tmp 32)) (some (.tmp 35)) (.tmp 31), none⟩,⟨some 37, .toStr (.tmp 36), none⟩,⟨some 38, .mov (.tmp 8), none⟩,⟨some 39, .mov (.tmp 7), none⟩,⟨some 40, .arith .add (.tmp 38) (.tmp 39), none⟩,⟨some 4, .mov (.tmp 37), none⟩,⟨some 5, .mov (.tmp 40), none⟩,⟨some 6, .mov (.cst (.int .i64 0)), none⟩]
@[simp] theorem z31_r8_go : gval T (.ops z31_r8 :: K) fr S = gval T (.ops [⟨some 31, .mov (.tmp 0), none⟩,⟨some 32, .mov (.tmp 8), none⟩,⟨some 33, .mov (.tmp 8), none⟩,⟨some 34, .mov (.tmp 7), none⟩,⟨some 35, .arith .add (.tmp 33) (.tmp 34), none⟩,⟨some 36, .slc 1 (some (.tmp 32)) (some (.tmp 35)) (.tmp 31), none⟩,⟨some 37, .toStr (.tmp 36), none⟩,⟨some 38, .mov (.tmp 8), none⟩,⟨some 39, .mov (.tmp 7), none⟩,⟨some 40, .arith .add (.tmp 38) (.tmp 39), none⟩,⟨some 4, .mov (.tmp 37), none⟩,⟨some 5, .mov (.tmp 40), none⟩,⟨some 6, .mov (.cst (.int .i64 0)), none⟩] :: K) fr S := rfl
def z31 : PCodeFn :=
  ⟨2, [.tmp 4, .tmp 5, .tmp 6],
  (.seq (.region z31_r0) (.seq (.clr [(10, 17)] (.region z31_r1)) (.seq (.block 0 (.seq (.clr [(18, 20)] (.region z31_r2)) (.cond (.tmp 17) (.seq (.clr [(20, 21)] (.region z31_r3)) .ret) (.seq (.clr [(22, 24)] (.region z31_r4)) (.cond (.tmp 21) (.seq (.region z31_r5) .ret) (.seq (.clr [(25, 31)] (.region z31_r6)) (.cond (.tmp 24) (.seq (.region z31_r7) .ret) .skip))))))) (.seq (.clr [(31, 41)] (.region z31_r8)) .ret)))), false⟩

def z33_r0 : List POper := [⟨some 4, .mov (.cst .nils), none⟩]
@[simp] theorem z33_r0_go : gval T (.ops z33_r0 :: K) fr S = gval T (.ops [⟨some 4, .mov (.cst .nils), none⟩] :: K) fr S := rfl
def z33_r1 : List POper := [⟨some 7, .mov (.tmp 1), none⟩,⟨some 8, .call .std 270 [(.tmp 7)], none⟩,⟨some 5, .mov (.tmp 8), none⟩]
@[simp] theorem z33_r1_go : gval T (.ops z33_r1 :: K) fr S = gval T (.ops [⟨some 7, .mov (.tmp 1), none⟩,⟨some 8, .call .std 270 [(.tmp 7)], none⟩,⟨some 5, .mov (.tmp 8), none⟩] :: K) fr S := rfl
def z33_r2 : List POper := [⟨some 9, .mov (.cst (.int .i64 0)), none⟩]
@[simp] theorem z33_r2_go : gval T (.ops z33_r2 :: K) fr S = gval T (.ops [⟨some 9, .mov (.cst (.int .i64 0)), none⟩] :: K) fr S := rfl
def z33_r3 : List POper := [⟨some 10, .arith .lss (.tmp 9) (.cst (.int .i64 4)), none⟩]
@[simp] theorem z33_r3_go : gval T (.ops z33_r3 :: K) fr S = gval T (.ops [⟨some 10, .arith .lss (.tmp 9) (.cst (.int .i64 4)), none⟩] :: K) fr S := rfl
def z33_r4 : List POper := [⟨some 11, .mov (.tmp 9), none⟩,⟨some 6, .mov (.tmp 11), none⟩]
@[simp] theorem z33_r4_go : gval T (.ops z33_r4 :: K) fr S = gval T (.ops [⟨some 11, .mov (.tmp 9), none⟩,⟨some 6, .mov (.tmp 11), none⟩] :: K) fr S := rfl
def z33_r5 : List POper := [⟨some 12, .mov (.tmp 0), none⟩,⟨some 13, .mov (.tmp 5), none⟩,⟨some 14, .mov (.tmp 6), none⟩,⟨some 15, .arith .mul (.cst (.int .i64 8)) (.tmp 14), none⟩,⟨some 16, .arith .shr (.tmp 13) (.tmp 15), none⟩,⟨some 17, .toInt .u8 (.tmp 16), none⟩,⟨some 18, .bsl false (.int .u8 0) 1 [(0, (.tmp 17))], none⟩,⟨some 19, .app 1 1 (.tmp 12) (.tmp 18), none⟩,⟨some 0, .mov (.tmp 19), none⟩]
@[simp] theorem z33_r5_go : gval T (.ops z33_r5 :: K) fr S = gval T (.ops [⟨some 12, .mov (.tmp 0), none⟩,⟨some 13, .mov (.tmp 5), none⟩,⟨some 14, .mov (.tmp 6), none⟩,⟨some 15, .arith .mul (.cst (.int .i64 8)) (.tmp 14), none⟩,⟨some 16, .arith .shr (.tmp 13) (.tmp 15), none⟩,⟨some 17, .toInt .u8 (.tmp 16), none⟩,⟨some 18, .bsl false (.int .u8 0) 1 [(0, (.tmp 17))], none⟩,⟨some 19, .app 1 1 (.tmp 12) (.tmp 18), none⟩,⟨some 0, .mov (.tmp 19), none⟩] :: K) fr S := rfl
def z33_r6 : List POper := [⟨some 20, .arith .add (.tmp 9) (.cst (.int .i64 1)), none⟩,⟨some 9, .mov (.tmp 20), none⟩]
@[simp] theorem z33_r6_go : gval T (.ops z33_r6 :: K) fr S = gval T (.ops [⟨some 20, .arith .add (.tmp 9) (.cst (.int .i64 1)), none⟩,⟨some 9, .mov (.tmp 20), none⟩] :: K) fr S := rfl
def z33_l0 : PCode :=
  (.seq (.region z33_r3) (.seq (.cond (.tmp 10) .skip (.exit 0)) (.seq (.block 1 (.seq (.clr [(11, 12)] (.region z33_r4)) (.clr [(12, 20)] (.region z33_r5)))) (.clr [(20, 21)] (.region z33_r6)))))
@[simp] theorem frame_sealed_l0_go : gval T (.code z33_l0 :: K) fr S = gval T (.code (.seq (.region z33_r3) (.seq (.cond (.tmp 10) .skip (.exit 0)) (.seq (.block 1 (.seq (.clr [(11, 12)] (.region z33_r4)) (.clr [(12, 20)] (.region z33_r5)))) (.clr [(20, 21)] (.region z33_r6))))) :: K) fr S := rfl
def z33_r7 : List POper := [⟨some 21, .mov (.tmp 0), none⟩,⟨some 4, .mov (.tmp 21), none⟩]
@[simp] theorem z33_r7_go : gval T (.ops z33_r7 :: K) fr S = gval T (.ops [⟨some 21, .mov (.tmp 0), none⟩,⟨some 4, .mov (.tmp 21), none⟩] :: K) fr S := rfl
def z33 : PCodeFn :=
  ⟨2, [.tmp 4],
  (.seq (.region z33_r0) (.seq (.clr [(7, 9)] (.region z33_r1)) (.seq (.seq (.region z33_r2) (.block 0 (.loop z33_l0))) (.seq (.clr [(21, 22)] (.region z33_r7)) .ret)))), false⟩

def z44_r0 : List POper := [⟨some 2, .mov (.cst (.bool false)), none⟩]
@[simp] theorem z44_r0_go : gval T (.ops z44_r0 :: K) fr S = gval T (.ops [⟨some 2, .mov (.cst (.bool false)), none⟩] :: K) fr S := rfl
def z44_r1 : List POper := [⟨some 5, .mov (.tmp 0), none⟩,⟨some 6, .len true (.tmp 5), none⟩,⟨some 7, .mov (.cst (.int .i64 0)), none⟩]
@[simp] theorem z44_r1_go : gval T (.ops z44_r1 :: K) fr S = gval T (.ops [⟨some 5, .mov (.tmp 0), none⟩,⟨some 6, .len true (.tmp 5), none⟩,⟨some 7, .mov (.cst (.int .i64 0)), none⟩] :: K) fr S := rfl
def z44_r2 : List POper := [⟨some 8, .arith .lss (.tmp 7) (.tmp 6), none⟩]
@[simp] theorem z44_r2_go : gval T (.ops z44_r2 :: K) fr S = gval T (.ops [⟨some 8, .arith .lss (.tmp 7) (.tmp 6), none⟩] :: K) fr S := rfl
def z44_r3 : List POper := [⟨some 9, .mov (.tmp 7), none⟩,⟨some 3, .mov (.tmp 9), none⟩]
@[simp] theorem z44_r3_go : gval T (.ops z44_r3 :: K) fr S = gval T (.ops [⟨some 9, .mov (.tmp 7), none⟩,⟨some 3, .mov (.tmp 9), none⟩] :: K) fr S := rfl
def z44_r4 : List POper := [⟨some 10, .mov (.tmp 0), none⟩,⟨some 11, .mov (.tmp 3), none⟩,⟨some 12, .idxs (.tmp 10) (.tmp 11), none⟩,⟨some 4, .mov (.tmp 12), none⟩]
@[simp] theorem z44_r4_go : gval T (.ops z44_r4 :: K) fr S = gval T (.ops [⟨some 10, .mov (.tmp 0), none⟩,⟨some 11, .mov (.tmp 3), none⟩,⟨some 12, .idxs (.tmp 10) (.tmp 11), none⟩,⟨some 4, .mov (.tmp 12), none⟩] :: K) fr S := rfl
def z44_r5 : List POper := [⟨some 13, .mov (.tmp 4), none⟩,⟨some 14, .arith .geq (.tmp 13) (.cst (.int .u8 97)), none⟩,⟨some 15, .mov (.tmp 14), none⟩,⟨some 16, .mov (.tmp 4), some (15, true)⟩,⟨some 17, .arith .leq (.tmp 16) (.cst (.int .u8 122)), some (15, true)⟩,⟨some 18, .pick (.tmp 15) (.tmp 17) (.cst (.bool false)), none⟩,⟨some 19, .mov (.tmp 18), none⟩,⟨some 20, .mov (.tmp 4), some (19, false)⟩,⟨some 21, .arith .geq (.tmp 20) (.cst (.int .u8 48)), some (19, false)⟩,⟨some 22, .mov (.tmp 21), some (19, false)⟩,⟨some 23, .mov (.tmp 4), some (22, true)⟩,⟨some 24, .arith .leq (.tmp 23) (.cst (.int .u8 57)), some (22, true)⟩,⟨some 25, .pick (.tmp 22) (.tmp 24) (.cst (.bool false)), some (19, false)⟩,⟨some 26, .pick (.tmp 19) (.cst (.bool true)) (.tmp 25), none⟩,⟨some 27, .mov (.tmp 26), none⟩,⟨some 28, .mov (.tmp 4), some (27, false)⟩,⟨some 29, .arith .eql (.tmp 28) (.cst (.int .u8 46)), some (27, false)⟩,⟨some 30, .pick (.tmp 27) (.cst (.bool true)) (.tmp 29), none⟩,⟨some 31, .mov (.tmp 30), none⟩,⟨some 32, .mov (.tmp 4), some (31, false)⟩,⟨some 33, .arith .eql (.tmp 32) (.cst (.int .u8 45)), some (31, false)⟩,⟨some 34, .pick (.tmp 31) (.cst (.bool true)) (.tmp 33), none⟩,⟨some 35, .un .not (.tmp 34), none⟩]
@[simp] theorem z44_r5_go : gval T (.ops z44_r5 :: K) fr S = gval T (.ops [⟨some 13, .mov (.tmp 4), none⟩,⟨some 14, .arith .geq (.tmp 13) (.cst (.int .u8 97)), none⟩,⟨some 15, .mov (.tmp 14), none⟩,⟨some 16, .mov (.tmp 4), some (15, true)⟩,⟨some 17, .arith .leq (.tmp 16) (.cst (.int .u8 122)), some (15, true)⟩,⟨some 18, .pick (.tmp 15) (.tmp 17) (.cst (.bool false)), none⟩,⟨some 19, .mov (.tmp 18), none⟩,⟨some 20, .mov (.tmp 4), some (19, false)⟩,⟨some 21, .arith .geq (.tmp 20) (.cst (.int .u8 48)), some (19, false)⟩,⟨some 22, .mov (.tmp 21), some (19, false)⟩,⟨some 23, .mov (.tmp 4), some (22, true)⟩,⟨some 24, .arith .leq (.tmp 23) (.cst (.int .u8 57)), some (22, true)⟩,⟨some 25, .pick (.tmp 22) (.tmp 24) (.cst (.bool false)), some (19, false)⟩,⟨some 26, .pick (.tmp 19) (.cst (.bool true)) (.tmp 25), none⟩,⟨some 27, .mov (.tmp 26), none⟩,⟨some 28, .mov (.tmp 4), some (27, false)⟩,⟨some 29, .arith .eql (.tmp 28) (.cst (.int .u8 46)), some (27, false)⟩,⟨some 30, .pick (.tmp 27) (.cst (.bool true)) (.tmp 29), none⟩,⟨some 31, .mov (.tmp 30), none⟩,⟨some 32, .mov (.tmp 4), some (31, false)⟩,⟨some 33, .arith .eql (.tmp 32) (.cst (.int .u8 45)), some (31, false)⟩,⟨some 34, .pick (.tmp 31) (.cst (.bool true)) (.tmp 33), none⟩,⟨some 35, .un .not (.tmp 34), none⟩] :: K) fr S := rfl
def z44_r6 : List POper := [⟨some 2, .mov (.cst (.bool false)), none⟩]
@[simp] theorem z44_r6_go : gval T (.ops z44_r6 :: K) fr S = gval T (.ops [⟨some 2, .mov (.cst (.bool false)), none⟩] :: K) fr S := rfl
def z44_r7 : List POper := [⟨some 36, .arith .add (.tmp 7) (.cst (.int .i64 1)), none⟩,⟨some 7, .mov (.tmp 36), none⟩]
@[simp] theorem z44_r7_go : gval T (.ops z44_r7 :: K) fr S = gval T (.ops [⟨some 36, .arith .add (.tmp 7) (.cst (.int .i64 1)), none⟩,⟨some 7, .mov (.tmp 36), none⟩] :: K) fr S := rfl
def z44_l0 : PCode :=
  (.seq (.region z44_r2) (.seq (.cond (.tmp 8) .skip (.exit 0)) (.seq (.block 1 (.seq (.clr [(9, 10)] (.region z44_r3)) (.seq (.clr [(10, 13)] (.region z44_r4)) (.seq (.clr [(13, 35)] (.region z44_r5)) (.cond (.tmp 35) (.seq (.region z44_r6) .ret) .skip))))) (.clr [(36, 37)] (.region z44_r7)))))
@[simp] theorem disk_named_l0_go : gval T (.code z44_l0 :: K) fr S = gval T (.code (.seq (.region z44_r2) (.seq (.cond (.tmp 8) .skip (.exit 0)) (.seq (.block 1 (.seq (.clr [(9, 10)] (.region z44_r3)) (.seq (.clr [(10, 13)] (.region z44_r4)) (.seq (.clr [(13, 35)] (.region z44_r5)) (.cond (.tmp 35) (.seq (.region z44_r6) .ret) .skip))))) (.clr [(36, 37)] (.region z44_r7))))) :: K) fr S := rfl
def z44_r8 : List POper := [⟨some 37, .mov (.tmp 0), none⟩,⟨some 38, .arith .neq (.tmp 37) (.cst (.str [])), none⟩,⟨some 39, .mov (.tmp 38), none⟩,⟨some 40, .mov (.tmp 0), some (39, true)⟩,⟨some 41, .len true (.tmp 40), some (39, true)⟩,⟨some 42, .arith .leq (.tmp 41) (.cst (.int .i64 24)), some (39, true)⟩,⟨some 43, .pick (.tmp 39) (.tmp 42) (.cst (.bool false)), none⟩,⟨some 2, .mov (.tmp 43), none⟩]
@[simp] theorem z44_r8_go : gval T (.ops z44_r8 :: K) fr S = gval T (.ops [⟨some 37, .mov (.tmp 0), none⟩,⟨some 38, .arith .neq (.tmp 37) (.cst (.str [])), none⟩,⟨some 39, .mov (.tmp 38), none⟩,⟨some 40, .mov (.tmp 0), some (39, true)⟩,⟨some 41, .len true (.tmp 40), some (39, true)⟩,⟨some 42, .arith .leq (.tmp 41) (.cst (.int .i64 24)), some (39, true)⟩,⟨some 43, .pick (.tmp 39) (.tmp 42) (.cst (.bool false)), none⟩,⟨some 2, .mov (.tmp 43), none⟩] :: K) fr S := rfl
def z44 : PCodeFn :=
  ⟨1, [.tmp 2],
  (.seq (.region z44_r0) (.seq (.seq (.clr [(5, 6)] (.region z44_r1)) (.block 0 (.loop z44_l0))) (.seq (.clr [(37, 44)] (.region z44_r8)) .ret))), false⟩

def z13_r0 : List POper := [⟨some 3, .box true (.tmp 1), none⟩,⟨some 4, .mov (.cst (.int .i64 0)), none⟩]
@[simp] theorem z13_r0_go : gval T (.ops z13_r0 :: K) fr S = gval T (.ops [⟨some 3, .box true (.tmp 1), none⟩,⟨some 4, .mov (.cst (.int .i64 0)), none⟩] :: K) fr S := rfl
def z13_r1 : List POper := [⟨some 6, .mov (.tmp 0), none⟩,⟨some 7, .call .std 196 [(.tmp 6)], none⟩,⟨some 5, .mov (.tmp 7), none⟩]
@[simp] theorem z13_r1_go : gval T (.ops z13_r1 :: K) fr S = gval T (.ops [⟨some 6, .mov (.tmp 0), none⟩,⟨some 7, .call .std 196 [(.tmp 6)], none⟩,⟨some 5, .mov (.tmp 7), none⟩] :: K) fr S := rfl
def z13_r2 : List POper := [⟨some 8, .mov (.tmp 5), none⟩,⟨some 9, .arith .neq (.tmp 8) (.cst (.int .i64 0)), none⟩]
@[simp] theorem z13_r2_go : gval T (.ops z13_r2 :: K) fr S = gval T (.ops [⟨some 8, .mov (.tmp 5), none⟩,⟨some 9, .arith .neq (.tmp 8) (.cst (.int .i64 0)), none⟩] :: K) fr S := rfl
def z13_r3 : List POper := [⟨some 10, .mov (.tmp 5), none⟩,⟨some 4, .mov (.tmp 10), none⟩]
@[simp] theorem z13_r3_go : gval T (.ops z13_r3 :: K) fr S = gval T (.ops [⟨some 10, .mov (.tmp 5), none⟩,⟨some 4, .mov (.tmp 10), none⟩] :: K) fr S := rfl
def z13_r4 : List POper := [⟨some 11, .load true 3 true (.tmp 3), none⟩,⟨some 12, .mov (.tmp 0), none⟩,⟨some 13, .nilck (.tmp 12), none⟩,⟨some 14, .faddr 2 (.tmp 13), none⟩,⟨some 15, .load false 1 false (.tmp 14), none⟩,⟨some 16, .call .std 198 [(.tmp 11), (.tmp 15)], none⟩]
@[simp] theorem z13_r4_go : gval T (.ops z13_r4 :: K) fr S = gval T (.ops [⟨some 11, .load true 3 true (.tmp 3), none⟩,⟨some 12, .mov (.tmp 0), none⟩,⟨some 13, .nilck (.tmp 12), none⟩,⟨some 14, .faddr 2 (.tmp 13), none⟩,⟨some 15, .load false 1 false (.tmp 14), none⟩,⟨some 16, .call .std 198 [(.tmp 11), (.tmp 15)], none⟩] :: K) fr S := rfl
def z13_r5 : List POper := [⟨some 17, .mov (.tmp 0), none⟩,⟨some 18, .mov (.tmp 0), none⟩,⟨some 19, .nilck (.tmp 18), none⟩,⟨some 20, .faddr 3 (.tmp 19), none⟩,⟨some 21, .load false 1 false (.tmp 20), none⟩,⟨some 22, .load true 3 true (.tmp 3), none⟩,⟨some 23, .bsl false (.agg [(.str []), (.str []), .nilp]) 1 [(0, (.tmp 22))], none⟩,⟨some 24, .app 3 40 (.tmp 21) (.tmp 23), none⟩,⟨some 25, .nilck (.tmp 17), none⟩,⟨some 26, .faddr 3 (.tmp 25), none⟩,⟨none, .store 1 (.tmp 26) (.tmp 24), none⟩]
@[simp] theorem z13_r5_go : gval T (.ops z13_r5 :: K) fr S = gval T (.ops [⟨some 17, .mov (.tmp 0), none⟩,⟨some 18, .mov (.tmp 0), none⟩,⟨some 19, .nilck (.tmp 18), none⟩,⟨some 20, .faddr 3 (.tmp 19), none⟩,⟨some 21, .load false 1 false (.tmp 20), none⟩,⟨some 22, .load true 3 true (.tmp 3), none⟩,⟨some 23, .bsl false (.agg [(.str []), (.str []), .nilp]) 1 [(0, (.tmp 22))], none⟩,⟨some 24, .app 3 40 (.tmp 21) (.tmp 23), none⟩,⟨some 25, .nilck (.tmp 17), none⟩,⟨some 26, .faddr 3 (.tmp 25), none⟩,⟨none, .store 1 (.tmp 26) (.tmp 24), none⟩] :: K) fr S := rfl
def z13_r6 : List POper := [⟨some 4, .mov (.cst (.int .i64 0)), none⟩]
@[simp] theorem z13_r6_go : gval T (.ops z13_r6 :: K) fr S = gval T (.ops [⟨some 4, .mov (.cst (.int .i64 0)), none⟩] :: K) fr S := rfl
def z13 : PCodeFn :=
  ⟨2, [.tmp 4],
  (.seq (.region z13_r0) (.seq (.seq (.clr [(6, 8)] (.region z13_r1)) (.seq (.clr [(8, 9)] (.region z13_r2)) (.cond (.tmp 9) (.seq (.clr [(10, 11)] (.region z13_r3)) .ret) .skip))) (.seq (.clr [(11, 17)] (.region z13_r4)) (.seq (.clr [(17, 27)] (.region z13_r5)) (.seq (.region z13_r6) .ret))))), false⟩

def z60_r0 : List POper := [⟨some 4, .mov (.cst .nils), none⟩,⟨some 5, .mov (.cst (.int .i64 0)), none⟩,⟨some 6, .mov (.cst (.int .i64 0)), none⟩]
@[simp] theorem z60_r0_go : gval T (.ops z60_r0 :: K) fr S = gval T (.ops [⟨some 4, .mov (.cst .nils), none⟩,⟨some 5, .mov (.cst (.int .i64 0)), none⟩,⟨some 6, .mov (.cst (.int .i64 0)), none⟩] :: K) fr S := rfl
def z60_r1 : List POper := [⟨some 9, .mov (.tmp 1), none⟩,⟨some 10, .arith .lss (.tmp 9) (.cst (.int .i64 0)), none⟩,⟨some 11, .mov (.tmp 10), none⟩,⟨some 12, .mov (.tmp 1), some (11, false)⟩,⟨some 13, .mov (.tmp 0), some (11, false)⟩,⟨some 14, .len false (.tmp 13), some (11, false)⟩,⟨some 15, .arith .gtr (.tmp 12) (.tmp 14), some (11, false)⟩,⟨some 16, .pick (.tmp 11) (.cst (.bool true)) (.tmp 15), none⟩]
@[simp] theorem z60_r1_go : gval T (.ops z60_r1 :: K) fr S = gval T (.ops [⟨some 9, .mov (.tmp 1), none⟩,⟨some 10, .arith .lss (.tmp 9) (.cst (.int .i64 0)), none⟩,⟨some 11, .mov (.tmp 10), none⟩,⟨some 12, .mov (.tmp 1), some (11, false)⟩,⟨some 13, .mov (.tmp 0), some (11, false)⟩,⟨some 14, .len false (.tmp 13), some (11, false)⟩,⟨some 15, .arith .gtr (.tmp 12) (.tmp 14), some (11, false)⟩,⟨some 16, .pick (.tmp 11) (.cst (.bool true)) (.tmp 15), none⟩] :: K) fr S := rfl
def z60_r2 : List POper := [⟨some 4, .mov (.cst .nils), none⟩,⟨some 5, .mov (.cst (.int .i64 0)), none⟩,⟨some 6, .mov (.cst (.int .i64 2)), none⟩]
@[simp] theorem z60_r2_go : gval T (.ops z60_r2 :: K) fr S = gval T (.ops [⟨some 4, .mov (.cst .nils), none⟩,⟨some 5, .mov (.cst (.int .i64 0)), none⟩,⟨some 6, .mov (.cst (.int .i64 2)), none⟩] :: K) fr S := rfl
def z60_r3 : List POper := [⟨some 17, .mov (.tmp 0), none⟩,⟨some 18, .mov (.tmp 1), none⟩,⟨some 19, .slc 1 (some (.tmp 18)) none (.tmp 17), none⟩,⟨some 7, .mov (.tmp 19), none⟩]
@[simp] theorem z60_r3_go : gval T (.ops z60_r3 :: K) fr S = gval T (.ops [⟨some 17, .mov (.tmp 0), none⟩,⟨some 18, .mov (.tmp 1), none⟩,⟨some 19, .slc 1 (some (.tmp 18)) none (.tmp 17), none⟩,⟨some 7, .mov (.tmp 19), none⟩] :: K) fr S := rfl
def z60_r4 : List POper := [⟨some 20, .mov (.tmp 7), none⟩,⟨some 21, .len false (.tmp 20), none⟩,⟨some 22, .arith .lss (.tmp 21) (.cst (.int .i64 6)), none⟩]
@[simp] theorem z60_r4_go : gval T (.ops z60_r4 :: K) fr S = gval T (.ops [⟨some 20, .mov (.tmp 7), none⟩,⟨some 21, .len false (.tmp 20), none⟩,⟨some 22, .arith .lss (.tmp 21) (.cst (.int .i64 6)), none⟩] :: K) fr S := rfl
def z60_r5 : List POper := [⟨some 4, .mov (.cst .nils), none⟩,⟨some 5, .mov (.cst (.int .i64 0)), none⟩,⟨some 6, .mov (.cst (.int .i64 4)), none⟩]
@[simp] theorem z60_r5_go : gval T (.ops z60_r5 :: K) fr S = gval T (.ops [⟨some 4, .mov (.cst .nils), none⟩,⟨some 5, .mov (.cst (.int .i64 0)), none⟩,⟨some 6, .mov (.cst (.int .i64 4)), none⟩] :: K) fr S := rfl
def z60_r6 : List POper := [⟨some 23, .mov (.tmp 7), none⟩,⟨some 24, .iaddr 1 (.tmp 23) (.cst (.int .i64 0)), none⟩,⟨some 25, .load false 1 true (.tmp 24), none⟩,⟨some 26, .toInt .i64 (.tmp 25), none⟩,⟨some 27, .arith .shl (.tmp 26) (.cst (.int .u64 8)), none⟩,⟨some 28, .mov (.tmp 7), none⟩,⟨some 29, .iaddr 1 (.tmp 28) (.cst (.int .i64 1)), none⟩,⟨some 30, .load false 1 true (.tmp 29), none⟩,⟨some 31, .toInt .i64 (.tmp 30), none⟩,⟨some 32, .arith .or (.tmp 27) (.tmp 31), none⟩,⟨some 8, .mov (.tmp 32), none⟩]
@[simp] theorem z60_r6_go : gval T (.ops z60_r6 :: K) fr S = gval T (.ops [⟨some 23, .mov (.tmp 7), none⟩,⟨some 24, .iaddr 1 (.tmp 23) (.cst (.int .i64 0)), none⟩,⟨some 25, .load false 1 true (.tmp 24), none⟩,⟨some 26, .toInt .i64 (.tmp 25), none⟩,⟨some 27, .arith .shl (.tmp 26) (.cst (.int .u64 8)), none⟩,⟨some 28, .mov (.tmp 7), none⟩,⟨some 29, .iaddr 1 (.tmp 28) (.cst (.int .i64 1)), none⟩,⟨some 30, .load false 1 true (.tmp 29), none⟩,⟨some 31, .toInt .i64 (.tmp 30), none⟩,⟨some 32, .arith .or (.tmp 27) (.tmp 31), none⟩,⟨some 8, .mov (.tmp 32), none⟩] :: K) fr S := rfl
def z60_r7 : List POper := [⟨some 33, .mov (.tmp 8), none⟩,⟨some 34, .mov (.tmp 7), none⟩,⟨some 35, .len false (.tmp 34), none⟩,⟨some 36, .arith .sub (.tmp 35) (.cst (.int .i64 6)), none⟩,⟨some 37, .arith .gtr (.tmp 33) (.tmp 36), none⟩]
@[simp] theorem z60_r7_go : gval T (.ops z60_r7 :: K) fr S = gval T (.ops [⟨some 33, .mov (.tmp 8), none⟩,⟨some 34, .mov (.tmp 7), none⟩,⟨some 35, .len false (.tmp 34), none⟩,⟨some 36, .arith .sub (.tmp 35) (.cst (.int .i64 6)), none⟩,⟨some 37, .arith .gtr (.tmp 33) (.tmp 36), none⟩] :: K) fr S := rfl
def z60_r8 : List POper := [⟨some 4, .mov (.cst .nils), none⟩,⟨some 5, .mov (.cst (.int .i64 0)), none⟩,⟨some 6, .mov (.cst (.int .i64 4)), none⟩]
@[simp] theorem z60_r8_go : gval T (.ops z60_r8 :: K) fr S = gval T (.ops [⟨some 4, .mov (.cst .nils), none⟩,⟨some 5, .mov (.cst (.int .i64 0)), none⟩,⟨some 6, .mov (.cst (.int .i64 4)), none⟩] :: K) fr S := rfl
def z60_r9 : List POper := [⟨some 38, .mov (.tmp 7), none⟩,⟨some 39, .mov (.tmp 8), none⟩,⟨some 40, .arith .add (.cst (.int .i64 2)) (.tmp 39), none⟩,⟨some 41, .slc 1 none (some (.tmp 40)) (.tmp 38), none⟩,⟨some 42, .call .std 328 [(.cst .nils), (.tmp 41)], none⟩,⟨some 43, .toStr (.tmp 42), none⟩,⟨some 44, .mov (.tmp 7), none⟩,⟨some 45, .mov (.tmp 8), none⟩,⟨some 46, .arith .add (.cst (.int .i64 2)) (.tmp 45), none⟩,⟨some 47, .mov (.tmp 8), none⟩,⟨some 48, .arith .add (.cst (.int .i64 6)) (.tmp 47), none⟩,⟨some 49, .slc 1 (some (.tmp 46)) (some (.tmp 48)) (.tmp 44), none⟩,⟨some 50, .toStr (.tmp 49), none⟩,⟨some 51, .arith .neq (.tmp 43) (.tmp 50), none⟩]
@[simp] theorem z60_r9_go : gval T (.ops z60_r9 :: K) fr S = gval T (.ops [⟨some 38, .mov (.tmp 7), none⟩,⟨some 39, .mov (.tmp 8), none⟩,⟨some 40, .arith .add (.cst (.int .i64 2)) (.tmp 39), none⟩,⟨some 41, .slc 1 none (some (.tmp 40)) (.tmp 38), none⟩,⟨some 42, .call .std 328 [(.cst .nils), (.tmp 41)], none⟩,⟨some 43, .toStr (.tmp 42), none⟩,⟨some 44, .mov (.tmp 7), none⟩,⟨some 45, .mov (.tmp 8), none⟩,⟨some 46, .arith .add (.cst (.int .i64 2)) (.tmp 45), none⟩,⟨some 47, .mov (.tmp 8), none⟩,⟨some 48, .arith .add (.cst (.int .i64 6)) (.tmp 47), none⟩,⟨some 49, .slc 1 (some (.tmp 46)) (some (.tmp 48)) (.tmp 44), none⟩,⟨some 50, .toStr (.tmp 49), none⟩,⟨some 51, .arith .neq (.tmp 43) (.tmp 50), none⟩] :: K) fr S := rfl
def z60_r10 : List POper := [⟨some 4, .mov (.cst .nils), none⟩,⟨some 5, .mov (.cst (.int .i64 0)), none⟩,⟨some 6, .mov (.cst (.int .i64 5)), none⟩]
@[simp] theorem z60_r10_go : gval T (.ops z60_r10 :: K) fr S = gval T (.ops [⟨some 4, .mov (.cst .nils), none⟩,⟨some 5, .mov (.cst (.int .i64 0)), none⟩,⟨some 6, .mov (.cst (.int .i64 5)), none⟩] :: K) fr S := rfl
def z60_r11 : List POper := [⟨some 52, .mov (.tmp 7), none⟩,⟨some 53, .mov (.tmp 8), none⟩,⟨some 54, .arith .add (.cst (.int .i64 2)) (.tmp 53), none⟩,⟨some 55, .slc 1 (some (.cst (.int .i64 2))) (some (.tmp 54)) (.tmp 52), none⟩,⟨some 56, .call .std 218 [(.tmp 55), (.cst (.int .i64 0))], none⟩,⟨some 57, .mov (.tmp 1), none⟩,⟨some 58, .arith .add (.tmp 57) (.cst (.int .i64 6)), none⟩,⟨some 59, .mov (.tmp 8), none⟩,⟨some 60, .arith .add (.tmp 58) (.tmp 59), none⟩,⟨some 4, .mov (.tmp 56), none⟩,⟨some 5, .mov (.tmp 60), none⟩,⟨some 6, .mov (.cst (.int .i64 0)), none⟩]
@[simp] theorem z60_r11_go : gval T (.ops z60_r11 :: K) fr S = gval T (.ops [⟨some 52, .mov (.tmp 7), none⟩,⟨some 53, .mov (.tmp 8), none⟩,⟨some 54, .arith .add (.cst (.int .i64 2)) (.tmp 53), none⟩,⟨some 55, .slc 1 (some (.cst (.int .i64 2))) (some (.tmp 54)) (.tmp 52), none⟩,⟨some 56, .call .std 218 [(.tmp 55), (.cst (.int .i64 0))], none⟩,⟨some 57, .mov (.tmp 1), none⟩,⟨some 58, .arith .add (.tmp 57) (.cst (.int .i64 6)), none⟩,⟨some 59, .mov (.tmp 8), none⟩,⟨some 60, .arith .add (.tmp 58) (.tmp 59), none⟩,⟨some 4, .mov (.tmp 56), none⟩,⟨some 5, .mov (.tmp 60), none⟩,⟨some 6, .mov (.cst (.int .i64 0)), none⟩] :: K) fr S := rfl
def z60 : PCodeFn :=
  ⟨2, [.tmp 4, .tmp 5, .tmp 6],
  (.seq (.region z60_r0) (.seq (.seq (.clr [(9, 16)] (.region z60_r1)) (.cond (.tmp 16) (.seq (.region z60_r2) .ret) .skip)) (.seq (.clr [(17, 20)] (.region z60_r3)) (.seq (.seq (.clr [(20, 22)] (.region z60_r4)) (.cond (.tmp 22) (.seq (.region z60_r5) .ret) .skip)) (.seq (.clr [(23, 33)] (.region z60_r6)) (.seq (.seq (.clr [(33, 37)] (.region z60_r7)) (.cond (.tmp 37) (.seq (.region z60_r8) .ret) .skip)) (.seq (.seq (.clr [(38, 51)] (.region z60_r9)) (.cond (.tmp 51) (.seq (.region z60_r10) .ret) .skip)) (.seq (.clr [(52, 61)] (.region z60_r11)) .ret)))))))), false⟩

def z0_r0 : List POper := [⟨some 4, .mov (.cst (.bool false)), none⟩]
@[simp] theorem z0_r0_go : gval T (.ops z0_r0 :: K) fr S = gval T (.ops [⟨some 4, .mov (.cst (.bool false)), none⟩] :: K) fr S := rfl
def z0_r1 : List POper := [⟨some 5, .mov (.tmp 0), none⟩,⟨some 6, .mov (.tmp 1), none⟩,⟨some 7, .call .std 221 [(.tmp 5), (.tmp 6)], none⟩,⟨some 8, .arith .geq (.tmp 7) (.cst (.int .i64 0)), none⟩,⟨some 4, .mov (.tmp 8), none⟩]
@[simp] theorem z0_r1_go : gval T (.ops z0_r1 :: K) fr S = gval T (.ops [⟨some 5, .mov (.tmp 0), none⟩,⟨some 6, .mov (.tmp 1), none⟩,⟨some 7, .call .std 221 [(.tmp 5), (.tmp 6)], none⟩,⟨some 8, .arith .geq (.tmp 7) (.cst (.int .i64 0)), none⟩,⟨some 4, .mov (.tmp 8), none⟩] :: K) fr S := rfl
def z0 : PCodeFn :=
  ⟨2, [.tmp 4],
  (.seq (.region z0_r0) (.seq (.clr [(5, 9)] (.region z0_r1)) .ret)), false⟩

def z22_r0 : List POper := [⟨some 2, .mov (.cst .nils), none⟩]
@[simp] theorem z22_r0_go : gval T (.ops z22_r0 :: K) fr S = gval T (.ops [⟨some 2, .mov (.cst .nils), none⟩] :: K) fr S := rfl
def z22_r1 : List POper := [⟨some 3, .mov (.tmp 0), none⟩,⟨some 4, .eqn false .p (.tmp 3), none⟩,⟨some 5, .mov (.tmp 4), none⟩,⟨some 6, .mov (.tmp 0), some (5, false)⟩,⟨some 7, .nilck (.tmp 6), some (5, false)⟩,⟨some 8, .faddr 2 (.tmp 7), some (5, false)⟩,⟨some 9, .load false 1 false (.tmp 8), some (5, false)⟩,⟨some 10, .eqn false .m (.tmp 9), some (5, false)⟩,⟨some 11, .pick (.tmp 5) (.cst (.bool true)) (.tmp 10), none⟩,⟨some 12, .mov (.tmp 11), none⟩,⟨some 13, .mov (.tmp 0), some (12, false)⟩,⟨some 14, .nilck (.tmp 13), some (12, false)⟩,⟨some 15, .faddr 6 (.tmp 14), some (12, false)⟩,⟨some 16, .load false 1 false (.tmp 15), some (12, false)⟩,⟨some 17, .pick (.tmp 12) (.cst (.bool true)) (.tmp 16), none⟩]
@[simp] theorem z22_r1_go : gval T (.ops z22_r1 :: K) fr S = gval T (.ops [⟨some 3, .mov (.tmp 0), none⟩,⟨some 4, .eqn false .p (.tmp 3), none⟩,⟨some 5, .mov (.tmp 4), none⟩,⟨some 6, .mov (.tmp 0), some (5, false)⟩,⟨some 7, .nilck (.tmp 6), some (5, false)⟩,⟨some 8, .faddr 2 (.tmp 7), some (5, false)⟩,⟨some 9, .load false 1 false (.tmp 8), some (5, false)⟩,⟨some 10, .eqn false .m (.tmp 9), some (5, false)⟩,⟨some 11, .pick (.tmp 5) (.cst (.bool true)) (.tmp 10), none⟩,⟨some 12, .mov (.tmp 11), none⟩,⟨some 13, .mov (.tmp 0), some (12, false)⟩,⟨some 14, .nilck (.tmp 13), some (12, false)⟩,⟨some 15, .faddr 6 (.tmp 14), some (12, false)⟩,⟨some 16, .load false 1 false (.tmp 15), some (12, false)⟩,⟨some 17, .pick (.tmp 12) (.cst (.bool true)) (.tmp 16), none⟩] :: K) fr S := rfl
def z22_r2 : List POper := [⟨some 2, .mov (.cst .nils), none⟩]
@[simp] theorem z22_r2_go : gval T (.ops z22_r2 :: K) fr S = gval T (.ops [⟨some 2, .mov (.cst .nils), none⟩] :: K) fr S := rfl
def z22_r3 : List POper := [⟨some 18, .mov (.tmp 0), none⟩,⟨some 19, .nilck (.tmp 18), none⟩,⟨some 20, .faddr 2 (.tmp 19), none⟩,⟨some 21, .load false 1 false (.tmp 20), none⟩,⟨some 22, .call .std 200 [(.tmp 21)], none⟩,⟨some 23, .call .std 199 [(.tmp 22)], none⟩,⟨some 2, .mov (.tmp 23), none⟩]
@[simp] theorem z22_r3_go : gval T (.ops z22_r3 :: K) fr S = gval T (.ops [⟨some 18, .mov (.tmp 0), none⟩,⟨some 19, .nilck (.tmp 18), none⟩,⟨some 20, .faddr 2 (.tmp 19), none⟩,⟨some 21, .load false 1 false (.tmp 20), none⟩,⟨some 22, .call .std 200 [(.tmp 21)], none⟩,⟨some 23, .call .std 199 [(.tmp 22)], none⟩,⟨some 2, .mov (.tmp 23), none⟩] :: K) fr S := rfl
def z22 : PCodeFn :=
  ⟨1, [.tmp 2],
  (.seq (.region z22_r0) (.seq (.seq (.clr [(3, 17)] (.region z22_r1)) (.cond (.tmp 17) (.seq (.region z22_r2) .ret) .skip)) (.seq (.clr [(18, 24)] (.region z22_r3)) .ret))), false⟩

def z7_r0 : List POper := [⟨some 4, .mov (.cst (.int .i64 0)), none⟩]
@[simp] theorem z7_r0_go : gval T (.ops z7_r0 :: K) fr S = gval T (.ops [⟨some 4, .mov (.cst (.int .i64 0)), none⟩] :: K) fr S := rfl
def z7_r1 : List POper := [⟨some 8, .mov (.tmp 0), none⟩,⟨some 9, .mov (.tmp 1), none⟩,⟨some 10, .call .std 194 [(.tmp 8), (.tmp 9)], none⟩,⟨some 7, .mov (.tmp 10), none⟩,⟨some 11, .extract 0 (.tmp 7), none⟩,⟨some 12, .extract 1 (.tmp 7), none⟩,⟨some 5, .mov (.tmp 11), none⟩,⟨some 6, .mov (.tmp 12), none⟩]
@[simp] theorem z7_r1_go : gval T (.ops z7_r1 :: K) fr S = gval T (.ops [⟨some 8, .mov (.tmp 0), none⟩,⟨some 9, .mov (.tmp 1), none⟩,⟨some 10, .call .std 194 [(.tmp 8), (.tmp 9)], none⟩,⟨some 7, .mov (.tmp 10), none⟩,⟨some 11, .extract 0 (.tmp 7), none⟩,⟨some 12, .extract 1 (.tmp 7), none⟩,⟨some 5, .mov (.tmp 11), none⟩,⟨some 6, .mov (.tmp 12), none⟩] :: K) fr S := rfl
def z7_r2 : List POper := [⟨some 13, .mov (.tmp 6), none⟩,⟨some 14, .arith .neq (.tmp 13) (.cst (.int .i64 0)), none⟩]
@[simp] theorem z7_r2_go : gval T (.ops z7_r2 :: K) fr S = gval T (.ops [⟨some 13, .mov (.tmp 6), none⟩,⟨some 14, .arith .neq (.tmp 13) (.cst (.int .i64 0)), none⟩] :: K) fr S := rfl
def z7_r3 : List POper := [⟨some 15, .mov (.tmp 6), none⟩,⟨some 4, .mov (.tmp 15), none⟩]
@[simp] theorem z7_r3_go : gval T (.ops z7_r3 :: K) fr S = gval T (.ops [⟨some 15, .mov (.tmp 6), none⟩,⟨some 4, .mov (.tmp 15), none⟩] :: K) fr S := rfl
def z7_r4 : List POper := [⟨some 16, .mov (.tmp 0), none⟩,⟨some 17, .mov (.tmp 1), none⟩,⟨some 18, .build [(.str []), (.str []), .nilp] [(0, 1, (.tmp 17))], none⟩,⟨some 19, .call .std 195 [(.tmp 16), (.tmp 18)], none⟩,⟨some 4, .mov (.tmp 19), none⟩]
@[simp] theorem z7_r4_go : gval T (.ops z7_r4 :: K) fr S = gval T (.ops [⟨some 16, .mov (.tmp 0), none⟩,⟨some 17, .mov (.tmp 1), none⟩,⟨some 18, .build [(.str []), (.str []), .nilp] [(0, 1, (.tmp 17))], none⟩,⟨some 19, .call .std 195 [(.tmp 16), (.tmp 18)], none⟩,⟨some 4, .mov (.tmp 19), none⟩] :: K) fr S := rfl
def z7 : PCodeFn :=
  ⟨2, [.tmp 4],
  (.seq (.region z7_r0) (.seq (.seq (.clr [(5, 6), (7, 13)] (.region z7_r1)) (.seq (.clr [(13, 14)] (.region z7_r2)) (.cond (.tmp 14) (.seq (.clr [(15, 16)] (.region z7_r3)) .ret) .skip))) (.seq (.clr [(16, 20)] (.region z7_r4)) .ret))), false⟩

def z45_r0 : List POper := [⟨some 1, .mov (.cst (.int .i64 0)), none⟩]
@[simp] theorem z45_r0_go : gval T (.ops z45_r0 :: K) fr S = gval T (.ops [⟨some 1, .mov (.cst (.int .i64 0)), none⟩] :: K) fr S := rfl
def z45_r1 : List POper := [⟨some 2, .load false 1 false (.tmp 0), none⟩,⟨some 3, .call .std 77 [(.tmp 2), (.cst (.str [116, 109, 112]))], none⟩,⟨some 1, .mov (.tmp 3), none⟩]
@[simp] theorem z45_r1_go : gval T (.ops z45_r1 :: K) fr S = gval T (.ops [⟨some 2, .load false 1 false (.tmp 0), none⟩,⟨some 3, .call .std 77 [(.tmp 2), (.cst (.str [116, 109, 112]))], none⟩,⟨some 1, .mov (.tmp 3), none⟩] :: K) fr S := rfl
def z45 : PCodeFn :=
  ⟨1, [.tmp 1],
  (.seq (.region z45_r0) (.seq (.clr [(2, 4)] (.region z45_r1)) .ret)), false⟩

def z46_r0 : List POper := [⟨some 2, .mov (.cst (.int .i64 0)), none⟩]
@[simp] theorem z46_r0_go : gval T (.ops z46_r0 :: K) fr S = gval T (.ops [⟨some 2, .mov (.cst (.int .i64 0)), none⟩] :: K) fr S := rfl
def z46_r1 : List POper := [⟨some 3, .load false 1 false (.tmp 0), none⟩,⟨some 4, .load false 1 false (.tmp 1), none⟩,⟨some 5, .call .std 78 [(.tmp 3), (.cst (.str [116, 109, 112])), (.tmp 4)], none⟩,⟨some 2, .mov (.tmp 5), none⟩]
@[simp] theorem z46_r1_go : gval T (.ops z46_r1 :: K) fr S = gval T (.ops [⟨some 3, .load false 1 false (.tmp 0), none⟩,⟨some 4, .load false 1 false (.tmp 1), none⟩,⟨some 5, .call .std 78 [(.tmp 3), (.cst (.str [116, 109, 112])), (.tmp 4)], none⟩,⟨some 2, .mov (.tmp 5), none⟩] :: K) fr S := rfl
def z46 : PCodeFn :=
  ⟨2, [.tmp 2],
  (.seq (.region z46_r0) (.seq (.clr [(3, 6)] (.region z46_r1)) .ret)), false⟩

def z47_r0 : List POper := [⟨some 1, .mov (.cst (.int .i64 0)), none⟩]
@[simp] theorem z47_r0_go : gval T (.ops z47_r0 :: K) fr S = gval T (.ops [⟨some 1, .mov (.cst (.int .i64 0)), none⟩] :: K) fr S := rfl
def z47_r1 : List POper := [⟨some 2, .load false 1 false (.tmp 0), none⟩,⟨some 3, .call .std 84 [(.tmp 2), (.cst (.str [116, 109, 112]))], none⟩,⟨some 1, .mov (.tmp 3), none⟩]
@[simp] theorem z47_r1_go : gval T (.ops z47_r1 :: K) fr S = gval T (.ops [⟨some 2, .load false 1 false (.tmp 0), none⟩,⟨some 3, .call .std 84 [(.tmp 2), (.cst (.str [116, 109, 112]))], none⟩,⟨some 1, .mov (.tmp 3), none⟩] :: K) fr S := rfl
def z47 : PCodeFn :=
  ⟨1, [.tmp 1],
  (.seq (.region z47_r0) (.seq (.clr [(2, 4)] (.region z47_r1)) .ret)), false⟩

def z50_r0 : List POper := [⟨some 2, .mov (.cst (.int .i64 0)), none⟩]
@[simp] theorem z50_r0_go : gval T (.ops z50_r0 :: K) fr S = gval T (.ops [⟨some 2, .mov (.cst (.int .i64 0)), none⟩] :: K) fr S := rfl
def z50_r1 : List POper := [⟨some 3, .load false 1 false (.tmp 0), none⟩,⟨some 4, .load false 1 false (.tmp 1), none⟩,⟨some 5, .call .std 82 [(.tmp 3), (.cst (.str [116, 109, 112])), (.tmp 4)], none⟩,⟨some 2, .mov (.tmp 5), none⟩]
@[simp] theorem z50_r1_go : gval T (.ops z50_r1 :: K) fr S = gval T (.ops [⟨some 3, .load false 1 false (.tmp 0), none⟩,⟨some 4, .load false 1 false (.tmp 1), none⟩,⟨some 5, .call .std 82 [(.tmp 3), (.cst (.str [116, 109, 112])), (.tmp 4)], none⟩,⟨some 2, .mov (.tmp 5), none⟩] :: K) fr S := rfl
def z50 : PCodeFn :=
  ⟨2, [.tmp 2],
  (.seq (.region z50_r0) (.seq (.clr [(3, 6)] (.region z50_r1)) .ret)), false⟩

def z8_r0 : List POper := [⟨some 6, .mov (.cst (.int .i64 0)), none⟩]
@[simp] theorem z8_r0_go : gval T (.ops z8_r0 :: K) fr S = gval T (.ops [⟨some 6, .mov (.cst (.int .i64 0)), none⟩] :: K) fr S := rfl
def z8_r1 : List POper := [⟨some 10, .mov (.tmp 0), none⟩,⟨some 11, .mov (.tmp 1), none⟩,⟨some 12, .call .std 194 [(.tmp 10), (.tmp 11)], none⟩,⟨some 9, .mov (.tmp 12), none⟩,⟨some 13, .extract 0 (.tmp 9), none⟩,⟨some 14, .extract 1 (.tmp 9), none⟩,⟨some 7, .mov (.tmp 13), none⟩,⟨some 8, .mov (.tmp 14), none⟩]
@[simp] theorem z8_r1_go : gval T (.ops z8_r1 :: K) fr S = gval T (.ops [⟨some 10, .mov (.tmp 0), none⟩,⟨some 11, .mov (.tmp 1), none⟩,⟨some 12, .call .std 194 [(.tmp 10), (.tmp 11)], none⟩,⟨some 9, .mov (.tmp 12), none⟩,⟨some 13, .extract 0 (.tmp 9), none⟩,⟨some 14, .extract 1 (.tmp 9), none⟩,⟨some 7, .mov (.tmp 13), none⟩,⟨some 8, .mov (.tmp 14), none⟩] :: K) fr S := rfl
def z8_r2 : List POper := [⟨some 15, .mov (.tmp 8), none⟩,⟨some 16, .arith .neq (.tmp 15) (.cst (.int .i64 0)), none⟩,⟨some 17, .mov (.tmp 16), none⟩,⟨some 18, .mov (.tmp 8), some (17, true)⟩,⟨some 19, .arith .neq (.tmp 18) (.cst (.int .i64 9)), some (17, true)⟩,⟨some 20, .pick (.tmp 17) (.tmp 19) (.cst (.bool false)), none⟩]
@[simp] theorem z8_r2_go : gval T (.ops z8_r2 :: K) fr S = gval T (.ops [⟨some 15, .mov (.tmp 8), none⟩,⟨some 16, .arith .neq (.tmp 15) (.cst (.int .i64 0)), none⟩,⟨some 17, .mov (.tmp 16), none⟩,⟨some 18, .mov (.tmp 8), some (17, true)⟩,⟨some 19, .arith .neq (.tmp 18) (.cst (.int .i64 9)), some (17, true)⟩,⟨some 20, .pick (.tmp 17) (.tmp 19) (.cst (.bool false)), none⟩] :: K) fr S := rfl
def z8_r3 : List POper := [⟨some 21, .mov (.tmp 8), none⟩,⟨some 6, .mov (.tmp 21), none⟩]
@[simp] theorem z8_r3_go : gval T (.ops z8_r3 :: K) fr S = gval T (.ops [⟨some 21, .mov (.tmp 8), none⟩,⟨some 6, .mov (.tmp 21), none⟩] :: K) fr S := rfl
def z8_r4 : List POper := [⟨some 22, .mov (.tmp 2), none⟩,⟨some 23, .call .pur 202 [(.tmp 22)], none⟩,⟨some 24, .un .not (.tmp 23), none⟩]
@[simp] theorem z8_r4_go : gval T (.ops z8_r4 :: K) fr S = gval T (.ops [⟨some 22, .mov (.tmp 2), none⟩,⟨some 23, .call .pur 202 [(.tmp 22)], none⟩,⟨some 24, .un .not (.tmp 23), none⟩] :: K) fr S := rfl
def z8_r5 : List POper := [⟨some 6, .mov (.cst (.int .i64 8)), none⟩]
@[simp] theorem z8_r5_go : gval T (.ops z8_r5 :: K) fr S = gval T (.ops [⟨some 6, .mov (.cst (.int .i64 8)), none⟩] :: K) fr S := rfl
def z8_r6 : List POper := [⟨some 25, .mov (.tmp 8), none⟩,⟨some 26, .arith .neq (.tmp 25) (.cst (.int .i64 0)), none⟩]
@[simp] theorem z8_r6_go : gval T (.ops z8_r6 :: K) fr S = gval T (.ops [⟨some 25, .mov (.tmp 8), none⟩,⟨some 26, .arith .neq (.tmp 25) (.cst (.int .i64 0)), none⟩] :: K) fr S := rfl
def z8_r7 : List POper := [⟨some 27, .mov (.tmp 8), none⟩,⟨some 6, .mov (.tmp 27), none⟩]
@[simp] theorem z8_r7_go : gval T (.ops z8_r7 :: K) fr S = gval T (.ops [⟨some 27, .mov (.tmp 8), none⟩,⟨some 6, .mov (.tmp 27), none⟩] :: K) fr S := rfl
def z8_r8 : List POper := [⟨some 28, .mov (.tmp 0), none⟩,⟨some 29, .mov (.tmp 1), none⟩,⟨some 30, .mov (.tmp 2), none⟩,⟨some 31, .build [(.str []), (.str []), .nilp] [(0, 1, (.tmp 29)), (1, 1, (.tmp 30))], none⟩,⟨some 32, .call .std 195 [(.tmp 28), (.tmp 31)], none⟩,⟨some 6, .mov (.tmp 32), none⟩]
@[simp] theorem z8_r8_go : gval T (.ops z8_r8 :: K) fr S = gval T (.ops [⟨some 28, .mov (.tmp 0), none⟩,⟨some 29, .mov (.tmp 1), none⟩,⟨some 30, .mov (.tmp 2), none⟩,⟨some 31, .build [(.str []), (.str []), .nilp] [(0, 1, (.tmp 29)), (1, 1, (.tmp 30))], none⟩,⟨some 32, .call .std 195 [(.tmp 28), (.tmp 31)], none⟩,⟨some 6, .mov (.tmp 32), none⟩] :: K) fr S := rfl
def z8 : PCodeFn :=
  ⟨3, [.tmp 6],
  (.seq (.region z8_r0) (.seq (.clr [(7, 8), (9, 15)] (.region z8_r1)) (.seq (.seq (.clr [(15, 20)] (.region z8_r2)) (.cond (.tmp 20) (.seq (.clr [(21, 22)] (.region z8_r3)) .ret) .skip)) (.seq (.seq (.clr [(22, 24)] (.region z8_r4)) (.cond (.tmp 24) (.seq (.region z8_r5) .ret) .skip)) (.seq (.seq (.clr [(25, 26)] (.region z8_r6)) (.cond (.tmp 26) (.seq (.clr [(27, 28)] (.region z8_r7)) .ret) .skip)) (.seq (.clr [(28, 33)] (.region z8_r8)) .ret)))))), false⟩

def z65_r0 : List POper := [⟨some 1, .box true (.tmp 0), none⟩,⟨some 2, .mov (.cst (.bool false)), none⟩]
@[simp] theorem z65_r0_go : gval T (.ops z65_r0 :: K) fr S = gval T (.ops [⟨some 1, .box true (.tmp 0), none⟩,⟨some 2, .mov (.cst (.bool false)), none⟩] :: K) fr S := rfl
def z65_r1 : List POper := [⟨some 3, .faddr 0 (.tmp 1), none⟩,⟨some 4, .load false 1 false (.tmp 3), none⟩,⟨some 5, .arith .leq (.cst (.int .i64 0)) (.tmp 4), none⟩,⟨some 6, .mov (.tmp 5), none⟩,⟨some 7, .faddr 0 (.tmp 1), some (6, true)⟩,⟨some 8, .load false 1 false (.tmp 7), some (6, true)⟩,⟨some 9, .arith .leq (.tmp 8) (.cst (.int .i64 1099511627776)), some (6, true)⟩,⟨some 10, .pick (.tmp 6) (.tmp 9) (.cst (.bool false)), none⟩,⟨some 11, .mov (.tmp 10), none⟩,⟨some 12, .faddr 1 (.tmp 1), some (11, true)⟩,⟨some 13, .load false 1 false (.tmp 12), some (11, true)⟩,⟨some 14, .arith .leq (.cst (.int .i64 (-1152921504606846976))) (.tmp 13), some (11, true)⟩,⟨some 15, .pick (.tmp 11) (.tmp 14) (.cst (.bool false)), none⟩,⟨some 16, .mov (.tmp 15), none⟩,⟨some 17, .faddr 1 (.tmp 1), some (16, true)⟩,⟨some 18, .load false 1 false (.tmp 17), some (16, true)⟩,⟨some 19, .arith .leq (.tmp 18) (.cst (.int .i64 1152921504606846976)), some (16, true)⟩,⟨some 20, .pick (.tmp 16) (.tmp 19) (.cst (.bool false)), none⟩,⟨some 2, .mov (.tmp 20), none⟩]
@[simp] theorem z65_r1_go : gval T (.ops z65_r1 :: K) fr S = gval T (.ops [⟨some 3, .faddr 0 (.tmp 1), none⟩,⟨some 4, .load false 1 false (.tmp 3), none⟩,⟨some 5, .arith .leq (.cst (.int .i64 0)) (.tmp 4), none⟩,⟨some 6, .mov (.tmp 5), none⟩,⟨some 7, .faddr 0 (.tmp 1), some (6, true)⟩,⟨some 8, .load false 1 false (.tmp 7), some (6, true)⟩,⟨some 9, .arith .leq (.tmp 8) (.cst (.int .i64 1099511627776)), some (6, true)⟩,⟨some 10, .pick (.tmp 6) (.tmp 9) (.cst (.bool false)), none⟩,⟨some 11, .mov (.tmp 10), none⟩,⟨some 12, .faddr 1 (.tmp 1), some (11, true)⟩,⟨some 13, .load false 1 false (.tmp 12), some (11, true)⟩,⟨some 14, .arith .leq (.cst (.int .i64 (-1152921504606846976))) (.tmp 13), some (11, true)⟩,⟨some 15, .pick (.tmp 11) (.tmp 14) (.cst (.bool false)), none⟩,⟨some 16, .mov (.tmp 15), none⟩,⟨some 17, .faddr 1 (.tmp 1), some (16, true)⟩,⟨some 18, .load false 1 false (.tmp 17), some (16, true)⟩,⟨some 19, .arith .leq (.tmp 18) (.cst (.int .i64 1152921504606846976)), some (16, true)⟩,⟨some 20, .pick (.tmp 16) (.tmp 19) (.cst (.bool false)), none⟩,⟨some 2, .mov (.tmp 20), none⟩] :: K) fr S := rfl
def z65 : PCodeFn :=
  ⟨1, [.tmp 2],
  (.seq (.region z65_r0) (.seq (.clr [(3, 21)] (.region z65_r1)) .ret)), false⟩

def z49_r0 : List POper := [⟨some 4, .mov (.cst (.int .i64 0)), none⟩]
@[simp] theorem z49_r0_go : gval T (.ops z49_r0 :: K) fr S = gval T (.ops [⟨some 4, .mov (.cst (.int .i64 0)), none⟩] :: K) fr S := rfl
def z49_r1 : List POper := [⟨some 5, .mov (.tmp 0), none⟩,⟨some 6, .mov (.tmp 1), none⟩,⟨some 7, .arith .lss (.tmp 5) (.tmp 6), none⟩]
@[simp] theorem z49_r1_go : gval T (.ops z49_r1 :: K) fr S = gval T (.ops [⟨some 5, .mov (.tmp 0), none⟩,⟨some 6, .mov (.tmp 1), none⟩,⟨some 7, .arith .lss (.tmp 5) (.tmp 6), none⟩] :: K) fr S := rfl
def z49_r2 : List POper := [⟨some 4, .mov (.cst (.int .i64 (-1))), none⟩]
@[simp] theorem z49_r2_go : gval T (.ops z49_r2 :: K) fr S = gval T (.ops [⟨some 4, .mov (.cst (.int .i64 (-1))), none⟩] :: K) fr S := rfl
def z49_r3 : List POper := [⟨some 8, .mov (.tmp 0), none⟩,⟨some 9, .mov (.tmp 1), none⟩,⟨some 10, .arith .gtr (.tmp 8) (.tmp 9), none⟩]
@[simp] theorem z49_r3_go : gval T (.ops z49_r3 :: K) fr S = gval T (.ops [⟨some 8, .mov (.tmp 0), none⟩,⟨some 9, .mov (.tmp 1), none⟩,⟨some 10, .arith .gtr (.tmp 8) (.tmp 9), none⟩] :: K) fr S := rfl
def z49_r4 : List POper := [⟨some 4, .mov (.cst (.int .i64 1)), none⟩]
@[simp] theorem z49_r4_go : gval T (.ops z49_r4 :: K) fr S = gval T (.ops [⟨some 4, .mov (.cst (.int .i64 1)), none⟩] :: K) fr S := rfl
def z49_r5 : List POper := [⟨some 4, .mov (.cst (.int .i64 0)), none⟩]
@[simp] theorem z49_r5_go : gval T (.ops z49_r5 :: K) fr S = gval T (.ops [⟨some 4, .mov (.cst (.int .i64 0)), none⟩] :: K) fr S := rfl
def z49 : PCodeFn :=
  ⟨2, [.tmp 4],
  (.seq (.region z49_r0) (.seq (.seq (.clr [(5, 7)] (.region z49_r1)) (.cond (.tmp 7) (.seq (.region z49_r2) .ret) .skip)) (.seq (.seq (.clr [(8, 10)] (.region z49_r3)) (.cond (.tmp 10) (.seq (.region z49_r4) .ret) .skip)) (.seq (.region z49_r5) .ret)))), false⟩

def z64_r0 : List POper := [⟨some 2, .mov (.cst (.int .u32 0)), none⟩]
@[simp] theorem z64_r0_go : gval T (.ops z64_r0 :: K) fr S = gval T (.ops [⟨some 2, .mov (.cst (.int .u32 0)), none⟩] :: K) fr S := rfl
def z64_r1 : List POper := [⟨some 3, .alloc false [(.int .u32 0)], none⟩,⟨none, .store 1 (.tmp 3) (.cst (.int .u32 4294967295)), none⟩]
@[simp] theorem z64_r1_go : gval T (.ops z64_r1 :: K) fr S = gval T (.ops [⟨some 3, .alloc false [(.int .u32 0)], none⟩,⟨none, .store 1 (.tmp 3) (.cst (.int .u32 4294967295)), none⟩] :: K) fr S := rfl
def z64_r2 : List POper := [⟨some 7, .mkfn 342 [(.tmp 3)], none⟩,⟨some 4, .mov (.tmp 7), none⟩]
@[simp] theorem z64_r2_go : gval T (.ops z64_r2 :: K) fr S = gval T (.ops [⟨some 7, .mkfn 342 [(.tmp 3)], none⟩,⟨some 4, .mov (.tmp 7), none⟩] :: K) fr S := rfl
def z64_r3 : List POper := [⟨some 8, .mov (.tmp 0), none⟩,⟨some 9, .len false (.tmp 8), none⟩,⟨some 10, .mov (.cst (.int .i64 0)), none⟩]
@[simp] theorem z64_r3_go : gval T (.ops z64_r3 :: K) fr S = gval T (.ops [⟨some 8, .mov (.tmp 0), none⟩,⟨some 9, .len false (.tmp 8), none⟩,⟨some 10, .mov (.cst (.int .i64 0)), none⟩] :: K) fr S := rfl
def z64_r4 : List POper := [⟨some 11, .arith .lss (.tmp 10) (.tmp 9), none⟩]
@[simp] theorem z64_r4_go : gval T (.ops z64_r4 :: K) fr S = gval T (.ops [⟨some 11, .arith .lss (.tmp 10) (.tmp 9), none⟩] :: K) fr S := rfl
def z64_r5 : List POper := [⟨some 12, .iaddr 1 (.tmp 8) (.tmp 10), none⟩,⟨some 13, .load false 1 false (.tmp 12), none⟩,⟨some 6, .mov (.tmp 13), none⟩]
@[simp] theorem z64_r5_go : gval T (.ops z64_r5 :: K) fr S = gval T (.ops [⟨some 12, .iaddr 1 (.tmp 8) (.tmp 10), none⟩,⟨some 13, .load false 1 false (.tmp 12), none⟩,⟨some 6, .mov (.tmp 13), none⟩] :: K) fr S := rfl
def z64_r6 : List POper := [⟨some 14, .load false 1 false (.tmp 3), none⟩,⟨some 15, .mov (.tmp 6), none⟩,⟨some 16, .toInt .u32 (.tmp 15), none⟩,⟨some 17, .arith .xor (.tmp 14) (.tmp 16), none⟩,⟨none, .store 1 (.tmp 3) (.tmp 17), none⟩]
@[simp] theorem z64_r6_go : gval T (.ops z64_r6 :: K) fr S = gval T (.ops [⟨some 14, .load false 1 false (.tmp 3), none⟩,⟨some 15, .mov (.tmp 6), none⟩,⟨some 16, .toInt .u32 (.tmp 15), none⟩,⟨some 17, .arith .xor (.tmp 14) (.tmp 16), none⟩,⟨none, .store 1 (.tmp 3) (.tmp 17), none⟩] :: K) fr S := rfl
def z64_r7 : List POper := [⟨some 18, .mov (.cst (.int .i64 0)), none⟩]
@[simp] theorem z64_r7_go : gval T (.ops z64_r7 :: K) fr S = gval T (.ops [⟨some 18, .mov (.cst (.int .i64 0)), none⟩] :: K) fr S := rfl
def z64_r8 : List POper := [⟨some 19, .arith .lss (.tmp 18) (.cst (.int .i64 8)), none⟩]
@[simp] theorem z64_r8_go : gval T (.ops z64_r8 :: K) fr S = gval T (.ops [⟨some 19, .arith .lss (.tmp 18) (.cst (.int .i64 8)), none⟩] :: K) fr S := rfl
def z64_r9 : List POper := [⟨some 20, .mov (.tmp 4), none⟩,⟨some 21, .callv .std (.tmp 20) [], none⟩]
@[simp] theorem z64_r9_go : gval T (.ops z64_r9 :: K) fr S = gval T (.ops [⟨some 20, .mov (.tmp 4), none⟩,⟨some 21, .callv .std (.tmp 20) [], none⟩] :: K) fr S := rfl
def z64_r10 : List POper := [⟨some 22, .arith .add (.tmp 18) (.cst (.int .i64 1)), none⟩,⟨some 18, .mov (.tmp 22), none⟩]
@[simp] theorem z64_r10_go : gval T (.ops z64_r10 :: K) fr S = gval T (.ops [⟨some 22, .arith .add (.tmp 18) (.cst (.int .i64 1)), none⟩,⟨some 18, .mov (.tmp 22), none⟩] :: K) fr S := rfl
def z64_l1 : PCode :=
  (.seq (.region z64_r8) (.seq (.cond (.tmp 19) .skip (.exit 2)) (.seq (.block 3 (.clr [(20, 22)] (.region z64_r9))) (.clr [(22, 23)] (.region z64_r10)))))
@[simp] theorem frame_Sum_l1_go : gval T (.code z64_l1 :: K) fr S = gval T (.code (.seq (.region z64_r8) (.seq (.cond (.tmp 19) .skip (.exit 2)) (.seq (.block 3 (.clr [(20, 22)] (.region z64_r9))) (.clr [(22, 23)] (.region z64_r10))))) :: K) fr S := rfl
def z64_r11 : List POper := [⟨some 23, .arith .add (.tmp 10) (.cst (.int .i64 1)), none⟩,⟨some 10, .mov (.tmp 23), none⟩]
@[simp] theorem z64_r11_go : gval T (.ops z64_r11 :: K) fr S = gval T (.ops [⟨some 23, .arith .add (.tmp 10) (.cst (.int .i64 1)), none⟩,⟨some 10, .mov (.tmp 23), none⟩] :: K) fr S := rfl
def z64_l0 : PCode :=
  (.seq (.region z64_r4) (.seq (.cond (.tmp 11) .skip (.exit 0)) (.seq (.block 1 (.seq (.clr [(12, 14)] (.region z64_r5)) (.seq (.clr [(14, 18)] (.region z64_r6)) (.seq (.region z64_r7) (.block 2 (.loop z64_l1)))))) (.clr [(23, 24)] (.region z64_r11)))))
@[simp] theorem frame_Sum_l0_go : gval T (.code z64_l0 :: K) fr S = gval T (.code (.seq (.region z64_r4) (.seq (.cond (.tmp 11) .skip (.exit 0)) (.seq (.block 1 (.seq (.clr [(12, 14)] (.region z64_r5)) (.seq (.clr [(14, 18)] (.region z64_r6)) (.seq (.region z64_r7) (.block 2 (.loop z64_l1)))))) (.clr [(23, 24)] (.region z64_r11))))) :: K) fr S := rfl
def z64_r12 : List POper := [⟨some 24, .load false 1 false (.tmp 3), none⟩,⟨some 25, .un .xor (.tmp 24), none⟩,⟨some 2, .mov (.tmp 25), none⟩]
@[simp] theorem z64_r12_go : gval T (.ops z64_r12 :: K) fr S = gval T (.ops [⟨some 24, .load false 1 false (.tmp 3), none⟩,⟨some 25, .un .xor (.tmp 24), none⟩,⟨some 2, .mov (.tmp 25), none⟩] :: K) fr S := rfl
def z64 : PCodeFn :=
  ⟨1, [.tmp 2],
  (.seq (.region z64_r0) (.seq (.region z64_r1) (.seq (.clr [(7, 8)] (.region z64_r2)) (.seq (.seq (.region z64_r3) (.block 0 (.loop z64_l0))) (.seq (.clr [(24, 26)] (.region z64_r12)) .ret))))), false⟩

end Ps
