/- The functions' code, as the pure semantics has it: printed by program. -/
import Derived.Test.YtppjibgophfdfaaCodeA
namespace Ps
open Go
set_option maxRecDepth 10000
variable (T : Tbl) (K : List Kt) (fr : Fr) (S : St)

def z12_r0 : List POper := [⟨some 6, .mov (.cst (.int .i64 0)), none⟩]
@[simp] theorem z12_r0_go : gval T (.ops z12_r0 :: K) fr S = gval T (.ops [⟨some 6, .mov (.cst (.int .i64 0)), none⟩] :: K) fr S := rfl
def z12_r1 : List POper := [⟨some 13, .mov (.tmp 0), none⟩,⟨some 14, .eqn false .p (.tmp 13), none⟩,⟨some 15, .mov (.tmp 14), none⟩,⟨some 16, .mov (.tmp 0), some (15, false)⟩,⟨some 17, .nilck (.tmp 16), some (15, false)⟩,⟨some 18, .faddr 2 (.tmp 17), some (15, false)⟩,⟨some 19, .load false 1 false (.tmp 18), some (15, false)⟩,⟨some 20, .eqn false .m (.tmp 19), some (15, false)⟩,⟨some 21, .pick (.tmp 15) (.cst (.bool true)) (.tmp 20), none⟩]
@[simp] theorem z12_r1_go : gval T (.ops z12_r1 :: K) fr S = gval T (.ops [⟨some 13, .mov (.tmp 0), none⟩,⟨some 14, .eqn false .p (.tmp 13), none⟩,⟨some 15, .mov (.tmp 14), none⟩,⟨some 16, .mov (.tmp 0), some (15, false)⟩,⟨some 17, .nilck (.tmp 16), some (15, false)⟩,⟨some 18, .faddr 2 (.tmp 17), some (15, false)⟩,⟨some 19, .load false 1 false (.tmp 18), some (15, false)⟩,⟨some 20, .eqn false .m (.tmp 19), some (15, false)⟩,⟨some 21, .pick (.tmp 15) (.cst (.bool true)) (.tmp 20), none⟩] :: K) fr S := rfl
def z12_r2 : List POper := [⟨some 6, .mov (.cst (.int .i64 1)), none⟩]
@[simp] theorem z12_r2_go : gval T (.ops z12_r2 :: K) fr S = gval T (.ops [⟨some 6, .mov (.cst (.int .i64 1)), none⟩] :: K) fr S := rfl
def z12_r3 : List POper := [⟨some 22, .mov (.tmp 0), none⟩,⟨some 23, .nilck (.tmp 22), none⟩,⟨some 24, .faddr 3 (.tmp 23), none⟩,⟨some 25, .load false 1 false (.tmp 24), none⟩,⟨some 26, .mov (.tmp 1), none⟩,⟨some 27, .toInt .u64 (.tmp 26), none⟩,⟨some 28, .mov (.tmp 0), none⟩,⟨some 29, .nilck (.tmp 28), none⟩,⟨some 30, .faddr 3 (.tmp 29), none⟩,⟨some 31, .load false 1 false (.tmp 30), none⟩,⟨some 32, .len false (.tmp 31), none⟩,⟨some 33, .arith .add (.tmp 32) (.cst (.int .i64 1)), none⟩,⟨some 34, .toInt .u64 (.tmp 33), none⟩,⟨some 35, .arith .rem (.tmp 27) (.tmp 34), none⟩,⟨some 36, .slc 3 none (some (.tmp 35)) (.tmp 25), none⟩,⟨some 37, .len false (.tmp 36), none⟩,⟨some 38, .mov (.cst (.int .i64 0)), none⟩]
@[simp] theorem z12_r3_go : gval T (.ops z12_r3 :: K) fr S = gval T (.ops [⟨some 22, .mov (.tmp 0), none⟩,⟨some 23, .nilck (.tmp 22), none⟩,⟨some 24, .faddr 3 (.tmp 23), none⟩,⟨some 25, .load false 1 false (.tmp 24), none⟩,⟨some 26, .mov (.tmp 1), none⟩,⟨some 27, .toInt .u64 (.tmp 26), none⟩,⟨some 28, .mov (.tmp 0), none⟩,⟨some 29, .nilck (.tmp 28), none⟩,⟨some 30, .faddr 3 (.tmp 29), none⟩,⟨some 31, .load false 1 false (.tmp 30), none⟩,⟨some 32, .len false (.tmp 31), none⟩,⟨some 33, .arith .add (.tmp 32) (.cst (.int .i64 1)), none⟩,⟨some 34, .toInt .u64 (.tmp 33), none⟩,⟨some 35, .arith .rem (.tmp 27) (.tmp 34), none⟩,⟨some 36, .slc 3 none (some (.tmp 35)) (.tmp 25), none⟩,⟨some 37, .len false (.tmp 36), none⟩,⟨some 38, .mov (.cst (.int .i64 0)), none⟩] :: K) fr S := rfl
def z12_r4 : List POper := [⟨some 39, .arith .lss (.tmp 38) (.tmp 37), none⟩]
@[simp] theorem z12_r4_go : gval T (.ops z12_r4 :: K) fr S = gval T (.ops [⟨some 39, .arith .lss (.tmp 38) (.tmp 37), none⟩] :: K) fr S := rfl
def z12_r5 : List POper := [⟨some 40, .iaddr 3 (.tmp 36) (.tmp 38), none⟩,⟨some 41, .load true 3 false (.tmp 40), none⟩,⟨some 8, .alloc false [(.str []), (.str []), .nilp], none⟩,⟨none, .store 3 (.tmp 8) (.tmp 41), none⟩]
@[simp] theorem z12_r5_go : gval T (.ops z12_r5 :: K) fr S = gval T (.ops [⟨some 40, .iaddr 3 (.tmp 36) (.tmp 38), none⟩,⟨some 41, .load true 3 false (.tmp 40), none⟩,⟨some 8, .alloc false [(.str []), (.str []), .nilp], none⟩,⟨none, .store 3 (.tmp 8) (.tmp 41), none⟩] :: K) fr S := rfl
def z12_r6 : List POper := [⟨some 42, .load true 3 false (.tmp 8), none⟩,⟨some 43, .mov (.tmp 0), none⟩,⟨some 44, .nilck (.tmp 43), none⟩,⟨some 45, .faddr 1 (.tmp 44), none⟩,⟨some 46, .load false 1 false (.tmp 45), none⟩,⟨some 47, .call .std 198 [(.tmp 42), (.tmp 46)], none⟩]
@[simp] theorem z12_r6_go : gval T (.ops z12_r6 :: K) fr S = gval T (.ops [⟨some 42, .load true 3 false (.tmp 8), none⟩,⟨some 43, .mov (.tmp 0), none⟩,⟨some 44, .nilck (.tmp 43), none⟩,⟨some 45, .faddr 1 (.tmp 44), none⟩,⟨some 46, .load false 1 false (.tmp 45), none⟩,⟨some 47, .call .std 198 [(.tmp 42), (.tmp 46)], none⟩] :: K) fr S := rfl
def z12_r7 : List POper := [⟨some 48, .arith .add (.tmp 38) (.cst (.int .i64 1)), none⟩,⟨some 38, .mov (.tmp 48), none⟩]
@[simp] theorem z12_r7_go : gval T (.ops z12_r7 :: K) fr S = gval T (.ops [⟨some 48, .arith .add (.tmp 38) (.cst (.int .i64 1)), none⟩,⟨some 38, .mov (.tmp 48), none⟩] :: K) fr S := rfl
def z12_l0 : PCode :=
  (.seq (.region z12_r4) (.seq (.cond (.tmp 39) .skip (.exit 0)) (.seq (.block 1 (.seq (.clr [(40, 42)] (.region z12_r5)) (.clr [(42, 48)] (.region z12_r6)))) (.clr [(48, 49)] (.region z12_r7)))))
@[simp] theorem disk_Disk_Crash_l0_go : gval T (.code z12_l0 :: K) fr S = gval T (.code (.seq (.region z12_r4) (.seq (.cond (.tmp 39) .skip (.exit 0)) (.seq (.block 1 (.seq (.clr [(40, 42)] (.region z12_r5)) (.clr [(42, 48)] (.region z12_r6)))) (.clr [(48, 49)] (.region z12_r7))))) :: K) fr S := rfl
def z12_r8 : List POper := [⟨some 49, .mov (.tmp 0), none⟩,⟨some 50, .nilck (.tmp 49), none⟩,⟨some 51, .faddr 1 (.tmp 50), none⟩,⟨some 52, .load false 1 false (.tmp 51), none⟩,⟨some 53, .call .std 200 [(.tmp 52)], none⟩,⟨some 54, .call .std 199 [(.tmp 53)], none⟩,⟨some 55, .len false (.tmp 54), none⟩,⟨some 56, .mov (.cst (.int .i64 0)), none⟩]
@[simp] theorem z12_r8_go : gval T (.ops z12_r8 :: K) fr S = gval T (.ops [⟨some 49, .mov (.tmp 0), none⟩,⟨some 50, .nilck (.tmp 49), none⟩,⟨some 51, .faddr 1 (.tmp 50), none⟩,⟨some 52, .load false 1 false (.tmp 51), none⟩,⟨some 53, .call .std 200 [(.tmp 52)], none⟩,⟨some 54, .call .std 199 [(.tmp 53)], none⟩,⟨some 55, .len false (.tmp 54), none⟩,⟨some 56, .mov (.cst (.int .i64 0)), none⟩] :: K) fr S := rfl
def z12_r9 : List POper := [⟨some 57, .arith .lss (.tmp 56) (.tmp 55), none⟩]
@[simp] theorem z12_r9_go : gval T (.ops z12_r9 :: K) fr S = gval T (.ops [⟨some 57, .arith .lss (.tmp 56) (.tmp 55), none⟩] :: K) fr S := rfl
def z12_r10 : List POper := [⟨some 58, .mov (.tmp 56), none⟩,⟨some 59, .iaddr 1 (.tmp 54) (.tmp 56), none⟩,⟨some 60, .load false 1 false (.tmp 59), none⟩,⟨some 9, .mov (.tmp 58), none⟩,⟨some 10, .mov (.tmp 60), none⟩]
@[simp] theorem z12_r10_go : gval T (.ops z12_r10 :: K) fr S = gval T (.ops [⟨some 58, .mov (.tmp 56), none⟩,⟨some 59, .iaddr 1 (.tmp 54) (.tmp 56), none⟩,⟨some 60, .load false 1 false (.tmp 59), none⟩,⟨some 9, .mov (.tmp 58), none⟩,⟨some 10, .mov (.tmp 60), none⟩] :: K) fr S := rfl
def z12_r11 : List POper := [⟨some 61, .mov (.tmp 0), none⟩,⟨some 62, .nilck (.tmp 61), none⟩,⟨some 63, .faddr 1 (.tmp 62), none⟩,⟨some 64, .load false 1 false (.tmp 63), none⟩,⟨some 65, .mov (.tmp 10), none⟩,⟨some 66, .mlk true false .nilp (.tmp 64) (.tmp 65), none⟩,⟨some 11, .mov (.tmp 66), none⟩]
@[simp] theorem z12_r11_go : gval T (.ops z12_r11 :: K) fr S = gval T (.ops [⟨some 61, .mov (.tmp 0), none⟩,⟨some 62, .nilck (.tmp 61), none⟩,⟨some 63, .faddr 1 (.tmp 62), none⟩,⟨some 64, .load false 1 false (.tmp 63), none⟩,⟨some 65, .mov (.tmp 10), none⟩,⟨some 66, .mlk true false .nilp (.tmp 64) (.tmp 65), none⟩,⟨some 11, .mov (.tmp 66), none⟩] :: K) fr S := rfl
def z12_r12 : List POper := [⟨some 67, .mov (.tmp 11), none⟩,⟨some 68, .nilck (.tmp 67), none⟩,⟨some 69, .faddr 1 (.tmp 68), none⟩,⟨some 70, .load false 1 false (.tmp 69), none⟩,⟨some 12, .mov (.tmp 70), none⟩]
@[simp] theorem z12_r12_go : gval T (.ops z12_r12 :: K) fr S = gval T (.ops [⟨some 67, .mov (.tmp 11), none⟩,⟨some 68, .nilck (.tmp 67), none⟩,⟨some 69, .faddr 1 (.tmp 68), none⟩,⟨some 70, .load false 1 false (.tmp 69), none⟩,⟨some 12, .mov (.tmp 70), none⟩] :: K) fr S := rfl
def z12_r13 : List POper := [⟨some 71, .mov (.tmp 9), none⟩,⟨some 72, .mov (.tmp 2), none⟩,⟨some 73, .len false (.tmp 72), none⟩,⟨some 74, .arith .lss (.tmp 71) (.tmp 73), none⟩]
@[simp] theorem z12_r13_go : gval T (.ops z12_r13 :: K) fr S = gval T (.ops [⟨some 71, .mov (.tmp 9), none⟩,⟨some 72, .mov (.tmp 2), none⟩,⟨some 73, .len false (.tmp 72), none⟩,⟨some 74, .arith .lss (.tmp 71) (.tmp 73), none⟩] :: K) fr S := rfl
def z12_r14 : List POper := [⟨some 75, .mov (.tmp 12), none⟩,⟨some 76, .mov (.tmp 2), none⟩,⟨some 77, .mov (.tmp 9), none⟩,⟨some 78, .iaddr 1 (.tmp 76) (.tmp 77), none⟩,⟨some 79, .load false 1 true (.tmp 78), none⟩,⟨some 80, .toInt .u64 (.tmp 79), none⟩,⟨some 81, .mov (.tmp 11), none⟩,⟨some 82, .nilck (.tmp 81), none⟩,⟨some 83, .faddr 0 (.tmp 82), none⟩,⟨some 84, .load false 1 false (.tmp 83), none⟩,⟨some 85, .len false (.tmp 84), none⟩,⟨some 86, .mov (.tmp 11), none⟩,⟨some 87, .nilck (.tmp 86), none⟩,⟨some 88, .faddr 1 (.tmp 87), none⟩,⟨some 89, .load false 1 false (.tmp 88), none⟩,⟨some 90, .arith .sub (.tmp 85) (.tmp 89), none⟩,⟨some 91, .arith .add (.tmp 90) (.cst (.int .i64 1)), none⟩,⟨some 92, .toInt .u64 (.tmp 91), none⟩,⟨some 93, .arith .rem (.tmp 80) (.tmp 92), none⟩,⟨some 94, .toInt .i64 (.tmp 93), none⟩,⟨some 95, .arith .add (.tmp 75) (.tmp 94), none⟩,⟨some 12, .mov (.tmp 95), none⟩]
@[simp] theorem z12_r14_go : gval T (.ops z12_r14 :: K) fr S = gval T (.ops [⟨some 75, .mov (.tmp 12), none⟩,⟨some 76, .mov (.tmp 2), none⟩,⟨some 77, .mov (.tmp 9), none⟩,⟨some 78, .iaddr 1 (.tmp 76) (.tmp 77), none⟩,⟨some 79, .load false 1 true (.tmp 78), none⟩,⟨some 80, .toInt .u64 (.tmp 79), none⟩,⟨some 81, .mov (.tmp 11), none⟩,⟨some 82, .nilck (.tmp 81), none⟩,⟨some 83, .faddr 0 (.tmp 82), none⟩,⟨some 84, .load false 1 false (.tmp 83), none⟩,⟨some 85, .len false (.tmp 84), none⟩,⟨some 86, .mov (.tmp 11), none⟩,⟨some 87, .nilck (.tmp 86), none⟩,⟨some 88, .faddr 1 (.tmp 87), none⟩,⟨some 89, .load false 1 false (.tmp 88), none⟩,⟨some 90, .arith .sub (.tmp 85) (.tmp 89), none⟩,⟨some 91, .arith .add (.tmp 90) (.cst (.int .i64 1)), none⟩,⟨some 92, .toInt .u64 (.tmp 91), none⟩,⟨some 93, .arith .rem (.tmp 80) (.tmp 92), none⟩,⟨some 94, .toInt .i64 (.tmp 93), none⟩,⟨some 95, .arith .add (.tmp 75) (.tmp 94), none⟩,⟨some 12, .mov (.tmp 95), none⟩] :: K) fr S := rfl
def z12_r15 : List POper := [⟨some 96, .mov (.tmp 11), none⟩,⟨some 97, .mov (.tmp 11), none⟩,⟨some 98, .mov (.tmp 11), none⟩,⟨some 99, .nilck (.tmp 98), none⟩,⟨some 100, .faddr 0 (.tmp 99), none⟩,⟨some 101, .load false 1 false (.tmp 100), none⟩,⟨some 102, .mov (.tmp 12), none⟩,⟨some 103, .mov (.tmp 12), none⟩,⟨some 104, .slc3 1 none (.tmp 102) (.tmp 103) (.tmp 101), none⟩,⟨some 105, .mov (.tmp 12), none⟩,⟨some 106, .nilck (.tmp 96), none⟩,⟨some 107, .faddr 0 (.tmp 106), none⟩,⟨none, .store 1 (.tmp 107) (.tmp 104), none⟩,⟨some 108, .nilck (.tmp 97), none⟩,⟨some 109, .faddr 1 (.tmp 108), none⟩,⟨none, .store 1 (.tmp 109) (.tmp 105), none⟩]
@[simp] theorem z12_r15_go : gval T (.ops z12_r15 :: K) fr S = gval T (.ops [⟨some 96, .mov (.tmp 11), none⟩,⟨some 97, .mov (.tmp 11), none⟩,⟨some 98, .mov (.tmp 11), none⟩,⟨some 99, .nilck (.tmp 98), none⟩,⟨some 100, .faddr 0 (.tmp 99), none⟩,⟨some 101, .load false 1 false (.tmp 100), none⟩,⟨some 102, .mov (.tmp 12), none⟩,⟨some 103, .mov (.tmp 12), none⟩,⟨some 104, .slc3 1 none (.tmp 102) (.tmp 103) (.tmp 101), none⟩,⟨some 105, .mov (.tmp 12), none⟩,⟨some 106, .nilck (.tmp 96), none⟩,⟨some 107, .faddr 0 (.tmp 106), none⟩,⟨none, .store 1 (.tmp 107) (.tmp 104), none⟩,⟨some 108, .nilck (.tmp 97), none⟩,⟨some 109, .faddr 1 (.tmp 108), none⟩,⟨none, .store 1 (.tmp 109) (.tmp 105), none⟩] :: K) fr S := rfl
def z12_r16 : List POper := [⟨some 110, .arith .add (.tmp 56) (.cst (.int .i64 1)), none⟩,⟨some 56, .mov (.tmp 110), none⟩]
@[simp] theorem z12_r16_go : gval T (.ops z12_r16 :: K) fr S = gval T (.ops [⟨some 110, .arith .add (.tmp 56) (.cst (.int .i64 1)), none⟩,⟨some 56, .mov (.tmp 110), none⟩] :: K) fr S := rfl
def z12_l1 : PCode :=
  (.seq (.region z12_r9) (.seq (.cond (.tmp 57) .skip (.exit 2)) (.seq (.block 3 (.seq (.clr [(58, 61)] (.region z12_r10)) (.seq (.clr [(61, 67)] (.region z12_r11)) (.seq (.clr [(67, 71)] (.region z12_r12)) (.seq (.seq (.clr [(71, 74)] (.region z12_r13)) (.cond (.tmp 74) (.clr [(75, 96)] (.region z12_r14)) .skip)) (.clr [(96, 110)] (.region z12_r15))))))) (.clr [(110, 111)] (.region z12_r16)))))
@[simp] theorem disk_Disk_Crash_l1_go : gval T (.code z12_l1 :: K) fr S = gval T (.code (.seq (.region z12_r9) (.seq (.cond (.tmp 57) .skip (.exit 2)) (.seq (.block 3 (.seq (.clr [(58, 61)] (.region z12_r10)) (.seq (.clr [(61, 67)] (.region z12_r11)) (.seq (.clr [(67, 71)] (.region z12_r12)) (.seq (.seq (.clr [(71, 74)] (.region z12_r13)) (.cond (.tmp 74) (.clr [(75, 96)] (.region z12_r14)) .skip)) (.clr [(96, 110)] (.region z12_r15))))))) (.clr [(110, 111)] (.region z12_r16))))) :: K) fr S := rfl
def z12_r17 : List POper := [⟨some 111, .mov (.tmp 0), none⟩,⟨some 112, .mov (.tmp 0), none⟩,⟨some 113, .mov (.tmp 0), none⟩,⟨some 114, .mov (.tmp 0), none⟩,⟨some 115, .mov (.tmp 0), none⟩,⟨some 116, .nilck (.tmp 115), none⟩,⟨some 117, .faddr 1 (.tmp 116), none⟩,⟨some 118, .load false 1 false (.tmp 117), none⟩,⟨some 119, .call .std 197 [(.tmp 118)], none⟩,⟨some 120, .nilck (.tmp 111), none⟩,⟨some 121, .faddr 2 (.tmp 120), none⟩,⟨none, .store 1 (.tmp 121) (.tmp 119), none⟩,⟨some 122, .nilck (.tmp 112), none⟩,⟨some 123, .faddr 3 (.tmp 122), none⟩,⟨none, .store 1 (.tmp 123) (.cst .nils), none⟩,⟨some 124, .nilck (.tmp 113), none⟩,⟨some 125, .faddr 4 (.tmp 124), none⟩,⟨none, .store 1 (.tmp 125) (.cst (.int .i64 (-1))), none⟩,⟨some 126, .nilck (.tmp 114), none⟩,⟨some 127, .faddr 6 (.tmp 126), none⟩,⟨none, .store 1 (.tmp 127) (.cst (.bool false)), none⟩]
@[simp] theorem z12_r17_go : gval T (.ops z12_r17 :: K) fr S = gval T (.ops [⟨some 111, .mov (.tmp 0), none⟩,⟨some 112, .mov (.tmp 0), none⟩,⟨some 113, .mov (.tmp 0), none⟩,⟨some 114, .mov (.tmp 0), none⟩,⟨some 115, .mov (.tmp 0), none⟩,⟨some 116, .nilck (.tmp 115), none⟩,⟨some 117, .faddr 1 (.tmp 116), none⟩,⟨some 118, .load false 1 false (.tmp 117), none⟩,⟨some 119, .call .std 197 [(.tmp 118)], none⟩,⟨some 120, .nilck (.tmp 111), none⟩,⟨some 121, .faddr 2 (.tmp 120), none⟩,⟨none, .store 1 (.tmp 121) (.tmp 119), none⟩,⟨some 122, .nilck (.tmp 112), none⟩,⟨some 123, .faddr 3 (.tmp 122), none⟩,⟨none, .store 1 (.tmp 123) (.cst .nils), none⟩,⟨some 124, .nilck (.tmp 113), none⟩,⟨some 125, .faddr 4 (.tmp 124), none⟩,⟨none, .store 1 (.tmp 125) (.cst (.int .i64 (-1))), none⟩,⟨some 126, .nilck (.tmp 114), none⟩,⟨some 127, .faddr 6 (.tmp 126), none⟩,⟨none, .store 1 (.tmp 127) (.cst (.bool false)), none⟩] :: K) fr S := rfl
def z12_r18 : List POper := [⟨some 6, .mov (.cst (.int .i64 0)), none⟩]
@[simp] theorem z12_r18_go : gval T (.ops z12_r18 :: K) fr S = gval T (.ops [⟨some 6, .mov (.cst (.int .i64 0)), none⟩] :: K) fr S := rfl
def z12 : PCodeFn :=
  ⟨3, [.tmp 6],
  (.seq (.region z12_r0) (.seq (.seq (.clr [(13, 21)] (.region z12_r1)) (.cond (.tmp 21) (.seq (.region z12_r2) .ret) .skip)) (.seq (.seq (.clr [(22, 36)] (.region z12_r3)) (.block 0 (.loop z12_l0))) (.seq (.seq (.clr [(49, 54)] (.region z12_r8)) (.block 2 (.loop z12_l1))) (.seq (.clr [(111, 128)] (.region z12_r17)) (.seq (.region z12_r18) .ret)))))), false⟩

def z19_r0 : List POper := [⟨some 4, .mov (.tmp 0), none⟩,⟨some 5, .eqn true .p (.tmp 4), none⟩,⟨some 6, .mov (.tmp 5), none⟩,⟨some 7, .mov (.tmp 0), some (6, true)⟩,⟨some 8, .nilck (.tmp 7), some (6, true)⟩,⟨some 9, .faddr 2 (.tmp 8), some (6, true)⟩,⟨some 10, .load false 1 false (.tmp 9), some (6, true)⟩,⟨some 11, .eqn true .m (.tmp 10), some (6, true)⟩,⟨some 12, .pick (.tmp 6) (.tmp 11) (.cst (.bool false)), none⟩]
@[simp] theorem z19_r0_go : gval T (.ops z19_r0 :: K) fr S = gval T (.ops [⟨some 4, .mov (.tmp 0), none⟩,⟨some 5, .eqn true .p (.tmp 4), none⟩,⟨some 6, .mov (.tmp 5), none⟩,⟨some 7, .mov (.tmp 0), some (6, true)⟩,⟨some 8, .nilck (.tmp 7), some (6, true)⟩,⟨some 9, .faddr 2 (.tmp 8), some (6, true)⟩,⟨some 10, .load false 1 false (.tmp 9), some (6, true)⟩,⟨some 11, .eqn true .m (.tmp 10), some (6, true)⟩,⟨some 12, .pick (.tmp 6) (.tmp 11) (.cst (.bool false)), none⟩] :: K) fr S := rfl
def z19_r1 : List POper := [⟨some 13, .mov (.tmp 0), none⟩,⟨some 14, .mov (.tmp 1), none⟩,⟨some 15, .mnmx true (.tmp 14) (.cst (.int .i64 (-1))), none⟩,⟨some 16, .nilck (.tmp 13), none⟩,⟨some 17, .faddr 4 (.tmp 16), none⟩,⟨none, .store 1 (.tmp 17) (.tmp 15), none⟩]
@[simp] theorem z19_r1_go : gval T (.ops z19_r1 :: K) fr S = gval T (.ops [⟨some 13, .mov (.tmp 0), none⟩,⟨some 14, .mov (.tmp 1), none⟩,⟨some 15, .mnmx true (.tmp 14) (.cst (.int .i64 (-1))), none⟩,⟨some 16, .nilck (.tmp 13), none⟩,⟨some 17, .faddr 4 (.tmp 16), none⟩,⟨none, .store 1 (.tmp 17) (.tmp 15), none⟩] :: K) fr S := rfl
def z19 : PCodeFn :=
  ⟨2, [],
  (.seq (.clr [(4, 12)] (.region z19_r0)) (.cond (.tmp 12) (.clr [(13, 18)] (.region z19_r1)) .skip)), false⟩

def z25_r0 : List POper := [⟨some 4, .mov (.cst .nils), none⟩,⟨some 5, .mov (.cst (.int .i64 0)), none⟩]
@[simp] theorem z25_r0_go : gval T (.ops z25_r0 :: K) fr S = gval T (.ops [⟨some 4, .mov (.cst .nils), none⟩,⟨some 5, .mov (.cst (.int .i64 0)), none⟩] :: K) fr S := rfl
def z25_r1 : List POper := [⟨some 7, .mov (.tmp 1), none⟩,⟨some 8, .arith .lss (.tmp 7) (.cst (.int .i64 0)), none⟩]
@[simp] theorem z25_r1_go : gval T (.ops z25_r1 :: K) fr S = gval T (.ops [⟨some 7, .mov (.tmp 1), none⟩,⟨some 8, .arith .lss (.tmp 7) (.cst (.int .i64 0)), none⟩] :: K) fr S := rfl
def z25_r2 : List POper := [⟨some 4, .mov (.cst .nils), none⟩,⟨some 5, .mov (.cst (.int .i64 2)), none⟩]
@[simp] theorem z25_r2_go : gval T (.ops z25_r2 :: K) fr S = gval T (.ops [⟨some 4, .mov (.cst .nils), none⟩,⟨some 5, .mov (.cst (.int .i64 2)), none⟩] :: K) fr S := rfl
def z25_r3 : List POper := [⟨some 9, .mov (.tmp 0), none⟩,⟨some 10, .call .std 218 [(.tmp 9), (.cst (.int .i64 9))], none⟩,⟨some 6, .mov (.tmp 10), none⟩]
@[simp] theorem z25_r3_go : gval T (.ops z25_r3 :: K) fr S = gval T (.ops [⟨some 9, .mov (.tmp 0), none⟩,⟨some 10, .call .std 218 [(.tmp 9), (.cst (.int .i64 9))], none⟩,⟨some 6, .mov (.tmp 10), none⟩] :: K) fr S := rfl
def z25_r4 : List POper := [⟨some 11, .mov (.tmp 1), none⟩,⟨some 12, .arith .geq (.tmp 11) (.cst (.int .i64 128)), none⟩]
@[simp] theorem z25_r4_go : gval T (.ops z25_r4 :: K) fr S = gval T (.ops [⟨some 11, .mov (.tmp 1), none⟩,⟨some 12, .arith .geq (.tmp 11) (.cst (.int .i64 128)), none⟩] :: K) fr S := rfl
def z25_r6 : List POper := [⟨some 15, .mov (.tmp 6), none⟩,⟨some 16, .mov (.tmp 1), none⟩,⟨some 17, .toInt .u8 (.tmp 16), none⟩,⟨some 18, .arith .or (.tmp 17) (.cst (.int .u8 128)), none⟩,⟨some 19, .bsl false (.int .u8 0) 1 [(0, (.tmp 18))], none⟩,⟨some 20, .app 1 1 (.tmp 15) (.tmp 19), none⟩,⟨some 6, .mov (.tmp 20), none⟩]
@[simp] theorem z25_r6_go : gval T (.ops z25_r6 :: K) fr S = gval T (.ops [⟨some 15, .mov (.tmp 6), none⟩,⟨some 16, .mov (.tmp 1), none⟩,⟨some 17, .toInt .u8 (.tmp 16), none⟩,⟨some 18, .arith .or (.tmp 17) (.cst (.int .u8 128)), none⟩,⟨some 19, .bsl false (.int .u8 0) 1 [(0, (.tmp 18))], none⟩,⟨some 20, .app 1 1 (.tmp 15) (.tmp 19), none⟩,⟨some 6, .mov (.tmp 20), none⟩] :: K) fr S := rfl
def z25_r5 : List POper := [⟨some 13, .mov (.tmp 1), none⟩,⟨some 14, .arith .shr (.tmp 13) (.cst (.int .u64 7)), none⟩,⟨some 1, .mov (.tmp 14), none⟩]
@[simp] theorem z25_r5_go : gval T (.ops z25_r5 :: K) fr S = gval T (.ops [⟨some 13, .mov (.tmp 1), none⟩,⟨some 14, .arith .shr (.tmp 13) (.cst (.int .u64 7)), none⟩,⟨some 1, .mov (.tmp 14), none⟩] :: K) fr S := rfl
def z25_l0 : PCode :=
  (.seq (.seq (.clr [(11, 12)] (.region z25_r4)) (.cond (.tmp 12) .skip (.exit 0))) (.seq (.block 1 (.clr [(15, 21)] (.region z25_r6))) (.clr [(13, 15)] (.region z25_r5))))
@[simp] theorem frame_PutUint_l0_go : gval T (.code z25_l0 :: K) fr S = gval T (.code (.seq (.seq (.clr [(11, 12)] (.region z25_r4)) (.cond (.tmp 12) .skip (.exit 0))) (.seq (.block 1 (.clr [(15, 21)] (.region z25_r6))) (.clr [(13, 15)] (.region z25_r5)))) :: K) fr S := rfl
def z25_r7 : List POper := [⟨some 21, .mov (.tmp 6), none⟩,⟨some 22, .mov (.tmp 1), none⟩,⟨some 23, .toInt .u8 (.tmp 22), none⟩,⟨some 24, .bsl false (.int .u8 0) 1 [(0, (.tmp 23))], none⟩,⟨some 25, .app 1 1 (.tmp 21) (.tmp 24), none⟩,⟨some 4, .mov (.tmp 25), none⟩,⟨some 5, .mov (.cst (.int .i64 0)), none⟩]
@[simp] theorem z25_r7_go : gval T (.ops z25_r7 :: K) fr S = gval T (.ops [⟨some 21, .mov (.tmp 6), none⟩,⟨some 22, .mov (.tmp 1), none⟩,⟨some 23, .toInt .u8 (.tmp 22), none⟩,⟨some 24, .bsl false (.int .u8 0) 1 [(0, (.tmp 23))], none⟩,⟨some 25, .app 1 1 (.tmp 21) (.tmp 24), none⟩,⟨some 4, .mov (.tmp 25), none⟩,⟨some 5, .mov (.cst (.int .i64 0)), none⟩] :: K) fr S := rfl
def z25 : PCodeFn :=
  ⟨2, [.tmp 4, .tmp 5],
  (.seq (.region z25_r0) (.seq (.seq (.clr [(7, 8)] (.region z25_r1)) (.cond (.tmp 8) (.seq (.region z25_r2) .ret) .skip)) (.seq (.clr [(9, 11)] (.region z25_r3)) (.seq (.block 0 (.loop z25_l0)) (.seq (.clr [(21, 26)] (.region z25_r7)) .ret))))), true⟩

def z38_r0 : List POper := [⟨some 5, .mov (.tmp 0), none⟩,⟨some 6, .len false (.tmp 5), none⟩,⟨some 7, .mov (.cst (.int .i64 0)), none⟩]
@[simp] theorem z38_r0_go : gval T (.ops z38_r0 :: K) fr S = gval T (.ops [⟨some 5, .mov (.tmp 0), none⟩,⟨some 6, .len false (.tmp 5), none⟩,⟨some 7, .mov (.cst (.int .i64 0)), none⟩] :: K) fr S := rfl
def z38_r1 : List POper := [⟨some 8, .arith .lss (.tmp 7) (.tmp 6), none⟩]
@[simp] theorem z38_r1_go : gval T (.ops z38_r1 :: K) fr S = gval T (.ops [⟨some 8, .arith .lss (.tmp 7) (.tmp 6), none⟩] :: K) fr S := rfl
def z38_r2 : List POper := [⟨some 9, .iaddr 1 (.tmp 5) (.tmp 7), none⟩,⟨some 10, .load false 1 false (.tmp 9), none⟩,⟨some 4, .mov (.tmp 10), none⟩]
@[simp] theorem z38_r2_go : gval T (.ops z38_r2 :: K) fr S = gval T (.ops [⟨some 9, .iaddr 1 (.tmp 5) (.tmp 7), none⟩,⟨some 10, .load false 1 false (.tmp 9), none⟩,⟨some 4, .mov (.tmp 10), none⟩] :: K) fr S := rfl
def z38_r3 : List POper := [⟨some 12, .load false 1 false (.tmp 1), none⟩,⟨some 13, .mov (.tmp 4), none⟩,⟨some 14, .call .std 107 [(.tmp 12), (.tmp 13)], none⟩,⟨some 11, .mov (.tmp 14), none⟩,⟨some 15, .extract 0 (.tmp 11), none⟩,⟨some 16, .extract 1 (.tmp 11), none⟩,⟨none, .store 1 (.tmp 1) (.tmp 15), none⟩]
@[simp] theorem z38_r3_go : gval T (.ops z38_r3 :: K) fr S = gval T (.ops [⟨some 12, .load false 1 false (.tmp 1), none⟩,⟨some 13, .mov (.tmp 4), none⟩,⟨some 14, .call .std 107 [(.tmp 12), (.tmp 13)], none⟩,⟨some 11, .mov (.tmp 14), none⟩,⟨some 15, .extract 0 (.tmp 11), none⟩,⟨some 16, .extract 1 (.tmp 11), none⟩,⟨none, .store 1 (.tmp 1) (.tmp 15), none⟩] :: K) fr S := rfl
def z38_r4 : List POper := [⟨some 17, .arith .add (.tmp 7) (.cst (.int .i64 1)), none⟩,⟨some 7, .mov (.tmp 17), none⟩]
@[simp] theorem z38_r4_go : gval T (.ops z38_r4 :: K) fr S = gval T (.ops [⟨some 17, .arith .add (.tmp 7) (.cst (.int .i64 1)), none⟩,⟨some 7, .mov (.tmp 17), none⟩] :: K) fr S := rfl
def z38_l0 : PCode :=
  (.seq (.region z38_r1) (.seq (.cond (.tmp 8) .skip (.exit 0)) (.seq (.block 1 (.seq (.clr [(9, 11)] (.region z38_r2)) (.clr [(11, 17)] (.region z38_r3)))) (.clr [(17, 18)] (.region z38_r4)))))
@[simp] theorem wal_Bytes_1_l0_go : gval T (.code z38_l0 :: K) fr S = gval T (.code (.seq (.region z38_r1) (.seq (.cond (.tmp 8) .skip (.exit 0)) (.seq (.block 1 (.seq (.clr [(9, 11)] (.region z38_r2)) (.clr [(11, 17)] (.region z38_r3)))) (.clr [(17, 18)] (.region z38_r4))))) :: K) fr S := rfl
def z38 : PCodeFn :=
  ⟨2, [],
  (.seq (.region z38_r0) (.block 0 (.loop z38_l0))), false⟩

def z59_r0 : List POper := [⟨some 4, .mov (.cst .nils), none⟩,⟨some 5, .mov (.cst (.int .i64 0)), none⟩]
@[simp] theorem z59_r0_go : gval T (.ops z59_r0 :: K) fr S = gval T (.ops [⟨some 4, .mov (.cst .nils), none⟩,⟨some 5, .mov (.cst (.int .i64 0)), none⟩] :: K) fr S := rfl
def z59_r1 : List POper := [⟨some 11, .mov (.tmp 1), none⟩,⟨some 12, .call .std 40 [(.tmp 11)], none⟩,⟨some 6, .mov (.tmp 12), none⟩]
@[simp] theorem z59_r1_go : gval T (.ops z59_r1 :: K) fr S = gval T (.ops [⟨some 11, .mov (.tmp 1), none⟩,⟨some 12, .call .std 40 [(.tmp 11)], none⟩,⟨some 6, .mov (.tmp 12), none⟩] :: K) fr S := rfl
def z59_r2 : List POper := [⟨some 13, .mov (.tmp 6), none⟩,⟨some 14, .arith .neq (.tmp 13) (.cst (.int .i64 0)), none⟩]
@[simp] theorem z59_r2_go : gval T (.ops z59_r2 :: K) fr S = gval T (.ops [⟨some 13, .mov (.tmp 6), none⟩,⟨some 14, .arith .neq (.tmp 13) (.cst (.int .i64 0)), none⟩] :: K) fr S := rfl
def z59_r3 : List POper := [⟨some 15, .mov (.tmp 6), none⟩,⟨some 4, .mov (.cst .nils), none⟩,⟨some 5, .mov (.tmp 15), none⟩]
@[simp] theorem z59_r3_go : gval T (.ops z59_r3 :: K) fr S = gval T (.ops [⟨some 15, .mov (.tmp 6), none⟩,⟨some 4, .mov (.cst .nils), none⟩,⟨some 5, .mov (.tmp 15), none⟩] :: K) fr S := rfl
def z59_r4 : List POper := [⟨some 17, .mov (.tmp 0), none⟩,⟨some 18, .mov (.tmp 1), none⟩,⟨some 19, .len false (.tmp 18), none⟩,⟨some 20, .call .std 107 [(.tmp 17), (.tmp 19)], none⟩,⟨some 16, .mov (.tmp 20), none⟩,⟨some 21, .extract 0 (.tmp 16), none⟩,⟨some 22, .extract 1 (.tmp 16), none⟩,⟨some 7, .mov (.tmp 21), none⟩,⟨some 8, .mov (.tmp 22), none⟩]
@[simp] theorem z59_r4_go : gval T (.ops z59_r4 :: K) fr S = gval T (.ops [⟨some 17, .mov (.tmp 0), none⟩,⟨some 18, .mov (.tmp 1), none⟩,⟨some 19, .len false (.tmp 18), none⟩,⟨some 20, .call .std 107 [(.tmp 17), (.tmp 19)], none⟩,⟨some 16, .mov (.tmp 20), none⟩,⟨some 21, .extract 0 (.tmp 16), none⟩,⟨some 22, .extract 1 (.tmp 16), none⟩,⟨some 7, .mov (.tmp 21), none⟩,⟨some 8, .mov (.tmp 22), none⟩] :: K) fr S := rfl
def z59_r5 : List POper := [⟨some 23, .mov (.tmp 1), none⟩,⟨some 24, .len false (.tmp 23), none⟩,⟨some 25, .mov (.cst (.int .i64 0)), none⟩]
@[simp] theorem z59_r5_go : gval T (.ops z59_r5 :: K) fr S = gval T (.ops [⟨some 23, .mov (.tmp 1), none⟩,⟨some 24, .len false (.tmp 23), none⟩,⟨some 25, .mov (.cst (.int .i64 0)), none⟩] :: K) fr S := rfl
def z59_r6 : List POper := [⟨some 26, .arith .lss (.tmp 25) (.tmp 24), none⟩]
@[simp] theorem z59_r6_go : gval T (.ops z59_r6 :: K) fr S = gval T (.ops [⟨some 26, .arith .lss (.tmp 25) (.tmp 24), none⟩] :: K) fr S := rfl
def z59_r7 : List POper := [⟨some 27, .iaddr 2 (.tmp 23) (.tmp 25), none⟩,⟨some 28, .load true 2 false (.tmp 27), none⟩,⟨some 10, .alloc false [(.str []), (.str [])], none⟩,⟨none, .store 2 (.tmp 10) (.tmp 28), none⟩]
@[simp] theorem z59_r7_go : gval T (.ops z59_r7 :: K) fr S = gval T (.ops [⟨some 27, .iaddr 2 (.tmp 23) (.tmp 25), none⟩,⟨some 28, .load true 2 false (.tmp 27), none⟩,⟨some 10, .alloc false [(.str []), (.str [])], none⟩,⟨none, .store 2 (.tmp 10) (.tmp 28), none⟩] :: K) fr S := rfl
def z59_r8 : List POper := [⟨some 30, .mov (.tmp 7), none⟩,⟨some 31, .faddr 0 (.tmp 10), none⟩,⟨some 32, .load false 1 false (.tmp 31), none⟩,⟨some 33, .call .std 108 [(.tmp 30), (.tmp 32)], none⟩,⟨some 29, .mov (.tmp 33), none⟩,⟨some 34, .extract 0 (.tmp 29), none⟩,⟨some 35, .extract 1 (.tmp 29), none⟩,⟨some 7, .mov (.tmp 34), none⟩]
@[simp] theorem z59_r8_go : gval T (.ops z59_r8 :: K) fr S = gval T (.ops [⟨some 30, .mov (.tmp 7), none⟩,⟨some 31, .faddr 0 (.tmp 10), none⟩,⟨some 32, .load false 1 false (.tmp 31), none⟩,⟨some 33, .call .std 108 [(.tmp 30), (.tmp 32)], none⟩,⟨some 29, .mov (.tmp 33), none⟩,⟨some 34, .extract 0 (.tmp 29), none⟩,⟨some 35, .extract 1 (.tmp 29), none⟩,⟨some 7, .mov (.tmp 34), none⟩] :: K) fr S := rfl
def z59_r9 : List POper := [⟨some 37, .mov (.tmp 7), none⟩,⟨some 38, .faddr 1 (.tmp 10), none⟩,⟨some 39, .load false 1 false (.tmp 38), none⟩,⟨some 40, .call .std 108 [(.tmp 37), (.tmp 39)], none⟩,⟨some 36, .mov (.tmp 40), none⟩,⟨some 41, .extract 0 (.tmp 36), none⟩,⟨some 42, .extract 1 (.tmp 36), none⟩,⟨some 7, .mov (.tmp 41), none⟩]
@[simp] theorem z59_r9_go : gval T (.ops z59_r9 :: K) fr S = gval T (.ops [⟨some 37, .mov (.tmp 7), none⟩,⟨some 38, .faddr 1 (.tmp 10), none⟩,⟨some 39, .load false 1 false (.tmp 38), none⟩,⟨some 40, .call .std 108 [(.tmp 37), (.tmp 39)], none⟩,⟨some 36, .mov (.tmp 40), none⟩,⟨some 41, .extract 0 (.tmp 36), none⟩,⟨some 42, .extract 1 (.tmp 36), none⟩,⟨some 7, .mov (.tmp 41), none⟩] :: K) fr S := rfl
def z59_r10 : List POper := [⟨some 43, .arith .add (.tmp 25) (.cst (.int .i64 1)), none⟩,⟨some 25, .mov (.tmp 43), none⟩]
@[simp] theorem z59_r10_go : gval T (.ops z59_r10 :: K) fr S = gval T (.ops [⟨some 43, .arith .add (.tmp 25) (.cst (.int .i64 1)), none⟩,⟨some 25, .mov (.tmp 43), none⟩] :: K) fr S := rfl
def z59_l0 : PCode :=
  (.seq (.region z59_r6) (.seq (.cond (.tmp 26) .skip (.exit 0)) (.seq (.block 1 (.seq (.clr [(27, 29)] (.region z59_r7)) (.seq (.clr [(29, 36)] (.region z59_r8)) (.clr [(36, 43)] (.region z59_r9))))) (.clr [(43, 44)] (.region z59_r10)))))
@[simp] theorem label_Put_l0_go : gval T (.code z59_l0 :: K) fr S = gval T (.code (.seq (.region z59_r6) (.seq (.cond (.tmp 26) .skip (.exit 0)) (.seq (.block 1 (.seq (.clr [(27, 29)] (.region z59_r7)) (.seq (.clr [(29, 36)] (.region z59_r8)) (.clr [(36, 43)] (.region z59_r9))))) (.clr [(43, 44)] (.region z59_r10))))) :: K) fr S := rfl
def z59_r11 : List POper := [⟨some 44, .mov (.tmp 7), none⟩,⟨some 4, .mov (.tmp 44), none⟩,⟨some 5, .mov (.cst (.int .i64 0)), none⟩]
@[simp] theorem z59_r11_go : gval T (.ops z59_r11 :: K) fr S = gval T (.ops [⟨some 44, .mov (.tmp 7), none⟩,⟨some 4, .mov (.tmp 44), none⟩,⟨some 5, .mov (.cst (.int .i64 0)), none⟩] :: K) fr S := rfl
def z59 : PCodeFn :=
  ⟨2, [.tmp 4, .tmp 5],
  (.seq (.region z59_r0) (.seq (.seq (.clr [(11, 13)] (.region z59_r1)) (.seq (.clr [(13, 14)] (.region z59_r2)) (.cond (.tmp 14) (.seq (.clr [(15, 16)] (.region z59_r3)) .ret) .skip))) (.seq (.clr [(8, 9), (16, 23)] (.region z59_r4)) (.seq (.seq (.region z59_r5) (.block 0 (.loop z59_l0))) (.seq (.clr [(44, 45)] (.region z59_r11)) .ret))))), false⟩

def z71_r0 : List POper := [⟨some 2, .mov (.cst (.int .i64 0)), none⟩]
@[simp] theorem z71_r0_go : gval T (.ops z71_r0 :: K) fr S = gval T (.ops [⟨some 2, .mov (.cst (.int .i64 0)), none⟩] :: K) fr S := rfl
def z71_r1 : List POper := [⟨some 3, .mov (.tmp 0), none⟩,⟨some 4, .arith .lss (.tmp 3) (.cst (.int .i64 0)), none⟩]
@[simp] theorem z71_r1_go : gval T (.ops z71_r1 :: K) fr S = gval T (.ops [⟨some 3, .mov (.tmp 0), none⟩,⟨some 4, .arith .lss (.tmp 3) (.cst (.int .i64 0)), none⟩] :: K) fr S := rfl
def z71_r2 : List POper := [⟨some 5, .mov (.tmp 0), none⟩,⟨some 6, .arith .mul (.cst (.int .i64 (-2))) (.tmp 5), none⟩,⟨some 7, .arith .sub (.tmp 6) (.cst (.int .i64 1)), none⟩,⟨some 2, .mov (.tmp 7), none⟩]
@[simp] theorem z71_r2_go : gval T (.ops z71_r2 :: K) fr S = gval T (.ops [⟨some 5, .mov (.tmp 0), none⟩,⟨some 6, .arith .mul (.cst (.int .i64 (-2))) (.tmp 5), none⟩,⟨some 7, .arith .sub (.tmp 6) (.cst (.int .i64 1)), none⟩,⟨some 2, .mov (.tmp 7), none⟩] :: K) fr S := rfl
def z71_r3 : List POper := [⟨some 8, .mov (.tmp 0), none⟩,⟨some 9, .arith .mul (.cst (.int .i64 2)) (.tmp 8), none⟩,⟨some 2, .mov (.tmp 9), none⟩]
@[simp] theorem z71_r3_go : gval T (.ops z71_r3 :: K) fr S = gval T (.ops [⟨some 8, .mov (.tmp 0), none⟩,⟨some 9, .arith .mul (.cst (.int .i64 2)) (.tmp 8), none⟩,⟨some 2, .mov (.tmp 9), none⟩] :: K) fr S := rfl
def z71 : PCodeFn :=
  ⟨1, [.tmp 2],
  (.seq (.region z71_r0) (.seq (.seq (.clr [(3, 4)] (.region z71_r1)) (.cond (.tmp 4) (.seq (.clr [(5, 8)] (.region z71_r2)) .ret) .skip)) (.seq (.clr [(8, 10)] (.region z71_r3)) .ret))), false⟩

def z41_r0 : List POper := [⟨some 4, .mov (.cst .nils), none⟩,⟨some 5, .mov (.cst (.int .i64 0)), none⟩]
@[simp] theorem z41_r0_go : gval T (.ops z41_r0 :: K) fr S = gval T (.ops [⟨some 4, .mov (.cst .nils), none⟩,⟨some 5, .mov (.cst (.int .i64 0)), none⟩] :: K) fr S := rfl
def z41_r1 : List POper := [⟨some 12, .mov (.tmp 1), none⟩,⟨some 13, .call .std 318 [(.tmp 12)], none⟩,⟨some 6, .mov (.tmp 13), none⟩]
@[simp] theorem z41_r1_go : gval T (.ops z41_r1 :: K) fr S = gval T (.ops [⟨some 12, .mov (.tmp 1), none⟩,⟨some 13, .call .std 318 [(.tmp 12)], none⟩,⟨some 6, .mov (.tmp 13), none⟩] :: K) fr S := rfl
def z41_r2 : List POper := [⟨some 14, .mov (.tmp 6), none⟩,⟨some 15, .arith .neq (.tmp 14) (.cst (.int .i64 0)), none⟩]
@[simp] theorem z41_r2_go : gval T (.ops z41_r2 :: K) fr S = gval T (.ops [⟨some 14, .mov (.tmp 6), none⟩,⟨some 15, .arith .neq (.tmp 14) (.cst (.int .i64 0)), none⟩] :: K) fr S := rfl
def z41_r3 : List POper := [⟨some 16, .mov (.tmp 6), none⟩,⟨some 4, .mov (.cst .nils), none⟩,⟨some 5, .mov (.tmp 16), none⟩]
@[simp] theorem z41_r3_go : gval T (.ops z41_r3 :: K) fr S = gval T (.ops [⟨some 16, .mov (.tmp 6), none⟩,⟨some 4, .mov (.cst .nils), none⟩,⟨some 5, .mov (.tmp 16), none⟩] :: K) fr S := rfl
def z41_r4 : List POper := [⟨some 18, .mov (.tmp 0), none⟩,⟨some 19, .mov (.tmp 1), none⟩,⟨some 20, .len false (.tmp 19), none⟩,⟨some 21, .call .std 107 [(.tmp 18), (.tmp 20)], none⟩,⟨some 17, .mov (.tmp 21), none⟩,⟨some 22, .extract 0 (.tmp 17), none⟩,⟨some 23, .extract 1 (.tmp 17), none⟩,⟨some 7, .mov (.tmp 22), none⟩,⟨some 8, .mov (.tmp 23), none⟩]
@[simp] theorem z41_r4_go : gval T (.ops z41_r4 :: K) fr S = gval T (.ops [⟨some 18, .mov (.tmp 0), none⟩,⟨some 19, .mov (.tmp 1), none⟩,⟨some 20, .len false (.tmp 19), none⟩,⟨some 21, .call .std 107 [(.tmp 18), (.tmp 20)], none⟩,⟨some 17, .mov (.tmp 21), none⟩,⟨some 22, .extract 0 (.tmp 17), none⟩,⟨some 23, .extract 1 (.tmp 17), none⟩,⟨some 7, .mov (.tmp 22), none⟩,⟨some 8, .mov (.tmp 23), none⟩] :: K) fr S := rfl
def z41_r5 : List POper := [⟨some 9, .mov (.cst (.int .i64 0)), none⟩]
@[simp] theorem z41_r5_go : gval T (.ops z41_r5 :: K) fr S = gval T (.ops [⟨some 9, .mov (.cst (.int .i64 0)), none⟩] :: K) fr S := rfl
def z41_r6 : List POper := [⟨some 24, .mov (.tmp 1), none⟩,⟨some 25, .len false (.tmp 24), none⟩,⟨some 26, .mov (.cst (.int .i64 0)), none⟩]
@[simp] theorem z41_r6_go : gval T (.ops z41_r6 :: K) fr S = gval T (.ops [⟨some 24, .mov (.tmp 1), none⟩,⟨some 25, .len false (.tmp 24), none⟩,⟨some 26, .mov (.cst (.int .i64 0)), none⟩] :: K) fr S := rfl
def z41_r7 : List POper := [⟨some 27, .arith .lss (.tmp 26) (.tmp 25), none⟩]
@[simp] theorem z41_r7_go : gval T (.ops z41_r7 :: K) fr S = gval T (.ops [⟨some 27, .arith .lss (.tmp 26) (.tmp 25), none⟩] :: K) fr S := rfl
def z41_r8 : List POper := [⟨some 28, .iaddr 1 (.tmp 24) (.tmp 26), none⟩,⟨some 29, .load false 1 false (.tmp 28), none⟩,⟨some 11, .mov (.tmp 29), none⟩]
@[simp] theorem z41_r8_go : gval T (.ops z41_r8 :: K) fr S = gval T (.ops [⟨some 28, .iaddr 1 (.tmp 24) (.tmp 26), none⟩,⟨some 29, .load false 1 false (.tmp 28), none⟩,⟨some 11, .mov (.tmp 29), none⟩] :: K) fr S := rfl
def z41_r9 : List POper := [⟨some 31, .mov (.tmp 7), none⟩,⟨some 32, .mov (.tmp 11), none⟩,⟨some 33, .mov (.tmp 9), none⟩,⟨some 34, .arith .sub (.tmp 32) (.tmp 33), none⟩,⟨some 35, .call .std 107 [(.tmp 31), (.tmp 34)], none⟩,⟨some 30, .mov (.tmp 35), none⟩,⟨some 36, .extract 0 (.tmp 30), none⟩,⟨some 37, .extract 1 (.tmp 30), none⟩,⟨some 7, .mov (.tmp 36), none⟩]
@[simp] theorem z41_r9_go : gval T (.ops z41_r9 :: K) fr S = gval T (.ops [⟨some 31, .mov (.tmp 7), none⟩,⟨some 32, .mov (.tmp 11), none⟩,⟨some 33, .mov (.tmp 9), none⟩,⟨some 34, .arith .sub (.tmp 32) (.tmp 33), none⟩,⟨some 35, .call .std 107 [(.tmp 31), (.tmp 34)], none⟩,⟨some 30, .mov (.tmp 35), none⟩,⟨some 36, .extract 0 (.tmp 30), none⟩,⟨some 37, .extract 1 (.tmp 30), none⟩,⟨some 7, .mov (.tmp 36), none⟩] :: K) fr S := rfl
def z41_r10 : List POper := [⟨some 38, .mov (.tmp 11), none⟩,⟨some 9, .mov (.tmp 38), none⟩]
@[simp] theorem z41_r10_go : gval T (.ops z41_r10 :: K) fr S = gval T (.ops [⟨some 38, .mov (.tmp 11), none⟩,⟨some 9, .mov (.tmp 38), none⟩] :: K) fr S := rfl
def z41_r11 : List POper := [⟨some 39, .arith .add (.tmp 26) (.cst (.int .i64 1)), none⟩,⟨some 26, .mov (.tmp 39), none⟩]
@[simp] theorem z41_r11_go : gval T (.ops z41_r11 :: K) fr S = gval T (.ops [⟨some 39, .arith .add (.tmp 26) (.cst (.int .i64 1)), none⟩,⟨some 26, .mov (.tmp 39), none⟩] :: K) fr S := rfl
def z41_l0 : PCode :=
  (.seq (.region z41_r7) (.seq (.cond (.tmp 27) .skip (.exit 0)) (.seq (.block 1 (.seq (.clr [(28, 30)] (.region z41_r8)) (.seq (.clr [(30, 38)] (.region z41_r9)) (.clr [(38, 39)] (.region z41_r10))))) (.clr [(39, 40)] (.region z41_r11)))))
@[simp] theorem posting_Put_l0_go : gval T (.code z41_l0 :: K) fr S = gval T (.code (.seq (.region z41_r7) (.seq (.cond (.tmp 27) .skip (.exit 0)) (.seq (.block 1 (.seq (.clr [(28, 30)] (.region z41_r8)) (.seq (.clr [(30, 38)] (.region z41_r9)) (.clr [(38, 39)] (.region z41_r10))))) (.clr [(39, 40)] (.region z41_r11))))) :: K) fr S := rfl
def z41_r12 : List POper := [⟨some 40, .mov (.tmp 7), none⟩,⟨some 4, .mov (.tmp 40), none⟩,⟨some 5, .mov (.cst (.int .i64 0)), none⟩]
@[simp] theorem z41_r12_go : gval T (.ops z41_r12 :: K) fr S = gval T (.ops [⟨some 40, .mov (.tmp 7), none⟩,⟨some 4, .mov (.tmp 40), none⟩,⟨some 5, .mov (.cst (.int .i64 0)), none⟩] :: K) fr S := rfl
def z41 : PCodeFn :=
  ⟨2, [.tmp 4, .tmp 5],
  (.seq (.region z41_r0) (.seq (.seq (.clr [(12, 14)] (.region z41_r1)) (.seq (.clr [(14, 15)] (.region z41_r2)) (.cond (.tmp 15) (.seq (.clr [(16, 17)] (.region z41_r3)) .ret) .skip))) (.seq (.clr [(8, 9), (17, 24)] (.region z41_r4)) (.seq (.region z41_r5) (.seq (.seq (.region z41_r6) (.block 0 (.loop z41_l0))) (.seq (.clr [(40, 41)] (.region z41_r12)) .ret)))))), false⟩

def z42_r0 : List POper := [⟨some 2, .mov (.cst (.int .i64 0)), none⟩]
@[simp] theorem z42_r0_go : gval T (.ops z42_r0 :: K) fr S = gval T (.ops [⟨some 2, .mov (.cst (.int .i64 0)), none⟩] :: K) fr S := rfl
def z42_r1 : List POper := [⟨some 5, .mov (.tmp 0), none⟩,⟨some 6, .len false (.tmp 5), none⟩,⟨some 7, .arith .gtr (.tmp 6) (.cst (.int .i64 8)), none⟩]
@[simp] theorem z42_r1_go : gval T (.ops z42_r1 :: K) fr S = gval T (.ops [⟨some 5, .mov (.tmp 0), none⟩,⟨some 6, .len false (.tmp 5), none⟩,⟨some 7, .arith .gtr (.tmp 6) (.cst (.int .i64 8)), none⟩] :: K) fr S := rfl
def z42_r2 : List POper := [⟨some 2, .mov (.cst (.int .i64 3)), none⟩]
@[simp] theorem z42_r2_go : gval T (.ops z42_r2 :: K) fr S = gval T (.ops [⟨some 2, .mov (.cst (.int .i64 3)), none⟩] :: K) fr S := rfl
def z42_r3 : List POper := [⟨some 8, .mov (.tmp 0), none⟩,⟨some 9, .len false (.tmp 8), none⟩,⟨some 10, .mov (.cst (.int .i64 0)), none⟩]
@[simp] theorem z42_r3_go : gval T (.ops z42_r3 :: K) fr S = gval T (.ops [⟨some 8, .mov (.tmp 0), none⟩,⟨some 9, .len false (.tmp 8), none⟩,⟨some 10, .mov (.cst (.int .i64 0)), none⟩] :: K) fr S := rfl
def z42_r4 : List POper := [⟨some 11, .arith .lss (.tmp 10) (.tmp 9), none⟩]
@[simp] theorem z42_r4_go : gval T (.ops z42_r4 :: K) fr S = gval T (.ops [⟨some 11, .arith .lss (.tmp 10) (.tmp 9), none⟩] :: K) fr S := rfl
def z42_r5 : List POper := [⟨some 12, .mov (.tmp 10), none⟩,⟨some 13, .iaddr 2 (.tmp 8) (.tmp 10), none⟩,⟨some 14, .load true 2 false (.tmp 13), none⟩,⟨some 4, .alloc false [(.str []), (.str [])], none⟩,⟨some 3, .mov (.tmp 12), none⟩,⟨none, .store 2 (.tmp 4) (.tmp 14), none⟩]
@[simp] theorem z42_r5_go : gval T (.ops z42_r5 :: K) fr S = gval T (.ops [⟨some 12, .mov (.tmp 10), none⟩,⟨some 13, .iaddr 2 (.tmp 8) (.tmp 10), none⟩,⟨some 14, .load true 2 false (.tmp 13), none⟩,⟨some 4, .alloc false [(.str []), (.str [])], none⟩,⟨some 3, .mov (.tmp 12), none⟩,⟨none, .store 2 (.tmp 4) (.tmp 14), none⟩] :: K) fr S := rfl
def z42_r6 : List POper := [⟨some 16, .faddr 0 (.tmp 4), none⟩,⟨some 17, .load false 1 false (.tmp 16), none⟩,⟨some 18, .call .pur 121 [(.tmp 17)], none⟩,⟨some 19, .un .not (.tmp 18), none⟩,⟨some 15, .mov (.tmp 19), none⟩]
@[simp] theorem z42_r6_go : gval T (.ops z42_r6 :: K) fr S = gval T (.ops [⟨some 16, .faddr 0 (.tmp 4), none⟩,⟨some 17, .load false 1 false (.tmp 16), none⟩,⟨some 18, .call .pur 121 [(.tmp 17)], none⟩,⟨some 19, .un .not (.tmp 18), none⟩,⟨some 15, .mov (.tmp 19), none⟩] :: K) fr S := rfl
def z42_r7 : List POper := [⟨some 2, .mov (.cst (.int .i64 8)), none⟩]
@[simp] theorem z42_r7_go : gval T (.ops z42_r7 :: K) fr S = gval T (.ops [⟨some 2, .mov (.cst (.int .i64 8)), none⟩] :: K) fr S := rfl
def z42_r8 : List POper := [⟨some 21, .faddr 1 (.tmp 4), none⟩,⟨some 22, .load false 1 false (.tmp 21), none⟩,⟨some 23, .arith .eql (.tmp 22) (.cst (.str [])), none⟩,⟨some 20, .mov (.tmp 23), none⟩]
@[simp] theorem z42_r8_go : gval T (.ops z42_r8 :: K) fr S = gval T (.ops [⟨some 21, .faddr 1 (.tmp 4), none⟩,⟨some 22, .load false 1 false (.tmp 21), none⟩,⟨some 23, .arith .eql (.tmp 22) (.cst (.str [])), none⟩,⟨some 20, .mov (.tmp 23), none⟩] :: K) fr S := rfl
def z42_r9 : List POper := [⟨some 2, .mov (.cst (.int .i64 2)), none⟩]
@[simp] theorem z42_r9_go : gval T (.ops z42_r9 :: K) fr S = gval T (.ops [⟨some 2, .mov (.cst (.int .i64 2)), none⟩] :: K) fr S := rfl
def z42_r10 : List POper := [⟨some 25, .faddr 1 (.tmp 4), none⟩,⟨some 26, .load false 1 false (.tmp 25), none⟩,⟨some 27, .len true (.tmp 26), none⟩,⟨some 28, .arith .gtr (.tmp 27) (.cst (.int .i64 64)), none⟩,⟨some 24, .mov (.tmp 28), none⟩]
@[simp] theorem z42_r10_go : gval T (.ops z42_r10 :: K) fr S = gval T (.ops [⟨some 25, .faddr 1 (.tmp 4), none⟩,⟨some 26, .load false 1 false (.tmp 25), none⟩,⟨some 27, .len true (.tmp 26), none⟩,⟨some 28, .arith .gtr (.tmp 27) (.cst (.int .i64 64)), none⟩,⟨some 24, .mov (.tmp 28), none⟩] :: K) fr S := rfl
def z42_r11 : List POper := [⟨some 2, .mov (.cst (.int .i64 3)), none⟩]
@[simp] theorem z42_r11_go : gval T (.ops z42_r11 :: K) fr S = gval T (.ops [⟨some 2, .mov (.cst (.int .i64 3)), none⟩] :: K) fr S := rfl
def z42_r12 : List POper := [⟨some 30, .mov (.tmp 3), none⟩,⟨some 31, .arith .gtr (.tmp 30) (.cst (.int .i64 0)), none⟩,⟨some 32, .mov (.tmp 31), none⟩,⟨some 33, .faddr 0 (.tmp 4), some (32, true)⟩,⟨some 34, .load false 1 false (.tmp 33), some (32, true)⟩,⟨some 35, .mov (.tmp 0), some (32, true)⟩,⟨some 36, .mov (.tmp 3), some (32, true)⟩,⟨some 37, .arith .sub (.tmp 36) (.cst (.int .i64 1)), some (32, true)⟩,⟨some 38, .iaddr 2 (.tmp 35) (.tmp 37), some (32, true)⟩,⟨some 39, .faddr 0 (.tmp 38), some (32, true)⟩,⟨some 40, .load false 1 true (.tmp 39), some (32, true)⟩,⟨some 41, .arith .leq (.tmp 34) (.tmp 40), some (32, true)⟩,⟨some 42, .pick (.tmp 32) (.tmp 41) (.cst (.bool false)), none⟩,⟨some 29, .mov (.tmp 42), none⟩]
@[simp] theorem z42_r12_go : gval T (.ops z42_r12 :: K) fr S = gval T (.ops [⟨some 30, .mov (.tmp 3), none⟩,⟨some 31, .arith .gtr (.tmp 30) (.cst (.int .i64 0)), none⟩,⟨some 32, .mov (.tmp 31), none⟩,⟨some 33, .faddr 0 (.tmp 4), some (32, true)⟩,⟨some 34, .load false 1 false (.tmp 33), some (32, true)⟩,⟨some 35, .mov (.tmp 0), some (32, true)⟩,⟨some 36, .mov (.tmp 3), some (32, true)⟩,⟨some 37, .arith .sub (.tmp 36) (.cst (.int .i64 1)), some (32, true)⟩,⟨some 38, .iaddr 2 (.tmp 35) (.tmp 37), some (32, true)⟩,⟨some 39, .faddr 0 (.tmp 38), some (32, true)⟩,⟨some 40, .load false 1 true (.tmp 39), some (32, true)⟩,⟨some 41, .arith .leq (.tmp 34) (.tmp 40), some (32, true)⟩,⟨some 42, .pick (.tmp 32) (.tmp 41) (.cst (.bool false)), none⟩,⟨some 29, .mov (.tmp 42), none⟩] :: K) fr S := rfl
def z42_r13 : List POper := [⟨some 2, .mov (.cst (.int .i64 13)), none⟩]
@[simp] theorem z42_r13_go : gval T (.ops z42_r13 :: K) fr S = gval T (.ops [⟨some 2, .mov (.cst (.int .i64 13)), none⟩] :: K) fr S := rfl
def z42_r14 : List POper := [⟨some 43, .arith .add (.tmp 10) (.cst (.int .i64 1)), none⟩,⟨some 10, .mov (.tmp 43), none⟩]
@[simp] theorem z42_r14_go : gval T (.ops z42_r14 :: K) fr S = gval T (.ops [⟨some 43, .arith .add (.tmp 10) (.cst (.int .i64 1)), none⟩,⟨some 10, .mov (.tmp 43), none⟩] :: K) fr S := rfl
def z42_l0 : PCode :=
  (.seq (.region z42_r4) (.seq (.cond (.tmp 11) .skip (.exit 0)) (.seq (.block 1 (.seq (.clr [(12, 15)] (.region z42_r5)) (.block 2 (.seq (.clr [(16, 20)] (.region z42_r6)) (.cond (.tmp 15) (.seq (.region z42_r7) .ret) (.seq (.clr [(21, 24)] (.region z42_r8)) (.cond (.tmp 20) (.seq (.region z42_r9) .ret) (.seq (.clr [(25, 29)] (.region z42_r10)) (.cond (.tmp 24) (.seq (.region z42_r11) .ret) (.seq (.clr [(30, 43)] (.region z42_r12)) (.cond (.tmp 29) (.seq (.region z42_r13) .ret) .skip))))))))))) (.clr [(43, 44)] (.region z42_r14)))))
@[simp] theorem label_Check_l0_go : gval T (.code z42_l0 :: K) fr S = gval T (.code (.seq (.region z42_r4) (.seq (.cond (.tmp 11) .skip (.exit 0)) (.seq (.block 1 (.seq (.clr [(12, 15)] (.region z42_r5)) (.block 2 (.seq (.clr [(16, 20)] (.region z42_r6)) (.cond (.tmp 15) (.seq (.region z42_r7) .ret) (.seq (.clr [(21, 24)] (.region z42_r8)) (.cond (.tmp 20) (.seq (.region z42_r9) .ret) (.seq (.clr [(25, 29)] (.region z42_r10)) (.cond (.tmp 24) (.seq (.region z42_r11) .ret) (.seq (.clr [(30, 43)] (.region z42_r12)) (.cond (.tmp 29) (.seq (.region z42_r13) .ret) .skip))))))))))) (.clr [(43, 44)] (.region z42_r14))))) :: K) fr S := rfl
def z42_r15 : List POper := [⟨some 2, .mov (.cst (.int .i64 0)), none⟩]
@[simp] theorem z42_r15_go : gval T (.ops z42_r15 :: K) fr S = gval T (.ops [⟨some 2, .mov (.cst (.int .i64 0)), none⟩] :: K) fr S := rfl
def z42 : PCodeFn :=
  ⟨1, [.tmp 2],
  (.seq (.region z42_r0) (.seq (.seq (.clr [(5, 7)] (.region z42_r1)) (.cond (.tmp 7) (.seq (.region z42_r2) .ret) .skip)) (.seq (.seq (.region z42_r3) (.block 0 (.loop z42_l0))) (.seq (.region z42_r15) .ret)))), false⟩

def z30_r0 : List POper := [⟨some 2, .mov (.cst (.int .i64 0)), none⟩]
@[simp] theorem z30_r0_go : gval T (.ops z30_r0 :: K) fr S = gval T (.ops [⟨some 2, .mov (.cst (.int .i64 0)), none⟩] :: K) fr S := rfl
def z30_r1 : List POper := [⟨some 5, .mov (.tmp 0), none⟩,⟨some 6, .len false (.tmp 5), none⟩,⟨some 7, .arith .lss (.tmp 6) (.cst (.int .i64 1)), none⟩,⟨some 8, .mov (.tmp 7), none⟩,⟨some 9, .mov (.tmp 0), some (8, false)⟩,⟨some 10, .len false (.tmp 9), some (8, false)⟩,⟨some 11, .arith .gtr (.tmp 10) (.cst (.int .i64 64)), some (8, false)⟩,⟨some 12, .pick (.tmp 8) (.cst (.bool true)) (.tmp 11), none⟩]
@[simp] theorem z30_r1_go : gval T (.ops z30_r1 :: K) fr S = gval T (.ops [⟨some 5, .mov (.tmp 0), none⟩,⟨some 6, .len false (.tmp 5), none⟩,⟨some 7, .arith .lss (.tmp 6) (.cst (.int .i64 1)), none⟩,⟨some 8, .mov (.tmp 7), none⟩,⟨some 9, .mov (.tmp 0), some (8, false)⟩,⟨some 10, .len false (.tmp 9), some (8, false)⟩,⟨some 11, .arith .gtr (.tmp 10) (.cst (.int .i64 64)), some (8, false)⟩,⟨some 12, .pick (.tmp 8) (.cst (.bool true)) (.tmp 11), none⟩] :: K) fr S := rfl
def z30_r2 : List POper := [⟨some 2, .mov (.cst (.int .i64 2)), none⟩]
@[simp] theorem z30_r2_go : gval T (.ops z30_r2 :: K) fr S = gval T (.ops [⟨some 2, .mov (.cst (.int .i64 2)), none⟩] :: K) fr S := rfl
def z30_r3 : List POper := [⟨some 13, .mov (.tmp 0), none⟩,⟨some 14, .len false (.tmp 13), none⟩,⟨some 15, .mov (.cst (.int .i64 0)), none⟩]
@[simp] theorem z30_r3_go : gval T (.ops z30_r3 :: K) fr S = gval T (.ops [⟨some 13, .mov (.tmp 0), none⟩,⟨some 14, .len false (.tmp 13), none⟩,⟨some 15, .mov (.cst (.int .i64 0)), none⟩] :: K) fr S := rfl
def z30_r4 : List POper := [⟨some 16, .arith .lss (.tmp 15) (.tmp 14), none⟩]
@[simp] theorem z30_r4_go : gval T (.ops z30_r4 :: K) fr S = gval T (.ops [⟨some 16, .arith .lss (.tmp 15) (.tmp 14), none⟩] :: K) fr S := rfl
def z30_r5 : List POper := [⟨some 17, .iaddr 3 (.tmp 13) (.tmp 15), none⟩,⟨some 18, .load true 3 false (.tmp 17), none⟩,⟨some 4, .alloc false [(.int .i64 0), (.int .i64 0), (.int .i64 0)], none⟩,⟨none, .store 3 (.tmp 4) (.tmp 18), none⟩]
@[simp] theorem z30_r5_go : gval T (.ops z30_r5 :: K) fr S = gval T (.ops [⟨some 17, .iaddr 3 (.tmp 13) (.tmp 15), none⟩,⟨some 18, .load true 3 false (.tmp 17), none⟩,⟨some 4, .alloc false [(.int .i64 0), (.int .i64 0), (.int .i64 0)], none⟩,⟨none, .store 3 (.tmp 4) (.tmp 18), none⟩] :: K) fr S := rfl
def z30_r6 : List POper := [⟨some 19, .faddr 0 (.tmp 4), none⟩,⟨some 20, .load false 1 false (.tmp 19), none⟩,⟨some 21, .arith .lss (.tmp 20) (.cst (.int .i64 0)), none⟩,⟨some 22, .mov (.tmp 21), none⟩,⟨some 23, .faddr 0 (.tmp 4), some (22, false)⟩,⟨some 24, .load false 1 false (.tmp 23), some (22, false)⟩,⟨some 25, .arith .gtr (.tmp 24) (.cst (.int .i64 1099511627776)), some (22, false)⟩,⟨some 26, .pick (.tmp 22) (.cst (.bool true)) (.tmp 25), none⟩]
@[simp] theorem z30_r6_go : gval T (.ops z30_r6 :: K) fr S = gval T (.ops [⟨some 19, .faddr 0 (.tmp 4), none⟩,⟨some 20, .load false 1 false (.tmp 19), none⟩,⟨some 21, .arith .lss (.tmp 20) (.cst (.int .i64 0)), none⟩,⟨some 22, .mov (.tmp 21), none⟩,⟨some 23, .faddr 0 (.tmp 4), some (22, false)⟩,⟨some 24, .load false 1 false (.tmp 23), some (22, false)⟩,⟨some 25, .arith .gtr (.tmp 24) (.cst (.int .i64 1099511627776)), some (22, false)⟩,⟨some 26, .pick (.tmp 22) (.cst (.bool true)) (.tmp 25), none⟩] :: K) fr S := rfl
def z30_r7 : List POper := [⟨some 2, .mov (.cst (.int .i64 2)), none⟩]
@[simp] theorem z30_r7_go : gval T (.ops z30_r7 :: K) fr S = gval T (.ops [⟨some 2, .mov (.cst (.int .i64 2)), none⟩] :: K) fr S := rfl
def z30_r8 : List POper := [⟨some 27, .faddr 1 (.tmp 4), none⟩,⟨some 28, .load true 2 false (.tmp 27), none⟩,⟨some 29, .bsl false (.agg [(.int .i64 0), (.int .i64 0)]) 1 [(0, (.tmp 28))], none⟩,⟨some 30, .call .std 154 [(.tmp 29)], none⟩,⟨some 31, .arith .neq (.tmp 30) (.cst (.int .i64 0)), none⟩]
@[simp] theorem z30_r8_go : gval T (.ops z30_r8 :: K) fr S = gval T (.ops [⟨some 27, .faddr 1 (.tmp 4), none⟩,⟨some 28, .load true 2 false (.tmp 27), none⟩,⟨some 29, .bsl false (.agg [(.int .i64 0), (.int .i64 0)]) 1 [(0, (.tmp 28))], none⟩,⟨some 30, .call .std 154 [(.tmp 29)], none⟩,⟨some 31, .arith .neq (.tmp 30) (.cst (.int .i64 0)), none⟩] :: K) fr S := rfl
def z30_r9 : List POper := [⟨some 2, .mov (.cst (.int .i64 11)), none⟩]
@[simp] theorem z30_r9_go : gval T (.ops z30_r9 :: K) fr S = gval T (.ops [⟨some 2, .mov (.cst (.int .i64 11)), none⟩] :: K) fr S := rfl
def z30_r10 : List POper := [⟨some 32, .arith .add (.tmp 15) (.cst (.int .i64 1)), none⟩,⟨some 15, .mov (.tmp 32), none⟩]
@[simp] theorem z30_r10_go : gval T (.ops z30_r10 :: K) fr S = gval T (.ops [⟨some 32, .arith .add (.tmp 15) (.cst (.int .i64 1)), none⟩,⟨some 15, .mov (.tmp 32), none⟩] :: K) fr S := rfl
def z30_l0 : PCode :=
  (.seq (.region z30_r4) (.seq (.cond (.tmp 16) .skip (.exit 0)) (.seq (.block 1 (.seq (.clr [(17, 19)] (.region z30_r5)) (.seq (.seq (.clr [(19, 26)] (.region z30_r6)) (.cond (.tmp 26) (.seq (.region z30_r7) .ret) .skip)) (.seq (.clr [(27, 31)] (.region z30_r8)) (.cond (.tmp 31) (.seq (.region z30_r9) .ret) .skip))))) (.clr [(32, 33)] (.region z30_r10)))))
@[simp] theorem wal_checkRows_l0_go : gval T (.code z30_l0 :: K) fr S = gval T (.code (.seq (.region z30_r4) (.seq (.cond (.tmp 16) .skip (.exit 0)) (.seq (.block 1 (.seq (.clr [(17, 19)] (.region z30_r5)) (.seq (.seq (.clr [(19, 26)] (.region z30_r6)) (.cond (.tmp 26) (.seq (.region z30_r7) .ret) .skip)) (.seq (.clr [(27, 31)] (.region z30_r8)) (.cond (.tmp 31) (.seq (.region z30_r9) .ret) .skip))))) (.clr [(32, 33)] (.region z30_r10))))) :: K) fr S := rfl
def z30_r11 : List POper := [⟨some 2, .mov (.cst (.int .i64 0)), none⟩]
@[simp] theorem z30_r11_go : gval T (.ops z30_r11 :: K) fr S = gval T (.ops [⟨some 2, .mov (.cst (.int .i64 0)), none⟩] :: K) fr S := rfl
def z30 : PCodeFn :=
  ⟨1, [.tmp 2],
  (.seq (.region z30_r0) (.seq (.seq (.clr [(5, 12)] (.region z30_r1)) (.cond (.tmp 12) (.seq (.region z30_r2) .ret) .skip)) (.seq (.seq (.region z30_r3) (.block 0 (.loop z30_l0))) (.seq (.region z30_r11) .ret)))), false⟩

def z10_r0 : List POper := [⟨some 1, .box true (.tmp 0), none⟩,⟨some 2, .mov (.cst (.int .i64 0)), none⟩]
@[simp] theorem z10_r0_go : gval T (.ops z10_r0 :: K) fr S = gval T (.ops [⟨some 1, .box true (.tmp 0), none⟩,⟨some 2, .mov (.cst (.int .i64 0)), none⟩] :: K) fr S := rfl
def z10_r1 : List POper := [⟨some 4, .faddr 3 (.tmp 1), none⟩,⟨some 5, .load false 1 false (.tmp 4), none⟩,⟨some 6, .call .std 318 [(.tmp 5)], none⟩,⟨some 3, .mov (.tmp 6), none⟩]
@[simp] theorem z10_r1_go : gval T (.ops z10_r1 :: K) fr S = gval T (.ops [⟨some 4, .faddr 3 (.tmp 1), none⟩,⟨some 5, .load false 1 false (.tmp 4), none⟩,⟨some 6, .call .std 318 [(.tmp 5)], none⟩,⟨some 3, .mov (.tmp 6), none⟩] :: K) fr S := rfl
def z10_r2 : List POper := [⟨some 7, .mov (.tmp 3), none⟩,⟨some 8, .arith .neq (.tmp 7) (.cst (.int .i64 0)), none⟩]
@[simp] theorem z10_r2_go : gval T (.ops z10_r2 :: K) fr S = gval T (.ops [⟨some 7, .mov (.tmp 3), none⟩,⟨some 8, .arith .neq (.tmp 7) (.cst (.int .i64 0)), none⟩] :: K) fr S := rfl
def z10_r3 : List POper := [⟨some 9, .mov (.tmp 3), none⟩,⟨some 2, .mov (.tmp 9), none⟩]
@[simp] theorem z10_r3_go : gval T (.ops z10_r3 :: K) fr S = gval T (.ops [⟨some 9, .mov (.tmp 3), none⟩,⟨some 2, .mov (.tmp 9), none⟩] :: K) fr S := rfl
def z10_r4 : List POper := [⟨some 11, .faddr 3 (.tmp 1), none⟩,⟨some 12, .load false 1 false (.tmp 11), none⟩,⟨some 13, .len false (.tmp 12), none⟩,⟨some 14, .arith .eql (.tmp 13) (.cst (.int .i64 0)), none⟩,⟨some 10, .mov (.tmp 14), none⟩]
@[simp] theorem z10_r4_go : gval T (.ops z10_r4 :: K) fr S = gval T (.ops [⟨some 11, .faddr 3 (.tmp 1), none⟩,⟨some 12, .load false 1 false (.tmp 11), none⟩,⟨some 13, .len false (.tmp 12), none⟩,⟨some 14, .arith .eql (.tmp 13) (.cst (.int .i64 0)), none⟩,⟨some 10, .mov (.tmp 14), none⟩] :: K) fr S := rfl
def z10_r5 : List POper := [⟨some 2, .mov (.cst (.int .i64 2)), none⟩]
@[simp] theorem z10_r5_go : gval T (.ops z10_r5 :: K) fr S = gval T (.ops [⟨some 2, .mov (.cst (.int .i64 2)), none⟩] :: K) fr S := rfl
def z10_r6 : List POper := [⟨some 16, .faddr 4 (.tmp 1), none⟩,⟨some 17, .load false 1 false (.tmp 16), none⟩,⟨some 18, .arith .lss (.tmp 17) (.cst (.int .i64 0)), none⟩,⟨some 19, .mov (.tmp 18), none⟩,⟨some 20, .faddr 5 (.tmp 1), some (19, false)⟩,⟨some 21, .load false 1 false (.tmp 20), some (19, false)⟩,⟨some 22, .arith .gtr (.tmp 21) (.cst (.int .i64 1099511627776)), some (19, false)⟩,⟨some 23, .pick (.tmp 19) (.cst (.bool true)) (.tmp 22), none⟩,⟨some 15, .mov (.tmp 23), none⟩]
@[simp] theorem z10_r6_go : gval T (.ops z10_r6 :: K) fr S = gval T (.ops [⟨some 16, .faddr 4 (.tmp 1), none⟩,⟨some 17, .load false 1 false (.tmp 16), none⟩,⟨some 18, .arith .lss (.tmp 17) (.cst (.int .i64 0)), none⟩,⟨some 19, .mov (.tmp 18), none⟩,⟨some 20, .faddr 5 (.tmp 1), some (19, false)⟩,⟨some 21, .load false 1 false (.tmp 20), some (19, false)⟩,⟨some 22, .arith .gtr (.tmp 21) (.cst (.int .i64 1099511627776)), some (19, false)⟩,⟨some 23, .pick (.tmp 19) (.cst (.bool true)) (.tmp 22), none⟩,⟨some 15, .mov (.tmp 23), none⟩] :: K) fr S := rfl
def z10_r7 : List POper := [⟨some 2, .mov (.cst (.int .i64 11)), none⟩]
@[simp] theorem z10_r7_go : gval T (.ops z10_r7 :: K) fr S = gval T (.ops [⟨some 2, .mov (.cst (.int .i64 11)), none⟩] :: K) fr S := rfl
def z10_r8 : List POper := [⟨some 25, .faddr 4 (.tmp 1), none⟩,⟨some 26, .load false 1 false (.tmp 25), none⟩,⟨some 27, .faddr 5 (.tmp 1), none⟩,⟨some 28, .load false 1 false (.tmp 27), none⟩,⟨some 29, .arith .gtr (.tmp 26) (.tmp 28), none⟩,⟨some 24, .mov (.tmp 29), none⟩]
@[simp] theorem z10_r8_go : gval T (.ops z10_r8 :: K) fr S = gval T (.ops [⟨some 25, .faddr 4 (.tmp 1), none⟩,⟨some 26, .load false 1 false (.tmp 25), none⟩,⟨some 27, .faddr 5 (.tmp 1), none⟩,⟨some 28, .load false 1 false (.tmp 27), none⟩,⟨some 29, .arith .gtr (.tmp 26) (.tmp 28), none⟩,⟨some 24, .mov (.tmp 29), none⟩] :: K) fr S := rfl
def z10_r9 : List POper := [⟨some 2, .mov (.cst (.int .i64 13)), none⟩]
@[simp] theorem z10_r9_go : gval T (.ops z10_r9 :: K) fr S = gval T (.ops [⟨some 2, .mov (.cst (.int .i64 13)), none⟩] :: K) fr S := rfl
def z10_r10 : List POper := [⟨some 2, .mov (.cst (.int .i64 0)), none⟩]
@[simp] theorem z10_r10_go : gval T (.ops z10_r10 :: K) fr S = gval T (.ops [⟨some 2, .mov (.cst (.int .i64 0)), none⟩] :: K) fr S := rfl
def z10 : PCodeFn :=
  ⟨1, [.tmp 2],
  (.seq (.region z10_r0) (.seq (.seq (.clr [(4, 7)] (.region z10_r1)) (.seq (.clr [(7, 8)] (.region z10_r2)) (.cond (.tmp 8) (.seq (.clr [(9, 10)] (.region z10_r3)) .ret) .skip))) (.seq (.block 0 (.seq (.clr [(11, 15)] (.region z10_r4)) (.cond (.tmp 10) (.seq (.region z10_r5) .ret) (.seq (.clr [(16, 24)] (.region z10_r6)) (.cond (.tmp 15) (.seq (.region z10_r7) .ret) (.seq (.clr [(25, 30)] (.region z10_r8)) (.cond (.tmp 24) (.seq (.region z10_r9) .ret) .skip))))))) (.seq (.region z10_r10) .ret)))), false⟩

def z51_r0 : List POper := [⟨some 4, .mov (.cst (.bool false)), none⟩]
@[simp] theorem z51_r0_go : gval T (.ops z51_r0 :: K) fr S = gval T (.ops [⟨some 4, .mov (.cst (.bool false)), none⟩] :: K) fr S := rfl
def z51_r1 : List POper := [⟨some 6, .mov (.tmp 0), none⟩,⟨some 7, .len false (.tmp 6), none⟩,⟨some 8, .mov (.tmp 1), none⟩,⟨some 9, .len false (.tmp 8), none⟩,⟨some 10, .arith .neq (.tmp 7) (.tmp 9), none⟩]
@[simp] theorem z51_r1_go : gval T (.ops z51_r1 :: K) fr S = gval T (.ops [⟨some 6, .mov (.tmp 0), none⟩,⟨some 7, .len false (.tmp 6), none⟩,⟨some 8, .mov (.tmp 1), none⟩,⟨some 9, .len false (.tmp 8), none⟩,⟨some 10, .arith .neq (.tmp 7) (.tmp 9), none⟩] :: K) fr S := rfl
def z51_r2 : List POper := [⟨some 4, .mov (.cst (.bool false)), none⟩]
@[simp] theorem z51_r2_go : gval T (.ops z51_r2 :: K) fr S = gval T (.ops [⟨some 4, .mov (.cst (.bool false)), none⟩] :: K) fr S := rfl
def z51_r3 : List POper := [⟨some 5, .mov (.cst (.int .i64 0)), none⟩]
@[simp] theorem z51_r3_go : gval T (.ops z51_r3 :: K) fr S = gval T (.ops [⟨some 5, .mov (.cst (.int .i64 0)), none⟩] :: K) fr S := rfl
def z51_r4 : List POper := [⟨some 11, .mov (.tmp 5), none⟩,⟨some 12, .mov (.tmp 0), none⟩,⟨some 13, .len false (.tmp 12), none⟩,⟨some 14, .arith .lss (.tmp 11) (.tmp 13), none⟩]
@[simp] theorem z51_r4_go : gval T (.ops z51_r4 :: K) fr S = gval T (.ops [⟨some 11, .mov (.tmp 5), none⟩,⟨some 12, .mov (.tmp 0), none⟩,⟨some 13, .len false (.tmp 12), none⟩,⟨some 14, .arith .lss (.tmp 11) (.tmp 13), none⟩] :: K) fr S := rfl
def z51_r6 : List POper := [⟨some 17, .mov (.tmp 0), none⟩,⟨some 18, .mov (.tmp 5), none⟩,⟨some 19, .iaddr 1 (.tmp 17) (.tmp 18), none⟩,⟨some 20, .load false 1 true (.tmp 19), none⟩,⟨some 21, .mov (.tmp 1), none⟩,⟨some 22, .mov (.tmp 5), none⟩,⟨some 23, .iaddr 1 (.tmp 21) (.tmp 22), none⟩,⟨some 24, .load false 1 true (.tmp 23), none⟩,⟨some 25, .arith .neq (.tmp 20) (.tmp 24), none⟩]
@[simp] theorem z51_r6_go : gval T (.ops z51_r6 :: K) fr S = gval T (.ops [⟨some 17, .mov (.tmp 0), none⟩,⟨some 18, .mov (.tmp 5), none⟩,⟨some 19, .iaddr 1 (.tmp 17) (.tmp 18), none⟩,⟨some 20, .load false 1 true (.tmp 19), none⟩,⟨some 21, .mov (.tmp 1), none⟩,⟨some 22, .mov (.tmp 5), none⟩,⟨some 23, .iaddr 1 (.tmp 21) (.tmp 22), none⟩,⟨some 24, .load false 1 true (.tmp 23), none⟩,⟨some 25, .arith .neq (.tmp 20) (.tmp 24), none⟩] :: K) fr S := rfl
def z51_r7 : List POper := [⟨some 4, .mov (.cst (.bool false)), none⟩]
@[simp] theorem z51_r7_go : gval T (.ops z51_r7 :: K) fr S = gval T (.ops [⟨some 4, .mov (.cst (.bool false)), none⟩] :: K) fr S := rfl
def z51_r5 : List POper := [⟨some 15, .mov (.tmp 5), none⟩,⟨some 16, .arith .add (.tmp 15) (.cst (.int .i64 1)), none⟩,⟨some 5, .mov (.tmp 16), none⟩]
@[simp] theorem z51_r5_go : gval T (.ops z51_r5 :: K) fr S = gval T (.ops [⟨some 15, .mov (.tmp 5), none⟩,⟨some 16, .arith .add (.tmp 15) (.cst (.int .i64 1)), none⟩,⟨some 5, .mov (.tmp 16), none⟩] :: K) fr S := rfl
def z51_l0 : PCode :=
  (.seq (.seq (.clr [(11, 14)] (.region z51_r4)) (.cond (.tmp 14) .skip (.exit 0))) (.seq (.block 1 (.seq (.clr [(17, 25)] (.region z51_r6)) (.cond (.tmp 25) (.seq (.region z51_r7) .ret) .skip))) (.clr [(15, 17)] (.region z51_r5))))
@[simp] theorem ref09_Same_l0_go : gval T (.code z51_l0 :: K) fr S = gval T (.code (.seq (.seq (.clr [(11, 14)] (.region z51_r4)) (.cond (.tmp 14) .skip (.exit 0))) (.seq (.block 1 (.seq (.clr [(17, 25)] (.region z51_r6)) (.cond (.tmp 25) (.seq (.region z51_r7) .ret) .skip))) (.clr [(15, 17)] (.region z51_r5)))) :: K) fr S := rfl
def z51_r8 : List POper := [⟨some 4, .mov (.cst (.bool true)), none⟩]
@[simp] theorem z51_r8_go : gval T (.ops z51_r8 :: K) fr S = gval T (.ops [⟨some 4, .mov (.cst (.bool true)), none⟩] :: K) fr S := rfl
def z51 : PCodeFn :=
  ⟨2, [.tmp 4],
  (.seq (.region z51_r0) (.seq (.seq (.clr [(6, 10)] (.region z51_r1)) (.cond (.tmp 10) (.seq (.region z51_r2) .ret) .skip)) (.seq (.seq (.region z51_r3) (.block 0 (.loop z51_l0))) (.seq (.region z51_r8) .ret)))), false⟩

def z48_r0 : List POper := [⟨some 4, .mov (.cst (.bool false)), none⟩]
@[simp] theorem z48_r0_go : gval T (.ops z48_r0 :: K) fr S = gval T (.ops [⟨some 4, .mov (.cst (.bool false)), none⟩] :: K) fr S := rfl
def z48_r1 : List POper := [⟨some 5, .mov (.tmp 0), none⟩,⟨some 6, .mov (.tmp 1), none⟩,⟨some 7, .call .std 102 [(.tmp 5), (.tmp 6)], none⟩,⟨some 8, .arith .eql (.tmp 7) (.cst (.int .i64 0)), none⟩,⟨some 4, .mov (.tmp 8), none⟩]
@[simp] theorem z48_r1_go : gval T (.ops z48_r1 :: K) fr S = gval T (.ops [⟨some 5, .mov (.tmp 0), none⟩,⟨some 6, .mov (.tmp 1), none⟩,⟨some 7, .call .std 102 [(.tmp 5), (.tmp 6)], none⟩,⟨some 8, .arith .eql (.tmp 7) (.cst (.int .i64 0)), none⟩,⟨some 4, .mov (.tmp 8), none⟩] :: K) fr S := rfl
def z48 : PCodeFn :=
  ⟨2, [.tmp 4],
  (.seq (.region z48_r0) (.seq (.clr [(5, 9)] (.region z48_r1)) .ret)), false⟩

def z14_r0 : List POper := [⟨some 2, .mov (.cst (.int .i64 0)), none⟩]
@[simp] theorem z14_r0_go : gval T (.ops z14_r0 :: K) fr S = gval T (.ops [⟨some 2, .mov (.cst (.int .i64 0)), none⟩] :: K) fr S := rfl
def z14_r1 : List POper := [⟨some 6, .mov (.tmp 0), none⟩,⟨some 7, .nilck (.tmp 6), none⟩,⟨some 8, .faddr 2 (.tmp 7), none⟩,⟨some 9, .load false 1 false (.tmp 8), none⟩]
@[simp] theorem z14_r1_go : gval T (.ops z14_r1 :: K) fr S = gval T (.ops [⟨some 6, .mov (.tmp 0), none⟩,⟨some 7, .nilck (.tmp 6), none⟩,⟨some 8, .faddr 2 (.tmp 7), none⟩,⟨some 9, .load false 1 false (.tmp 8), none⟩] :: K) fr S := rfl
def z14_r2 : List POper := [⟨some 2, .mov (.cst (.int .i64 0)), none⟩]
@[simp] theorem z14_r2_go : gval T (.ops z14_r2 :: K) fr S = gval T (.ops [⟨some 2, .mov (.cst (.int .i64 0)), none⟩] :: K) fr S := rfl
def z14_r3 : List POper := [⟨some 11, .mov (.tmp 0), none⟩,⟨some 12, .nilck (.tmp 11), none⟩,⟨some 13, .faddr 0 (.tmp 12), none⟩,⟨some 14, .load false 1 false (.tmp 13), none⟩,⟨some 15, .mov (.tmp 0), none⟩,⟨some 16, .nilck (.tmp 15), none⟩,⟨some 17, .faddr 1 (.tmp 16), none⟩,⟨some 18, .load false 1 false (.tmp 17), none⟩,⟨some 19, .call .std 110 [(.tmp 14), (.tmp 18)], none⟩,⟨some 10, .mov (.tmp 19), none⟩,⟨some 20, .extract 0 (.tmp 10), none⟩,⟨some 21, .extract 1 (.tmp 10), none⟩,⟨some 22, .extract 2 (.tmp 10), none⟩,⟨some 3, .mov (.tmp 20), none⟩,⟨some 4, .mov (.tmp 21), none⟩,⟨some 5, .mov (.tmp 22), none⟩]
@[simp] theorem z14_r3_go : gval T (.ops z14_r3 :: K) fr S = gval T (.ops [⟨some 11, .mov (.tmp 0), none⟩,⟨some 12, .nilck (.tmp 11), none⟩,⟨some 13, .faddr 0 (.tmp 12), none⟩,⟨some 14, .load false 1 false (.tmp 13), none⟩,⟨some 15, .mov (.tmp 0), none⟩,⟨some 16, .nilck (.tmp 15), none⟩,⟨some 17, .faddr 1 (.tmp 16), none⟩,⟨some 18, .load false 1 false (.tmp 17), none⟩,⟨some 19, .call .std 110 [(.tmp 14), (.tmp 18)], none⟩,⟨some 10, .mov (.tmp 19), none⟩,⟨some 20, .extract 0 (.tmp 10), none⟩,⟨some 21, .extract 1 (.tmp 10), none⟩,⟨some 22, .extract 2 (.tmp 10), none⟩,⟨some 3, .mov (.tmp 20), none⟩,⟨some 4, .mov (.tmp 21), none⟩,⟨some 5, .mov (.tmp 22), none⟩] :: K) fr S := rfl
def z14_r4 : List POper := [⟨some 23, .mov (.tmp 5), none⟩,⟨some 24, .arith .neq (.tmp 23) (.cst (.int .i64 0)), none⟩]
@[simp] theorem z14_r4_go : gval T (.ops z14_r4 :: K) fr S = gval T (.ops [⟨some 23, .mov (.tmp 5), none⟩,⟨some 24, .arith .neq (.tmp 23) (.cst (.int .i64 0)), none⟩] :: K) fr S := rfl
def z14_r5 : List POper := [⟨some 25, .mov (.tmp 0), none⟩,⟨some 26, .nilck (.tmp 25), none⟩,⟨some 27, .faddr 2 (.tmp 26), none⟩,⟨none, .store 1 (.tmp 27) (.cst (.bool true)), none⟩]
@[simp] theorem z14_r5_go : gval T (.ops z14_r5 :: K) fr S = gval T (.ops [⟨some 25, .mov (.tmp 0), none⟩,⟨some 26, .nilck (.tmp 25), none⟩,⟨some 27, .faddr 2 (.tmp 26), none⟩,⟨none, .store 1 (.tmp 27) (.cst (.bool true)), none⟩] :: K) fr S := rfl
def z14_r6 : List POper := [⟨some 2, .mov (.cst (.int .i64 0)), none⟩]
@[simp] theorem z14_r6_go : gval T (.ops z14_r6 :: K) fr S = gval T (.ops [⟨some 2, .mov (.cst (.int .i64 0)), none⟩] :: K) fr S := rfl
def z14_r7 : List POper := [⟨some 28, .mov (.tmp 0), none⟩,⟨some 29, .mov (.tmp 4), none⟩,⟨some 30, .nilck (.tmp 28), none⟩,⟨some 31, .faddr 1 (.tmp 30), none⟩,⟨none, .store 1 (.tmp 31) (.tmp 29), none⟩]
@[simp] theorem z14_r7_go : gval T (.ops z14_r7 :: K) fr S = gval T (.ops [⟨some 28, .mov (.tmp 0), none⟩,⟨some 29, .mov (.tmp 4), none⟩,⟨some 30, .nilck (.tmp 28), none⟩,⟨some 31, .faddr 1 (.tmp 30), none⟩,⟨none, .store 1 (.tmp 31) (.tmp 29), none⟩] :: K) fr S := rfl
def z14_r8 : List POper := [⟨some 32, .mov (.tmp 3), none⟩,⟨some 2, .mov (.tmp 32), none⟩]
@[simp] theorem z14_r8_go : gval T (.ops z14_r8 :: K) fr S = gval T (.ops [⟨some 32, .mov (.tmp 3), none⟩,⟨some 2, .mov (.tmp 32), none⟩] :: K) fr S := rfl
def z14 : PCodeFn :=
  ⟨1, [.tmp 2],
  (.seq (.region z14_r0) (.seq (.seq (.clr [(6, 9)] (.region z14_r1)) (.cond (.tmp 9) (.seq (.region z14_r2) .ret) .skip)) (.seq (.clr [(10, 23)] (.region z14_r3)) (.seq (.seq (.clr [(23, 24)] (.region z14_r4)) (.cond (.tmp 24) (.seq (.clr [(25, 28)] (.region z14_r5)) (.seq (.region z14_r6) .ret)) .skip)) (.seq (.clr [(28, 32)] (.region z14_r7)) (.seq (.clr [(32, 33)] (.region z14_r8)) .ret)))))), false⟩

def z52_r0 : List POper := [⟨some 4, .mov (.cst .nils), none⟩,⟨some 5, .mov (.cst (.int .i64 0)), none⟩,⟨some 6, .mov (.cst (.int .i64 0)), none⟩]
@[simp] theorem z52_r0_go : gval T (.ops z52_r0 :: K) fr S = gval T (.ops [⟨some 4, .mov (.cst .nils), none⟩,⟨some 5, .mov (.cst (.int .i64 0)), none⟩,⟨some 6, .mov (.cst (.int .i64 0)), none⟩] :: K) fr S := rfl
def z52_r1 : List POper := [⟨some 12, .mov (.tmp 0), none⟩,⟨some 13, .mov (.tmp 1), none⟩,⟨some 14, .call .std 110 [(.tmp 12), (.tmp 13)], none⟩,⟨some 11, .mov (.tmp 14), none⟩,⟨some 15, .extract 0 (.tmp 11), none⟩,⟨some 16, .extract 1 (.tmp 11), none⟩,⟨some 17, .extract 2 (.tmp 11), none⟩,⟨some 7, .mov (.tmp 15), none⟩,⟨some 1, .mov (.tmp 16), none⟩,⟨some 8, .mov (.tmp 17), none⟩]
@[simp] theorem z52_r1_go : gval T (.ops z52_r1 :: K) fr S = gval T (.ops [⟨some 12, .mov (.tmp 0), none⟩,⟨some 13, .mov (.tmp 1), none⟩,⟨some 14, .call .std 110 [(.tmp 12), (.tmp 13)], none⟩,⟨some 11, .mov (.tmp 14), none⟩,⟨some 15, .extract 0 (.tmp 11), none⟩,⟨some 16, .extract 1 (.tmp 11), none⟩,⟨some 17, .extract 2 (.tmp 11), none⟩,⟨some 7, .mov (.tmp 15), none⟩,⟨some 1, .mov (.tmp 16), none⟩,⟨some 8, .mov (.tmp 17), none⟩] :: K) fr S := rfl
def z52_r2 : List POper := [⟨some 18, .mov (.tmp 8), none⟩,⟨some 19, .arith .eql (.tmp 18) (.cst (.int .i64 0)), none⟩,⟨some 20, .mov (.tmp 19), none⟩,⟨some 21, .mov (.tmp 7), some (20, true)⟩,⟨some 22, .arith .gtr (.tmp 21) (.cst (.int .i64 8)), some (20, true)⟩,⟨some 23, .pick (.tmp 20) (.tmp 22) (.cst (.bool false)), none⟩]
@[simp] theorem z52_r2_go : gval T (.ops z52_r2 :: K) fr S = gval T (.ops [⟨some 18, .mov (.tmp 8), none⟩,⟨some 19, .arith .eql (.tmp 18) (.cst (.int .i64 0)), none⟩,⟨some 20, .mov (.tmp 19), none⟩,⟨some 21, .mov (.tmp 7), some (20, true)⟩,⟨some 22, .arith .gtr (.tmp 21) (.cst (.int .i64 8)), some (20, true)⟩,⟨some 23, .pick (.tmp 20) (.tmp 22) (.cst (.bool false)), none⟩] :: K) fr S := rfl
def z52_r3 : List POper := [⟨some 8, .mov (.cst (.int .i64 3)), none⟩]
@[simp] theorem z52_r3_go : gval T (.ops z52_r3 :: K) fr S = gval T (.ops [⟨some 8, .mov (.cst (.int .i64 3)), none⟩] :: K) fr S := rfl
def z52_r4 : List POper := [⟨some 9, .mov (.cst .nils), none⟩]
@[simp] theorem z52_r4_go : gval T (.ops z52_r4 :: K) fr S = gval T (.ops [⟨some 9, .mov (.cst .nils), none⟩] :: K) fr S := rfl
def z52_r5 : List POper := [⟨some 24, .mov (.tmp 8), none⟩,⟨some 25, .arith .eql (.tmp 24) (.cst (.int .i64 0)), none⟩,⟨some 26, .mov (.tmp 25), none⟩,⟨some 27, .mov (.tmp 9), some (26, true)⟩,⟨some 28, .len false (.tmp 27), some (26, true)⟩,⟨some 29, .mov (.tmp 7), some (26, true)⟩,⟨some 30, .arith .lss (.tmp 28) (.tmp 29), some (26, true)⟩,⟨some 31, .pick (.tmp 26) (.tmp 30) (.cst (.bool false)), none⟩]
@[simp] theorem z52_r5_go : gval T (.ops z52_r5 :: K) fr S = gval T (.ops [⟨some 24, .mov (.tmp 8), none⟩,⟨some 25, .arith .eql (.tmp 24) (.cst (.int .i64 0)), none⟩,⟨some 26, .mov (.tmp 25), none⟩,⟨some 27, .mov (.tmp 9), some (26, true)⟩,⟨some 28, .len false (.tmp 27), some (26, true)⟩,⟨some 29, .mov (.tmp 7), some (26, true)⟩,⟨some 30, .arith .lss (.tmp 28) (.tmp 29), some (26, true)⟩,⟨some 31, .pick (.tmp 26) (.tmp 30) (.cst (.bool false)), none⟩] :: K) fr S := rfl
def z52_r6 : List POper := [⟨some 10, .alloc false [(.str []), (.str [])], none⟩]
@[simp] theorem z52_r6_go : gval T (.ops z52_r6 :: K) fr S = gval T (.ops [⟨some 10, .alloc false [(.str []), (.str [])], none⟩] :: K) fr S := rfl
def z52_r7 : List POper := [⟨some 33, .mov (.tmp 0), none⟩,⟨some 34, .mov (.tmp 1), none⟩,⟨some 35, .call .std 111 [(.tmp 33), (.tmp 34)], none⟩,⟨some 32, .mov (.tmp 35), none⟩,⟨some 36, .extract 0 (.tmp 32), none⟩,⟨some 37, .extract 1 (.tmp 32), none⟩,⟨some 38, .extract 2 (.tmp 32), none⟩,⟨some 39, .faddr 0 (.tmp 10), none⟩,⟨none, .store 1 (.tmp 39) (.tmp 36), none⟩,⟨some 1, .mov (.tmp 37), none⟩,⟨some 8, .mov (.tmp 38), none⟩]
@[simp] theorem z52_r7_go : gval T (.ops z52_r7 :: K) fr S = gval T (.ops [⟨some 33, .mov (.tmp 0), none⟩,⟨some 34, .mov (.tmp 1), none⟩,⟨some 35, .call .std 111 [(.tmp 33), (.tmp 34)], none⟩,⟨some 32, .mov (.tmp 35), none⟩,⟨some 36, .extract 0 (.tmp 32), none⟩,⟨some 37, .extract 1 (.tmp 32), none⟩,⟨some 38, .extract 2 (.tmp 32), none⟩,⟨some 39, .faddr 0 (.tmp 10), none⟩,⟨none, .store 1 (.tmp 39) (.tmp 36), none⟩,⟨some 1, .mov (.tmp 37), none⟩,⟨some 8, .mov (.tmp 38), none⟩] :: K) fr S := rfl
def z52_r8 : List POper := [⟨some 40, .mov (.tmp 8), none⟩,⟨some 41, .arith .eql (.tmp 40) (.cst (.int .i64 0)), none⟩]
@[simp] theorem z52_r8_go : gval T (.ops z52_r8 :: K) fr S = gval T (.ops [⟨some 40, .mov (.tmp 8), none⟩,⟨some 41, .arith .eql (.tmp 40) (.cst (.int .i64 0)), none⟩] :: K) fr S := rfl
def z52_r9 : List POper := [⟨some 43, .mov (.tmp 0), none⟩,⟨some 44, .mov (.tmp 1), none⟩,⟨some 45, .call .std 111 [(.tmp 43), (.tmp 44)], none⟩,⟨some 42, .mov (.tmp 45), none⟩,⟨some 46, .extract 0 (.tmp 42), none⟩,⟨some 47, .extract 1 (.tmp 42), none⟩,⟨some 48, .extract 2 (.tmp 42), none⟩,⟨some 49, .faddr 1 (.tmp 10), none⟩,⟨none, .store 1 (.tmp 49) (.tmp 46), none⟩,⟨some 1, .mov (.tmp 47), none⟩,⟨some 8, .mov (.tmp 48), none⟩]
@[simp] theorem z52_r9_go : gval T (.ops z52_r9 :: K) fr S = gval T (.ops [⟨some 43, .mov (.tmp 0), none⟩,⟨some 44, .mov (.tmp 1), none⟩,⟨some 45, .call .std 111 [(.tmp 43), (.tmp 44)], none⟩,⟨some 42, .mov (.tmp 45), none⟩,⟨some 46, .extract 0 (.tmp 42), none⟩,⟨some 47, .extract 1 (.tmp 42), none⟩,⟨some 48, .extract 2 (.tmp 42), none⟩,⟨some 49, .faddr 1 (.tmp 10), none⟩,⟨none, .store 1 (.tmp 49) (.tmp 46), none⟩,⟨some 1, .mov (.tmp 47), none⟩,⟨some 8, .mov (.tmp 48), none⟩] :: K) fr S := rfl
def z52_r10 : List POper := [⟨some 50, .mov (.tmp 9), none⟩,⟨some 51, .load true 2 false (.tmp 10), none⟩,⟨some 52, .bsl false (.agg [(.str []), (.str [])]) 1 [(0, (.tmp 51))], none⟩,⟨some 53, .app 2 32 (.tmp 50) (.tmp 52), none⟩,⟨some 9, .mov (.tmp 53), none⟩]
@[simp] theorem z52_r10_go : gval T (.ops z52_r10 :: K) fr S = gval T (.ops [⟨some 50, .mov (.tmp 9), none⟩,⟨some 51, .load true 2 false (.tmp 10), none⟩,⟨some 52, .bsl false (.agg [(.str []), (.str [])]) 1 [(0, (.tmp 51))], none⟩,⟨some 53, .app 2 32 (.tmp 50) (.tmp 52), none⟩,⟨some 9, .mov (.tmp 53), none⟩] :: K) fr S := rfl
def z52_l0 : PCode :=
  (.seq (.seq (.clr [(24, 31)] (.region z52_r5)) (.cond (.tmp 31) .skip (.exit 0))) (.block 1 (.seq (.region z52_r6) (.seq (.seq (.clr [(32, 40)] (.region z52_r7)) (.seq (.clr [(40, 41)] (.region z52_r8)) (.cond (.tmp 41) (.clr [(42, 50)] (.region z52_r9)) .skip))) (.clr [(50, 54)] (.region z52_r10))))))
@[simp] theorem label_Read_l0_go : gval T (.code z52_l0 :: K) fr S = gval T (.code (.seq (.seq (.clr [(24, 31)] (.region z52_r5)) (.cond (.tmp 31) .skip (.exit 0))) (.block 1 (.seq (.region z52_r6) (.seq (.seq (.clr [(32, 40)] (.region z52_r7)) (.seq (.clr [(40, 41)] (.region z52_r8)) (.cond (.tmp 41) (.clr [(42, 50)] (.region z52_r9)) .skip))) (.clr [(50, 54)] (.region z52_r10)))))) :: K) fr S := rfl
def z52_r11 : List POper := [⟨some 54, .mov (.tmp 8), none⟩,⟨some 55, .arith .eql (.tmp 54) (.cst (.int .i64 0)), none⟩,⟨some 56, .mov (.tmp 55), none⟩,⟨some 57, .mov (.tmp 9), some (56, true)⟩,⟨some 58, .call .std 40 [(.tmp 57)], some (56, true)⟩,⟨some 59, .arith .neq (.tmp 58) (.cst (.int .i64 0)), some (56, true)⟩,⟨some 60, .pick (.tmp 56) (.tmp 59) (.cst (.bool false)), none⟩]
@[simp] theorem z52_r11_go : gval T (.ops z52_r11 :: K) fr S = gval T (.ops [⟨some 54, .mov (.tmp 8), none⟩,⟨some 55, .arith .eql (.tmp 54) (.cst (.int .i64 0)), none⟩,⟨some 56, .mov (.tmp 55), none⟩,⟨some 57, .mov (.tmp 9), some (56, true)⟩,⟨some 58, .call .std 40 [(.tmp 57)], some (56, true)⟩,⟨some 59, .arith .neq (.tmp 58) (.cst (.int .i64 0)), some (56, true)⟩,⟨some 60, .pick (.tmp 56) (.tmp 59) (.cst (.bool false)), none⟩] :: K) fr S := rfl
def z52_r12 : List POper := [⟨some 8, .mov (.cst (.int .i64 5)), none⟩]
@[simp] theorem z52_r12_go : gval T (.ops z52_r12 :: K) fr S = gval T (.ops [⟨some 8, .mov (.cst (.int .i64 5)), none⟩] :: K) fr S := rfl
def z52_r13 : List POper := [⟨some 61, .mov (.tmp 8), none⟩,⟨some 62, .arith .neq (.tmp 61) (.cst (.int .i64 0)), none⟩]
@[simp] theorem z52_r13_go : gval T (.ops z52_r13 :: K) fr S = gval T (.ops [⟨some 61, .mov (.tmp 8), none⟩,⟨some 62, .arith .neq (.tmp 61) (.cst (.int .i64 0)), none⟩] :: K) fr S := rfl
def z52_r14 : List POper := [⟨some 63, .mov (.tmp 8), none⟩,⟨some 4, .mov (.cst .nils), none⟩,⟨some 5, .mov (.cst (.int .i64 0)), none⟩,⟨some 6, .mov (.tmp 63), none⟩]
@[simp] theorem z52_r14_go : gval T (.ops z52_r14 :: K) fr S = gval T (.ops [⟨some 63, .mov (.tmp 8), none⟩,⟨some 4, .mov (.cst .nils), none⟩,⟨some 5, .mov (.cst (.int .i64 0)), none⟩,⟨some 6, .mov (.tmp 63), none⟩] :: K) fr S := rfl
def z52_r15 : List POper := [⟨some 64, .mov (.tmp 9), none⟩,⟨some 65, .mov (.tmp 1), none⟩,⟨some 4, .mov (.tmp 64), none⟩,⟨some 5, .mov (.tmp 65), none⟩,⟨some 6, .mov (.cst (.int .i64 0)), none⟩]
@[simp] theorem z52_r15_go : gval T (.ops z52_r15 :: K) fr S = gval T (.ops [⟨some 64, .mov (.tmp 9), none⟩,⟨some 65, .mov (.tmp 1), none⟩,⟨some 4, .mov (.tmp 64), none⟩,⟨some 5, .mov (.tmp 65), none⟩,⟨some 6, .mov (.cst (.int .i64 0)), none⟩] :: K) fr S := rfl
def z52 : PCodeFn :=
  ⟨2, [.tmp 4, .tmp 5, .tmp 6],
  (.seq (.region z52_r0) (.seq (.clr [(11, 18)] (.region z52_r1)) (.seq (.seq (.clr [(18, 23)] (.region z52_r2)) (.cond (.tmp 23) (.region z52_r3) .skip)) (.seq (.region z52_r4) (.seq (.block 0 (.loop z52_l0)) (.seq (.seq (.clr [(54, 60)] (.region z52_r11)) (.cond (.tmp 60) (.region z52_r12) .skip)) (.seq (.seq (.clr [(61, 62)] (.region z52_r13)) (.cond (.tmp 62) (.seq (.clr [(63, 64)] (.region z52_r14)) .ret) .skip)) (.seq (.clr [(64, 66)] (.region z52_r15)) .ret)))))))), false⟩

def z70_r0 : List POper := [⟨some 2, .mov (.cst (.int .i64 0)), none⟩]
@[simp] theorem z70_r0_go : gval T (.ops z70_r0 :: K) fr S = gval T (.ops [⟨some 2, .mov (.cst (.int .i64 0)), none⟩] :: K) fr S := rfl
def z70_r1 : List POper := [⟨some 3, .mov (.tmp 0), none⟩,⟨some 4, .arith .rem (.tmp 3) (.cst (.int .i64 2)), none⟩,⟨some 5, .arith .eql (.tmp 4) (.cst (.int .i64 1)), none⟩]
@[simp] theorem z70_r1_go : gval T (.ops z70_r1 :: K) fr S = gval T (.ops [⟨some 3, .mov (.tmp 0), none⟩,⟨some 4, .arith .rem (.tmp 3) (.cst (.int .i64 2)), none⟩,⟨some 5, .arith .eql (.tmp 4) (.cst (.int .i64 1)), none⟩] :: K) fr S := rfl
def z70_r2 : List POper := [⟨some 6, .mov (.tmp 0), none⟩,⟨some 7, .arith .quo (.tmp 6) (.cst (.int .i64 2)), none⟩,⟨some 8, .un .neg (.tmp 7), none⟩,⟨some 9, .arith .sub (.tmp 8) (.cst (.int .i64 1)), none⟩,⟨some 2, .mov (.tmp 9), none⟩]
@[simp] theorem z70_r2_go : gval T (.ops z70_r2 :: K) fr S = gval T (.ops [⟨some 6, .mov (.tmp 0), none⟩,⟨some 7, .arith .quo (.tmp 6) (.cst (.int .i64 2)), none⟩,⟨some 8, .un .neg (.tmp 7), none⟩,⟨some 9, .arith .sub (.tmp 8) (.cst (.int .i64 1)), none⟩,⟨some 2, .mov (.tmp 9), none⟩] :: K) fr S := rfl
def z70_r3 : List POper := [⟨some 10, .mov (.tmp 0), none⟩,⟨some 11, .arith .quo (.tmp 10) (.cst (.int .i64 2)), none⟩,⟨some 2, .mov (.tmp 11), none⟩]
@[simp] theorem z70_r3_go : gval T (.ops z70_r3 :: K) fr S = gval T (.ops [⟨some 10, .mov (.tmp 0), none⟩,⟨some 11, .arith .quo (.tmp 10) (.cst (.int .i64 2)), none⟩,⟨some 2, .mov (.tmp 11), none⟩] :: K) fr S := rfl
def z70 : PCodeFn :=
  ⟨1, [.tmp 2],
  (.seq (.region z70_r0) (.seq (.seq (.clr [(3, 5)] (.region z70_r1)) (.cond (.tmp 5) (.seq (.clr [(6, 10)] (.region z70_r2)) .ret) .skip)) (.seq (.clr [(10, 12)] (.region z70_r3)) .ret))), false⟩

def z35_r0 : List POper := [⟨some 4, .mov (.cst .nils), none⟩,⟨some 5, .mov (.cst (.int .i64 0)), none⟩,⟨some 6, .mov (.cst (.int .i64 0)), none⟩]
@[simp] theorem z35_r0_go : gval T (.ops z35_r0 :: K) fr S = gval T (.ops [⟨some 4, .mov (.cst .nils), none⟩,⟨some 5, .mov (.cst (.int .i64 0)), none⟩,⟨some 6, .mov (.cst (.int .i64 0)), none⟩] :: K) fr S := rfl
def z35_r1 : List POper := [⟨some 13, .mov (.tmp 0), none⟩,⟨some 14, .mov (.tmp 1), none⟩,⟨some 15, .call .std 110 [(.tmp 13), (.tmp 14)], none⟩,⟨some 12, .mov (.tmp 15), none⟩,⟨some 16, .extract 0 (.tmp 12), none⟩,⟨some 17, .extract 1 (.tmp 12), none⟩,⟨some 18, .extract 2 (.tmp 12), none⟩,⟨some 7, .mov (.tmp 16), none⟩,⟨some 1, .mov (.tmp 17), none⟩,⟨some 8, .mov (.tmp 18), none⟩]
@[simp] theorem z35_r1_go : gval T (.ops z35_r1 :: K) fr S = gval T (.ops [⟨some 13, .mov (.tmp 0), none⟩,⟨some 14, .mov (.tmp 1), none⟩,⟨some 15, .call .std 110 [(.tmp 13), (.tmp 14)], none⟩,⟨some 12, .mov (.tmp 15), none⟩,⟨some 16, .extract 0 (.tmp 12), none⟩,⟨some 17, .extract 1 (.tmp 12), none⟩,⟨some 18, .extract 2 (.tmp 12), none⟩,⟨some 7, .mov (.tmp 16), none⟩,⟨some 1, .mov (.tmp 17), none⟩,⟨some 8, .mov (.tmp 18), none⟩] :: K) fr S := rfl
def z35_r2 : List POper := [⟨some 19, .mov (.tmp 8), none⟩,⟨some 20, .arith .eql (.tmp 19) (.cst (.int .i64 0)), none⟩,⟨some 21, .mov (.tmp 20), none⟩,⟨some 22, .mov (.tmp 7), some (21, true)⟩,⟨some 23, .arith .gtr (.tmp 22) (.cst (.int .i64 1024)), some (21, true)⟩,⟨some 24, .pick (.tmp 21) (.tmp 23) (.cst (.bool false)), none⟩]
@[simp] theorem z35_r2_go : gval T (.ops z35_r2 :: K) fr S = gval T (.ops [⟨some 19, .mov (.tmp 8), none⟩,⟨some 20, .arith .eql (.tmp 19) (.cst (.int .i64 0)), none⟩,⟨some 21, .mov (.tmp 20), none⟩,⟨some 22, .mov (.tmp 7), some (21, true)⟩,⟨some 23, .arith .gtr (.tmp 22) (.cst (.int .i64 1024)), some (21, true)⟩,⟨some 24, .pick (.tmp 21) (.tmp 23) (.cst (.bool false)), none⟩] :: K) fr S := rfl
def z35_r3 : List POper := [⟨some 8, .mov (.cst (.int .i64 3)), none⟩]
@[simp] theorem z35_r3_go : gval T (.ops z35_r3 :: K) fr S = gval T (.ops [⟨some 8, .mov (.cst (.int .i64 3)), none⟩] :: K) fr S := rfl
def z35_r4 : List POper := [⟨some 9, .mov (.cst .nils), none⟩]
@[simp] theorem z35_r4_go : gval T (.ops z35_r4 :: K) fr S = gval T (.ops [⟨some 9, .mov (.cst .nils), none⟩] :: K) fr S := rfl
def z35_r5 : List POper := [⟨some 10, .mov (.cst (.int .i64 0)), none⟩]
@[simp] theorem z35_r5_go : gval T (.ops z35_r5 :: K) fr S = gval T (.ops [⟨some 10, .mov (.cst (.int .i64 0)), none⟩] :: K) fr S := rfl
def z35_r6 : List POper := [⟨some 25, .mov (.tmp 8), none⟩,⟨some 26, .arith .eql (.tmp 25) (.cst (.int .i64 0)), none⟩,⟨some 27, .mov (.tmp 26), none⟩,⟨some 28, .mov (.tmp 9), some (27, true)⟩,⟨some 29, .len false (.tmp 28), some (27, true)⟩,⟨some 30, .mov (.tmp 7), some (27, true)⟩,⟨some 31, .arith .lss (.tmp 29) (.tmp 30), some (27, true)⟩,⟨some 32, .pick (.tmp 27) (.tmp 31) (.cst (.bool false)), none⟩]
@[simp] theorem z35_r6_go : gval T (.ops z35_r6 :: K) fr S = gval T (.ops [⟨some 25, .mov (.tmp 8), none⟩,⟨some 26, .arith .eql (.tmp 25) (.cst (.int .i64 0)), none⟩,⟨some 27, .mov (.tmp 26), none⟩,⟨some 28, .mov (.tmp 9), some (27, true)⟩,⟨some 29, .len false (.tmp 28), some (27, true)⟩,⟨some 30, .mov (.tmp 7), some (27, true)⟩,⟨some 31, .arith .lss (.tmp 29) (.tmp 30), some (27, true)⟩,⟨some 32, .pick (.tmp 27) (.tmp 31) (.cst (.bool false)), none⟩] :: K) fr S := rfl
def z35_r7 : List POper := [⟨some 11, .mov (.cst (.int .i64 0)), none⟩]
@[simp] theorem z35_r7_go : gval T (.ops z35_r7 :: K) fr S = gval T (.ops [⟨some 11, .mov (.cst (.int .i64 0)), none⟩] :: K) fr S := rfl
def z35_r8 : List POper := [⟨some 34, .mov (.tmp 0), none⟩,⟨some 35, .mov (.tmp 1), none⟩,⟨some 36, .call .std 110 [(.tmp 34), (.tmp 35)], none⟩,⟨some 33, .mov (.tmp 36), none⟩,⟨some 37, .extract 0 (.tmp 33), none⟩,⟨some 38, .extract 1 (.tmp 33), none⟩,⟨some 39, .extract 2 (.tmp 33), none⟩,⟨some 11, .mov (.tmp 37), none⟩,⟨some 1, .mov (.tmp 38), none⟩,⟨some 8, .mov (.tmp 39), none⟩]
@[simp] theorem z35_r8_go : gval T (.ops z35_r8 :: K) fr S = gval T (.ops [⟨some 34, .mov (.tmp 0), none⟩,⟨some 35, .mov (.tmp 1), none⟩,⟨some 36, .call .std 110 [(.tmp 34), (.tmp 35)], none⟩,⟨some 33, .mov (.tmp 36), none⟩,⟨some 37, .extract 0 (.tmp 33), none⟩,⟨some 38, .extract 1 (.tmp 33), none⟩,⟨some 39, .extract 2 (.tmp 33), none⟩,⟨some 11, .mov (.tmp 37), none⟩,⟨some 1, .mov (.tmp 38), none⟩,⟨some 8, .mov (.tmp 39), none⟩] :: K) fr S := rfl
def z35_r9 : List POper := [⟨some 41, .mov (.tmp 8), none⟩,⟨some 42, .arith .neq (.tmp 41) (.cst (.int .i64 0)), none⟩,⟨some 40, .mov (.tmp 42), none⟩]
@[simp] theorem z35_r9_go : gval T (.ops z35_r9 :: K) fr S = gval T (.ops [⟨some 41, .mov (.tmp 8), none⟩,⟨some 42, .arith .neq (.tmp 41) (.cst (.int .i64 0)), none⟩,⟨some 40, .mov (.tmp 42), none⟩] :: K) fr S := rfl
def z35_r10 : List POper := [⟨some 44, .mov (.tmp 11), none⟩,⟨some 45, .mov (.tmp 10), none⟩,⟨some 46, .arith .sub (.cst (.int .i64 1099511627776)) (.tmp 45), none⟩,⟨some 47, .arith .gtr (.tmp 44) (.tmp 46), none⟩,⟨some 43, .mov (.tmp 47), none⟩]
@[simp] theorem z35_r10_go : gval T (.ops z35_r10 :: K) fr S = gval T (.ops [⟨some 44, .mov (.tmp 11), none⟩,⟨some 45, .mov (.tmp 10), none⟩,⟨some 46, .arith .sub (.cst (.int .i64 1099511627776)) (.tmp 45), none⟩,⟨some 47, .arith .gtr (.tmp 44) (.tmp 46), none⟩,⟨some 43, .mov (.tmp 47), none⟩] :: K) fr S := rfl
def z35_r11 : List POper := [⟨some 48, .mov (.tmp 9), none⟩,⟨some 49, .len false (.tmp 48), none⟩,⟨some 50, .arith .gtr (.tmp 49) (.cst (.int .i64 0)), none⟩,⟨some 51, .mov (.tmp 50), none⟩,⟨some 52, .mov (.tmp 11), some (51, true)⟩,⟨some 53, .arith .eql (.tmp 52) (.cst (.int .i64 0)), some (51, true)⟩,⟨some 54, .pick (.tmp 51) (.tmp 53) (.cst (.bool false)), none⟩,⟨some 43, .mov (.tmp 54), none⟩]
@[simp] theorem z35_r11_go : gval T (.ops z35_r11 :: K) fr S = gval T (.ops [⟨some 48, .mov (.tmp 9), none⟩,⟨some 49, .len false (.tmp 48), none⟩,⟨some 50, .arith .gtr (.tmp 49) (.cst (.int .i64 0)), none⟩,⟨some 51, .mov (.tmp 50), none⟩,⟨some 52, .mov (.tmp 11), some (51, true)⟩,⟨some 53, .arith .eql (.tmp 52) (.cst (.int .i64 0)), some (51, true)⟩,⟨some 54, .pick (.tmp 51) (.tmp 53) (.cst (.bool false)), none⟩,⟨some 43, .mov (.tmp 54), none⟩] :: K) fr S := rfl
def z35_r12 : List POper := [⟨some 8, .mov (.cst (.int .i64 5)), none⟩]
@[simp] theorem z35_r12_go : gval T (.ops z35_r12 :: K) fr S = gval T (.ops [⟨some 8, .mov (.cst (.int .i64 5)), none⟩] :: K) fr S := rfl
def z35_r13 : List POper := [⟨some 55, .mov (.tmp 10), none⟩,⟨some 56, .mov (.tmp 11), none⟩,⟨some 57, .arith .add (.tmp 55) (.tmp 56), none⟩,⟨some 10, .mov (.tmp 57), none⟩]
@[simp] theorem z35_r13_go : gval T (.ops z35_r13 :: K) fr S = gval T (.ops [⟨some 55, .mov (.tmp 10), none⟩,⟨some 56, .mov (.tmp 11), none⟩,⟨some 57, .arith .add (.tmp 55) (.tmp 56), none⟩,⟨some 10, .mov (.tmp 57), none⟩] :: K) fr S := rfl
def z35_r14 : List POper := [⟨some 58, .mov (.tmp 9), none⟩,⟨some 59, .mov (.tmp 10), none⟩,⟨some 60, .bsl false (.int .i64 0) 1 [(0, (.tmp 59))], none⟩,⟨some 61, .app 1 8 (.tmp 58) (.tmp 60), none⟩,⟨some 9, .mov (.tmp 61), none⟩]
@[simp] theorem z35_r14_go : gval T (.ops z35_r14 :: K) fr S = gval T (.ops [⟨some 58, .mov (.tmp 9), none⟩,⟨some 59, .mov (.tmp 10), none⟩,⟨some 60, .bsl false (.int .i64 0) 1 [(0, (.tmp 59))], none⟩,⟨some 61, .app 1 8 (.tmp 58) (.tmp 60), none⟩,⟨some 9, .mov (.tmp 61), none⟩] :: K) fr S := rfl
def z35_l0 : PCode :=
  (.seq (.seq (.clr [(25, 32)] (.region z35_r6)) (.cond (.tmp 32) .skip (.exit 0))) (.block 1 (.seq (.region z35_r7) (.seq (.clr [(33, 40)] (.region z35_r8)) (.seq (.block 2 (.seq (.clr [(41, 43)] (.region z35_r9)) (.cond (.tmp 40) (.exit 0) (.seq (.seq (.clr [(44, 48)] (.region z35_r10)) (.cond (.tmp 43) .skip (.clr [(48, 55)] (.region z35_r11)))) (.cond (.tmp 43) (.seq (.region z35_r12) (.exit 0)) .skip))))) (.seq (.clr [(55, 58)] (.region z35_r13)) (.clr [(58, 62)] (.region z35_r14))))))))
@[simp] theorem posting_Read_l0_go : gval T (.code z35_l0 :: K) fr S = gval T (.code (.seq (.seq (.clr [(25, 32)] (.region z35_r6)) (.cond (.tmp 32) .skip (.exit 0))) (.block 1 (.seq (.region z35_r7) (.seq (.clr [(33, 40)] (.region z35_r8)) (.seq (.block 2 (.seq (.clr [(41, 43)] (.region z35_r9)) (.cond (.tmp 40) (.exit 0) (.seq (.seq (.clr [(44, 48)] (.region z35_r10)) (.cond (.tmp 43) .skip (.clr [(48, 55)] (.region z35_r11)))) (.cond (.tmp 43) (.seq (.region z35_r12) (.exit 0)) .skip))))) (.seq (.clr [(55, 58)] (.region z35_r13)) (.clr [(58, 62)] (.region z35_r14)))))))) :: K) fr S := rfl
def z35_r15 : List POper := [⟨some 62, .mov (.tmp 8), none⟩,⟨some 63, .arith .neq (.tmp 62) (.cst (.int .i64 0)), none⟩]
@[simp] theorem z35_r15_go : gval T (.ops z35_r15 :: K) fr S = gval T (.ops [⟨some 62, .mov (.tmp 8), none⟩,⟨some 63, .arith .neq (.tmp 62) (.cst (.int .i64 0)), none⟩] :: K) fr S := rfl
def z35_r16 : List POper := [⟨some 64, .mov (.tmp 8), none⟩,⟨some 4, .mov (.cst .nils), none⟩,⟨some 5, .mov (.cst (.int .i64 0)), none⟩,⟨some 6, .mov (.tmp 64), none⟩]
@[simp] theorem z35_r16_go : gval T (.ops z35_r16 :: K) fr S = gval T (.ops [⟨some 64, .mov (.tmp 8), none⟩,⟨some 4, .mov (.cst .nils), none⟩,⟨some 5, .mov (.cst (.int .i64 0)), none⟩,⟨some 6, .mov (.tmp 64), none⟩] :: K) fr S := rfl
def z35_r17 : List POper := [⟨some 65, .mov (.tmp 9), none⟩,⟨some 66, .mov (.tmp 1), none⟩,⟨some 4, .mov (.tmp 65), none⟩,⟨some 5, .mov (.tmp 66), none⟩,⟨some 6, .mov (.cst (.int .i64 0)), none⟩]
@[simp] theorem z35_r17_go : gval T (.ops z35_r17 :: K) fr S = gval T (.ops [⟨some 65, .mov (.tmp 9), none⟩,⟨some 66, .mov (.tmp 1), none⟩,⟨some 4, .mov (.tmp 65), none⟩,⟨some 5, .mov (.tmp 66), none⟩,⟨some 6, .mov (.cst (.int .i64 0)), none⟩] :: K) fr S := rfl
def z35 : PCodeFn :=
  ⟨2, [.tmp 4, .tmp 5, .tmp 6],
  (.seq (.region z35_r0) (.scope (.seq (.clr [(12, 19)] (.region z35_r1)) (.seq (.seq (.clr [(19, 24)] (.region z35_r2)) (.cond (.tmp 24) (.region z35_r3) .skip)) (.seq (.region z35_r4) (.seq (.region z35_r5) (.seq .skip (.seq (.block 0 (.loop z35_l0)) (.seq (.seq (.clr [(62, 63)] (.region z35_r15)) (.cond (.tmp 63) (.seq (.clr [(64, 65)] (.region z35_r16)) .ret) .skip)) (.seq (.clr [(65, 67)] (.region z35_r17)) .ret)))))))))), false⟩

def z3_r0 : List POper := [⟨some 4, .mov (.cst (.bool false)), none⟩]
@[simp] theorem z3_r0_go : gval T (.ops z3_r0 :: K) fr S = gval T (.ops [⟨some 4, .mov (.cst (.bool false)), none⟩] :: K) fr S := rfl
def z3_r1 : List POper := [⟨some 6, .mov (.tmp 0), none⟩,⟨some 7, .len false (.tmp 6), none⟩,⟨some 8, .mov (.tmp 1), none⟩,⟨some 9, .len false (.tmp 8), none⟩,⟨some 10, .arith .neq (.tmp 7) (.tmp 9), none⟩]
@[simp] theorem z3_r1_go : gval T (.ops z3_r1 :: K) fr S = gval T (.ops [⟨some 6, .mov (.tmp 0), none⟩,⟨some 7, .len false (.tmp 6), none⟩,⟨some 8, .mov (.tmp 1), none⟩,⟨some 9, .len false (.tmp 8), none⟩,⟨some 10, .arith .neq (.tmp 7) (.tmp 9), none⟩] :: K) fr S := rfl
def z3_r2 : List POper := [⟨some 4, .mov (.cst (.bool false)), none⟩]
@[simp] theorem z3_r2_go : gval T (.ops z3_r2 :: K) fr S = gval T (.ops [⟨some 4, .mov (.cst (.bool false)), none⟩] :: K) fr S := rfl
def z3_r3 : List POper := [⟨some 11, .mov (.tmp 0), none⟩,⟨some 12, .len false (.tmp 11), none⟩,⟨some 13, .mov (.cst (.int .i64 0)), none⟩]
@[simp] theorem z3_r3_go : gval T (.ops z3_r3 :: K) fr S = gval T (.ops [⟨some 11, .mov (.tmp 0), none⟩,⟨some 12, .len false (.tmp 11), none⟩,⟨some 13, .mov (.cst (.int .i64 0)), none⟩] :: K) fr S := rfl
def z3_r4 : List POper := [⟨some 14, .arith .lss (.tmp 13) (.tmp 12), none⟩]
@[simp] theorem z3_r4_go : gval T (.ops z3_r4 :: K) fr S = gval T (.ops [⟨some 14, .arith .lss (.tmp 13) (.tmp 12), none⟩] :: K) fr S := rfl
def z3_r5 : List POper := [⟨some 15, .mov (.tmp 13), none⟩,⟨some 5, .mov (.tmp 15), none⟩]
@[simp] theorem z3_r5_go : gval T (.ops z3_r5 :: K) fr S = gval T (.ops [⟨some 15, .mov (.tmp 13), none⟩,⟨some 5, .mov (.tmp 15), none⟩] :: K) fr S := rfl
def z3_r6 : List POper := [⟨some 16, .mov (.tmp 0), none⟩,⟨some 17, .mov (.tmp 5), none⟩,⟨some 18, .iaddr 1 (.tmp 16) (.tmp 17), none⟩,⟨some 19, .load false 1 true (.tmp 18), none⟩,⟨some 20, .mov (.tmp 1), none⟩,⟨some 21, .mov (.tmp 5), none⟩,⟨some 22, .iaddr 1 (.tmp 20) (.tmp 21), none⟩,⟨some 23, .load false 1 true (.tmp 22), none⟩,⟨some 24, .arith .neq (.tmp 19) (.tmp 23), none⟩]
@[simp] theorem z3_r6_go : gval T (.ops z3_r6 :: K) fr S = gval T (.ops [⟨some 16, .mov (.tmp 0), none⟩,⟨some 17, .mov (.tmp 5), none⟩,⟨some 18, .iaddr 1 (.tmp 16) (.tmp 17), none⟩,⟨some 19, .load false 1 true (.tmp 18), none⟩,⟨some 20, .mov (.tmp 1), none⟩,⟨some 21, .mov (.tmp 5), none⟩,⟨some 22, .iaddr 1 (.tmp 20) (.tmp 21), none⟩,⟨some 23, .load false 1 true (.tmp 22), none⟩,⟨some 24, .arith .neq (.tmp 19) (.tmp 23), none⟩] :: K) fr S := rfl
def z3_r7 : List POper := [⟨some 4, .mov (.cst (.bool false)), none⟩]
@[simp] theorem z3_r7_go : gval T (.ops z3_r7 :: K) fr S = gval T (.ops [⟨some 4, .mov (.cst (.bool false)), none⟩] :: K) fr S := rfl
def z3_r8 : List POper := [⟨some 25, .arith .add (.tmp 13) (.cst (.int .i64 1)), none⟩,⟨some 13, .mov (.tmp 25), none⟩]
@[simp] theorem z3_r8_go : gval T (.ops z3_r8 :: K) fr S = gval T (.ops [⟨some 25, .arith .add (.tmp 13) (.cst (.int .i64 1)), none⟩,⟨some 13, .mov (.tmp 25), none⟩] :: K) fr S := rfl
def z3_l0 : PCode :=
  (.seq (.region z3_r4) (.seq (.cond (.tmp 14) .skip (.exit 0)) (.seq (.block 1 (.seq (.clr [(15, 16)] (.region z3_r5)) (.seq (.clr [(16, 24)] (.region z3_r6)) (.cond (.tmp 24) (.seq (.region z3_r7) .ret) .skip)))) (.clr [(25, 26)] (.region z3_r8)))))
@[simp] theorem slices_Equal_byte_l0_go : gval T (.code z3_l0 :: K) fr S = gval T (.code (.seq (.region z3_r4) (.seq (.cond (.tmp 14) .skip (.exit 0)) (.seq (.block 1 (.seq (.clr [(15, 16)] (.region z3_r5)) (.seq (.clr [(16, 24)] (.region z3_r6)) (.cond (.tmp 24) (.seq (.region z3_r7) .ret) .skip)))) (.clr [(25, 26)] (.region z3_r8))))) :: K) fr S := rfl
def z3_r9 : List POper := [⟨some 4, .mov (.cst (.bool true)), none⟩]
@[simp] theorem z3_r9_go : gval T (.ops z3_r9 :: K) fr S = gval T (.ops [⟨some 4, .mov (.cst (.bool true)), none⟩] :: K) fr S := rfl
def z3 : PCodeFn :=
  ⟨2, [.tmp 4],
  (.seq (.region z3_r0) (.seq (.seq (.clr [(6, 10)] (.region z3_r1)) (.cond (.tmp 10) (.seq (.region z3_r2) .ret) .skip)) (.seq (.seq (.clr [(11, 12)] (.region z3_r3)) (.block 0 (.loop z3_l0))) (.seq (.region z3_r9) .ret)))), false⟩

def z66_r0 : List POper := [⟨some 2, .mov (.cst .nilp), none⟩,⟨some 3, .mov (.cst (.int .i64 0)), none⟩]
@[simp] theorem z66_r0_go : gval T (.ops z66_r0 :: K) fr S = gval T (.ops [⟨some 2, .mov (.cst .nilp), none⟩,⟨some 3, .mov (.cst (.int .i64 0)), none⟩] :: K) fr S := rfl
def z66_r1 : List POper := [⟨some 4, .mov (.tmp 0), none⟩,⟨some 5, .arith .lss (.tmp 4) (.cst (.int .i64 1)), none⟩,⟨some 6, .mov (.tmp 5), none⟩,⟨some 7, .mov (.tmp 0), some (6, false)⟩,⟨some 8, .arith .gtr (.tmp 7) (.cst (.int .i64 4194304)), some (6, false)⟩,⟨some 9, .pick (.tmp 6) (.cst (.bool true)) (.tmp 8), none⟩]
@[simp] theorem z66_r1_go : gval T (.ops z66_r1 :: K) fr S = gval T (.ops [⟨some 4, .mov (.tmp 0), none⟩,⟨some 5, .arith .lss (.tmp 4) (.cst (.int .i64 1)), none⟩,⟨some 6, .mov (.tmp 5), none⟩,⟨some 7, .mov (.tmp 0), some (6, false)⟩,⟨some 8, .arith .gtr (.tmp 7) (.cst (.int .i64 4194304)), some (6, false)⟩,⟨some 9, .pick (.tmp 6) (.cst (.bool true)) (.tmp 8), none⟩] :: K) fr S := rfl
def z66_r2 : List POper := [⟨some 2, .mov (.cst .nilp), none⟩,⟨some 3, .mov (.cst (.int .i64 2)), none⟩]
@[simp] theorem z66_r2_go : gval T (.ops z66_r2 :: K) fr S = gval T (.ops [⟨some 2, .mov (.cst .nilp), none⟩,⟨some 3, .mov (.cst (.int .i64 2)), none⟩] :: K) fr S := rfl
def z66_r3 : List POper := [⟨some 10, .mov (.tmp 0), none⟩,⟨some 11, .mkm, none⟩,⟨some 12, .mkm, none⟩,⟨some 13, .build [(.int .i64 0), .nilm, .nilm, .nils, (.int .i64 0), (.int .i64 0), (.bool false)] [(0, 1, (.tmp 10)), (1, 1, (.tmp 11)), (2, 1, (.tmp 12)), (4, 1, (.cst (.int .i64 (-1))))], none⟩,⟨some 14, .box false (.tmp 13), none⟩,⟨some 2, .mov (.tmp 14), none⟩,⟨some 3, .mov (.cst (.int .i64 0)), none⟩]
@[simp] theorem z66_r3_go : gval T (.ops z66_r3 :: K) fr S = gval T (.ops [⟨some 10, .mov (.tmp 0), none⟩,⟨some 11, .mkm, none⟩,⟨some 12, .mkm, none⟩,⟨some 13, .build [(.int .i64 0), .nilm, .nilm, .nils, (.int .i64 0), (.int .i64 0), (.bool false)] [(0, 1, (.tmp 10)), (1, 1, (.tmp 11)), (2, 1, (.tmp 12)), (4, 1, (.cst (.int .i64 (-1))))], none⟩,⟨some 14, .box false (.tmp 13), none⟩,⟨some 2, .mov (.tmp 14), none⟩,⟨some 3, .mov (.cst (.int .i64 0)), none⟩] :: K) fr S := rfl
def z66 : PCodeFn :=
  ⟨1, [.tmp 2, .tmp 3],
  (.seq (.region z66_r0) (.seq (.seq (.clr [(4, 9)] (.region z66_r1)) (.cond (.tmp 9) (.seq (.region z66_r2) .ret) .skip)) (.seq (.clr [(10, 15)] (.region z66_r3)) .ret))), false⟩

def z61_r0 : List POper := [⟨some 4, .mov (.cst .nils), none⟩,⟨some 5, .mov (.cst (.int .i64 0)), none⟩]
@[simp] theorem z61_r0_go : gval T (.ops z61_r0 :: K) fr S = gval T (.ops [⟨some 4, .mov (.cst .nils), none⟩,⟨some 5, .mov (.cst (.int .i64 0)), none⟩] :: K) fr S := rfl
def z61_r1 : List POper := [⟨some 7, .mov (.tmp 1), none⟩,⟨some 8, .len false (.tmp 7), none⟩,⟨some 9, .arith .gtr (.tmp 8) (.cst (.int .i64 65535)), none⟩]
@[simp] theorem z61_r1_go : gval T (.ops z61_r1 :: K) fr S = gval T (.ops [⟨some 7, .mov (.tmp 1), none⟩,⟨some 8, .len false (.tmp 7), none⟩,⟨some 9, .arith .gtr (.tmp 8) (.cst (.int .i64 65535)), none⟩] :: K) fr S := rfl
def z61_r2 : List POper := [⟨some 4, .mov (.cst .nils), none⟩,⟨some 5, .mov (.cst (.int .i64 3)), none⟩]
@[simp] theorem z61_r2_go : gval T (.ops z61_r2 :: K) fr S = gval T (.ops [⟨some 4, .mov (.cst .nils), none⟩,⟨some 5, .mov (.cst (.int .i64 3)), none⟩] :: K) fr S := rfl
def z61_r3 : List POper := [⟨some 10, .mov (.tmp 0), none⟩,⟨some 11, .mov (.tmp 1), none⟩,⟨some 12, .len false (.tmp 11), none⟩,⟨some 13, .arith .add (.tmp 12) (.cst (.int .i64 6)), none⟩,⟨some 14, .call .std 218 [(.tmp 10), (.tmp 13)], none⟩,⟨some 15, .mov (.tmp 1), none⟩,⟨some 16, .len false (.tmp 15), none⟩,⟨some 17, .arith .shr (.tmp 16) (.cst (.int .u64 8)), none⟩,⟨some 18, .toInt .u8 (.tmp 17), none⟩,⟨some 19, .mov (.tmp 1), none⟩,⟨some 20, .len false (.tmp 19), none⟩,⟨some 21, .toInt .u8 (.tmp 20), none⟩,⟨some 22, .bsl false (.int .u8 0) 2 [(0, (.tmp 18)), (1, (.tmp 21))], none⟩,⟨some 23, .app 1 1 (.tmp 14) (.tmp 22), none⟩,⟨some 24, .mov (.tmp 1), none⟩,⟨some 25, .app 1 1 (.tmp 23) (.tmp 24), none⟩,⟨some 6, .mov (.tmp 25), none⟩]
@[simp] theorem z61_r3_go : gval T (.ops z61_r3 :: K) fr S = gval T (.ops [⟨some 10, .mov (.tmp 0), none⟩,⟨some 11, .mov (.tmp 1), none⟩,⟨some 12, .len false (.tmp 11), none⟩,⟨some 13, .arith .add (.tmp 12) (.cst (.int .i64 6)), none⟩,⟨some 14, .call .std 218 [(.tmp 10), (.tmp 13)], none⟩,⟨some 15, .mov (.tmp 1), none⟩,⟨some 16, .len false (.tmp 15), none⟩,⟨some 17, .arith .shr (.tmp 16) (.cst (.int .u64 8)), none⟩,⟨some 18, .toInt .u8 (.tmp 17), none⟩,⟨some 19, .mov (.tmp 1), none⟩,⟨some 20, .len false (.tmp 19), none⟩,⟨some 21, .toInt .u8 (.tmp 20), none⟩,⟨some 22, .bsl false (.int .u8 0) 2 [(0, (.tmp 18)), (1, (.tmp 21))], none⟩,⟨some 23, .app 1 1 (.tmp 14) (.tmp 22), none⟩,⟨some 24, .mov (.tmp 1), none⟩,⟨some 25, .app 1 1 (.tmp 23) (.tmp 24), none⟩,⟨some 6, .mov (.tmp 25), none⟩] :: K) fr S := rfl
def z61_r4 : List POper := [⟨some 26, .mov (.tmp 6), none⟩,⟨some 27, .mov (.tmp 6), none⟩,⟨some 28, .mov (.tmp 0), none⟩,⟨some 29, .len false (.tmp 28), none⟩,⟨some 30, .slc 1 (some (.tmp 29)) none (.tmp 27), none⟩,⟨some 31, .call .std 328 [(.tmp 26), (.tmp 30)], none⟩,⟨some 4, .mov (.tmp 31), none⟩,⟨some 5, .mov (.cst (.int .i64 0)), none⟩]
@[simp] theorem z61_r4_go : gval T (.ops z61_r4 :: K) fr S = gval T (.ops [⟨some 26, .mov (.tmp 6), none⟩,⟨some 27, .mov (.tmp 6), none⟩,⟨some 28, .mov (.tmp 0), none⟩,⟨some 29, .len false (.tmp 28), none⟩,⟨some 30, .slc 1 (some (.tmp 29)) none (.tmp 27), none⟩,⟨some 31, .call .std 328 [(.tmp 26), (.tmp 30)], none⟩,⟨some 4, .mov (.tmp 31), none⟩,⟨some 5, .mov (.cst (.int .i64 0)), none⟩] :: K) fr S := rfl
def z61 : PCodeFn :=
  ⟨2, [.tmp 4, .tmp 5],
  (.seq (.region z61_r0) (.seq (.seq (.clr [(7, 9)] (.region z61_r1)) (.cond (.tmp 9) (.seq (.region z61_r2) .ret) .skip)) (.seq (.clr [(10, 26)] (.region z61_r3)) (.seq (.clr [(26, 32)] (.region z61_r4)) .ret)))), false⟩

def z21_r0 : List POper := [⟨some 4, .mov (.cst .nilp), none⟩,⟨some 5, .mov (.cst (.int .i64 0)), none⟩]
@[simp] theorem z21_r0_go : gval T (.ops z21_r0 :: K) fr S = gval T (.ops [⟨some 4, .mov (.cst .nilp), none⟩,⟨some 5, .mov (.cst (.int .i64 0)), none⟩] :: K) fr S := rfl
def z21_r1 : List POper := [⟨some 7, .mov (.tmp 0), none⟩,⟨some 8, .eqn false .p (.tmp 7), none⟩,⟨some 9, .mov (.tmp 8), none⟩,⟨some 10, .mov (.tmp 0), some (9, false)⟩,⟨some 11, .nilck (.tmp 10), some (9, false)⟩,⟨some 12, .faddr 2 (.tmp 11), some (9, false)⟩,⟨some 13, .load false 1 false (.tmp 12), some (9, false)⟩,⟨some 14, .eqn false .m (.tmp 13), some (9, false)⟩,⟨some 15, .pick (.tmp 9) (.cst (.bool true)) (.tmp 14), none⟩,⟨some 6, .mov (.tmp 15), none⟩]
@[simp] theorem z21_r1_go : gval T (.ops z21_r1 :: K) fr S = gval T (.ops [⟨some 7, .mov (.tmp 0), none⟩,⟨some 8, .eqn false .p (.tmp 7), none⟩,⟨some 9, .mov (.tmp 8), none⟩,⟨some 10, .mov (.tmp 0), some (9, false)⟩,⟨some 11, .nilck (.tmp 10), some (9, false)⟩,⟨some 12, .faddr 2 (.tmp 11), some (9, false)⟩,⟨some 13, .load false 1 false (.tmp 12), some (9, false)⟩,⟨some 14, .eqn false .m (.tmp 13), some (9, false)⟩,⟨some 15, .pick (.tmp 9) (.cst (.bool true)) (.tmp 14), none⟩,⟨some 6, .mov (.tmp 15), none⟩] :: K) fr S := rfl
def z21_r2 : List POper := [⟨some 4, .mov (.cst .nilp), none⟩,⟨some 5, .mov (.cst (.int .i64 1)), none⟩]
@[simp] theorem z21_r2_go : gval T (.ops z21_r2 :: K) fr S = gval T (.ops [⟨some 4, .mov (.cst .nilp), none⟩,⟨some 5, .mov (.cst (.int .i64 1)), none⟩] :: K) fr S := rfl
def z21_r3 : List POper := [⟨some 17, .mov (.tmp 1), none⟩,⟨some 18, .call .pur 202 [(.tmp 17)], none⟩,⟨some 19, .un .not (.tmp 18), none⟩,⟨some 16, .mov (.tmp 19), none⟩]
@[simp] theorem z21_r3_go : gval T (.ops z21_r3 :: K) fr S = gval T (.ops [⟨some 17, .mov (.tmp 1), none⟩,⟨some 18, .call .pur 202 [(.tmp 17)], none⟩,⟨some 19, .un .not (.tmp 18), none⟩,⟨some 16, .mov (.tmp 19), none⟩] :: K) fr S := rfl
def z21_r4 : List POper := [⟨some 4, .mov (.cst .nilp), none⟩,⟨some 5, .mov (.cst (.int .i64 8)), none⟩]
@[simp] theorem z21_r4_go : gval T (.ops z21_r4 :: K) fr S = gval T (.ops [⟨some 4, .mov (.cst .nilp), none⟩,⟨some 5, .mov (.cst (.int .i64 8)), none⟩] :: K) fr S := rfl
def z21_r5 : List POper := [⟨some 21, .mov (.tmp 0), none⟩,⟨some 22, .nilck (.tmp 21), none⟩,⟨some 23, .faddr 2 (.tmp 22), none⟩,⟨some 24, .load false 1 false (.tmp 23), none⟩,⟨some 25, .mov (.tmp 1), none⟩,⟨some 26, .mlk true false .nilp (.tmp 24) (.tmp 25), none⟩,⟨some 27, .eqn false .p (.tmp 26), none⟩,⟨some 20, .mov (.tmp 27), none⟩]
@[simp] theorem z21_r5_go : gval T (.ops z21_r5 :: K) fr S = gval T (.ops [⟨some 21, .mov (.tmp 0), none⟩,⟨some 22, .nilck (.tmp 21), none⟩,⟨some 23, .faddr 2 (.tmp 22), none⟩,⟨some 24, .load false 1 false (.tmp 23), none⟩,⟨some 25, .mov (.tmp 1), none⟩,⟨some 26, .mlk true false .nilp (.tmp 24) (.tmp 25), none⟩,⟨some 27, .eqn false .p (.tmp 26), none⟩,⟨some 20, .mov (.tmp 27), none⟩] :: K) fr S := rfl
def z21_r6 : List POper := [⟨some 4, .mov (.cst .nilp), none⟩,⟨some 5, .mov (.cst (.int .i64 9)), none⟩]
@[simp] theorem z21_r6_go : gval T (.ops z21_r6 :: K) fr S = gval T (.ops [⟨some 4, .mov (.cst .nilp), none⟩,⟨some 5, .mov (.cst (.int .i64 9)), none⟩] :: K) fr S := rfl
def z21_r7 : List POper := [⟨some 28, .mov (.tmp 0), none⟩,⟨some 29, .nilck (.tmp 28), none⟩,⟨some 30, .faddr 2 (.tmp 29), none⟩,⟨some 31, .load false 1 false (.tmp 30), none⟩,⟨some 32, .mov (.tmp 1), none⟩,⟨some 33, .mlk true false .nilp (.tmp 31) (.tmp 32), none⟩,⟨some 4, .mov (.tmp 33), none⟩,⟨some 5, .mov (.cst (.int .i64 0)), none⟩]
@[simp] theorem z21_r7_go : gval T (.ops z21_r7 :: K) fr S = gval T (.ops [⟨some 28, .mov (.tmp 0), none⟩,⟨some 29, .nilck (.tmp 28), none⟩,⟨some 30, .faddr 2 (.tmp 29), none⟩,⟨some 31, .load false 1 false (.tmp 30), none⟩,⟨some 32, .mov (.tmp 1), none⟩,⟨some 33, .mlk true false .nilp (.tmp 31) (.tmp 32), none⟩,⟨some 4, .mov (.tmp 33), none⟩,⟨some 5, .mov (.cst (.int .i64 0)), none⟩] :: K) fr S := rfl
def z21 : PCodeFn :=
  ⟨2, [.tmp 4, .tmp 5],
  (.seq (.region z21_r0) (.seq (.block 0 (.seq (.clr [(7, 16)] (.region z21_r1)) (.cond (.tmp 6) (.seq (.region z21_r2) .ret) (.seq (.clr [(17, 20)] (.region z21_r3)) (.cond (.tmp 16) (.seq (.region z21_r4) .ret) (.seq (.clr [(21, 28)] (.region z21_r5)) (.cond (.tmp 20) (.seq (.region z21_r6) .ret) .skip))))))) (.seq (.clr [(28, 34)] (.region z21_r7)) .ret))), false⟩

def z16_r0 : List POper := [⟨some 2, .mov (.cst (.int .i64 0)), none⟩]
@[simp] theorem z16_r0_go : gval T (.ops z16_r0 :: K) fr S = gval T (.ops [⟨some 2, .mov (.cst (.int .i64 0)), none⟩] :: K) fr S := rfl
def z16_r1 : List POper := [⟨some 3, .mov (.tmp 0), none⟩,⟨some 4, .nilck (.tmp 3), none⟩,⟨some 5, .faddr 4 (.tmp 4), none⟩,⟨some 6, .load false 1 false (.tmp 5), none⟩,⟨some 7, .arith .eql (.tmp 6) (.cst (.int .i64 0)), none⟩]
@[simp] theorem z16_r1_go : gval T (.ops z16_r1 :: K) fr S = gval T (.ops [⟨some 3, .mov (.tmp 0), none⟩,⟨some 4, .nilck (.tmp 3), none⟩,⟨some 5, .faddr 4 (.tmp 4), none⟩,⟨some 6, .load false 1 false (.tmp 5), none⟩,⟨some 7, .arith .eql (.tmp 6) (.cst (.int .i64 0)), none⟩] :: K) fr S := rfl
def z16_r2 : List POper := [⟨some 8, .mov (.tmp 0), none⟩,⟨some 9, .nilck (.tmp 8), none⟩,⟨some 10, .faddr 6 (.tmp 9), none⟩,⟨none, .store 1 (.tmp 10) (.cst (.bool true)), none⟩]
@[simp] theorem z16_r2_go : gval T (.ops z16_r2 :: K) fr S = gval T (.ops [⟨some 8, .mov (.tmp 0), none⟩,⟨some 9, .nilck (.tmp 8), none⟩,⟨some 10, .faddr 6 (.tmp 9), none⟩,⟨none, .store 1 (.tmp 10) (.cst (.bool true)), none⟩] :: K) fr S := rfl
def z16_r3 : List POper := [⟨some 11, .mov (.tmp 0), none⟩,⟨some 12, .nilck (.tmp 11), none⟩,⟨some 13, .faddr 6 (.tmp 12), none⟩,⟨some 14, .load false 1 false (.tmp 13), none⟩]
@[simp] theorem z16_r3_go : gval T (.ops z16_r3 :: K) fr S = gval T (.ops [⟨some 11, .mov (.tmp 0), none⟩,⟨some 12, .nilck (.tmp 11), none⟩,⟨some 13, .faddr 6 (.tmp 12), none⟩,⟨some 14, .load false 1 false (.tmp 13), none⟩] :: K) fr S := rfl
def z16_r4 : List POper := [⟨some 2, .mov (.cst (.int .i64 6)), none⟩]
@[simp] theorem z16_r4_go : gval T (.ops z16_r4 :: K) fr S = gval T (.ops [⟨some 2, .mov (.cst (.int .i64 6)), none⟩] :: K) fr S := rfl
def z16_r5 : List POper := [⟨some 15, .mov (.tmp 0), none⟩,⟨some 16, .nilck (.tmp 15), none⟩,⟨some 17, .faddr 4 (.tmp 16), none⟩,⟨some 18, .load false 1 false (.tmp 17), none⟩,⟨some 19, .arith .gtr (.tmp 18) (.cst (.int .i64 0)), none⟩]
@[simp] theorem z16_r5_go : gval T (.ops z16_r5 :: K) fr S = gval T (.ops [⟨some 15, .mov (.tmp 0), none⟩,⟨some 16, .nilck (.tmp 15), none⟩,⟨some 17, .faddr 4 (.tmp 16), none⟩,⟨some 18, .load false 1 false (.tmp 17), none⟩,⟨some 19, .arith .gtr (.tmp 18) (.cst (.int .i64 0)), none⟩] :: K) fr S := rfl
def z16_r6 : List POper := [⟨some 20, .mov (.tmp 0), none⟩,⟨some 21, .nilck (.tmp 20), none⟩,⟨some 22, .faddr 4 (.tmp 21), none⟩,⟨some 23, .load false 1 false (.tmp 22), none⟩,⟨some 24, .arith .sub (.tmp 23) (.cst (.int .i64 1)), none⟩,⟨some 25, .nilck (.tmp 20), none⟩,⟨some 26, .faddr 4 (.tmp 25), none⟩,⟨none, .store 1 (.tmp 26) (.tmp 24), none⟩]
@[simp] theorem z16_r6_go : gval T (.ops z16_r6 :: K) fr S = gval T (.ops [⟨some 20, .mov (.tmp 0), none⟩,⟨some 21, .nilck (.tmp 20), none⟩,⟨some 22, .faddr 4 (.tmp 21), none⟩,⟨some 23, .load false 1 false (.tmp 22), none⟩,⟨some 24, .arith .sub (.tmp 23) (.cst (.int .i64 1)), none⟩,⟨some 25, .nilck (.tmp 20), none⟩,⟨some 26, .faddr 4 (.tmp 25), none⟩,⟨none, .store 1 (.tmp 26) (.tmp 24), none⟩] :: K) fr S := rfl
def z16_r7 : List POper := [⟨some 27, .mov (.tmp 0), none⟩,⟨some 28, .nilck (.tmp 27), none⟩,⟨some 29, .faddr 5 (.tmp 28), none⟩,⟨some 30, .load false 1 false (.tmp 29), none⟩,⟨some 31, .arith .add (.tmp 30) (.cst (.int .i64 1)), none⟩,⟨some 32, .nilck (.tmp 27), none⟩,⟨some 33, .faddr 5 (.tmp 32), none⟩,⟨none, .store 1 (.tmp 33) (.tmp 31), none⟩]
@[simp] theorem z16_r7_go : gval T (.ops z16_r7 :: K) fr S = gval T (.ops [⟨some 27, .mov (.tmp 0), none⟩,⟨some 28, .nilck (.tmp 27), none⟩,⟨some 29, .faddr 5 (.tmp 28), none⟩,⟨some 30, .load false 1 false (.tmp 29), none⟩,⟨some 31, .arith .add (.tmp 30) (.cst (.int .i64 1)), none⟩,⟨some 32, .nilck (.tmp 27), none⟩,⟨some 33, .faddr 5 (.tmp 32), none⟩,⟨none, .store 1 (.tmp 33) (.tmp 31), none⟩] :: K) fr S := rfl
def z16_r8 : List POper := [⟨some 2, .mov (.cst (.int .i64 0)), none⟩]
@[simp] theorem z16_r8_go : gval T (.ops z16_r8 :: K) fr S = gval T (.ops [⟨some 2, .mov (.cst (.int .i64 0)), none⟩] :: K) fr S := rfl
def z16 : PCodeFn :=
  ⟨1, [.tmp 2],
  (.seq (.region z16_r0) (.seq (.seq (.clr [(3, 7)] (.region z16_r1)) (.cond (.tmp 7) (.clr [(8, 11)] (.region z16_r2)) .skip)) (.seq (.seq (.clr [(11, 14)] (.region z16_r3)) (.cond (.tmp 14) (.seq (.region z16_r4) .ret) .skip)) (.seq (.seq (.clr [(15, 19)] (.region z16_r5)) (.cond (.tmp 19) (.clr [(20, 27)] (.region z16_r6)) .skip)) (.seq (.clr [(27, 34)] (.region z16_r7)) (.seq (.region z16_r8) .ret)))))), false⟩

def z69_r0 : List POper := [⟨some 2, .mov (.cst (.int .i64 0)), none⟩]
@[simp] theorem z69_r0_go : gval T (.ops z69_r0 :: K) fr S = gval T (.ops [⟨some 2, .mov (.cst (.int .i64 0)), none⟩] :: K) fr S := rfl
def z69_r1 : List POper := [⟨some 6, .mov (.tmp 0), none⟩,⟨some 7, .len false (.tmp 6), none⟩,⟨some 8, .mov (.cst (.int .i64 0)), none⟩]
@[simp] theorem z69_r1_go : gval T (.ops z69_r1 :: K) fr S = gval T (.ops [⟨some 6, .mov (.tmp 0), none⟩,⟨some 7, .len false (.tmp 6), none⟩,⟨some 8, .mov (.cst (.int .i64 0)), none⟩] :: K) fr S := rfl
def z69_r2 : List POper := [⟨some 9, .arith .lss (.tmp 8) (.tmp 7), none⟩]
@[simp] theorem z69_r2_go : gval T (.ops z69_r2 :: K) fr S = gval T (.ops [⟨some 9, .arith .lss (.tmp 8) (.tmp 7), none⟩] :: K) fr S := rfl
def z69_r3 : List POper := [⟨some 10, .iaddr 1 (.tmp 6) (.tmp 8), none⟩,⟨some 11, .load false 1 false (.tmp 10), none⟩,⟨some 4, .mov (.tmp 11), none⟩]
@[simp] theorem z69_r3_go : gval T (.ops z69_r3 :: K) fr S = gval T (.ops [⟨some 10, .iaddr 1 (.tmp 6) (.tmp 8), none⟩,⟨some 11, .load false 1 false (.tmp 10), none⟩,⟨some 4, .mov (.tmp 11), none⟩] :: K) fr S := rfl
def z69_r4 : List POper := [⟨some 12, .mov (.tmp 4), none⟩,⟨some 13, .callv .std (.tmp 12) [], none⟩,⟨some 5, .mov (.tmp 13), none⟩]
@[simp] theorem z69_r4_go : gval T (.ops z69_r4 :: K) fr S = gval T (.ops [⟨some 12, .mov (.tmp 4), none⟩,⟨some 13, .callv .std (.tmp 12) [], none⟩,⟨some 5, .mov (.tmp 13), none⟩] :: K) fr S := rfl
def z69_r5 : List POper := [⟨some 14, .mov (.tmp 5), none⟩,⟨some 15, .arith .neq (.tmp 14) (.cst (.int .i64 0)), none⟩]
@[simp] theorem z69_r5_go : gval T (.ops z69_r5 :: K) fr S = gval T (.ops [⟨some 14, .mov (.tmp 5), none⟩,⟨some 15, .arith .neq (.tmp 14) (.cst (.int .i64 0)), none⟩] :: K) fr S := rfl
def z69_r6 : List POper := [⟨some 16, .mov (.tmp 5), none⟩,⟨some 2, .mov (.tmp 16), none⟩]
@[simp] theorem z69_r6_go : gval T (.ops z69_r6 :: K) fr S = gval T (.ops [⟨some 16, .mov (.tmp 5), none⟩,⟨some 2, .mov (.tmp 16), none⟩] :: K) fr S := rfl
def z69_r7 : List POper := [⟨some 17, .arith .add (.tmp 8) (.cst (.int .i64 1)), none⟩,⟨some 8, .mov (.tmp 17), none⟩]
@[simp] theorem z69_r7_go : gval T (.ops z69_r7 :: K) fr S = gval T (.ops [⟨some 17, .arith .add (.tmp 8) (.cst (.int .i64 1)), none⟩,⟨some 8, .mov (.tmp 17), none⟩] :: K) fr S := rfl
def z69_l0 : PCode :=
  (.seq (.region z69_r2) (.seq (.cond (.tmp 9) .skip (.exit 0)) (.seq (.block 1 (.seq (.clr [(10, 12)] (.region z69_r3)) (.seq (.clr [(12, 14)] (.region z69_r4)) (.seq (.clr [(14, 15)] (.region z69_r5)) (.cond (.tmp 15) (.seq (.clr [(16, 17)] (.region z69_r6)) .ret) .skip))))) (.clr [(17, 18)] (.region z69_r7)))))
@[simp] theorem wal_each_l0_go : gval T (.code z69_l0 :: K) fr S = gval T (.code (.seq (.region z69_r2) (.seq (.cond (.tmp 9) .skip (.exit 0)) (.seq (.block 1 (.seq (.clr [(10, 12)] (.region z69_r3)) (.seq (.clr [(12, 14)] (.region z69_r4)) (.seq (.clr [(14, 15)] (.region z69_r5)) (.cond (.tmp 15) (.seq (.clr [(16, 17)] (.region z69_r6)) .ret) .skip))))) (.clr [(17, 18)] (.region z69_r7))))) :: K) fr S := rfl
def z69_r8 : List POper := [⟨some 2, .mov (.cst (.int .i64 0)), none⟩]
@[simp] theorem z69_r8_go : gval T (.ops z69_r8 :: K) fr S = gval T (.ops [⟨some 2, .mov (.cst (.int .i64 0)), none⟩] :: K) fr S := rfl
def z69 : PCodeFn :=
  ⟨1, [.tmp 2],
  (.seq (.region z69_r0) (.seq (.seq (.region z69_r1) (.block 0 (.loop z69_l0))) (.seq (.region z69_r8) .ret))), false⟩

def z54_r0 : List POper := [⟨some 2, .mov (.cst (.int .i64 0)), none⟩]
@[simp] theorem z54_r0_go : gval T (.ops z54_r0 :: K) fr S = gval T (.ops [⟨some 2, .mov (.cst (.int .i64 0)), none⟩] :: K) fr S := rfl
def z54_r1 : List POper := [⟨some 3, .load false 1 false (.tmp 0), none⟩,⟨some 4, .load false 1 false (.tmp 1), none⟩,⟨some 5, .call .std 77 [(.tmp 3), (.tmp 4)], none⟩,⟨some 2, .mov (.tmp 5), none⟩]
@[simp] theorem z54_r1_go : gval T (.ops z54_r1 :: K) fr S = gval T (.ops [⟨some 3, .load false 1 false (.tmp 0), none⟩,⟨some 4, .load false 1 false (.tmp 1), none⟩,⟨some 5, .call .std 77 [(.tmp 3), (.tmp 4)], none⟩,⟨some 2, .mov (.tmp 5), none⟩] :: K) fr S := rfl
def z54 : PCodeFn :=
  ⟨2, [.tmp 2],
  (.seq (.region z54_r0) (.seq (.clr [(3, 6)] (.region z54_r1)) .ret)), false⟩

def z9_r0 : List POper := [⟨some 4, .mov (.cst (.int .i64 0)), none⟩]
@[simp] theorem z9_r0_go : gval T (.ops z9_r0 :: K) fr S = gval T (.ops [⟨some 4, .mov (.cst (.int .i64 0)), none⟩] :: K) fr S := rfl
def z9_r1 : List POper := [⟨some 8, .mov (.tmp 0), none⟩,⟨some 9, .mov (.tmp 1), none⟩,⟨some 10, .call .std 194 [(.tmp 8), (.tmp 9)], none⟩,⟨some 7, .mov (.tmp 10), none⟩,⟨some 11, .extract 0 (.tmp 7), none⟩,⟨some 12, .extract 1 (.tmp 7), none⟩,⟨some 5, .mov (.tmp 11), none⟩,⟨some 6, .mov (.tmp 12), none⟩]
@[simp] theorem z9_r1_go : gval T (.ops z9_r1 :: K) fr S = gval T (.ops [⟨some 8, .mov (.tmp 0), none⟩,⟨some 9, .mov (.tmp 1), none⟩,⟨some 10, .call .std 194 [(.tmp 8), (.tmp 9)], none⟩,⟨some 7, .mov (.tmp 10), none⟩,⟨some 11, .extract 0 (.tmp 7), none⟩,⟨some 12, .extract 1 (.tmp 7), none⟩,⟨some 5, .mov (.tmp 11), none⟩,⟨some 6, .mov (.tmp 12), none⟩] :: K) fr S := rfl
def z9_r2 : List POper := [⟨some 14, .mov (.tmp 6), none⟩,⟨some 15, .arith .eql (.tmp 14) (.cst (.int .i64 0)), none⟩,⟨some 13, .mov (.tmp 15), none⟩]
@[simp] theorem z9_r2_go : gval T (.ops z9_r2 :: K) fr S = gval T (.ops [⟨some 14, .mov (.tmp 6), none⟩,⟨some 15, .arith .eql (.tmp 14) (.cst (.int .i64 0)), none⟩,⟨some 13, .mov (.tmp 15), none⟩] :: K) fr S := rfl
def z9_r3 : List POper := [⟨some 4, .mov (.cst (.int .i64 10)), none⟩]
@[simp] theorem z9_r3_go : gval T (.ops z9_r3 :: K) fr S = gval T (.ops [⟨some 4, .mov (.cst (.int .i64 10)), none⟩] :: K) fr S := rfl
def z9_r4 : List POper := [⟨some 17, .mov (.tmp 6), none⟩,⟨some 18, .arith .neq (.tmp 17) (.cst (.int .i64 9)), none⟩,⟨some 16, .mov (.tmp 18), none⟩]
@[simp] theorem z9_r4_go : gval T (.ops z9_r4 :: K) fr S = gval T (.ops [⟨some 17, .mov (.tmp 6), none⟩,⟨some 18, .arith .neq (.tmp 17) (.cst (.int .i64 9)), none⟩,⟨some 16, .mov (.tmp 18), none⟩] :: K) fr S := rfl
def z9_r5 : List POper := [⟨some 19, .mov (.tmp 6), none⟩,⟨some 4, .mov (.tmp 19), none⟩]
@[simp] theorem z9_r5_go : gval T (.ops z9_r5 :: K) fr S = gval T (.ops [⟨some 19, .mov (.tmp 6), none⟩,⟨some 4, .mov (.tmp 19), none⟩] :: K) fr S := rfl
def z9_r6 : List POper := [⟨some 21, .mov (.tmp 0), none⟩,⟨some 22, .nilck (.tmp 21), none⟩,⟨some 23, .faddr 2 (.tmp 22), none⟩,⟨some 24, .load false 1 false (.tmp 23), none⟩,⟨some 25, .mlen (.tmp 24), none⟩,⟨some 26, .arith .geq (.tmp 25) (.cst (.int .i64 64)), none⟩,⟨some 20, .mov (.tmp 26), none⟩]
@[simp] theorem z9_r6_go : gval T (.ops z9_r6 :: K) fr S = gval T (.ops [⟨some 21, .mov (.tmp 0), none⟩,⟨some 22, .nilck (.tmp 21), none⟩,⟨some 23, .faddr 2 (.tmp 22), none⟩,⟨some 24, .load false 1 false (.tmp 23), none⟩,⟨some 25, .mlen (.tmp 24), none⟩,⟨some 26, .arith .geq (.tmp 25) (.cst (.int .i64 64)), none⟩,⟨some 20, .mov (.tmp 26), none⟩] :: K) fr S := rfl
def z9_r7 : List POper := [⟨some 4, .mov (.cst (.int .i64 7)), none⟩]
@[simp] theorem z9_r7_go : gval T (.ops z9_r7 :: K) fr S = gval T (.ops [⟨some 4, .mov (.cst (.int .i64 7)), none⟩] :: K) fr S := rfl
def z9_r8 : List POper := [⟨some 27, .mov (.tmp 0), none⟩,⟨some 28, .mov (.tmp 1), none⟩,⟨some 29, .build [.nils, (.int .i64 0)] [], none⟩,⟨some 30, .box false (.tmp 29), none⟩,⟨some 31, .build [(.str []), (.str []), .nilp] [(1, 1, (.tmp 28)), (2, 1, (.tmp 30))], none⟩,⟨some 32, .call .std 195 [(.tmp 27), (.tmp 31)], none⟩,⟨some 4, .mov (.tmp 32), none⟩]
@[simp] theorem z9_r8_go : gval T (.ops z9_r8 :: K) fr S = gval T (.ops [⟨some 27, .mov (.tmp 0), none⟩,⟨some 28, .mov (.tmp 1), none⟩,⟨some 29, .build [.nils, (.int .i64 0)] [], none⟩,⟨some 30, .box false (.tmp 29), none⟩,⟨some 31, .build [(.str []), (.str []), .nilp] [(1, 1, (.tmp 28)), (2, 1, (.tmp 30))], none⟩,⟨some 32, .call .std 195 [(.tmp 27), (.tmp 31)], none⟩,⟨some 4, .mov (.tmp 32), none⟩] :: K) fr S := rfl
def z9 : PCodeFn :=
  ⟨2, [.tmp 4],
  (.seq (.region z9_r0) (.seq (.clr [(5, 6), (7, 13)] (.region z9_r1)) (.seq (.block 0 (.seq (.clr [(14, 16)] (.region z9_r2)) (.cond (.tmp 13) (.seq (.region z9_r3) .ret) (.seq (.clr [(17, 19)] (.region z9_r4)) (.cond (.tmp 16) (.seq (.clr [(19, 20)] (.region z9_r5)) .ret) (.seq (.clr [(21, 27)] (.region z9_r6)) (.cond (.tmp 20) (.seq (.region z9_r7) .ret) .skip))))))) (.seq (.clr [(27, 33)] (.region z9_r8)) .ret)))), false⟩

end Ps
