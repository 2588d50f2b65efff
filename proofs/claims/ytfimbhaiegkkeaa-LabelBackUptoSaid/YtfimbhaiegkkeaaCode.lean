/- The functions' code, as the pure semantics has it: printed by program. -/
import Derived.Test.YtfimbhaiegkkeaaCodeC
namespace Ps
open Go
set_option maxRecDepth 10000

/-! internal/bytealg.IndexRabinKarp[string]: 350 -/
def bytealg_IndexRabinKarp_string_r0 : List POper := [
  ⟨some 4, .mov (.cst (.int .i64 0)), none⟩]
@[simp] theorem bytealg_IndexRabinKarp_string_r0_go (T : Tbl) (K : List Kt) (fr : Fr) (S : St) : gval T (.ops bytealg_IndexRabinKarp_string_r0 :: K) fr S = gval T (.ops [
  ⟨some 4, .mov (.cst (.int .i64 0)), none⟩] :: K) fr S := rfl
def bytealg_IndexRabinKarp_string_r1 : List POper := [
  ⟨some 12, .mov (.tmp 1), none⟩,
  ⟨some 13, .call .pur 389 [(.tmp 12)], none⟩,
  ⟨some 11, .mov (.tmp 13), none⟩,
  ⟨some 14, .extract 0 (.tmp 11), none⟩,
  ⟨some 15, .extract 1 (.tmp 11), none⟩,
  ⟨some 5, .mov (.tmp 14), none⟩,
  ⟨some 6, .mov (.tmp 15), none⟩]
@[simp] theorem bytealg_IndexRabinKarp_string_r1_go (T : Tbl) (K : List Kt) (fr : Fr) (S : St) : gval T (.ops bytealg_IndexRabinKarp_string_r1 :: K) fr S = gval T (.ops [
  ⟨some 12, .mov (.tmp 1), none⟩,
  ⟨some 13, .call .pur 389 [(.tmp 12)], none⟩,
  ⟨some 11, .mov (.tmp 13), none⟩,
  ⟨some 14, .extract 0 (.tmp 11), none⟩,
  ⟨some 15, .extract 1 (.tmp 11), none⟩,
  ⟨some 5, .mov (.tmp 14), none⟩,
  ⟨some 6, .mov (.tmp 15), none⟩] :: K) fr S := rfl
def bytealg_IndexRabinKarp_string_r2 : List POper := [
  ⟨some 16, .mov (.tmp 1), none⟩,
  ⟨some 17, .len true (.tmp 16), none⟩,
  ⟨some 7, .mov (.tmp 17), none⟩]
@[simp] theorem bytealg_IndexRabinKarp_string_r2_go (T : Tbl) (K : List Kt) (fr : Fr) (S : St) : gval T (.ops bytealg_IndexRabinKarp_string_r2 :: K) fr S = gval T (.ops [
  ⟨some 16, .mov (.tmp 1), none⟩,
  ⟨some 17, .len true (.tmp 16), none⟩,
  ⟨some 7, .mov (.tmp 17), none⟩] :: K) fr S := rfl
def bytealg_IndexRabinKarp_string_r3 : List POper := [
  ⟨some 8, .mov (.cst (.int .u32 0)), none⟩]
@[simp] theorem bytealg_IndexRabinKarp_string_r3_go (T : Tbl) (K : List Kt) (fr : Fr) (S : St) : gval T (.ops bytealg_IndexRabinKarp_string_r3 :: K) fr S = gval T (.ops [
  ⟨some 8, .mov (.cst (.int .u32 0)), none⟩] :: K) fr S := rfl
def bytealg_IndexRabinKarp_string_r4 : List POper := [
  ⟨some 9, .mov (.cst (.int .i64 0)), none⟩]
@[simp] theorem bytealg_IndexRabinKarp_string_r4_go (T : Tbl) (K : List Kt) (fr : Fr) (S : St) : gval T (.ops bytealg_IndexRabinKarp_string_r4 :: K) fr S = gval T (.ops [
  ⟨some 9, .mov (.cst (.int .i64 0)), none⟩] :: K) fr S := rfl
def bytealg_IndexRabinKarp_string_r5 : List POper := [
  ⟨some 18, .mov (.tmp 9), none⟩,
  ⟨some 19, .mov (.tmp 7), none⟩,
  ⟨some 20, .arith .lss (.tmp 18) (.tmp 19), none⟩]
@[simp] theorem bytealg_IndexRabinKarp_string_r5_go (T : Tbl) (K : List Kt) (fr : Fr) (S : St) : gval T (.ops bytealg_IndexRabinKarp_string_r5 :: K) fr S = gval T (.ops [
  ⟨some 18, .mov (.tmp 9), none⟩,
  ⟨some 19, .mov (.tmp 7), none⟩,
  ⟨some 20, .arith .lss (.tmp 18) (.tmp 19), none⟩] :: K) fr S := rfl
def bytealg_IndexRabinKarp_string_r7 : List POper := [
  ⟨some 23, .mov (.tmp 8), none⟩,
  ⟨some 24, .arith .mul (.tmp 23) (.cst (.int .u32 16777619)), none⟩,
  ⟨some 25, .mov (.tmp 0), none⟩,
  ⟨some 26, .mov (.tmp 9), none⟩,
  ⟨some 27, .idxs (.tmp 25) (.tmp 26), none⟩,
  ⟨some 28, .toInt .u32 (.tmp 27), none⟩,
  ⟨some 29, .arith .add (.tmp 24) (.tmp 28), none⟩,
  ⟨some 8, .mov (.tmp 29), none⟩]
@[simp] theorem bytealg_IndexRabinKarp_string_r7_go (T : Tbl) (K : List Kt) (fr : Fr) (S : St) : gval T (.ops bytealg_IndexRabinKarp_string_r7 :: K) fr S = gval T (.ops [
  ⟨some 23, .mov (.tmp 8), none⟩,
  ⟨some 24, .arith .mul (.tmp 23) (.cst (.int .u32 16777619)), none⟩,
  ⟨some 25, .mov (.tmp 0), none⟩,
  ⟨some 26, .mov (.tmp 9), none⟩,
  ⟨some 27, .idxs (.tmp 25) (.tmp 26), none⟩,
  ⟨some 28, .toInt .u32 (.tmp 27), none⟩,
  ⟨some 29, .arith .add (.tmp 24) (.tmp 28), none⟩,
  ⟨some 8, .mov (.tmp 29), none⟩] :: K) fr S := rfl
def bytealg_IndexRabinKarp_string_r6 : List POper := [
  ⟨some 21, .mov (.tmp 9), none⟩,
  ⟨some 22, .arith .add (.tmp 21) (.cst (.int .i64 1)), none⟩,
  ⟨some 9, .mov (.tmp 22), none⟩]
@[simp] theorem bytealg_IndexRabinKarp_string_r6_go (T : Tbl) (K : List Kt) (fr : Fr) (S : St) : gval T (.ops bytealg_IndexRabinKarp_string_r6 :: K) fr S = gval T (.ops [
  ⟨some 21, .mov (.tmp 9), none⟩,
  ⟨some 22, .arith .add (.tmp 21) (.cst (.int .i64 1)), none⟩,
  ⟨some 9, .mov (.tmp 22), none⟩] :: K) fr S := rfl
def bytealg_IndexRabinKarp_string_l0 : PCode :=
  (.seq (.seq (.clr [(18, 20)] (.region bytealg_IndexRabinKarp_string_r5)) (.cond (.tmp 20) .skip (.exit 0))) (.seq (.block 1 (.clr [(23, 30)] (.region bytealg_IndexRabinKarp_string_r7))) (.clr [(21, 23)] (.region bytealg_IndexRabinKarp_string_r6))))
@[simp] theorem bytealg_IndexRabinKarp_string_l0_go (T : Tbl) (K : List Kt) (fr : Fr) (S : St) : gval T (.code bytealg_IndexRabinKarp_string_l0 :: K) fr S = gval T (.code (.seq (.seq (.clr [(18, 20)] (.region bytealg_IndexRabinKarp_string_r5)) (.cond (.tmp 20) .skip (.exit 0))) (.seq (.block 1 (.clr [(23, 30)] (.region bytealg_IndexRabinKarp_string_r7))) (.clr [(21, 23)] (.region bytealg_IndexRabinKarp_string_r6)))) :: K) fr S := rfl
def bytealg_IndexRabinKarp_string_r8 : List POper := [
  ⟨some 30, .mov (.tmp 8), none⟩,
  ⟨some 31, .mov (.tmp 5), none⟩,
  ⟨some 32, .arith .eql (.tmp 30) (.tmp 31), none⟩,
  ⟨some 33, .mov (.tmp 32), none⟩,
  ⟨some 34, .mov (.tmp 0), some (33, true)⟩,
  ⟨some 35, .mov (.tmp 7), some (33, true)⟩,
  ⟨some 36, .slcs none (some (.tmp 35)) (.tmp 34), some (33, true)⟩,
  ⟨some 37, .mov (.tmp 1), some (33, true)⟩,
  ⟨some 38, .arith .eql (.tmp 36) (.tmp 37), some (33, true)⟩,
  ⟨some 39, .pick (.tmp 33) (.tmp 38) (.cst (.bool false)), none⟩]
@[simp] theorem bytealg_IndexRabinKarp_string_r8_go (T : Tbl) (K : List Kt) (fr : Fr) (S : St) : gval T (.ops bytealg_IndexRabinKarp_string_r8 :: K) fr S = gval T (.ops [
  ⟨some 30, .mov (.tmp 8), none⟩,
  ⟨some 31, .mov (.tmp 5), none⟩,
  ⟨some 32, .arith .eql (.tmp 30) (.tmp 31), none⟩,
  ⟨some 33, .mov (.tmp 32), none⟩,
  ⟨some 34, .mov (.tmp 0), some (33, true)⟩,
  ⟨some 35, .mov (.tmp 7), some (33, true)⟩,
  ⟨some 36, .slcs none (some (.tmp 35)) (.tmp 34), some (33, true)⟩,
  ⟨some 37, .mov (.tmp 1), some (33, true)⟩,
  ⟨some 38, .arith .eql (.tmp 36) (.tmp 37), some (33, true)⟩,
  ⟨some 39, .pick (.tmp 33) (.tmp 38) (.cst (.bool false)), none⟩] :: K) fr S := rfl
def bytealg_IndexRabinKarp_string_r9 : List POper := [
  ⟨some 4, .mov (.cst (.int .i64 0)), none⟩]
@[simp] theorem bytealg_IndexRabinKarp_string_r9_go (T : Tbl) (K : List Kt) (fr : Fr) (S : St) : gval T (.ops bytealg_IndexRabinKarp_string_r9 :: K) fr S = gval T (.ops [
  ⟨some 4, .mov (.cst (.int .i64 0)), none⟩] :: K) fr S := rfl
def bytealg_IndexRabinKarp_string_r10 : List POper := [
  ⟨some 40, .mov (.tmp 7), none⟩,
  ⟨some 10, .mov (.tmp 40), none⟩]
@[simp] theorem bytealg_IndexRabinKarp_string_r10_go (T : Tbl) (K : List Kt) (fr : Fr) (S : St) : gval T (.ops bytealg_IndexRabinKarp_string_r10 :: K) fr S = gval T (.ops [
  ⟨some 40, .mov (.tmp 7), none⟩,
  ⟨some 10, .mov (.tmp 40), none⟩] :: K) fr S := rfl
def bytealg_IndexRabinKarp_string_r11 : List POper := [
  ⟨some 41, .mov (.tmp 10), none⟩,
  ⟨some 42, .mov (.tmp 0), none⟩,
  ⟨some 43, .len true (.tmp 42), none⟩,
  ⟨some 44, .arith .lss (.tmp 41) (.tmp 43), none⟩]
@[simp] theorem bytealg_IndexRabinKarp_string_r11_go (T : Tbl) (K : List Kt) (fr : Fr) (S : St) : gval T (.ops bytealg_IndexRabinKarp_string_r11 :: K) fr S = gval T (.ops [
  ⟨some 41, .mov (.tmp 10), none⟩,
  ⟨some 42, .mov (.tmp 0), none⟩,
  ⟨some 43, .len true (.tmp 42), none⟩,
  ⟨some 44, .arith .lss (.tmp 41) (.tmp 43), none⟩] :: K) fr S := rfl
def bytealg_IndexRabinKarp_string_r12 : List POper := [
  ⟨some 45, .mov (.tmp 8), none⟩,
  ⟨some 46, .arith .mul (.tmp 45) (.cst (.int .u32 16777619)), none⟩,
  ⟨some 8, .mov (.tmp 46), none⟩]
@[simp] theorem bytealg_IndexRabinKarp_string_r12_go (T : Tbl) (K : List Kt) (fr : Fr) (S : St) : gval T (.ops bytealg_IndexRabinKarp_string_r12 :: K) fr S = gval T (.ops [
  ⟨some 45, .mov (.tmp 8), none⟩,
  ⟨some 46, .arith .mul (.tmp 45) (.cst (.int .u32 16777619)), none⟩,
  ⟨some 8, .mov (.tmp 46), none⟩] :: K) fr S := rfl
def bytealg_IndexRabinKarp_string_r13 : List POper := [
  ⟨some 47, .mov (.tmp 8), none⟩,
  ⟨some 48, .mov (.tmp 0), none⟩,
  ⟨some 49, .mov (.tmp 10), none⟩,
  ⟨some 50, .idxs (.tmp 48) (.tmp 49), none⟩,
  ⟨some 51, .toInt .u32 (.tmp 50), none⟩,
  ⟨some 52, .arith .add (.tmp 47) (.tmp 51), none⟩,
  ⟨some 8, .mov (.tmp 52), none⟩]
@[simp] theorem bytealg_IndexRabinKarp_string_r13_go (T : Tbl) (K : List Kt) (fr : Fr) (S : St) : gval T (.ops bytealg_IndexRabinKarp_string_r13 :: K) fr S = gval T (.ops [
  ⟨some 47, .mov (.tmp 8), none⟩,
  ⟨some 48, .mov (.tmp 0), none⟩,
  ⟨some 49, .mov (.tmp 10), none⟩,
  ⟨some 50, .idxs (.tmp 48) (.tmp 49), none⟩,
  ⟨some 51, .toInt .u32 (.tmp 50), none⟩,
  ⟨some 52, .arith .add (.tmp 47) (.tmp 51), none⟩,
  ⟨some 8, .mov (.tmp 52), none⟩] :: K) fr S := rfl
def bytealg_IndexRabinKarp_string_r14 : List POper := [
  ⟨some 53, .mov (.tmp 8), none⟩,
  ⟨some 54, .mov (.tmp 6), none⟩,
  ⟨some 55, .mov (.tmp 0), none⟩,
  ⟨some 56, .mov (.tmp 10), none⟩,
  ⟨some 57, .mov (.tmp 7), none⟩,
  ⟨some 58, .arith .sub (.tmp 56) (.tmp 57), none⟩,
  ⟨some 59, .idxs (.tmp 55) (.tmp 58), none⟩,
  ⟨some 60, .toInt .u32 (.tmp 59), none⟩,
  ⟨some 61, .arith .mul (.tmp 54) (.tmp 60), none⟩,
  ⟨some 62, .arith .sub (.tmp 53) (.tmp 61), none⟩,
  ⟨some 8, .mov (.tmp 62), none⟩]
@[simp] theorem bytealg_IndexRabinKarp_string_r14_go (T : Tbl) (K : List Kt) (fr : Fr) (S : St) : gval T (.ops bytealg_IndexRabinKarp_string_r14 :: K) fr S = gval T (.ops [
  ⟨some 53, .mov (.tmp 8), none⟩,
  ⟨some 54, .mov (.tmp 6), none⟩,
  ⟨some 55, .mov (.tmp 0), none⟩,
  ⟨some 56, .mov (.tmp 10), none⟩,
  ⟨some 57, .mov (.tmp 7), none⟩,
  ⟨some 58, .arith .sub (.tmp 56) (.tmp 57), none⟩,
  ⟨some 59, .idxs (.tmp 55) (.tmp 58), none⟩,
  ⟨some 60, .toInt .u32 (.tmp 59), none⟩,
  ⟨some 61, .arith .mul (.tmp 54) (.tmp 60), none⟩,
  ⟨some 62, .arith .sub (.tmp 53) (.tmp 61), none⟩,
  ⟨some 8, .mov (.tmp 62), none⟩] :: K) fr S := rfl
def bytealg_IndexRabinKarp_string_r15 : List POper := [
  ⟨some 63, .mov (.tmp 10), none⟩,
  ⟨some 64, .arith .add (.tmp 63) (.cst (.int .i64 1)), none⟩,
  ⟨some 10, .mov (.tmp 64), none⟩]
@[simp] theorem bytealg_IndexRabinKarp_string_r15_go (T : Tbl) (K : List Kt) (fr : Fr) (S : St) : gval T (.ops bytealg_IndexRabinKarp_string_r15 :: K) fr S = gval T (.ops [
  ⟨some 63, .mov (.tmp 10), none⟩,
  ⟨some 64, .arith .add (.tmp 63) (.cst (.int .i64 1)), none⟩,
  ⟨some 10, .mov (.tmp 64), none⟩] :: K) fr S := rfl
def bytealg_IndexRabinKarp_string_r16 : List POper := [
  ⟨some 65, .mov (.tmp 8), none⟩,
  ⟨some 66, .mov (.tmp 5), none⟩,
  ⟨some 67, .arith .eql (.tmp 65) (.tmp 66), none⟩,
  ⟨some 68, .mov (.tmp 67), none⟩,
  ⟨some 69, .mov (.tmp 0), some (68, true)⟩,
  ⟨some 70, .mov (.tmp 10), some (68, true)⟩,
  ⟨some 71, .mov (.tmp 7), some (68, true)⟩,
  ⟨some 72, .arith .sub (.tmp 70) (.tmp 71), some (68, true)⟩,
  ⟨some 73, .mov (.tmp 10), some (68, true)⟩,
  ⟨some 74, .slcs (some (.tmp 72)) (some (.tmp 73)) (.tmp 69), some (68, true)⟩,
  ⟨some 75, .mov (.tmp 1), some (68, true)⟩,
  ⟨some 76, .arith .eql (.tmp 74) (.tmp 75), some (68, true)⟩,
  ⟨some 77, .pick (.tmp 68) (.tmp 76) (.cst (.bool false)), none⟩]
@[simp] theorem bytealg_IndexRabinKarp_string_r16_go (T : Tbl) (K : List Kt) (fr : Fr) (S : St) : gval T (.ops bytealg_IndexRabinKarp_string_r16 :: K) fr S = gval T (.ops [
  ⟨some 65, .mov (.tmp 8), none⟩,
  ⟨some 66, .mov (.tmp 5), none⟩,
  ⟨some 67, .arith .eql (.tmp 65) (.tmp 66), none⟩,
  ⟨some 68, .mov (.tmp 67), none⟩,
  ⟨some 69, .mov (.tmp 0), some (68, true)⟩,
  ⟨some 70, .mov (.tmp 10), some (68, true)⟩,
  ⟨some 71, .mov (.tmp 7), some (68, true)⟩,
  ⟨some 72, .arith .sub (.tmp 70) (.tmp 71), some (68, true)⟩,
  ⟨some 73, .mov (.tmp 10), some (68, true)⟩,
  ⟨some 74, .slcs (some (.tmp 72)) (some (.tmp 73)) (.tmp 69), some (68, true)⟩,
  ⟨some 75, .mov (.tmp 1), some (68, true)⟩,
  ⟨some 76, .arith .eql (.tmp 74) (.tmp 75), some (68, true)⟩,
  ⟨some 77, .pick (.tmp 68) (.tmp 76) (.cst (.bool false)), none⟩] :: K) fr S := rfl
def bytealg_IndexRabinKarp_string_r17 : List POper := [
  ⟨some 78, .mov (.tmp 10), none⟩,
  ⟨some 79, .mov (.tmp 7), none⟩,
  ⟨some 80, .arith .sub (.tmp 78) (.tmp 79), none⟩,
  ⟨some 4, .mov (.tmp 80), none⟩]
@[simp] theorem bytealg_IndexRabinKarp_string_r17_go (T : Tbl) (K : List Kt) (fr : Fr) (S : St) : gval T (.ops bytealg_IndexRabinKarp_string_r17 :: K) fr S = gval T (.ops [
  ⟨some 78, .mov (.tmp 10), none⟩,
  ⟨some 79, .mov (.tmp 7), none⟩,
  ⟨some 80, .arith .sub (.tmp 78) (.tmp 79), none⟩,
  ⟨some 4, .mov (.tmp 80), none⟩] :: K) fr S := rfl
def bytealg_IndexRabinKarp_string_l1 : PCode :=
  (.seq (.seq (.clr [(41, 44)] (.region bytealg_IndexRabinKarp_string_r11)) (.cond (.tmp 44) .skip (.exit 2))) (.block 3 (.seq (.clr [(45, 47)] (.region bytealg_IndexRabinKarp_string_r12)) (.seq (.clr [(47, 53)] (.region bytealg_IndexRabinKarp_string_r13)) (.seq (.clr [(53, 63)] (.region bytealg_IndexRabinKarp_string_r14)) (.seq (.clr [(63, 65)] (.region bytealg_IndexRabinKarp_string_r15)) (.seq (.clr [(65, 77)] (.region bytealg_IndexRabinKarp_string_r16)) (.cond (.tmp 77) (.seq (.clr [(78, 81)] (.region bytealg_IndexRabinKarp_string_r17)) .ret) .skip))))))))
@[simp] theorem bytealg_IndexRabinKarp_string_l1_go (T : Tbl) (K : List Kt) (fr : Fr) (S : St) : gval T (.code bytealg_IndexRabinKarp_string_l1 :: K) fr S = gval T (.code (.seq (.seq (.clr [(41, 44)] (.region bytealg_IndexRabinKarp_string_r11)) (.cond (.tmp 44) .skip (.exit 2))) (.block 3 (.seq (.clr [(45, 47)] (.region bytealg_IndexRabinKarp_string_r12)) (.seq (.clr [(47, 53)] (.region bytealg_IndexRabinKarp_string_r13)) (.seq (.clr [(53, 63)] (.region bytealg_IndexRabinKarp_string_r14)) (.seq (.clr [(63, 65)] (.region bytealg_IndexRabinKarp_string_r15)) (.seq (.clr [(65, 77)] (.region bytealg_IndexRabinKarp_string_r16)) (.cond (.tmp 77) (.seq (.clr [(78, 81)] (.region bytealg_IndexRabinKarp_string_r17)) .ret) .skip)))))))) :: K) fr S := rfl
def bytealg_IndexRabinKarp_string_r18 : List POper := [
  ⟨some 4, .mov (.cst (.int .i64 (-1))), none⟩]
@[simp] theorem bytealg_IndexRabinKarp_string_r18_go (T : Tbl) (K : List Kt) (fr : Fr) (S : St) : gval T (.ops bytealg_IndexRabinKarp_string_r18 :: K) fr S = gval T (.ops [
  ⟨some 4, .mov (.cst (.int .i64 (-1))), none⟩] :: K) fr S := rfl
def bytealg_IndexRabinKarp_string : PCodeFn :=
  ⟨2, [.tmp 4],
  (.seq (.region bytealg_IndexRabinKarp_string_r0) (.seq (.clr [(11, 16)] (.region bytealg_IndexRabinKarp_string_r1)) (.seq (.clr [(16, 18)] (.region bytealg_IndexRabinKarp_string_r2)) (.seq (.region bytealg_IndexRabinKarp_string_r3) (.seq (.seq (.region bytealg_IndexRabinKarp_string_r4) (.block 0 (.loop bytealg_IndexRabinKarp_string_l0))) (.seq (.seq (.clr [(30, 39)] (.region bytealg_IndexRabinKarp_string_r8)) (.cond (.tmp 39) (.seq (.region bytealg_IndexRabinKarp_string_r9) .ret) .skip)) (.seq (.seq (.clr [(40, 41)] (.region bytealg_IndexRabinKarp_string_r10)) (.block 2 (.loop bytealg_IndexRabinKarp_string_l1))) (.seq (.region bytealg_IndexRabinKarp_string_r18) .ret)))))))), false⟩

/-! internal/bytealg.hashStr[string]: 389 -/
def bytealg_hashStr_string_r0 : List POper := [
  ⟨some 2, .mov (.cst (.int .u32 0)), none⟩,
  ⟨some 3, .mov (.cst (.int .u32 0)), none⟩]
@[simp] theorem bytealg_hashStr_string_r0_go (T : Tbl) (K : List Kt) (fr : Fr) (S : St) : gval T (.ops bytealg_hashStr_string_r0 :: K) fr S = gval T (.ops [
  ⟨some 2, .mov (.cst (.int .u32 0)), none⟩,
  ⟨some 3, .mov (.cst (.int .u32 0)), none⟩] :: K) fr S := rfl
def bytealg_hashStr_string_r1 : List POper := [
  ⟨some 4, .mov (.cst (.int .u32 0)), none⟩]
@[simp] theorem bytealg_hashStr_string_r1_go (T : Tbl) (K : List Kt) (fr : Fr) (S : St) : gval T (.ops bytealg_hashStr_string_r1 :: K) fr S = gval T (.ops [
  ⟨some 4, .mov (.cst (.int .u32 0)), none⟩] :: K) fr S := rfl
def bytealg_hashStr_string_r2 : List POper := [
  ⟨some 5, .mov (.cst (.int .i64 0)), none⟩]
@[simp] theorem bytealg_hashStr_string_r2_go (T : Tbl) (K : List Kt) (fr : Fr) (S : St) : gval T (.ops bytealg_hashStr_string_r2 :: K) fr S = gval T (.ops [
  ⟨some 5, .mov (.cst (.int .i64 0)), none⟩] :: K) fr S := rfl
def bytealg_hashStr_string_r3 : List POper := [
  ⟨some 9, .mov (.tmp 5), none⟩,
  ⟨some 10, .mov (.tmp 0), none⟩,
  ⟨some 11, .len true (.tmp 10), none⟩,
  ⟨some 12, .arith .lss (.tmp 9) (.tmp 11), none⟩]
@[simp] theorem bytealg_hashStr_string_r3_go (T : Tbl) (K : List Kt) (fr : Fr) (S : St) : gval T (.ops bytealg_hashStr_string_r3 :: K) fr S = gval T (.ops [
  ⟨some 9, .mov (.tmp 5), none⟩,
  ⟨some 10, .mov (.tmp 0), none⟩,
  ⟨some 11, .len true (.tmp 10), none⟩,
  ⟨some 12, .arith .lss (.tmp 9) (.tmp 11), none⟩] :: K) fr S := rfl
def bytealg_hashStr_string_r5 : List POper := [
  ⟨some 15, .mov (.tmp 4), none⟩,
  ⟨some 16, .arith .mul (.tmp 15) (.cst (.int .u32 16777619)), none⟩,
  ⟨some 17, .mov (.tmp 0), none⟩,
  ⟨some 18, .mov (.tmp 5), none⟩,
  ⟨some 19, .idxs (.tmp 17) (.tmp 18), none⟩,
  ⟨some 20, .toInt .u32 (.tmp 19), none⟩,
  ⟨some 21, .arith .add (.tmp 16) (.tmp 20), none⟩,
  ⟨some 4, .mov (.tmp 21), none⟩]
@[simp] theorem bytealg_hashStr_string_r5_go (T : Tbl) (K : List Kt) (fr : Fr) (S : St) : gval T (.ops bytealg_hashStr_string_r5 :: K) fr S = gval T (.ops [
  ⟨some 15, .mov (.tmp 4), none⟩,
  ⟨some 16, .arith .mul (.tmp 15) (.cst (.int .u32 16777619)), none⟩,
  ⟨some 17, .mov (.tmp 0), none⟩,
  ⟨some 18, .mov (.tmp 5), none⟩,
  ⟨some 19, .idxs (.tmp 17) (.tmp 18), none⟩,
  ⟨some 20, .toInt .u32 (.tmp 19), none⟩,
  ⟨some 21, .arith .add (.tmp 16) (.tmp 20), none⟩,
  ⟨some 4, .mov (.tmp 21), none⟩] :: K) fr S := rfl
def bytealg_hashStr_string_r4 : List POper := [
  ⟨some 13, .mov (.tmp 5), none⟩,
  ⟨some 14, .arith .add (.tmp 13) (.cst (.int .i64 1)), none⟩,
  ⟨some 5, .mov (.tmp 14), none⟩]
@[simp] theorem bytealg_hashStr_string_r4_go (T : Tbl) (K : List Kt) (fr : Fr) (S : St) : gval T (.ops bytealg_hashStr_string_r4 :: K) fr S = gval T (.ops [
  ⟨some 13, .mov (.tmp 5), none⟩,
  ⟨some 14, .arith .add (.tmp 13) (.cst (.int .i64 1)), none⟩,
  ⟨some 5, .mov (.tmp 14), none⟩] :: K) fr S := rfl
def bytealg_hashStr_string_l0 : PCode :=
  (.seq (.seq (.clr [(9, 12)] (.region bytealg_hashStr_string_r3)) (.cond (.tmp 12) .skip (.exit 0))) (.seq (.block 1 (.clr [(15, 22)] (.region bytealg_hashStr_string_r5))) (.clr [(13, 15)] (.region bytealg_hashStr_string_r4))))
@[simp] theorem bytealg_hashStr_string_l0_go (T : Tbl) (K : List Kt) (fr : Fr) (S : St) : gval T (.code bytealg_hashStr_string_l0 :: K) fr S = gval T (.code (.seq (.seq (.clr [(9, 12)] (.region bytealg_hashStr_string_r3)) (.cond (.tmp 12) .skip (.exit 0))) (.seq (.block 1 (.clr [(15, 22)] (.region bytealg_hashStr_string_r5))) (.clr [(13, 15)] (.region bytealg_hashStr_string_r4)))) :: K) fr S := rfl
def bytealg_hashStr_string_r6 : List POper := [
  ⟨some 6, .mov (.cst (.int .u32 1)), none⟩,
  ⟨some 7, .mov (.cst (.int .u32 16777619)), none⟩]
@[simp] theorem bytealg_hashStr_string_r6_go (T : Tbl) (K : List Kt) (fr : Fr) (S : St) : gval T (.ops bytealg_hashStr_string_r6 :: K) fr S = gval T (.ops [
  ⟨some 6, .mov (.cst (.int .u32 1)), none⟩,
  ⟨some 7, .mov (.cst (.int .u32 16777619)), none⟩] :: K) fr S := rfl
def bytealg_hashStr_string_r7 : List POper := [
  ⟨some 22, .mov (.tmp 0), none⟩,
  ⟨some 23, .len true (.tmp 22), none⟩,
  ⟨some 8, .mov (.tmp 23), none⟩]
@[simp] theorem bytealg_hashStr_string_r7_go (T : Tbl) (K : List Kt) (fr : Fr) (S : St) : gval T (.ops bytealg_hashStr_string_r7 :: K) fr S = gval T (.ops [
  ⟨some 22, .mov (.tmp 0), none⟩,
  ⟨some 23, .len true (.tmp 22), none⟩,
  ⟨some 8, .mov (.tmp 23), none⟩] :: K) fr S := rfl
def bytealg_hashStr_string_r8 : List POper := [
  ⟨some 24, .mov (.tmp 8), none⟩,
  ⟨some 25, .arith .gtr (.tmp 24) (.cst (.int .i64 0)), none⟩]
@[simp] theorem bytealg_hashStr_string_r8_go (T : Tbl) (K : List Kt) (fr : Fr) (S : St) : gval T (.ops bytealg_hashStr_string_r8 :: K) fr S = gval T (.ops [
  ⟨some 24, .mov (.tmp 8), none⟩,
  ⟨some 25, .arith .gtr (.tmp 24) (.cst (.int .i64 0)), none⟩] :: K) fr S := rfl
def bytealg_hashStr_string_r10 : List POper := [
  ⟨some 28, .mov (.tmp 8), none⟩,
  ⟨some 29, .arith .and (.tmp 28) (.cst (.int .i64 1)), none⟩,
  ⟨some 30, .arith .neq (.tmp 29) (.cst (.int .i64 0)), none⟩]
@[simp] theorem bytealg_hashStr_string_r10_go (T : Tbl) (K : List Kt) (fr : Fr) (S : St) : gval T (.ops bytealg_hashStr_string_r10 :: K) fr S = gval T (.ops [
  ⟨some 28, .mov (.tmp 8), none⟩,
  ⟨some 29, .arith .and (.tmp 28) (.cst (.int .i64 1)), none⟩,
  ⟨some 30, .arith .neq (.tmp 29) (.cst (.int .i64 0)), none⟩] :: K) fr S := rfl
def bytealg_hashStr_string_r11 : List POper := [
  ⟨some 31, .mov (.tmp 6), none⟩,
  ⟨some 32, .mov (.tmp 7), none⟩,
  ⟨some 33, .arith .mul (.tmp 31) (.tmp 32), none⟩,
  ⟨some 6, .mov (.tmp 33), none⟩]
@[simp] theorem bytealg_hashStr_string_r11_go (T : Tbl) (K : List Kt) (fr : Fr) (S : St) : gval T (.ops bytealg_hashStr_string_r11 :: K) fr S = gval T (.ops [
  ⟨some 31, .mov (.tmp 6), none⟩,
  ⟨some 32, .mov (.tmp 7), none⟩,
  ⟨some 33, .arith .mul (.tmp 31) (.tmp 32), none⟩,
  ⟨some 6, .mov (.tmp 33), none⟩] :: K) fr S := rfl
def bytealg_hashStr_string_r12 : List POper := [
  ⟨some 34, .mov (.tmp 7), none⟩,
  ⟨some 35, .mov (.tmp 7), none⟩,
  ⟨some 36, .arith .mul (.tmp 34) (.tmp 35), none⟩,
  ⟨some 7, .mov (.tmp 36), none⟩]
@[simp] theorem bytealg_hashStr_string_r12_go (T : Tbl) (K : List Kt) (fr : Fr) (S : St) : gval T (.ops bytealg_hashStr_string_r12 :: K) fr S = gval T (.ops [
  ⟨some 34, .mov (.tmp 7), none⟩,
  ⟨some 35, .mov (.tmp 7), none⟩,
  ⟨some 36, .arith .mul (.tmp 34) (.tmp 35), none⟩,
  ⟨some 7, .mov (.tmp 36), none⟩] :: K) fr S := rfl
def bytealg_hashStr_string_r9 : List POper := [
  ⟨some 26, .mov (.tmp 8), none⟩,
  ⟨some 27, .arith .shr (.tmp 26) (.cst (.int .u64 1)), none⟩,
  ⟨some 8, .mov (.tmp 27), none⟩]
@[simp] theorem bytealg_hashStr_string_r9_go (T : Tbl) (K : List Kt) (fr : Fr) (S : St) : gval T (.ops bytealg_hashStr_string_r9 :: K) fr S = gval T (.ops [
  ⟨some 26, .mov (.tmp 8), none⟩,
  ⟨some 27, .arith .shr (.tmp 26) (.cst (.int .u64 1)), none⟩,
  ⟨some 8, .mov (.tmp 27), none⟩] :: K) fr S := rfl
def bytealg_hashStr_string_l1 : PCode :=
  (.seq (.seq (.clr [(24, 25)] (.region bytealg_hashStr_string_r8)) (.cond (.tmp 25) .skip (.exit 2))) (.seq (.block 3 (.seq (.seq (.clr [(28, 30)] (.region bytealg_hashStr_string_r10)) (.cond (.tmp 30) (.clr [(31, 34)] (.region bytealg_hashStr_string_r11)) .skip)) (.clr [(34, 37)] (.region bytealg_hashStr_string_r12)))) (.clr [(26, 28)] (.region bytealg_hashStr_string_r9))))
@[simp] theorem bytealg_hashStr_string_l1_go (T : Tbl) (K : List Kt) (fr : Fr) (S : St) : gval T (.code bytealg_hashStr_string_l1 :: K) fr S = gval T (.code (.seq (.seq (.clr [(24, 25)] (.region bytealg_hashStr_string_r8)) (.cond (.tmp 25) .skip (.exit 2))) (.seq (.block 3 (.seq (.seq (.clr [(28, 30)] (.region bytealg_hashStr_string_r10)) (.cond (.tmp 30) (.clr [(31, 34)] (.region bytealg_hashStr_string_r11)) .skip)) (.clr [(34, 37)] (.region bytealg_hashStr_string_r12)))) (.clr [(26, 28)] (.region bytealg_hashStr_string_r9)))) :: K) fr S := rfl
def bytealg_hashStr_string_r13 : List POper := [
  ⟨some 37, .mov (.tmp 4), none⟩,
  ⟨some 38, .mov (.tmp 6), none⟩,
  ⟨some 2, .mov (.tmp 37), none⟩,
  ⟨some 3, .mov (.tmp 38), none⟩]
@[simp] theorem bytealg_hashStr_string_r13_go (T : Tbl) (K : List Kt) (fr : Fr) (S : St) : gval T (.ops bytealg_hashStr_string_r13 :: K) fr S = gval T (.ops [
  ⟨some 37, .mov (.tmp 4), none⟩,
  ⟨some 38, .mov (.tmp 6), none⟩,
  ⟨some 2, .mov (.tmp 37), none⟩,
  ⟨some 3, .mov (.tmp 38), none⟩] :: K) fr S := rfl
def bytealg_hashStr_string : PCodeFn :=
  ⟨1, [.tmp 2, .tmp 3],
  (.seq (.region bytealg_hashStr_string_r0) (.seq (.region bytealg_hashStr_string_r1) (.seq (.seq (.region bytealg_hashStr_string_r2) (.block 0 (.loop bytealg_hashStr_string_l0))) (.seq (.region bytealg_hashStr_string_r6) (.seq (.seq (.clr [(22, 24)] (.region bytealg_hashStr_string_r7)) (.block 2 (.loop bytealg_hashStr_string_l1))) (.seq (.clr [(37, 39)] (.region bytealg_hashStr_string_r13)) .ret)))))), false⟩


end Ps
