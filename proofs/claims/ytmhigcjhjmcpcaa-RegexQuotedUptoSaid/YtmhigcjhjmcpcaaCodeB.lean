/- The functions' code, as the pure semantics has it: printed by program. -/
import Derived.Test.YtmhigcjhjmcpcaaCodeA
namespace Ps
open Go
set_option maxRecDepth 10000

/-! gauge/gaugeref07.class: 305 -/
def ref07_class_r0 : List POper := [
  ⟨some 6, .mov (.cst (.int .i64 0)), none⟩,
  ⟨some 7, .mov (.cst (.bool false)), none⟩]
@[simp] theorem ref07_class_r0_go (T : Tbl) (K : List Kt) (fr : Fr) (S : St) : gval T (.ops ref07_class_r0 :: K) fr S = gval T (.ops [
  ⟨some 6, .mov (.cst (.int .i64 0)), none⟩,
  ⟨some 7, .mov (.cst (.bool false)), none⟩] :: K) fr S := rfl
def ref07_class_r1 : List POper := [
  ⟨some 14, .mov (.tmp 1), none⟩,
  ⟨some 15, .arith .add (.tmp 14) (.cst (.int .i64 1)), none⟩,
  ⟨some 8, .mov (.tmp 15), none⟩]
@[simp] theorem ref07_class_r1_go (T : Tbl) (K : List Kt) (fr : Fr) (S : St) : gval T (.ops ref07_class_r1 :: K) fr S = gval T (.ops [
  ⟨some 14, .mov (.tmp 1), none⟩,
  ⟨some 15, .arith .add (.tmp 14) (.cst (.int .i64 1)), none⟩,
  ⟨some 8, .mov (.tmp 15), none⟩] :: K) fr S := rfl
def ref07_class_r2 : List POper := [
  ⟨some 16, .mov (.tmp 8), none⟩,
  ⟨some 17, .mov (.tmp 0), none⟩,
  ⟨some 18, .len true (.tmp 17), none⟩,
  ⟨some 19, .arith .lss (.tmp 16) (.tmp 18), none⟩,
  ⟨some 20, .mov (.tmp 19), none⟩,
  ⟨some 21, .mov (.tmp 0), some (20, true)⟩,
  ⟨some 22, .mov (.tmp 8), some (20, true)⟩,
  ⟨some 23, .idxs (.tmp 21) (.tmp 22), some (20, true)⟩,
  ⟨some 24, .arith .eql (.tmp 23) (.cst (.int .u8 94)), some (20, true)⟩,
  ⟨some 25, .pick (.tmp 20) (.tmp 24) (.cst (.bool false)), none⟩,
  ⟨some 9, .mov (.tmp 25), none⟩]
@[simp] theorem ref07_class_r2_go (T : Tbl) (K : List Kt) (fr : Fr) (S : St) : gval T (.ops ref07_class_r2 :: K) fr S = gval T (.ops [
  ⟨some 16, .mov (.tmp 8), none⟩,
  ⟨some 17, .mov (.tmp 0), none⟩,
  ⟨some 18, .len true (.tmp 17), none⟩,
  ⟨some 19, .arith .lss (.tmp 16) (.tmp 18), none⟩,
  ⟨some 20, .mov (.tmp 19), none⟩,
  ⟨some 21, .mov (.tmp 0), some (20, true)⟩,
  ⟨some 22, .mov (.tmp 8), some (20, true)⟩,
  ⟨some 23, .idxs (.tmp 21) (.tmp 22), some (20, true)⟩,
  ⟨some 24, .arith .eql (.tmp 23) (.cst (.int .u8 94)), some (20, true)⟩,
  ⟨some 25, .pick (.tmp 20) (.tmp 24) (.cst (.bool false)), none⟩,
  ⟨some 9, .mov (.tmp 25), none⟩] :: K) fr S := rfl
def ref07_class_r3 : List POper := [
  ⟨some 26, .mov (.tmp 9), none⟩]
@[simp] theorem ref07_class_r3_go (T : Tbl) (K : List Kt) (fr : Fr) (S : St) : gval T (.ops ref07_class_r3 :: K) fr S = gval T (.ops [
  ⟨some 26, .mov (.tmp 9), none⟩] :: K) fr S := rfl
def ref07_class_r4 : List POper := [
  ⟨some 27, .mov (.tmp 8), none⟩,
  ⟨some 28, .arith .add (.tmp 27) (.cst (.int .i64 1)), none⟩,
  ⟨some 8, .mov (.tmp 28), none⟩]
@[simp] theorem ref07_class_r4_go (T : Tbl) (K : List Kt) (fr : Fr) (S : St) : gval T (.ops ref07_class_r4 :: K) fr S = gval T (.ops [
  ⟨some 27, .mov (.tmp 8), none⟩,
  ⟨some 28, .arith .add (.tmp 27) (.cst (.int .i64 1)), none⟩,
  ⟨some 8, .mov (.tmp 28), none⟩] :: K) fr S := rfl
def ref07_class_r5 : List POper := [
  ⟨some 10, .mov (.cst (.bool false)), none⟩,
  ⟨some 11, .mov (.cst (.int .i64 0)), none⟩]
@[simp] theorem ref07_class_r5_go (T : Tbl) (K : List Kt) (fr : Fr) (S : St) : gval T (.ops ref07_class_r5 :: K) fr S = gval T (.ops [
  ⟨some 10, .mov (.cst (.bool false)), none⟩,
  ⟨some 11, .mov (.cst (.int .i64 0)), none⟩] :: K) fr S := rfl
def ref07_class_r6 : List POper := [
  ⟨some 29, .mov (.tmp 8), none⟩,
  ⟨some 30, .mov (.tmp 0), none⟩,
  ⟨some 31, .len true (.tmp 30), none⟩,
  ⟨some 32, .arith .lss (.tmp 29) (.tmp 31), none⟩,
  ⟨some 33, .mov (.tmp 32), none⟩,
  ⟨some 34, .mov (.tmp 0), some (33, true)⟩,
  ⟨some 35, .mov (.tmp 8), some (33, true)⟩,
  ⟨some 36, .idxs (.tmp 34) (.tmp 35), some (33, true)⟩,
  ⟨some 37, .arith .neq (.tmp 36) (.cst (.int .u8 93)), some (33, true)⟩,
  ⟨some 38, .pick (.tmp 33) (.tmp 37) (.cst (.bool false)), none⟩]
@[simp] theorem ref07_class_r6_go (T : Tbl) (K : List Kt) (fr : Fr) (S : St) : gval T (.ops ref07_class_r6 :: K) fr S = gval T (.ops [
  ⟨some 29, .mov (.tmp 8), none⟩,
  ⟨some 30, .mov (.tmp 0), none⟩,
  ⟨some 31, .len true (.tmp 30), none⟩,
  ⟨some 32, .arith .lss (.tmp 29) (.tmp 31), none⟩,
  ⟨some 33, .mov (.tmp 32), none⟩,
  ⟨some 34, .mov (.tmp 0), some (33, true)⟩,
  ⟨some 35, .mov (.tmp 8), some (33, true)⟩,
  ⟨some 36, .idxs (.tmp 34) (.tmp 35), some (33, true)⟩,
  ⟨some 37, .arith .neq (.tmp 36) (.cst (.int .u8 93)), some (33, true)⟩,
  ⟨some 38, .pick (.tmp 33) (.tmp 37) (.cst (.bool false)), none⟩] :: K) fr S := rfl
def ref07_class_r7 : List POper := [
  ⟨some 39, .mov (.tmp 0), none⟩,
  ⟨some 40, .mov (.tmp 8), none⟩,
  ⟨some 41, .idxs (.tmp 39) (.tmp 40), none⟩,
  ⟨some 42, .call .pur 355 [(.tmp 41)], none⟩,
  ⟨some 43, .un .not (.tmp 42), none⟩]
@[simp] theorem ref07_class_r7_go (T : Tbl) (K : List Kt) (fr : Fr) (S : St) : gval T (.ops ref07_class_r7 :: K) fr S = gval T (.ops [
  ⟨some 39, .mov (.tmp 0), none⟩,
  ⟨some 40, .mov (.tmp 8), none⟩,
  ⟨some 41, .idxs (.tmp 39) (.tmp 40), none⟩,
  ⟨some 42, .call .pur 355 [(.tmp 41)], none⟩,
  ⟨some 43, .un .not (.tmp 42), none⟩] :: K) fr S := rfl
def ref07_class_r8 : List POper := [
  ⟨some 6, .mov (.cst (.int .i64 0)), none⟩,
  ⟨some 7, .mov (.cst (.bool false)), none⟩]
@[simp] theorem ref07_class_r8_go (T : Tbl) (K : List Kt) (fr : Fr) (S : St) : gval T (.ops ref07_class_r8 :: K) fr S = gval T (.ops [
  ⟨some 6, .mov (.cst (.int .i64 0)), none⟩,
  ⟨some 7, .mov (.cst (.bool false)), none⟩] :: K) fr S := rfl
def ref07_class_r9 : List POper := [
  ⟨some 44, .mov (.tmp 0), none⟩,
  ⟨some 45, .mov (.tmp 8), none⟩,
  ⟨some 46, .idxs (.tmp 44) (.tmp 45), none⟩,
  ⟨some 47, .mov (.tmp 0), none⟩,
  ⟨some 48, .mov (.tmp 8), none⟩,
  ⟨some 49, .idxs (.tmp 47) (.tmp 48), none⟩,
  ⟨some 12, .mov (.tmp 46), none⟩,
  ⟨some 13, .mov (.tmp 49), none⟩]
@[simp] theorem ref07_class_r9_go (T : Tbl) (K : List Kt) (fr : Fr) (S : St) : gval T (.ops ref07_class_r9 :: K) fr S = gval T (.ops [
  ⟨some 44, .mov (.tmp 0), none⟩,
  ⟨some 45, .mov (.tmp 8), none⟩,
  ⟨some 46, .idxs (.tmp 44) (.tmp 45), none⟩,
  ⟨some 47, .mov (.tmp 0), none⟩,
  ⟨some 48, .mov (.tmp 8), none⟩,
  ⟨some 49, .idxs (.tmp 47) (.tmp 48), none⟩,
  ⟨some 12, .mov (.tmp 46), none⟩,
  ⟨some 13, .mov (.tmp 49), none⟩] :: K) fr S := rfl
def ref07_class_r10 : List POper := [
  ⟨some 50, .mov (.tmp 8), none⟩,
  ⟨some 51, .arith .add (.tmp 50) (.cst (.int .i64 1)), none⟩,
  ⟨some 8, .mov (.tmp 51), none⟩]
@[simp] theorem ref07_class_r10_go (T : Tbl) (K : List Kt) (fr : Fr) (S : St) : gval T (.ops ref07_class_r10 :: K) fr S = gval T (.ops [
  ⟨some 50, .mov (.tmp 8), none⟩,
  ⟨some 51, .arith .add (.tmp 50) (.cst (.int .i64 1)), none⟩,
  ⟨some 8, .mov (.tmp 51), none⟩] :: K) fr S := rfl
def ref07_class_r11 : List POper := [
  ⟨some 52, .mov (.tmp 8), none⟩,
  ⟨some 53, .mov (.tmp 0), none⟩,
  ⟨some 54, .len true (.tmp 53), none⟩,
  ⟨some 55, .arith .lss (.tmp 52) (.tmp 54), none⟩,
  ⟨some 56, .mov (.tmp 55), none⟩,
  ⟨some 57, .mov (.tmp 0), some (56, true)⟩,
  ⟨some 58, .mov (.tmp 8), some (56, true)⟩,
  ⟨some 59, .idxs (.tmp 57) (.tmp 58), some (56, true)⟩,
  ⟨some 60, .arith .eql (.tmp 59) (.cst (.int .u8 45)), some (56, true)⟩,
  ⟨some 61, .pick (.tmp 56) (.tmp 60) (.cst (.bool false)), none⟩]
@[simp] theorem ref07_class_r11_go (T : Tbl) (K : List Kt) (fr : Fr) (S : St) : gval T (.ops ref07_class_r11 :: K) fr S = gval T (.ops [
  ⟨some 52, .mov (.tmp 8), none⟩,
  ⟨some 53, .mov (.tmp 0), none⟩,
  ⟨some 54, .len true (.tmp 53), none⟩,
  ⟨some 55, .arith .lss (.tmp 52) (.tmp 54), none⟩,
  ⟨some 56, .mov (.tmp 55), none⟩,
  ⟨some 57, .mov (.tmp 0), some (56, true)⟩,
  ⟨some 58, .mov (.tmp 8), some (56, true)⟩,
  ⟨some 59, .idxs (.tmp 57) (.tmp 58), some (56, true)⟩,
  ⟨some 60, .arith .eql (.tmp 59) (.cst (.int .u8 45)), some (56, true)⟩,
  ⟨some 61, .pick (.tmp 56) (.tmp 60) (.cst (.bool false)), none⟩] :: K) fr S := rfl
def ref07_class_r12 : List POper := [
  ⟨some 62, .mov (.tmp 8), none⟩,
  ⟨some 63, .arith .add (.tmp 62) (.cst (.int .i64 1)), none⟩,
  ⟨some 64, .mov (.tmp 0), none⟩,
  ⟨some 65, .len true (.tmp 64), none⟩,
  ⟨some 66, .arith .geq (.tmp 63) (.tmp 65), none⟩,
  ⟨some 67, .mov (.tmp 66), none⟩,
  ⟨some 68, .mov (.tmp 0), some (67, false)⟩,
  ⟨some 69, .mov (.tmp 8), some (67, false)⟩,
  ⟨some 70, .arith .add (.tmp 69) (.cst (.int .i64 1)), some (67, false)⟩,
  ⟨some 71, .idxs (.tmp 68) (.tmp 70), some (67, false)⟩,
  ⟨some 72, .call .pur 355 [(.tmp 71)], some (67, false)⟩,
  ⟨some 73, .un .not (.tmp 72), some (67, false)⟩,
  ⟨some 74, .pick (.tmp 67) (.cst (.bool true)) (.tmp 73), none⟩,
  ⟨some 75, .mov (.tmp 74), none⟩,
  ⟨some 76, .mov (.tmp 0), some (75, false)⟩,
  ⟨some 77, .mov (.tmp 8), some (75, false)⟩,
  ⟨some 78, .arith .add (.tmp 77) (.cst (.int .i64 1)), some (75, false)⟩,
  ⟨some 79, .idxs (.tmp 76) (.tmp 78), some (75, false)⟩,
  ⟨some 80, .mov (.tmp 12), some (75, false)⟩,
  ⟨some 81, .arith .lss (.tmp 79) (.tmp 80), some (75, false)⟩,
  ⟨some 82, .pick (.tmp 75) (.cst (.bool true)) (.tmp 81), none⟩]
@[simp] theorem ref07_class_r12_go (T : Tbl) (K : List Kt) (fr : Fr) (S : St) : gval T (.ops ref07_class_r12 :: K) fr S = gval T (.ops [
  ⟨some 62, .mov (.tmp 8), none⟩,
  ⟨some 63, .arith .add (.tmp 62) (.cst (.int .i64 1)), none⟩,
  ⟨some 64, .mov (.tmp 0), none⟩,
  ⟨some 65, .len true (.tmp 64), none⟩,
  ⟨some 66, .arith .geq (.tmp 63) (.tmp 65), none⟩,
  ⟨some 67, .mov (.tmp 66), none⟩,
  ⟨some 68, .mov (.tmp 0), some (67, false)⟩,
  ⟨some 69, .mov (.tmp 8), some (67, false)⟩,
  ⟨some 70, .arith .add (.tmp 69) (.cst (.int .i64 1)), some (67, false)⟩,
  ⟨some 71, .idxs (.tmp 68) (.tmp 70), some (67, false)⟩,
  ⟨some 72, .call .pur 355 [(.tmp 71)], some (67, false)⟩,
  ⟨some 73, .un .not (.tmp 72), some (67, false)⟩,
  ⟨some 74, .pick (.tmp 67) (.cst (.bool true)) (.tmp 73), none⟩,
  ⟨some 75, .mov (.tmp 74), none⟩,
  ⟨some 76, .mov (.tmp 0), some (75, false)⟩,
  ⟨some 77, .mov (.tmp 8), some (75, false)⟩,
  ⟨some 78, .arith .add (.tmp 77) (.cst (.int .i64 1)), some (75, false)⟩,
  ⟨some 79, .idxs (.tmp 76) (.tmp 78), some (75, false)⟩,
  ⟨some 80, .mov (.tmp 12), some (75, false)⟩,
  ⟨some 81, .arith .lss (.tmp 79) (.tmp 80), some (75, false)⟩,
  ⟨some 82, .pick (.tmp 75) (.cst (.bool true)) (.tmp 81), none⟩] :: K) fr S := rfl
def ref07_class_r13 : List POper := [
  ⟨some 6, .mov (.cst (.int .i64 0)), none⟩,
  ⟨some 7, .mov (.cst (.bool false)), none⟩]
@[simp] theorem ref07_class_r13_go (T : Tbl) (K : List Kt) (fr : Fr) (S : St) : gval T (.ops ref07_class_r13 :: K) fr S = gval T (.ops [
  ⟨some 6, .mov (.cst (.int .i64 0)), none⟩,
  ⟨some 7, .mov (.cst (.bool false)), none⟩] :: K) fr S := rfl
def ref07_class_r14 : List POper := [
  ⟨some 83, .mov (.tmp 0), none⟩,
  ⟨some 84, .mov (.tmp 8), none⟩,
  ⟨some 85, .arith .add (.tmp 84) (.cst (.int .i64 1)), none⟩,
  ⟨some 86, .idxs (.tmp 83) (.tmp 85), none⟩,
  ⟨some 13, .mov (.tmp 86), none⟩]
@[simp] theorem ref07_class_r14_go (T : Tbl) (K : List Kt) (fr : Fr) (S : St) : gval T (.ops ref07_class_r14 :: K) fr S = gval T (.ops [
  ⟨some 83, .mov (.tmp 0), none⟩,
  ⟨some 84, .mov (.tmp 8), none⟩,
  ⟨some 85, .arith .add (.tmp 84) (.cst (.int .i64 1)), none⟩,
  ⟨some 86, .idxs (.tmp 83) (.tmp 85), none⟩,
  ⟨some 13, .mov (.tmp 86), none⟩] :: K) fr S := rfl
def ref07_class_r15 : List POper := [
  ⟨some 87, .mov (.tmp 8), none⟩,
  ⟨some 88, .arith .add (.tmp 87) (.cst (.int .i64 2)), none⟩,
  ⟨some 8, .mov (.tmp 88), none⟩]
@[simp] theorem ref07_class_r15_go (T : Tbl) (K : List Kt) (fr : Fr) (S : St) : gval T (.ops ref07_class_r15 :: K) fr S = gval T (.ops [
  ⟨some 87, .mov (.tmp 8), none⟩,
  ⟨some 88, .arith .add (.tmp 87) (.cst (.int .i64 2)), none⟩,
  ⟨some 8, .mov (.tmp 88), none⟩] :: K) fr S := rfl
def ref07_class_r16 : List POper := [
  ⟨some 89, .mov (.tmp 10), none⟩,
  ⟨some 90, .mov (.tmp 89), none⟩,
  ⟨some 91, .mov (.tmp 2), some (90, false)⟩,
  ⟨some 92, .mov (.tmp 12), some (90, false)⟩,
  ⟨some 93, .arith .geq (.tmp 91) (.tmp 92), some (90, false)⟩,
  ⟨some 94, .mov (.tmp 93), some (90, false)⟩,
  ⟨some 95, .mov (.tmp 2), some (94, true)⟩,
  ⟨some 96, .mov (.tmp 13), some (94, true)⟩,
  ⟨some 97, .arith .leq (.tmp 95) (.tmp 96), some (94, true)⟩,
  ⟨some 98, .pick (.tmp 94) (.tmp 97) (.cst (.bool false)), some (90, false)⟩,
  ⟨some 99, .pick (.tmp 90) (.cst (.bool true)) (.tmp 98), none⟩,
  ⟨some 10, .mov (.tmp 99), none⟩]
@[simp] theorem ref07_class_r16_go (T : Tbl) (K : List Kt) (fr : Fr) (S : St) : gval T (.ops ref07_class_r16 :: K) fr S = gval T (.ops [
  ⟨some 89, .mov (.tmp 10), none⟩,
  ⟨some 90, .mov (.tmp 89), none⟩,
  ⟨some 91, .mov (.tmp 2), some (90, false)⟩,
  ⟨some 92, .mov (.tmp 12), some (90, false)⟩,
  ⟨some 93, .arith .geq (.tmp 91) (.tmp 92), some (90, false)⟩,
  ⟨some 94, .mov (.tmp 93), some (90, false)⟩,
  ⟨some 95, .mov (.tmp 2), some (94, true)⟩,
  ⟨some 96, .mov (.tmp 13), some (94, true)⟩,
  ⟨some 97, .arith .leq (.tmp 95) (.tmp 96), some (94, true)⟩,
  ⟨some 98, .pick (.tmp 94) (.tmp 97) (.cst (.bool false)), some (90, false)⟩,
  ⟨some 99, .pick (.tmp 90) (.cst (.bool true)) (.tmp 98), none⟩,
  ⟨some 10, .mov (.tmp 99), none⟩] :: K) fr S := rfl
def ref07_class_r17 : List POper := [
  ⟨some 100, .mov (.tmp 11), none⟩,
  ⟨some 101, .arith .add (.tmp 100) (.cst (.int .i64 1)), none⟩,
  ⟨some 11, .mov (.tmp 101), none⟩]
@[simp] theorem ref07_class_r17_go (T : Tbl) (K : List Kt) (fr : Fr) (S : St) : gval T (.ops ref07_class_r17 :: K) fr S = gval T (.ops [
  ⟨some 100, .mov (.tmp 11), none⟩,
  ⟨some 101, .arith .add (.tmp 100) (.cst (.int .i64 1)), none⟩,
  ⟨some 11, .mov (.tmp 101), none⟩] :: K) fr S := rfl
def ref07_class_l0 : PCode :=
  (.seq (.seq (.clr [(29, 38)] (.region ref07_class_r6)) (.cond (.tmp 38) .skip (.exit 0))) (.block 1 (.seq (.seq (.clr [(39, 43)] (.region ref07_class_r7)) (.cond (.tmp 43) (.seq (.region ref07_class_r8) .ret) .skip)) (.seq (.clr [(44, 50)] (.region ref07_class_r9)) (.seq (.clr [(50, 52)] (.region ref07_class_r10)) (.seq (.seq (.clr [(52, 61)] (.region ref07_class_r11)) (.cond (.tmp 61) (.seq (.seq (.clr [(62, 82)] (.region ref07_class_r12)) (.cond (.tmp 82) (.seq (.region ref07_class_r13) .ret) .skip)) (.seq (.clr [(83, 87)] (.region ref07_class_r14)) (.clr [(87, 89)] (.region ref07_class_r15)))) .skip)) (.seq (.clr [(89, 100)] (.region ref07_class_r16)) (.clr [(100, 102)] (.region ref07_class_r17)))))))))
@[simp] theorem ref07_class_l0_go (T : Tbl) (K : List Kt) (fr : Fr) (S : St) : gval T (.code ref07_class_l0 :: K) fr S = gval T (.code (.seq (.seq (.clr [(29, 38)] (.region ref07_class_r6)) (.cond (.tmp 38) .skip (.exit 0))) (.block 1 (.seq (.seq (.clr [(39, 43)] (.region ref07_class_r7)) (.cond (.tmp 43) (.seq (.region ref07_class_r8) .ret) .skip)) (.seq (.clr [(44, 50)] (.region ref07_class_r9)) (.seq (.clr [(50, 52)] (.region ref07_class_r10)) (.seq (.seq (.clr [(52, 61)] (.region ref07_class_r11)) (.cond (.tmp 61) (.seq (.seq (.clr [(62, 82)] (.region ref07_class_r12)) (.cond (.tmp 82) (.seq (.region ref07_class_r13) .ret) .skip)) (.seq (.clr [(83, 87)] (.region ref07_class_r14)) (.clr [(87, 89)] (.region ref07_class_r15)))) .skip)) (.seq (.clr [(89, 100)] (.region ref07_class_r16)) (.clr [(100, 102)] (.region ref07_class_r17))))))))) :: K) fr S := rfl
def ref07_class_r18 : List POper := [
  ⟨some 102, .mov (.tmp 8), none⟩,
  ⟨some 103, .mov (.tmp 0), none⟩,
  ⟨some 104, .len true (.tmp 103), none⟩,
  ⟨some 105, .arith .geq (.tmp 102) (.tmp 104), none⟩,
  ⟨some 106, .mov (.tmp 105), none⟩,
  ⟨some 107, .mov (.tmp 11), some (106, false)⟩,
  ⟨some 108, .arith .eql (.tmp 107) (.cst (.int .i64 0)), some (106, false)⟩,
  ⟨some 109, .pick (.tmp 106) (.cst (.bool true)) (.tmp 108), none⟩]
@[simp] theorem ref07_class_r18_go (T : Tbl) (K : List Kt) (fr : Fr) (S : St) : gval T (.ops ref07_class_r18 :: K) fr S = gval T (.ops [
  ⟨some 102, .mov (.tmp 8), none⟩,
  ⟨some 103, .mov (.tmp 0), none⟩,
  ⟨some 104, .len true (.tmp 103), none⟩,
  ⟨some 105, .arith .geq (.tmp 102) (.tmp 104), none⟩,
  ⟨some 106, .mov (.tmp 105), none⟩,
  ⟨some 107, .mov (.tmp 11), some (106, false)⟩,
  ⟨some 108, .arith .eql (.tmp 107) (.cst (.int .i64 0)), some (106, false)⟩,
  ⟨some 109, .pick (.tmp 106) (.cst (.bool true)) (.tmp 108), none⟩] :: K) fr S := rfl
def ref07_class_r19 : List POper := [
  ⟨some 6, .mov (.cst (.int .i64 0)), none⟩,
  ⟨some 7, .mov (.cst (.bool false)), none⟩]
@[simp] theorem ref07_class_r19_go (T : Tbl) (K : List Kt) (fr : Fr) (S : St) : gval T (.ops ref07_class_r19 :: K) fr S = gval T (.ops [
  ⟨some 6, .mov (.cst (.int .i64 0)), none⟩,
  ⟨some 7, .mov (.cst (.bool false)), none⟩] :: K) fr S := rfl
def ref07_class_r20 : List POper := [
  ⟨some 110, .mov (.tmp 8), none⟩,
  ⟨some 111, .arith .add (.tmp 110) (.cst (.int .i64 1)), none⟩,
  ⟨some 112, .mov (.tmp 10), none⟩,
  ⟨some 113, .mov (.tmp 9), none⟩,
  ⟨some 114, .eqb true (.tmp 112) (.tmp 113), none⟩,
  ⟨some 6, .mov (.tmp 111), none⟩,
  ⟨some 7, .mov (.tmp 114), none⟩]
@[simp] theorem ref07_class_r20_go (T : Tbl) (K : List Kt) (fr : Fr) (S : St) : gval T (.ops ref07_class_r20 :: K) fr S = gval T (.ops [
  ⟨some 110, .mov (.tmp 8), none⟩,
  ⟨some 111, .arith .add (.tmp 110) (.cst (.int .i64 1)), none⟩,
  ⟨some 112, .mov (.tmp 10), none⟩,
  ⟨some 113, .mov (.tmp 9), none⟩,
  ⟨some 114, .eqb true (.tmp 112) (.tmp 113), none⟩,
  ⟨some 6, .mov (.tmp 111), none⟩,
  ⟨some 7, .mov (.tmp 114), none⟩] :: K) fr S := rfl
def ref07_class : PCodeFn :=
  ⟨3, [.tmp 6, .tmp 7],
  (.seq (.region ref07_class_r0) (.seq (.clr [(14, 16)] (.region ref07_class_r1)) (.seq (.clr [(16, 26)] (.region ref07_class_r2)) (.seq (.seq (.region ref07_class_r3) (.cond (.tmp 26) (.clr [(27, 29)] (.region ref07_class_r4)) .skip)) (.seq (.region ref07_class_r5) (.seq (.block 0 (.loop ref07_class_l0)) (.seq (.seq (.clr [(102, 109)] (.region ref07_class_r18)) (.cond (.tmp 109) (.seq (.region ref07_class_r19) .ret) .skip)) (.seq (.clr [(110, 115)] (.region ref07_class_r20)) .ret)))))))), false⟩

/-! gauge/gaugeref07.merge: 226 -/
def ref07_merge_r0 : List POper := [
  ⟨some 4, .mov (.cst .nils), none⟩]
@[simp] theorem ref07_merge_r0_go (T : Tbl) (K : List Kt) (fr : Fr) (S : St) : gval T (.ops ref07_merge_r0 :: K) fr S = gval T (.ops [
  ⟨some 4, .mov (.cst .nils), none⟩] :: K) fr S := rfl
def ref07_merge_r1 : List POper := [
  ⟨some 5, .mov (.cst .nils), none⟩]
@[simp] theorem ref07_merge_r1_go (T : Tbl) (K : List Kt) (fr : Fr) (S : St) : gval T (.ops ref07_merge_r1 :: K) fr S = gval T (.ops [
  ⟨some 5, .mov (.cst .nils), none⟩] :: K) fr S := rfl
def ref07_merge_r2 : List POper := [
  ⟨some 7, .mov (.tmp 0), none⟩,
  ⟨some 8, .len false (.tmp 7), none⟩,
  ⟨some 9, .arith .gtr (.tmp 8) (.cst (.int .i64 0)), none⟩,
  ⟨some 10, .mov (.tmp 9), none⟩,
  ⟨some 11, .mov (.tmp 1), some (10, false)⟩,
  ⟨some 12, .len false (.tmp 11), some (10, false)⟩,
  ⟨some 13, .arith .gtr (.tmp 12) (.cst (.int .i64 0)), some (10, false)⟩,
  ⟨some 14, .pick (.tmp 10) (.cst (.bool true)) (.tmp 13), none⟩]
@[simp] theorem ref07_merge_r2_go (T : Tbl) (K : List Kt) (fr : Fr) (S : St) : gval T (.ops ref07_merge_r2 :: K) fr S = gval T (.ops [
  ⟨some 7, .mov (.tmp 0), none⟩,
  ⟨some 8, .len false (.tmp 7), none⟩,
  ⟨some 9, .arith .gtr (.tmp 8) (.cst (.int .i64 0)), none⟩,
  ⟨some 10, .mov (.tmp 9), none⟩,
  ⟨some 11, .mov (.tmp 1), some (10, false)⟩,
  ⟨some 12, .len false (.tmp 11), some (10, false)⟩,
  ⟨some 13, .arith .gtr (.tmp 12) (.cst (.int .i64 0)), some (10, false)⟩,
  ⟨some 14, .pick (.tmp 10) (.cst (.bool true)) (.tmp 13), none⟩] :: K) fr S := rfl
def ref07_merge_r3 : List POper := [
  ⟨some 6, .mov (.cst (.int .i64 0)), none⟩]
@[simp] theorem ref07_merge_r3_go (T : Tbl) (K : List Kt) (fr : Fr) (S : St) : gval T (.ops ref07_merge_r3 :: K) fr S = gval T (.ops [
  ⟨some 6, .mov (.cst (.int .i64 0)), none⟩] :: K) fr S := rfl
def ref07_merge_r4 : List POper := [
  ⟨some 15, .mov (.tmp 1), none⟩,
  ⟨some 16, .len false (.tmp 15), none⟩,
  ⟨some 17, .arith .eql (.tmp 16) (.cst (.int .i64 0)), none⟩,
  ⟨some 18, .mov (.tmp 17), none⟩,
  ⟨some 19, .mov (.tmp 0), some (18, false)⟩,
  ⟨some 20, .len false (.tmp 19), some (18, false)⟩,
  ⟨some 21, .arith .gtr (.tmp 20) (.cst (.int .i64 0)), some (18, false)⟩,
  ⟨some 22, .mov (.tmp 21), some (18, false)⟩,
  ⟨some 23, .mov (.tmp 0), some (22, true)⟩,
  ⟨some 24, .iaddr 1 (.tmp 23) (.cst (.int .i64 0)), some (22, true)⟩,
  ⟨some 25, .load false 1 true (.tmp 24), some (22, true)⟩,
  ⟨some 26, .mov (.tmp 1), some (22, true)⟩,
  ⟨some 27, .iaddr 1 (.tmp 26) (.cst (.int .i64 0)), some (22, true)⟩,
  ⟨some 28, .load false 1 true (.tmp 27), some (22, true)⟩,
  ⟨some 29, .arith .leq (.tmp 25) (.tmp 28), some (22, true)⟩,
  ⟨some 30, .pick (.tmp 22) (.tmp 29) (.cst (.bool false)), some (18, false)⟩,
  ⟨some 31, .pick (.tmp 18) (.cst (.bool true)) (.tmp 30), none⟩]
@[simp] theorem ref07_merge_r4_go (T : Tbl) (K : List Kt) (fr : Fr) (S : St) : gval T (.ops ref07_merge_r4 :: K) fr S = gval T (.ops [
  ⟨some 15, .mov (.tmp 1), none⟩,
  ⟨some 16, .len false (.tmp 15), none⟩,
  ⟨some 17, .arith .eql (.tmp 16) (.cst (.int .i64 0)), none⟩,
  ⟨some 18, .mov (.tmp 17), none⟩,
  ⟨some 19, .mov (.tmp 0), some (18, false)⟩,
  ⟨some 20, .len false (.tmp 19), some (18, false)⟩,
  ⟨some 21, .arith .gtr (.tmp 20) (.cst (.int .i64 0)), some (18, false)⟩,
  ⟨some 22, .mov (.tmp 21), some (18, false)⟩,
  ⟨some 23, .mov (.tmp 0), some (22, true)⟩,
  ⟨some 24, .iaddr 1 (.tmp 23) (.cst (.int .i64 0)), some (22, true)⟩,
  ⟨some 25, .load false 1 true (.tmp 24), some (22, true)⟩,
  ⟨some 26, .mov (.tmp 1), some (22, true)⟩,
  ⟨some 27, .iaddr 1 (.tmp 26) (.cst (.int .i64 0)), some (22, true)⟩,
  ⟨some 28, .load false 1 true (.tmp 27), some (22, true)⟩,
  ⟨some 29, .arith .leq (.tmp 25) (.tmp 28), some (22, true)⟩,
  ⟨some 30, .pick (.tmp 22) (.tmp 29) (.cst (.bool false)), some (18, false)⟩,
  ⟨some 31, .pick (.tmp 18) (.cst (.bool true)) (.tmp 30), none⟩] :: K) fr S := rfl
def ref07_merge_r5 : List POper := [
  ⟨some 32, .mov (.tmp 0), none⟩,
  ⟨some 33, .iaddr 1 (.tmp 32) (.cst (.int .i64 0)), none⟩,
  ⟨some 34, .load false 1 false (.tmp 33), none⟩,
  ⟨some 6, .mov (.tmp 34), none⟩]
@[simp] theorem ref07_merge_r5_go (T : Tbl) (K : List Kt) (fr : Fr) (S : St) : gval T (.ops ref07_merge_r5 :: K) fr S = gval T (.ops [
  ⟨some 32, .mov (.tmp 0), none⟩,
  ⟨some 33, .iaddr 1 (.tmp 32) (.cst (.int .i64 0)), none⟩,
  ⟨some 34, .load false 1 false (.tmp 33), none⟩,
  ⟨some 6, .mov (.tmp 34), none⟩] :: K) fr S := rfl
def ref07_merge_r6 : List POper := [
  ⟨some 35, .mov (.tmp 0), none⟩,
  ⟨some 36, .slc 1 (some (.cst (.int .i64 1))) none (.tmp 35), none⟩,
  ⟨some 0, .mov (.tmp 36), none⟩]
@[simp] theorem ref07_merge_r6_go (T : Tbl) (K : List Kt) (fr : Fr) (S : St) : gval T (.ops ref07_merge_r6 :: K) fr S = gval T (.ops [
  ⟨some 35, .mov (.tmp 0), none⟩,
  ⟨some 36, .slc 1 (some (.cst (.int .i64 1))) none (.tmp 35), none⟩,
  ⟨some 0, .mov (.tmp 36), none⟩] :: K) fr S := rfl
def ref07_merge_r7 : List POper := [
  ⟨some 37, .mov (.tmp 1), none⟩,
  ⟨some 38, .iaddr 1 (.tmp 37) (.cst (.int .i64 0)), none⟩,
  ⟨some 39, .load false 1 false (.tmp 38), none⟩,
  ⟨some 6, .mov (.tmp 39), none⟩]
@[simp] theorem ref07_merge_r7_go (T : Tbl) (K : List Kt) (fr : Fr) (S : St) : gval T (.ops ref07_merge_r7 :: K) fr S = gval T (.ops [
  ⟨some 37, .mov (.tmp 1), none⟩,
  ⟨some 38, .iaddr 1 (.tmp 37) (.cst (.int .i64 0)), none⟩,
  ⟨some 39, .load false 1 false (.tmp 38), none⟩,
  ⟨some 6, .mov (.tmp 39), none⟩] :: K) fr S := rfl
def ref07_merge_r8 : List POper := [
  ⟨some 40, .mov (.tmp 1), none⟩,
  ⟨some 41, .slc 1 (some (.cst (.int .i64 1))) none (.tmp 40), none⟩,
  ⟨some 1, .mov (.tmp 41), none⟩]
@[simp] theorem ref07_merge_r8_go (T : Tbl) (K : List Kt) (fr : Fr) (S : St) : gval T (.ops ref07_merge_r8 :: K) fr S = gval T (.ops [
  ⟨some 40, .mov (.tmp 1), none⟩,
  ⟨some 41, .slc 1 (some (.cst (.int .i64 1))) none (.tmp 40), none⟩,
  ⟨some 1, .mov (.tmp 41), none⟩] :: K) fr S := rfl
def ref07_merge_r9 : List POper := [
  ⟨some 42, .mov (.tmp 5), none⟩,
  ⟨some 43, .len false (.tmp 42), none⟩,
  ⟨some 44, .arith .eql (.tmp 43) (.cst (.int .i64 0)), none⟩,
  ⟨some 45, .mov (.tmp 44), none⟩,
  ⟨some 46, .mov (.tmp 5), some (45, false)⟩,
  ⟨some 47, .mov (.tmp 5), some (45, false)⟩,
  ⟨some 48, .len false (.tmp 47), some (45, false)⟩,
  ⟨some 49, .arith .sub (.tmp 48) (.cst (.int .i64 1)), some (45, false)⟩,
  ⟨some 50, .iaddr 1 (.tmp 46) (.tmp 49), some (45, false)⟩,
  ⟨some 51, .load false 1 false (.tmp 50), some (45, false)⟩,
  ⟨some 52, .mov (.tmp 6), some (45, false)⟩,
  ⟨some 53, .arith .neq (.tmp 51) (.tmp 52), some (45, false)⟩,
  ⟨some 54, .pick (.tmp 45) (.cst (.bool true)) (.tmp 53), none⟩]
@[simp] theorem ref07_merge_r9_go (T : Tbl) (K : List Kt) (fr : Fr) (S : St) : gval T (.ops ref07_merge_r9 :: K) fr S = gval T (.ops [
  ⟨some 42, .mov (.tmp 5), none⟩,
  ⟨some 43, .len false (.tmp 42), none⟩,
  ⟨some 44, .arith .eql (.tmp 43) (.cst (.int .i64 0)), none⟩,
  ⟨some 45, .mov (.tmp 44), none⟩,
  ⟨some 46, .mov (.tmp 5), some (45, false)⟩,
  ⟨some 47, .mov (.tmp 5), some (45, false)⟩,
  ⟨some 48, .len false (.tmp 47), some (45, false)⟩,
  ⟨some 49, .arith .sub (.tmp 48) (.cst (.int .i64 1)), some (45, false)⟩,
  ⟨some 50, .iaddr 1 (.tmp 46) (.tmp 49), some (45, false)⟩,
  ⟨some 51, .load false 1 false (.tmp 50), some (45, false)⟩,
  ⟨some 52, .mov (.tmp 6), some (45, false)⟩,
  ⟨some 53, .arith .neq (.tmp 51) (.tmp 52), some (45, false)⟩,
  ⟨some 54, .pick (.tmp 45) (.cst (.bool true)) (.tmp 53), none⟩] :: K) fr S := rfl
def ref07_merge_r10 : List POper := [
  ⟨some 55, .mov (.tmp 5), none⟩,
  ⟨some 56, .mov (.tmp 6), none⟩,
  ⟨some 57, .bsl false (.int .i64 0) 1 [(0, (.tmp 56))], none⟩,
  ⟨some 58, .app 1 8 (.tmp 55) (.tmp 57), none⟩,
  ⟨some 5, .mov (.tmp 58), none⟩]
@[simp] theorem ref07_merge_r10_go (T : Tbl) (K : List Kt) (fr : Fr) (S : St) : gval T (.ops ref07_merge_r10 :: K) fr S = gval T (.ops [
  ⟨some 55, .mov (.tmp 5), none⟩,
  ⟨some 56, .mov (.tmp 6), none⟩,
  ⟨some 57, .bsl false (.int .i64 0) 1 [(0, (.tmp 56))], none⟩,
  ⟨some 58, .app 1 8 (.tmp 55) (.tmp 57), none⟩,
  ⟨some 5, .mov (.tmp 58), none⟩] :: K) fr S := rfl
def ref07_merge_l0 : PCode :=
  (.seq (.seq (.clr [(7, 14)] (.region ref07_merge_r2)) (.cond (.tmp 14) .skip (.exit 0))) (.block 1 (.seq (.region ref07_merge_r3) (.seq (.seq (.clr [(15, 31)] (.region ref07_merge_r4)) (.cond (.tmp 31) (.seq (.clr [(32, 35)] (.region ref07_merge_r5)) (.clr [(35, 37)] (.region ref07_merge_r6))) (.seq (.clr [(37, 40)] (.region ref07_merge_r7)) (.clr [(40, 42)] (.region ref07_merge_r8))))) (.seq (.clr [(42, 54)] (.region ref07_merge_r9)) (.cond (.tmp 54) (.clr [(55, 59)] (.region ref07_merge_r10)) .skip))))))
@[simp] theorem ref07_merge_l0_go (T : Tbl) (K : List Kt) (fr : Fr) (S : St) : gval T (.code ref07_merge_l0 :: K) fr S = gval T (.code (.seq (.seq (.clr [(7, 14)] (.region ref07_merge_r2)) (.cond (.tmp 14) .skip (.exit 0))) (.block 1 (.seq (.region ref07_merge_r3) (.seq (.seq (.clr [(15, 31)] (.region ref07_merge_r4)) (.cond (.tmp 31) (.seq (.clr [(32, 35)] (.region ref07_merge_r5)) (.clr [(35, 37)] (.region ref07_merge_r6))) (.seq (.clr [(37, 40)] (.region ref07_merge_r7)) (.clr [(40, 42)] (.region ref07_merge_r8))))) (.seq (.clr [(42, 54)] (.region ref07_merge_r9)) (.cond (.tmp 54) (.clr [(55, 59)] (.region ref07_merge_r10)) .skip)))))) :: K) fr S := rfl
def ref07_merge_r11 : List POper := [
  ⟨some 59, .mov (.tmp 5), none⟩,
  ⟨some 4, .mov (.tmp 59), none⟩]
@[simp] theorem ref07_merge_r11_go (T : Tbl) (K : List Kt) (fr : Fr) (S : St) : gval T (.ops ref07_merge_r11 :: K) fr S = gval T (.ops [
  ⟨some 59, .mov (.tmp 5), none⟩,
  ⟨some 4, .mov (.tmp 59), none⟩] :: K) fr S := rfl
def ref07_merge : PCodeFn :=
  ⟨2, [.tmp 4],
  (.seq (.region ref07_merge_r0) (.seq (.region ref07_merge_r1) (.seq (.block 0 (.loop ref07_merge_l0)) (.seq (.clr [(59, 60)] (.region ref07_merge_r11)) .ret)))), false⟩

/-! gauge/gaugeref07.alternative: 227 -/
def ref07_alternative_r0 : List POper := [
  ⟨some 6, .mov (.cst .nils), none⟩]
@[simp] theorem ref07_alternative_r0_go (T : Tbl) (K : List Kt) (fr : Fr) (S : St) : gval T (.ops ref07_alternative_r0 :: K) fr S = gval T (.ops [
  ⟨some 6, .mov (.cst .nils), none⟩] :: K) fr S := rfl
def ref07_alternative_r1 : List POper := [
  ⟨some 7, .mov (.cst (.int .i64 0)), none⟩]
@[simp] theorem ref07_alternative_r1_go (T : Tbl) (K : List Kt) (fr : Fr) (S : St) : gval T (.ops ref07_alternative_r1 :: K) fr S = gval T (.ops [
  ⟨some 7, .mov (.cst (.int .i64 0)), none⟩] :: K) fr S := rfl
def ref07_alternative_r2 : List POper := [
  ⟨some 10, .mov (.tmp 7), none⟩,
  ⟨some 11, .mov (.tmp 0), none⟩,
  ⟨some 12, .len true (.tmp 11), none⟩,
  ⟨some 13, .arith .lss (.tmp 10) (.tmp 12), none⟩]
@[simp] theorem ref07_alternative_r2_go (T : Tbl) (K : List Kt) (fr : Fr) (S : St) : gval T (.ops ref07_alternative_r2 :: K) fr S = gval T (.ops [
  ⟨some 10, .mov (.tmp 7), none⟩,
  ⟨some 11, .mov (.tmp 0), none⟩,
  ⟨some 12, .len true (.tmp 11), none⟩,
  ⟨some 13, .arith .lss (.tmp 10) (.tmp 12), none⟩] :: K) fr S := rfl
def ref07_alternative_r3 : List POper := [
  ⟨some 14, .mov (.tmp 0), none⟩,
  ⟨some 15, .mov (.tmp 7), none⟩,
  ⟨some 16, .call .pur 306 [(.tmp 14), (.tmp 15)], none⟩,
  ⟨some 8, .mov (.tmp 16), none⟩]
@[simp] theorem ref07_alternative_r3_go (T : Tbl) (K : List Kt) (fr : Fr) (S : St) : gval T (.ops ref07_alternative_r3 :: K) fr S = gval T (.ops [
  ⟨some 14, .mov (.tmp 0), none⟩,
  ⟨some 15, .mov (.tmp 7), none⟩,
  ⟨some 16, .call .pur 306 [(.tmp 14), (.tmp 15)], none⟩,
  ⟨some 8, .mov (.tmp 16), none⟩] :: K) fr S := rfl
def ref07_alternative_r4 : List POper := [
  ⟨some 9, .mov (.cst (.int .u8 0)), none⟩]
@[simp] theorem ref07_alternative_r4_go (T : Tbl) (K : List Kt) (fr : Fr) (S : St) : gval T (.ops ref07_alternative_r4 :: K) fr S = gval T (.ops [
  ⟨some 9, .mov (.cst (.int .u8 0)), none⟩] :: K) fr S := rfl
def ref07_alternative_r5 : List POper := [
  ⟨some 17, .mov (.tmp 8), none⟩,
  ⟨some 18, .mov (.tmp 0), none⟩,
  ⟨some 19, .len true (.tmp 18), none⟩,
  ⟨some 20, .arith .lss (.tmp 17) (.tmp 19), none⟩,
  ⟨some 21, .mov (.tmp 20), none⟩,
  ⟨some 22, .mov (.tmp 0), some (21, true)⟩,
  ⟨some 23, .mov (.tmp 8), some (21, true)⟩,
  ⟨some 24, .idxs (.tmp 22) (.tmp 23), some (21, true)⟩,
  ⟨some 25, .arith .eql (.tmp 24) (.cst (.int .u8 42)), some (21, true)⟩,
  ⟨some 26, .mov (.tmp 25), some (21, true)⟩,
  ⟨some 27, .mov (.tmp 0), some (26, false)⟩,
  ⟨some 28, .mov (.tmp 8), some (26, false)⟩,
  ⟨some 29, .idxs (.tmp 27) (.tmp 28), some (26, false)⟩,
  ⟨some 30, .arith .eql (.tmp 29) (.cst (.int .u8 43)), some (26, false)⟩,
  ⟨some 31, .pick (.tmp 26) (.cst (.bool true)) (.tmp 30), some (21, true)⟩,
  ⟨some 32, .mov (.tmp 31), some (21, true)⟩,
  ⟨some 33, .mov (.tmp 0), some (32, false)⟩,
  ⟨some 34, .mov (.tmp 8), some (32, false)⟩,
  ⟨some 35, .idxs (.tmp 33) (.tmp 34), some (32, false)⟩,
  ⟨some 36, .arith .eql (.tmp 35) (.cst (.int .u8 63)), some (32, false)⟩,
  ⟨some 37, .pick (.tmp 32) (.cst (.bool true)) (.tmp 36), some (21, true)⟩,
  ⟨some 38, .pick (.tmp 21) (.tmp 37) (.cst (.bool false)), none⟩]
@[simp] theorem ref07_alternative_r5_go (T : Tbl) (K : List Kt) (fr : Fr) (S : St) : gval T (.ops ref07_alternative_r5 :: K) fr S = gval T (.ops [
  ⟨some 17, .mov (.tmp 8), none⟩,
  ⟨some 18, .mov (.tmp 0), none⟩,
  ⟨some 19, .len true (.tmp 18), none⟩,
  ⟨some 20, .arith .lss (.tmp 17) (.tmp 19), none⟩,
  ⟨some 21, .mov (.tmp 20), none⟩,
  ⟨some 22, .mov (.tmp 0), some (21, true)⟩,
  ⟨some 23, .mov (.tmp 8), some (21, true)⟩,
  ⟨some 24, .idxs (.tmp 22) (.tmp 23), some (21, true)⟩,
  ⟨some 25, .arith .eql (.tmp 24) (.cst (.int .u8 42)), some (21, true)⟩,
  ⟨some 26, .mov (.tmp 25), some (21, true)⟩,
  ⟨some 27, .mov (.tmp 0), some (26, false)⟩,
  ⟨some 28, .mov (.tmp 8), some (26, false)⟩,
  ⟨some 29, .idxs (.tmp 27) (.tmp 28), some (26, false)⟩,
  ⟨some 30, .arith .eql (.tmp 29) (.cst (.int .u8 43)), some (26, false)⟩,
  ⟨some 31, .pick (.tmp 26) (.cst (.bool true)) (.tmp 30), some (21, true)⟩,
  ⟨some 32, .mov (.tmp 31), some (21, true)⟩,
  ⟨some 33, .mov (.tmp 0), some (32, false)⟩,
  ⟨some 34, .mov (.tmp 8), some (32, false)⟩,
  ⟨some 35, .idxs (.tmp 33) (.tmp 34), some (32, false)⟩,
  ⟨some 36, .arith .eql (.tmp 35) (.cst (.int .u8 63)), some (32, false)⟩,
  ⟨some 37, .pick (.tmp 32) (.cst (.bool true)) (.tmp 36), some (21, true)⟩,
  ⟨some 38, .pick (.tmp 21) (.tmp 37) (.cst (.bool false)), none⟩] :: K) fr S := rfl
def ref07_alternative_r6 : List POper := [
  ⟨some 39, .mov (.tmp 0), none⟩,
  ⟨some 40, .mov (.tmp 8), none⟩,
  ⟨some 41, .idxs (.tmp 39) (.tmp 40), none⟩,
  ⟨some 9, .mov (.tmp 41), none⟩]
@[simp] theorem ref07_alternative_r6_go (T : Tbl) (K : List Kt) (fr : Fr) (S : St) : gval T (.ops ref07_alternative_r6 :: K) fr S = gval T (.ops [
  ⟨some 39, .mov (.tmp 0), none⟩,
  ⟨some 40, .mov (.tmp 8), none⟩,
  ⟨some 41, .idxs (.tmp 39) (.tmp 40), none⟩,
  ⟨some 9, .mov (.tmp 41), none⟩] :: K) fr S := rfl
def ref07_alternative_r7 : List POper := [
  ⟨some 42, .mov (.tmp 0), none⟩,
  ⟨some 43, .mov (.tmp 7), none⟩,
  ⟨some 44, .mov (.tmp 8), none⟩,
  ⟨some 45, .slcs (some (.tmp 43)) (some (.tmp 44)) (.tmp 42), none⟩,
  ⟨some 46, .mov (.tmp 9), none⟩,
  ⟨some 47, .mov (.tmp 1), none⟩,
  ⟨some 48, .mov (.tmp 2), none⟩,
  ⟨some 49, .call .std 307 [(.tmp 45), (.tmp 46), (.tmp 47), (.tmp 48)], none⟩,
  ⟨some 2, .mov (.tmp 49), none⟩]
@[simp] theorem ref07_alternative_r7_go (T : Tbl) (K : List Kt) (fr : Fr) (S : St) : gval T (.ops ref07_alternative_r7 :: K) fr S = gval T (.ops [
  ⟨some 42, .mov (.tmp 0), none⟩,
  ⟨some 43, .mov (.tmp 7), none⟩,
  ⟨some 44, .mov (.tmp 8), none⟩,
  ⟨some 45, .slcs (some (.tmp 43)) (some (.tmp 44)) (.tmp 42), none⟩,
  ⟨some 46, .mov (.tmp 9), none⟩,
  ⟨some 47, .mov (.tmp 1), none⟩,
  ⟨some 48, .mov (.tmp 2), none⟩,
  ⟨some 49, .call .std 307 [(.tmp 45), (.tmp 46), (.tmp 47), (.tmp 48)], none⟩,
  ⟨some 2, .mov (.tmp 49), none⟩] :: K) fr S := rfl
def ref07_alternative_r8 : List POper := [
  ⟨some 50, .mov (.tmp 8), none⟩,
  ⟨some 7, .mov (.tmp 50), none⟩]
@[simp] theorem ref07_alternative_r8_go (T : Tbl) (K : List Kt) (fr : Fr) (S : St) : gval T (.ops ref07_alternative_r8 :: K) fr S = gval T (.ops [
  ⟨some 50, .mov (.tmp 8), none⟩,
  ⟨some 7, .mov (.tmp 50), none⟩] :: K) fr S := rfl
def ref07_alternative_r9 : List POper := [
  ⟨some 51, .mov (.tmp 9), none⟩,
  ⟨some 52, .arith .neq (.tmp 51) (.cst (.int .u8 0)), none⟩]
@[simp] theorem ref07_alternative_r9_go (T : Tbl) (K : List Kt) (fr : Fr) (S : St) : gval T (.ops ref07_alternative_r9 :: K) fr S = gval T (.ops [
  ⟨some 51, .mov (.tmp 9), none⟩,
  ⟨some 52, .arith .neq (.tmp 51) (.cst (.int .u8 0)), none⟩] :: K) fr S := rfl
def ref07_alternative_r10 : List POper := [
  ⟨some 53, .mov (.tmp 7), none⟩,
  ⟨some 54, .arith .add (.tmp 53) (.cst (.int .i64 1)), none⟩,
  ⟨some 7, .mov (.tmp 54), none⟩]
@[simp] theorem ref07_alternative_r10_go (T : Tbl) (K : List Kt) (fr : Fr) (S : St) : gval T (.ops ref07_alternative_r10 :: K) fr S = gval T (.ops [
  ⟨some 53, .mov (.tmp 7), none⟩,
  ⟨some 54, .arith .add (.tmp 53) (.cst (.int .i64 1)), none⟩,
  ⟨some 7, .mov (.tmp 54), none⟩] :: K) fr S := rfl
def ref07_alternative_l0 : PCode :=
  (.seq (.seq (.clr [(10, 13)] (.region ref07_alternative_r2)) (.cond (.tmp 13) .skip (.exit 0))) (.block 1 (.seq (.clr [(14, 17)] (.region ref07_alternative_r3)) (.seq (.region ref07_alternative_r4) (.seq (.seq (.clr [(17, 38)] (.region ref07_alternative_r5)) (.cond (.tmp 38) (.clr [(39, 42)] (.region ref07_alternative_r6)) .skip)) (.seq (.clr [(42, 50)] (.region ref07_alternative_r7)) (.seq (.clr [(50, 51)] (.region ref07_alternative_r8)) (.seq (.clr [(51, 52)] (.region ref07_alternative_r9)) (.cond (.tmp 52) (.clr [(53, 55)] (.region ref07_alternative_r10)) .skip)))))))))
@[simp] theorem ref07_alternative_l0_go (T : Tbl) (K : List Kt) (fr : Fr) (S : St) : gval T (.code ref07_alternative_l0 :: K) fr S = gval T (.code (.seq (.seq (.clr [(10, 13)] (.region ref07_alternative_r2)) (.cond (.tmp 13) .skip (.exit 0))) (.block 1 (.seq (.clr [(14, 17)] (.region ref07_alternative_r3)) (.seq (.region ref07_alternative_r4) (.seq (.seq (.clr [(17, 38)] (.region ref07_alternative_r5)) (.cond (.tmp 38) (.clr [(39, 42)] (.region ref07_alternative_r6)) .skip)) (.seq (.clr [(42, 50)] (.region ref07_alternative_r7)) (.seq (.clr [(50, 51)] (.region ref07_alternative_r8)) (.seq (.clr [(51, 52)] (.region ref07_alternative_r9)) (.cond (.tmp 52) (.clr [(53, 55)] (.region ref07_alternative_r10)) .skip))))))))) :: K) fr S := rfl
def ref07_alternative_r11 : List POper := [
  ⟨some 55, .mov (.tmp 2), none⟩,
  ⟨some 6, .mov (.tmp 55), none⟩]
@[simp] theorem ref07_alternative_r11_go (T : Tbl) (K : List Kt) (fr : Fr) (S : St) : gval T (.ops ref07_alternative_r11 :: K) fr S = gval T (.ops [
  ⟨some 55, .mov (.tmp 2), none⟩,
  ⟨some 6, .mov (.tmp 55), none⟩] :: K) fr S := rfl
def ref07_alternative : PCodeFn :=
  ⟨3, [.tmp 6],
  (.seq (.region ref07_alternative_r0) (.seq (.region ref07_alternative_r1) (.seq (.block 0 (.loop ref07_alternative_l0)) (.seq (.clr [(55, 56)] (.region ref07_alternative_r11)) .ret)))), false⟩

/-! strings.IndexByte: 211 -/
def strings_IndexByte_r0 : List POper := [
  ⟨some 4, .mov (.cst (.int .i64 0)), none⟩]
@[simp] theorem strings_IndexByte_r0_go (T : Tbl) (K : List Kt) (fr : Fr) (S : St) : gval T (.ops strings_IndexByte_r0 :: K) fr S = gval T (.ops [
  ⟨some 4, .mov (.cst (.int .i64 0)), none⟩] :: K) fr S := rfl
def strings_IndexByte_r1 : List POper := [
  ⟨some 5, .mov (.tmp 0), none⟩,
  ⟨some 6, .mov (.tmp 1), none⟩,
  ⟨some 7, .call .pur 299 [(.tmp 5), (.tmp 6)], none⟩,
  ⟨some 4, .mov (.tmp 7), none⟩]
@[simp] theorem strings_IndexByte_r1_go (T : Tbl) (K : List Kt) (fr : Fr) (S : St) : gval T (.ops strings_IndexByte_r1 :: K) fr S = gval T (.ops [
  ⟨some 5, .mov (.tmp 0), none⟩,
  ⟨some 6, .mov (.tmp 1), none⟩,
  ⟨some 7, .call .pur 299 [(.tmp 5), (.tmp 6)], none⟩,
  ⟨some 4, .mov (.tmp 7), none⟩] :: K) fr S := rfl
def strings_IndexByte : PCodeFn :=
  ⟨2, [.tmp 4],
  (.seq (.region strings_IndexByte_r0) (.seq (.clr [(5, 8)] (.region strings_IndexByte_r1)) .ret)), false⟩

/-! slices.Index[[]bool,bool]: 486 -/
def slices_Index_bool_r0 : List POper := [
  ⟨some 4, .mov (.cst (.int .i64 0)), none⟩]
@[simp] theorem slices_Index_bool_r0_go (T : Tbl) (K : List Kt) (fr : Fr) (S : St) : gval T (.ops slices_Index_bool_r0 :: K) fr S = gval T (.ops [
  ⟨some 4, .mov (.cst (.int .i64 0)), none⟩] :: K) fr S := rfl
def slices_Index_bool_r1 : List POper := [
  ⟨some 6, .mov (.tmp 0), none⟩,
  ⟨some 7, .len false (.tmp 6), none⟩,
  ⟨some 8, .mov (.cst (.int .i64 0)), none⟩]
@[simp] theorem slices_Index_bool_r1_go (T : Tbl) (K : List Kt) (fr : Fr) (S : St) : gval T (.ops slices_Index_bool_r1 :: K) fr S = gval T (.ops [
  ⟨some 6, .mov (.tmp 0), none⟩,
  ⟨some 7, .len false (.tmp 6), none⟩,
  ⟨some 8, .mov (.cst (.int .i64 0)), none⟩] :: K) fr S := rfl
def slices_Index_bool_r2 : List POper := [
  ⟨some 9, .arith .lss (.tmp 8) (.tmp 7), none⟩]
@[simp] theorem slices_Index_bool_r2_go (T : Tbl) (K : List Kt) (fr : Fr) (S : St) : gval T (.ops slices_Index_bool_r2 :: K) fr S = gval T (.ops [
  ⟨some 9, .arith .lss (.tmp 8) (.tmp 7), none⟩] :: K) fr S := rfl
def slices_Index_bool_r3 : List POper := [
  ⟨some 10, .mov (.tmp 8), none⟩,
  ⟨some 5, .mov (.tmp 10), none⟩]
@[simp] theorem slices_Index_bool_r3_go (T : Tbl) (K : List Kt) (fr : Fr) (S : St) : gval T (.ops slices_Index_bool_r3 :: K) fr S = gval T (.ops [
  ⟨some 10, .mov (.tmp 8), none⟩,
  ⟨some 5, .mov (.tmp 10), none⟩] :: K) fr S := rfl
def slices_Index_bool_r4 : List POper := [
  ⟨some 11, .mov (.tmp 1), none⟩,
  ⟨some 12, .mov (.tmp 0), none⟩,
  ⟨some 13, .mov (.tmp 5), none⟩,
  ⟨some 14, .iaddr 1 (.tmp 12) (.tmp 13), none⟩,
  ⟨some 15, .load false 1 false (.tmp 14), none⟩,
  ⟨some 16, .eqb false (.tmp 11) (.tmp 15), none⟩]
@[simp] theorem slices_Index_bool_r4_go (T : Tbl) (K : List Kt) (fr : Fr) (S : St) : gval T (.ops slices_Index_bool_r4 :: K) fr S = gval T (.ops [
  ⟨some 11, .mov (.tmp 1), none⟩,
  ⟨some 12, .mov (.tmp 0), none⟩,
  ⟨some 13, .mov (.tmp 5), none⟩,
  ⟨some 14, .iaddr 1 (.tmp 12) (.tmp 13), none⟩,
  ⟨some 15, .load false 1 false (.tmp 14), none⟩,
  ⟨some 16, .eqb false (.tmp 11) (.tmp 15), none⟩] :: K) fr S := rfl
def slices_Index_bool_r5 : List POper := [
  ⟨some 17, .mov (.tmp 5), none⟩,
  ⟨some 4, .mov (.tmp 17), none⟩]
@[simp] theorem slices_Index_bool_r5_go (T : Tbl) (K : List Kt) (fr : Fr) (S : St) : gval T (.ops slices_Index_bool_r5 :: K) fr S = gval T (.ops [
  ⟨some 17, .mov (.tmp 5), none⟩,
  ⟨some 4, .mov (.tmp 17), none⟩] :: K) fr S := rfl
def slices_Index_bool_r6 : List POper := [
  ⟨some 18, .arith .add (.tmp 8) (.cst (.int .i64 1)), none⟩,
  ⟨some 8, .mov (.tmp 18), none⟩]
@[simp] theorem slices_Index_bool_r6_go (T : Tbl) (K : List Kt) (fr : Fr) (S : St) : gval T (.ops slices_Index_bool_r6 :: K) fr S = gval T (.ops [
  ⟨some 18, .arith .add (.tmp 8) (.cst (.int .i64 1)), none⟩,
  ⟨some 8, .mov (.tmp 18), none⟩] :: K) fr S := rfl
def slices_Index_bool_l0 : PCode :=
  (.seq (.region slices_Index_bool_r2) (.seq (.cond (.tmp 9) .skip (.exit 0)) (.seq (.block 1 (.seq (.clr [(10, 11)] (.region slices_Index_bool_r3)) (.seq (.clr [(11, 16)] (.region slices_Index_bool_r4)) (.cond (.tmp 16) (.seq (.clr [(17, 18)] (.region slices_Index_bool_r5)) .ret) .skip)))) (.clr [(18, 19)] (.region slices_Index_bool_r6)))))
@[simp] theorem slices_Index_bool_l0_go (T : Tbl) (K : List Kt) (fr : Fr) (S : St) : gval T (.code slices_Index_bool_l0 :: K) fr S = gval T (.code (.seq (.region slices_Index_bool_r2) (.seq (.cond (.tmp 9) .skip (.exit 0)) (.seq (.block 1 (.seq (.clr [(10, 11)] (.region slices_Index_bool_r3)) (.seq (.clr [(11, 16)] (.region slices_Index_bool_r4)) (.cond (.tmp 16) (.seq (.clr [(17, 18)] (.region slices_Index_bool_r5)) .ret) .skip)))) (.clr [(18, 19)] (.region slices_Index_bool_r6))))) :: K) fr S := rfl
def slices_Index_bool_r7 : List POper := [
  ⟨some 4, .mov (.cst (.int .i64 (-1))), none⟩]
@[simp] theorem slices_Index_bool_r7_go (T : Tbl) (K : List Kt) (fr : Fr) (S : St) : gval T (.ops slices_Index_bool_r7 :: K) fr S = gval T (.ops [
  ⟨some 4, .mov (.cst (.int .i64 (-1))), none⟩] :: K) fr S := rfl
def slices_Index_bool : PCodeFn :=
  ⟨2, [.tmp 4],
  (.seq (.region slices_Index_bool_r0) (.seq (.seq (.clr [(6, 7)] (.region slices_Index_bool_r1)) (.block 0 (.loop slices_Index_bool_l0))) (.seq (.region slices_Index_bool_r7) .ret))), false⟩

/-! (*gauge/regex.reader).row: 302 -/
def regex_reader_row_r0 : List POper := [
  ⟨some 2, .mov (.cst .nili), none⟩]
@[simp] theorem regex_reader_row_r0_go (T : Tbl) (K : List Kt) (fr : Fr) (S : St) : gval T (.ops regex_reader_row_r0 :: K) fr S = gval T (.ops [
  ⟨some 2, .mov (.cst .nili), none⟩] :: K) fr S := rfl
def regex_reader_row_r1 : List POper := [
  ⟨some 6, .bsl false .nili 0 [], none⟩,
  ⟨some 3, .mov (.tmp 6), none⟩]
@[simp] theorem regex_reader_row_r1_go (T : Tbl) (K : List Kt) (fr : Fr) (S : St) : gval T (.ops regex_reader_row_r1 :: K) fr S = gval T (.ops [
  ⟨some 6, .bsl false .nili 0 [], none⟩,
  ⟨some 3, .mov (.tmp 6), none⟩] :: K) fr S := rfl
def regex_reader_row_r2 : List POper := [
  ⟨some 7, .mov (.tmp 0), none⟩,
  ⟨some 8, .nilck (.tmp 7), none⟩,
  ⟨some 9, .faddr 0 (.tmp 8), none⟩,
  ⟨some 10, .load false 1 false (.tmp 9), none⟩,
  ⟨some 11, .arith .neq (.tmp 10) (.cst (.str [])), none⟩,
  ⟨some 12, .mov (.tmp 11), none⟩,
  ⟨some 13, .mov (.tmp 0), some (12, true)⟩,
  ⟨some 14, .nilck (.tmp 13), some (12, true)⟩,
  ⟨some 15, .faddr 3 (.tmp 14), some (12, true)⟩,
  ⟨some 16, .load false 1 false (.tmp 15), some (12, true)⟩,
  ⟨some 17, .un .not (.tmp 16), some (12, true)⟩,
  ⟨some 18, .pick (.tmp 12) (.tmp 17) (.cst (.bool false)), none⟩,
  ⟨some 19, .mov (.tmp 18), none⟩,
  ⟨some 20, .mov (.tmp 0), some (19, true)⟩,
  ⟨some 21, .call .std 303 [(.tmp 20), (.cst (.str [124, 41]))], some (19, true)⟩,
  ⟨some 22, .un .not (.tmp 21), some (19, true)⟩,
  ⟨some 23, .pick (.tmp 19) (.tmp 22) (.cst (.bool false)), none⟩]
@[simp] theorem regex_reader_row_r2_go (T : Tbl) (K : List Kt) (fr : Fr) (S : St) : gval T (.ops regex_reader_row_r2 :: K) fr S = gval T (.ops [
  ⟨some 7, .mov (.tmp 0), none⟩,
  ⟨some 8, .nilck (.tmp 7), none⟩,
  ⟨some 9, .faddr 0 (.tmp 8), none⟩,
  ⟨some 10, .load false 1 false (.tmp 9), none⟩,
  ⟨some 11, .arith .neq (.tmp 10) (.cst (.str [])), none⟩,
  ⟨some 12, .mov (.tmp 11), none⟩,
  ⟨some 13, .mov (.tmp 0), some (12, true)⟩,
  ⟨some 14, .nilck (.tmp 13), some (12, true)⟩,
  ⟨some 15, .faddr 3 (.tmp 14), some (12, true)⟩,
  ⟨some 16, .load false 1 false (.tmp 15), some (12, true)⟩,
  ⟨some 17, .un .not (.tmp 16), some (12, true)⟩,
  ⟨some 18, .pick (.tmp 12) (.tmp 17) (.cst (.bool false)), none⟩,
  ⟨some 19, .mov (.tmp 18), none⟩,
  ⟨some 20, .mov (.tmp 0), some (19, true)⟩,
  ⟨some 21, .call .std 303 [(.tmp 20), (.cst (.str [124, 41]))], some (19, true)⟩,
  ⟨some 22, .un .not (.tmp 21), some (19, true)⟩,
  ⟨some 23, .pick (.tmp 19) (.tmp 22) (.cst (.bool false)), none⟩] :: K) fr S := rfl
def regex_reader_row_r3 : List POper := [
  ⟨some 24, .mov (.tmp 0), none⟩,
  ⟨some 25, .call .std 354 [(.tmp 24)], none⟩,
  ⟨some 4, .mov (.tmp 25), none⟩]
@[simp] theorem regex_reader_row_r3_go (T : Tbl) (K : List Kt) (fr : Fr) (S : St) : gval T (.ops regex_reader_row_r3 :: K) fr S = gval T (.ops [
  ⟨some 24, .mov (.tmp 0), none⟩,
  ⟨some 25, .call .std 354 [(.tmp 24)], none⟩,
  ⟨some 4, .mov (.tmp 25), none⟩] :: K) fr S := rfl
def regex_reader_row_r4 : List POper := [
  ⟨some 26, .mov (.tmp 0), none⟩,
  ⟨some 27, .call .std 303 [(.tmp 26), (.cst (.str [42, 43, 63]))], none⟩]
@[simp] theorem regex_reader_row_r4_go (T : Tbl) (K : List Kt) (fr : Fr) (S : St) : gval T (.ops regex_reader_row_r4 :: K) fr S = gval T (.ops [
  ⟨some 26, .mov (.tmp 0), none⟩,
  ⟨some 27, .call .std 303 [(.tmp 26), (.cst (.str [42, 43, 63]))], none⟩] :: K) fr S := rfl
def regex_reader_row_r5 : List POper := [
  ⟨some 28, .mov (.tmp 0), none⟩,
  ⟨some 29, .call .std 304 [(.tmp 28)], none⟩,
  ⟨some 5, .mov (.tmp 29), none⟩]
@[simp] theorem regex_reader_row_r5_go (T : Tbl) (K : List Kt) (fr : Fr) (S : St) : gval T (.ops regex_reader_row_r5 :: K) fr S = gval T (.ops [
  ⟨some 28, .mov (.tmp 0), none⟩,
  ⟨some 29, .call .std 304 [(.tmp 28)], none⟩,
  ⟨some 5, .mov (.tmp 29), none⟩] :: K) fr S := rfl
def regex_reader_row_r6 : List POper := [
  ⟨some 30, .mov (.tmp 4), none⟩,
  ⟨some 31, .mov (.tmp 5), none⟩,
  ⟨some 32, .arith .neq (.tmp 31) (.cst (.int .u8 43)), none⟩,
  ⟨some 33, .mov (.tmp 5), none⟩,
  ⟨some 34, .arith .neq (.tmp 33) (.cst (.int .u8 63)), none⟩,
  ⟨some 35, .build [.nili, (.bool false), (.bool false)] [(0, 1, (.tmp 30)), (1, 1, (.tmp 32)), (2, 1, (.tmp 34))], none⟩,
  ⟨some 36, .mkif 9 (.tmp 35), none⟩,
  ⟨some 4, .mov (.tmp 36), none⟩]
@[simp] theorem regex_reader_row_r6_go (T : Tbl) (K : List Kt) (fr : Fr) (S : St) : gval T (.ops regex_reader_row_r6 :: K) fr S = gval T (.ops [
  ⟨some 30, .mov (.tmp 4), none⟩,
  ⟨some 31, .mov (.tmp 5), none⟩,
  ⟨some 32, .arith .neq (.tmp 31) (.cst (.int .u8 43)), none⟩,
  ⟨some 33, .mov (.tmp 5), none⟩,
  ⟨some 34, .arith .neq (.tmp 33) (.cst (.int .u8 63)), none⟩,
  ⟨some 35, .build [.nili, (.bool false), (.bool false)] [(0, 1, (.tmp 30)), (1, 1, (.tmp 32)), (2, 1, (.tmp 34))], none⟩,
  ⟨some 36, .mkif 9 (.tmp 35), none⟩,
  ⟨some 4, .mov (.tmp 36), none⟩] :: K) fr S := rfl
def regex_reader_row_r7 : List POper := [
  ⟨some 37, .mov (.tmp 3), none⟩,
  ⟨some 38, .mov (.tmp 4), none⟩,
  ⟨some 39, .bsl false .nili 1 [(0, (.tmp 38))], none⟩,
  ⟨some 40, .app 1 16 (.tmp 37) (.tmp 39), none⟩,
  ⟨some 3, .mov (.tmp 40), none⟩]
@[simp] theorem regex_reader_row_r7_go (T : Tbl) (K : List Kt) (fr : Fr) (S : St) : gval T (.ops regex_reader_row_r7 :: K) fr S = gval T (.ops [
  ⟨some 37, .mov (.tmp 3), none⟩,
  ⟨some 38, .mov (.tmp 4), none⟩,
  ⟨some 39, .bsl false .nili 1 [(0, (.tmp 38))], none⟩,
  ⟨some 40, .app 1 16 (.tmp 37) (.tmp 39), none⟩,
  ⟨some 3, .mov (.tmp 40), none⟩] :: K) fr S := rfl
def regex_reader_row_l0 : PCode :=
  (.seq (.seq (.clr [(7, 23)] (.region regex_reader_row_r2)) (.cond (.tmp 23) .skip (.exit 0))) (.block 1 (.seq (.clr [(24, 26)] (.region regex_reader_row_r3)) (.seq (.seq (.clr [(26, 27)] (.region regex_reader_row_r4)) (.cond (.tmp 27) (.seq (.clr [(28, 30)] (.region regex_reader_row_r5)) (.clr [(30, 37)] (.region regex_reader_row_r6))) .skip)) (.clr [(37, 41)] (.region regex_reader_row_r7))))))
@[simp] theorem regex_reader_row_l0_go (T : Tbl) (K : List Kt) (fr : Fr) (S : St) : gval T (.code regex_reader_row_l0 :: K) fr S = gval T (.code (.seq (.seq (.clr [(7, 23)] (.region regex_reader_row_r2)) (.cond (.tmp 23) .skip (.exit 0))) (.block 1 (.seq (.clr [(24, 26)] (.region regex_reader_row_r3)) (.seq (.seq (.clr [(26, 27)] (.region regex_reader_row_r4)) (.cond (.tmp 27) (.seq (.clr [(28, 30)] (.region regex_reader_row_r5)) (.clr [(30, 37)] (.region regex_reader_row_r6))) .skip)) (.clr [(37, 41)] (.region regex_reader_row_r7)))))) :: K) fr S := rfl
def regex_reader_row_r8 : List POper := [
  ⟨some 41, .mov (.tmp 3), none⟩,
  ⟨some 42, .mkif 10 (.tmp 41), none⟩,
  ⟨some 2, .mov (.tmp 42), none⟩]
@[simp] theorem regex_reader_row_r8_go (T : Tbl) (K : List Kt) (fr : Fr) (S : St) : gval T (.ops regex_reader_row_r8 :: K) fr S = gval T (.ops [
  ⟨some 41, .mov (.tmp 3), none⟩,
  ⟨some 42, .mkif 10 (.tmp 41), none⟩,
  ⟨some 2, .mov (.tmp 42), none⟩] :: K) fr S := rfl
def regex_reader_row : PCodeFn :=
  ⟨1, [.tmp 2],
  (.seq (.region regex_reader_row_r0) (.seq (.clr [(6, 7)] (.region regex_reader_row_r1)) (.seq (.block 0 (.loop regex_reader_row_l0)) (.seq (.clr [(41, 43)] (.region regex_reader_row_r8)) .ret)))), false⟩

/-! (*gauge/regex.reader).next: 303 -/
def regex_reader_next_r0 : List POper := [
  ⟨some 4, .mov (.cst (.bool false)), none⟩]
@[simp] theorem regex_reader_next_r0_go (T : Tbl) (K : List Kt) (fr : Fr) (S : St) : gval T (.ops regex_reader_next_r0 :: K) fr S = gval T (.ops [
  ⟨some 4, .mov (.cst (.bool false)), none⟩] :: K) fr S := rfl
def regex_reader_next_r1 : List POper := [
  ⟨some 5, .mov (.tmp 0), none⟩,
  ⟨some 6, .nilck (.tmp 5), none⟩,
  ⟨some 7, .faddr 0 (.tmp 6), none⟩,
  ⟨some 8, .load false 1 false (.tmp 7), none⟩,
  ⟨some 9, .arith .neq (.tmp 8) (.cst (.str [])), none⟩,
  ⟨some 10, .mov (.tmp 9), none⟩,
  ⟨some 11, .mov (.tmp 1), some (10, true)⟩,
  ⟨some 12, .mov (.tmp 0), some (10, true)⟩,
  ⟨some 13, .nilck (.tmp 12), some (10, true)⟩,
  ⟨some 14, .faddr 0 (.tmp 13), some (10, true)⟩,
  ⟨some 15, .load false 1 false (.tmp 14), some (10, true)⟩,
  ⟨some 16, .idxs (.tmp 15) (.cst (.int .i64 0)), some (10, true)⟩,
  ⟨some 17, .call .pur 211 [(.tmp 11), (.tmp 16)], some (10, true)⟩,
  ⟨some 18, .arith .geq (.tmp 17) (.cst (.int .i64 0)), some (10, true)⟩,
  ⟨some 19, .pick (.tmp 10) (.tmp 18) (.cst (.bool false)), none⟩,
  ⟨some 4, .mov (.tmp 19), none⟩]
@[simp] theorem regex_reader_next_r1_go (T : Tbl) (K : List Kt) (fr : Fr) (S : St) : gval T (.ops regex_reader_next_r1 :: K) fr S = gval T (.ops [
  ⟨some 5, .mov (.tmp 0), none⟩,
  ⟨some 6, .nilck (.tmp 5), none⟩,
  ⟨some 7, .faddr 0 (.tmp 6), none⟩,
  ⟨some 8, .load false 1 false (.tmp 7), none⟩,
  ⟨some 9, .arith .neq (.tmp 8) (.cst (.str [])), none⟩,
  ⟨some 10, .mov (.tmp 9), none⟩,
  ⟨some 11, .mov (.tmp 1), some (10, true)⟩,
  ⟨some 12, .mov (.tmp 0), some (10, true)⟩,
  ⟨some 13, .nilck (.tmp 12), some (10, true)⟩,
  ⟨some 14, .faddr 0 (.tmp 13), some (10, true)⟩,
  ⟨some 15, .load false 1 false (.tmp 14), some (10, true)⟩,
  ⟨some 16, .idxs (.tmp 15) (.cst (.int .i64 0)), some (10, true)⟩,
  ⟨some 17, .call .pur 211 [(.tmp 11), (.tmp 16)], some (10, true)⟩,
  ⟨some 18, .arith .geq (.tmp 17) (.cst (.int .i64 0)), some (10, true)⟩,
  ⟨some 19, .pick (.tmp 10) (.tmp 18) (.cst (.bool false)), none⟩,
  ⟨some 4, .mov (.tmp 19), none⟩] :: K) fr S := rfl
def regex_reader_next : PCodeFn :=
  ⟨2, [.tmp 4],
  (.seq (.region regex_reader_next_r0) (.seq (.clr [(5, 20)] (.region regex_reader_next_r1)) .ret)), false⟩

/-! (*gauge/regex.reader).take: 304 -/
def regex_reader_take_r0 : List POper := [
  ⟨some 2, .mov (.cst (.int .u8 0)), none⟩]
@[simp] theorem regex_reader_take_r0_go (T : Tbl) (K : List Kt) (fr : Fr) (S : St) : gval T (.ops regex_reader_take_r0 :: K) fr S = gval T (.ops [
  ⟨some 2, .mov (.cst (.int .u8 0)), none⟩] :: K) fr S := rfl
def regex_reader_take_r1 : List POper := [
  ⟨some 4, .mov (.tmp 0), none⟩,
  ⟨some 5, .nilck (.tmp 4), none⟩,
  ⟨some 6, .faddr 0 (.tmp 5), none⟩,
  ⟨some 7, .load false 1 false (.tmp 6), none⟩,
  ⟨some 8, .arith .eql (.tmp 7) (.cst (.str [])), none⟩]
@[simp] theorem regex_reader_take_r1_go (T : Tbl) (K : List Kt) (fr : Fr) (S : St) : gval T (.ops regex_reader_take_r1 :: K) fr S = gval T (.ops [
  ⟨some 4, .mov (.tmp 0), none⟩,
  ⟨some 5, .nilck (.tmp 4), none⟩,
  ⟨some 6, .faddr 0 (.tmp 5), none⟩,
  ⟨some 7, .load false 1 false (.tmp 6), none⟩,
  ⟨some 8, .arith .eql (.tmp 7) (.cst (.str [])), none⟩] :: K) fr S := rfl
def regex_reader_take_r2 : List POper := [
  ⟨some 9, .mov (.tmp 0), none⟩,
  ⟨some 10, .nilck (.tmp 9), none⟩,
  ⟨some 11, .faddr 3 (.tmp 10), none⟩,
  ⟨none, .store 1 (.tmp 11) (.cst (.bool true)), none⟩]
@[simp] theorem regex_reader_take_r2_go (T : Tbl) (K : List Kt) (fr : Fr) (S : St) : gval T (.ops regex_reader_take_r2 :: K) fr S = gval T (.ops [
  ⟨some 9, .mov (.tmp 0), none⟩,
  ⟨some 10, .nilck (.tmp 9), none⟩,
  ⟨some 11, .faddr 3 (.tmp 10), none⟩,
  ⟨none, .store 1 (.tmp 11) (.cst (.bool true)), none⟩] :: K) fr S := rfl
def regex_reader_take_r3 : List POper := [
  ⟨some 2, .mov (.cst (.int .u8 0)), none⟩]
@[simp] theorem regex_reader_take_r3_go (T : Tbl) (K : List Kt) (fr : Fr) (S : St) : gval T (.ops regex_reader_take_r3 :: K) fr S = gval T (.ops [
  ⟨some 2, .mov (.cst (.int .u8 0)), none⟩] :: K) fr S := rfl
def regex_reader_take_r4 : List POper := [
  ⟨some 12, .mov (.tmp 0), none⟩,
  ⟨some 13, .nilck (.tmp 12), none⟩,
  ⟨some 14, .faddr 0 (.tmp 13), none⟩,
  ⟨some 15, .load false 1 false (.tmp 14), none⟩,
  ⟨some 16, .idxs (.tmp 15) (.cst (.int .i64 0)), none⟩,
  ⟨some 3, .mov (.tmp 16), none⟩]
@[simp] theorem regex_reader_take_r4_go (T : Tbl) (K : List Kt) (fr : Fr) (S : St) : gval T (.ops regex_reader_take_r4 :: K) fr S = gval T (.ops [
  ⟨some 12, .mov (.tmp 0), none⟩,
  ⟨some 13, .nilck (.tmp 12), none⟩,
  ⟨some 14, .faddr 0 (.tmp 13), none⟩,
  ⟨some 15, .load false 1 false (.tmp 14), none⟩,
  ⟨some 16, .idxs (.tmp 15) (.cst (.int .i64 0)), none⟩,
  ⟨some 3, .mov (.tmp 16), none⟩] :: K) fr S := rfl
def regex_reader_take_r5 : List POper := [
  ⟨some 17, .mov (.tmp 0), none⟩,
  ⟨some 18, .mov (.tmp 0), none⟩,
  ⟨some 19, .nilck (.tmp 18), none⟩,
  ⟨some 20, .faddr 0 (.tmp 19), none⟩,
  ⟨some 21, .load false 1 false (.tmp 20), none⟩,
  ⟨some 22, .slcs (some (.cst (.int .i64 1))) none (.tmp 21), none⟩,
  ⟨some 23, .nilck (.tmp 17), none⟩,
  ⟨some 24, .faddr 0 (.tmp 23), none⟩,
  ⟨none, .store 1 (.tmp 24) (.tmp 22), none⟩]
@[simp] theorem regex_reader_take_r5_go (T : Tbl) (K : List Kt) (fr : Fr) (S : St) : gval T (.ops regex_reader_take_r5 :: K) fr S = gval T (.ops [
  ⟨some 17, .mov (.tmp 0), none⟩,
  ⟨some 18, .mov (.tmp 0), none⟩,
  ⟨some 19, .nilck (.tmp 18), none⟩,
  ⟨some 20, .faddr 0 (.tmp 19), none⟩,
  ⟨some 21, .load false 1 false (.tmp 20), none⟩,
  ⟨some 22, .slcs (some (.cst (.int .i64 1))) none (.tmp 21), none⟩,
  ⟨some 23, .nilck (.tmp 17), none⟩,
  ⟨some 24, .faddr 0 (.tmp 23), none⟩,
  ⟨none, .store 1 (.tmp 24) (.tmp 22), none⟩] :: K) fr S := rfl
def regex_reader_take_r6 : List POper := [
  ⟨some 25, .mov (.tmp 3), none⟩,
  ⟨some 2, .mov (.tmp 25), none⟩]
@[simp] theorem regex_reader_take_r6_go (T : Tbl) (K : List Kt) (fr : Fr) (S : St) : gval T (.ops regex_reader_take_r6 :: K) fr S = gval T (.ops [
  ⟨some 25, .mov (.tmp 3), none⟩,
  ⟨some 2, .mov (.tmp 25), none⟩] :: K) fr S := rfl
def regex_reader_take : PCodeFn :=
  ⟨1, [.tmp 2],
  (.seq (.region regex_reader_take_r0) (.seq (.seq (.clr [(4, 8)] (.region regex_reader_take_r1)) (.cond (.tmp 8) (.seq (.clr [(9, 12)] (.region regex_reader_take_r2)) (.seq (.region regex_reader_take_r3) .ret)) .skip)) (.seq (.clr [(12, 17)] (.region regex_reader_take_r4)) (.seq (.clr [(17, 25)] (.region regex_reader_take_r5)) (.seq (.clr [(25, 26)] (.region regex_reader_take_r6)) .ret))))), false⟩

/-! gauge/gaugeref07.atom: 306 -/
def ref07_atom_r0 : List POper := [
  ⟨some 4, .mov (.cst (.int .i64 0)), none⟩]
@[simp] theorem ref07_atom_r0_go (T : Tbl) (K : List Kt) (fr : Fr) (S : St) : gval T (.ops ref07_atom_r0 :: K) fr S = gval T (.ops [
  ⟨some 4, .mov (.cst (.int .i64 0)), none⟩] :: K) fr S := rfl
def ref07_atom_r1 : List POper := [
  ⟨some 9, .mov (.tmp 1), none⟩,
  ⟨some 10, .mov (.tmp 0), none⟩,
  ⟨some 11, .len true (.tmp 10), none⟩,
  ⟨some 12, .arith .geq (.tmp 9) (.tmp 11), none⟩,
  ⟨some 8, .mov (.tmp 12), none⟩]
@[simp] theorem ref07_atom_r1_go (T : Tbl) (K : List Kt) (fr : Fr) (S : St) : gval T (.ops ref07_atom_r1 :: K) fr S = gval T (.ops [
  ⟨some 9, .mov (.tmp 1), none⟩,
  ⟨some 10, .mov (.tmp 0), none⟩,
  ⟨some 11, .len true (.tmp 10), none⟩,
  ⟨some 12, .arith .geq (.tmp 9) (.tmp 11), none⟩,
  ⟨some 8, .mov (.tmp 12), none⟩] :: K) fr S := rfl
def ref07_atom_r2 : List POper := [
  ⟨some 4, .mov (.cst (.int .i64 0)), none⟩]
@[simp] theorem ref07_atom_r2_go (T : Tbl) (K : List Kt) (fr : Fr) (S : St) : gval T (.ops ref07_atom_r2 :: K) fr S = gval T (.ops [
  ⟨some 4, .mov (.cst (.int .i64 0)), none⟩] :: K) fr S := rfl
def ref07_atom_r3 : List POper := [
  ⟨some 14, .mov (.tmp 0), none⟩,
  ⟨some 15, .mov (.tmp 1), none⟩,
  ⟨some 16, .idxs (.tmp 14) (.tmp 15), none⟩,
  ⟨some 17, .arith .eql (.tmp 16) (.cst (.int .u8 46)), none⟩,
  ⟨some 18, .mov (.tmp 17), none⟩,
  ⟨some 19, .mov (.tmp 0), some (18, false)⟩,
  ⟨some 20, .mov (.tmp 1), some (18, false)⟩,
  ⟨some 21, .idxs (.tmp 19) (.tmp 20), some (18, false)⟩,
  ⟨some 22, .call .pur 356 [(.tmp 21)], some (18, false)⟩,
  ⟨some 23, .pick (.tmp 18) (.cst (.bool true)) (.tmp 22), none⟩,
  ⟨some 13, .mov (.tmp 23), none⟩]
@[simp] theorem ref07_atom_r3_go (T : Tbl) (K : List Kt) (fr : Fr) (S : St) : gval T (.ops ref07_atom_r3 :: K) fr S = gval T (.ops [
  ⟨some 14, .mov (.tmp 0), none⟩,
  ⟨some 15, .mov (.tmp 1), none⟩,
  ⟨some 16, .idxs (.tmp 14) (.tmp 15), none⟩,
  ⟨some 17, .arith .eql (.tmp 16) (.cst (.int .u8 46)), none⟩,
  ⟨some 18, .mov (.tmp 17), none⟩,
  ⟨some 19, .mov (.tmp 0), some (18, false)⟩,
  ⟨some 20, .mov (.tmp 1), some (18, false)⟩,
  ⟨some 21, .idxs (.tmp 19) (.tmp 20), some (18, false)⟩,
  ⟨some 22, .call .pur 356 [(.tmp 21)], some (18, false)⟩,
  ⟨some 23, .pick (.tmp 18) (.cst (.bool true)) (.tmp 22), none⟩,
  ⟨some 13, .mov (.tmp 23), none⟩] :: K) fr S := rfl
def ref07_atom_r4 : List POper := [
  ⟨some 24, .mov (.tmp 1), none⟩,
  ⟨some 25, .arith .add (.tmp 24) (.cst (.int .i64 1)), none⟩,
  ⟨some 4, .mov (.tmp 25), none⟩]
@[simp] theorem ref07_atom_r4_go (T : Tbl) (K : List Kt) (fr : Fr) (S : St) : gval T (.ops ref07_atom_r4 :: K) fr S = gval T (.ops [
  ⟨some 24, .mov (.tmp 1), none⟩,
  ⟨some 25, .arith .add (.tmp 24) (.cst (.int .i64 1)), none⟩,
  ⟨some 4, .mov (.tmp 25), none⟩] :: K) fr S := rfl
def ref07_atom_r5 : List POper := [
  ⟨some 27, .mov (.tmp 0), none⟩,
  ⟨some 28, .mov (.tmp 1), none⟩,
  ⟨some 29, .idxs (.tmp 27) (.tmp 28), none⟩,
  ⟨some 30, .arith .eql (.tmp 29) (.cst (.int .u8 92)), none⟩,
  ⟨some 31, .mov (.tmp 30), none⟩,
  ⟨some 32, .mov (.tmp 1), some (31, true)⟩,
  ⟨some 33, .arith .add (.tmp 32) (.cst (.int .i64 1)), some (31, true)⟩,
  ⟨some 34, .mov (.tmp 0), some (31, true)⟩,
  ⟨some 35, .len true (.tmp 34), some (31, true)⟩,
  ⟨some 36, .arith .lss (.tmp 33) (.tmp 35), some (31, true)⟩,
  ⟨some 37, .pick (.tmp 31) (.tmp 36) (.cst (.bool false)), none⟩,
  ⟨some 38, .mov (.tmp 37), none⟩,
  ⟨some 39, .mov (.tmp 0), some (38, true)⟩,
  ⟨some 40, .mov (.tmp 1), some (38, true)⟩,
  ⟨some 41, .arith .add (.tmp 40) (.cst (.int .i64 1)), some (38, true)⟩,
  ⟨some 42, .idxs (.tmp 39) (.tmp 41), some (38, true)⟩,
  ⟨some 43, .call .pur 356 [(.tmp 42)], some (38, true)⟩,
  ⟨some 44, .un .not (.tmp 43), some (38, true)⟩,
  ⟨some 45, .pick (.tmp 38) (.tmp 44) (.cst (.bool false)), none⟩,
  ⟨some 26, .mov (.tmp 45), none⟩]
@[simp] theorem ref07_atom_r5_go (T : Tbl) (K : List Kt) (fr : Fr) (S : St) : gval T (.ops ref07_atom_r5 :: K) fr S = gval T (.ops [
  ⟨some 27, .mov (.tmp 0), none⟩,
  ⟨some 28, .mov (.tmp 1), none⟩,
  ⟨some 29, .idxs (.tmp 27) (.tmp 28), none⟩,
  ⟨some 30, .arith .eql (.tmp 29) (.cst (.int .u8 92)), none⟩,
  ⟨some 31, .mov (.tmp 30), none⟩,
  ⟨some 32, .mov (.tmp 1), some (31, true)⟩,
  ⟨some 33, .arith .add (.tmp 32) (.cst (.int .i64 1)), some (31, true)⟩,
  ⟨some 34, .mov (.tmp 0), some (31, true)⟩,
  ⟨some 35, .len true (.tmp 34), some (31, true)⟩,
  ⟨some 36, .arith .lss (.tmp 33) (.tmp 35), some (31, true)⟩,
  ⟨some 37, .pick (.tmp 31) (.tmp 36) (.cst (.bool false)), none⟩,
  ⟨some 38, .mov (.tmp 37), none⟩,
  ⟨some 39, .mov (.tmp 0), some (38, true)⟩,
  ⟨some 40, .mov (.tmp 1), some (38, true)⟩,
  ⟨some 41, .arith .add (.tmp 40) (.cst (.int .i64 1)), some (38, true)⟩,
  ⟨some 42, .idxs (.tmp 39) (.tmp 41), some (38, true)⟩,
  ⟨some 43, .call .pur 356 [(.tmp 42)], some (38, true)⟩,
  ⟨some 44, .un .not (.tmp 43), some (38, true)⟩,
  ⟨some 45, .pick (.tmp 38) (.tmp 44) (.cst (.bool false)), none⟩,
  ⟨some 26, .mov (.tmp 45), none⟩] :: K) fr S := rfl
def ref07_atom_r6 : List POper := [
  ⟨some 46, .mov (.tmp 1), none⟩,
  ⟨some 47, .arith .add (.tmp 46) (.cst (.int .i64 2)), none⟩,
  ⟨some 4, .mov (.tmp 47), none⟩]
@[simp] theorem ref07_atom_r6_go (T : Tbl) (K : List Kt) (fr : Fr) (S : St) : gval T (.ops ref07_atom_r6 :: K) fr S = gval T (.ops [
  ⟨some 46, .mov (.tmp 1), none⟩,
  ⟨some 47, .arith .add (.tmp 46) (.cst (.int .i64 2)), none⟩,
  ⟨some 4, .mov (.tmp 47), none⟩] :: K) fr S := rfl
def ref07_atom_r7 : List POper := [
  ⟨some 49, .mov (.tmp 0), none⟩,
  ⟨some 50, .mov (.tmp 1), none⟩,
  ⟨some 51, .idxs (.tmp 49) (.tmp 50), none⟩,
  ⟨some 52, .arith .eql (.tmp 51) (.cst (.int .u8 91)), none⟩,
  ⟨some 48, .mov (.tmp 52), none⟩]
@[simp] theorem ref07_atom_r7_go (T : Tbl) (K : List Kt) (fr : Fr) (S : St) : gval T (.ops ref07_atom_r7 :: K) fr S = gval T (.ops [
  ⟨some 49, .mov (.tmp 0), none⟩,
  ⟨some 50, .mov (.tmp 1), none⟩,
  ⟨some 51, .idxs (.tmp 49) (.tmp 50), none⟩,
  ⟨some 52, .arith .eql (.tmp 51) (.cst (.int .u8 91)), none⟩,
  ⟨some 48, .mov (.tmp 52), none⟩] :: K) fr S := rfl
def ref07_atom_r8 : List POper := [
  ⟨some 54, .mov (.tmp 0), none⟩,
  ⟨some 55, .mov (.tmp 1), none⟩,
  ⟨some 56, .call .pur 305 [(.tmp 54), (.tmp 55), (.cst (.int .u8 0))], none⟩,
  ⟨some 53, .mov (.tmp 56), none⟩,
  ⟨some 57, .extract 0 (.tmp 53), none⟩,
  ⟨some 58, .extract 1 (.tmp 53), none⟩,
  ⟨some 5, .mov (.tmp 57), none⟩,
  ⟨some 6, .mov (.tmp 58), none⟩]
@[simp] theorem ref07_atom_r8_go (T : Tbl) (K : List Kt) (fr : Fr) (S : St) : gval T (.ops ref07_atom_r8 :: K) fr S = gval T (.ops [
  ⟨some 54, .mov (.tmp 0), none⟩,
  ⟨some 55, .mov (.tmp 1), none⟩,
  ⟨some 56, .call .pur 305 [(.tmp 54), (.tmp 55), (.cst (.int .u8 0))], none⟩,
  ⟨some 53, .mov (.tmp 56), none⟩,
  ⟨some 57, .extract 0 (.tmp 53), none⟩,
  ⟨some 58, .extract 1 (.tmp 53), none⟩,
  ⟨some 5, .mov (.tmp 57), none⟩,
  ⟨some 6, .mov (.tmp 58), none⟩] :: K) fr S := rfl
def ref07_atom_r9 : List POper := [
  ⟨some 59, .mov (.tmp 5), none⟩,
  ⟨some 4, .mov (.tmp 59), none⟩]
@[simp] theorem ref07_atom_r9_go (T : Tbl) (K : List Kt) (fr : Fr) (S : St) : gval T (.ops ref07_atom_r9 :: K) fr S = gval T (.ops [
  ⟨some 59, .mov (.tmp 5), none⟩,
  ⟨some 4, .mov (.tmp 59), none⟩] :: K) fr S := rfl
def ref07_atom_r10 : List POper := [
  ⟨some 61, .mov (.tmp 0), none⟩,
  ⟨some 62, .mov (.tmp 1), none⟩,
  ⟨some 63, .idxs (.tmp 61) (.tmp 62), none⟩,
  ⟨some 64, .arith .eql (.tmp 63) (.cst (.int .u8 40)), none⟩,
  ⟨some 60, .mov (.tmp 64), none⟩]
@[simp] theorem ref07_atom_r10_go (T : Tbl) (K : List Kt) (fr : Fr) (S : St) : gval T (.ops ref07_atom_r10 :: K) fr S = gval T (.ops [
  ⟨some 61, .mov (.tmp 0), none⟩,
  ⟨some 62, .mov (.tmp 1), none⟩,
  ⟨some 63, .idxs (.tmp 61) (.tmp 62), none⟩,
  ⟨some 64, .arith .eql (.tmp 63) (.cst (.int .u8 40)), none⟩,
  ⟨some 60, .mov (.tmp 64), none⟩] :: K) fr S := rfl
def ref07_atom_r11 : List POper := [
  ⟨some 65, .mov (.tmp 0), none⟩,
  ⟨some 66, .mov (.tmp 1), none⟩,
  ⟨some 67, .call .pur 357 [(.tmp 65), (.tmp 66)], none⟩,
  ⟨some 7, .mov (.tmp 67), none⟩]
@[simp] theorem ref07_atom_r11_go (T : Tbl) (K : List Kt) (fr : Fr) (S : St) : gval T (.ops ref07_atom_r11 :: K) fr S = gval T (.ops [
  ⟨some 65, .mov (.tmp 0), none⟩,
  ⟨some 66, .mov (.tmp 1), none⟩,
  ⟨some 67, .call .pur 357 [(.tmp 65), (.tmp 66)], none⟩,
  ⟨some 7, .mov (.tmp 67), none⟩] :: K) fr S := rfl
def ref07_atom_r12 : List POper := [
  ⟨some 68, .mov (.tmp 7), none⟩,
  ⟨some 69, .arith .lss (.tmp 68) (.cst (.int .i64 0)), none⟩,
  ⟨some 70, .mov (.tmp 69), none⟩,
  ⟨some 71, .mov (.tmp 0), some (70, false)⟩,
  ⟨some 72, .mov (.tmp 1), some (70, false)⟩,
  ⟨some 73, .arith .add (.tmp 72) (.cst (.int .i64 1)), some (70, false)⟩,
  ⟨some 74, .mov (.tmp 7), some (70, false)⟩,
  ⟨some 75, .slcs (some (.tmp 73)) (some (.tmp 74)) (.tmp 71), some (70, false)⟩,
  ⟨some 76, .call .pur 223 [(.tmp 75)], some (70, false)⟩,
  ⟨some 77, .un .not (.tmp 76), some (70, false)⟩,
  ⟨some 78, .pick (.tmp 70) (.cst (.bool true)) (.tmp 77), none⟩]
@[simp] theorem ref07_atom_r12_go (T : Tbl) (K : List Kt) (fr : Fr) (S : St) : gval T (.ops ref07_atom_r12 :: K) fr S = gval T (.ops [
  ⟨some 68, .mov (.tmp 7), none⟩,
  ⟨some 69, .arith .lss (.tmp 68) (.cst (.int .i64 0)), none⟩,
  ⟨some 70, .mov (.tmp 69), none⟩,
  ⟨some 71, .mov (.tmp 0), some (70, false)⟩,
  ⟨some 72, .mov (.tmp 1), some (70, false)⟩,
  ⟨some 73, .arith .add (.tmp 72) (.cst (.int .i64 1)), some (70, false)⟩,
  ⟨some 74, .mov (.tmp 7), some (70, false)⟩,
  ⟨some 75, .slcs (some (.tmp 73)) (some (.tmp 74)) (.tmp 71), some (70, false)⟩,
  ⟨some 76, .call .pur 223 [(.tmp 75)], some (70, false)⟩,
  ⟨some 77, .un .not (.tmp 76), some (70, false)⟩,
  ⟨some 78, .pick (.tmp 70) (.cst (.bool true)) (.tmp 77), none⟩] :: K) fr S := rfl
def ref07_atom_r13 : List POper := [
  ⟨some 4, .mov (.cst (.int .i64 0)), none⟩]
@[simp] theorem ref07_atom_r13_go (T : Tbl) (K : List Kt) (fr : Fr) (S : St) : gval T (.ops ref07_atom_r13 :: K) fr S = gval T (.ops [
  ⟨some 4, .mov (.cst (.int .i64 0)), none⟩] :: K) fr S := rfl
def ref07_atom_r14 : List POper := [
  ⟨some 79, .mov (.tmp 7), none⟩,
  ⟨some 80, .arith .add (.tmp 79) (.cst (.int .i64 1)), none⟩,
  ⟨some 4, .mov (.tmp 80), none⟩]
@[simp] theorem ref07_atom_r14_go (T : Tbl) (K : List Kt) (fr : Fr) (S : St) : gval T (.ops ref07_atom_r14 :: K) fr S = gval T (.ops [
  ⟨some 79, .mov (.tmp 7), none⟩,
  ⟨some 80, .arith .add (.tmp 79) (.cst (.int .i64 1)), none⟩,
  ⟨some 4, .mov (.tmp 80), none⟩] :: K) fr S := rfl
def ref07_atom_r15 : List POper := [
  ⟨some 4, .mov (.cst (.int .i64 0)), none⟩]
@[simp] theorem ref07_atom_r15_go (T : Tbl) (K : List Kt) (fr : Fr) (S : St) : gval T (.ops ref07_atom_r15 :: K) fr S = gval T (.ops [
  ⟨some 4, .mov (.cst (.int .i64 0)), none⟩] :: K) fr S := rfl
def ref07_atom : PCodeFn :=
  ⟨2, [.tmp 4],
  (.seq (.region ref07_atom_r0) (.seq (.block 0 (.seq (.clr [(9, 13)] (.region ref07_atom_r1)) (.cond (.tmp 8) (.seq (.region ref07_atom_r2) .ret) (.seq (.clr [(14, 24)] (.region ref07_atom_r3)) (.cond (.tmp 13) (.seq (.clr [(24, 26)] (.region ref07_atom_r4)) .ret) (.seq (.clr [(27, 46)] (.region ref07_atom_r5)) (.cond (.tmp 26) (.seq (.clr [(46, 48)] (.region ref07_atom_r6)) .ret) (.seq (.clr [(49, 53)] (.region ref07_atom_r7)) (.cond (.tmp 48) (.seq (.clr [(6, 7), (53, 59)] (.region ref07_atom_r8)) (.seq (.clr [(59, 60)] (.region ref07_atom_r9)) .ret)) (.seq (.clr [(61, 65)] (.region ref07_atom_r10)) (.cond (.tmp 60) (.seq (.clr [(65, 68)] (.region ref07_atom_r11)) (.seq (.seq (.clr [(68, 78)] (.region ref07_atom_r12)) (.cond (.tmp 78) (.seq (.region ref07_atom_r13) .ret) .skip)) (.seq (.clr [(79, 81)] (.region ref07_atom_r14)) .ret))) .skip))))))))))) (.seq (.region ref07_atom_r15) .ret))), false⟩

/-! gauge/gaugeref07.item: 355 -/
def ref07_item_r0 : List POper := [
  ⟨some 2, .mov (.cst (.bool false)), none⟩]
@[simp] theorem ref07_item_r0_go (T : Tbl) (K : List Kt) (fr : Fr) (S : St) : gval T (.ops ref07_item_r0 :: K) fr S = gval T (.ops [
  ⟨some 2, .mov (.cst (.bool false)), none⟩] :: K) fr S := rfl
def ref07_item_r1 : List POper := [
  ⟨some 3, .mov (.tmp 0), none⟩,
  ⟨some 4, .arith .neq (.tmp 3) (.cst (.int .u8 92)), none⟩,
  ⟨some 5, .mov (.tmp 4), none⟩,
  ⟨some 6, .mov (.tmp 0), some (5, true)⟩,
  ⟨some 7, .arith .neq (.tmp 6) (.cst (.int .u8 91)), some (5, true)⟩,
  ⟨some 8, .pick (.tmp 5) (.tmp 7) (.cst (.bool false)), none⟩,
  ⟨some 9, .mov (.tmp 8), none⟩,
  ⟨some 10, .mov (.tmp 0), some (9, true)⟩,
  ⟨some 11, .arith .neq (.tmp 10) (.cst (.int .u8 93)), some (9, true)⟩,
  ⟨some 12, .pick (.tmp 9) (.tmp 11) (.cst (.bool false)), none⟩,
  ⟨some 13, .mov (.tmp 12), none⟩,
  ⟨some 14, .mov (.tmp 0), some (13, true)⟩,
  ⟨some 15, .arith .neq (.tmp 14) (.cst (.int .u8 94)), some (13, true)⟩,
  ⟨some 16, .pick (.tmp 13) (.tmp 15) (.cst (.bool false)), none⟩,
  ⟨some 17, .mov (.tmp 16), none⟩,
  ⟨some 18, .mov (.tmp 0), some (17, true)⟩,
  ⟨some 19, .arith .neq (.tmp 18) (.cst (.int .u8 45)), some (17, true)⟩,
  ⟨some 20, .pick (.tmp 17) (.tmp 19) (.cst (.bool false)), none⟩,
  ⟨some 2, .mov (.tmp 20), none⟩]
@[simp] theorem ref07_item_r1_go (T : Tbl) (K : List Kt) (fr : Fr) (S : St) : gval T (.ops ref07_item_r1 :: K) fr S = gval T (.ops [
  ⟨some 3, .mov (.tmp 0), none⟩,
  ⟨some 4, .arith .neq (.tmp 3) (.cst (.int .u8 92)), none⟩,
  ⟨some 5, .mov (.tmp 4), none⟩,
  ⟨some 6, .mov (.tmp 0), some (5, true)⟩,
  ⟨some 7, .arith .neq (.tmp 6) (.cst (.int .u8 91)), some (5, true)⟩,
  ⟨some 8, .pick (.tmp 5) (.tmp 7) (.cst (.bool false)), none⟩,
  ⟨some 9, .mov (.tmp 8), none⟩,
  ⟨some 10, .mov (.tmp 0), some (9, true)⟩,
  ⟨some 11, .arith .neq (.tmp 10) (.cst (.int .u8 93)), some (9, true)⟩,
  ⟨some 12, .pick (.tmp 9) (.tmp 11) (.cst (.bool false)), none⟩,
  ⟨some 13, .mov (.tmp 12), none⟩,
  ⟨some 14, .mov (.tmp 0), some (13, true)⟩,
  ⟨some 15, .arith .neq (.tmp 14) (.cst (.int .u8 94)), some (13, true)⟩,
  ⟨some 16, .pick (.tmp 13) (.tmp 15) (.cst (.bool false)), none⟩,
  ⟨some 17, .mov (.tmp 16), none⟩,
  ⟨some 18, .mov (.tmp 0), some (17, true)⟩,
  ⟨some 19, .arith .neq (.tmp 18) (.cst (.int .u8 45)), some (17, true)⟩,
  ⟨some 20, .pick (.tmp 17) (.tmp 19) (.cst (.bool false)), none⟩,
  ⟨some 2, .mov (.tmp 20), none⟩] :: K) fr S := rfl
def ref07_item : PCodeFn :=
  ⟨1, [.tmp 2],
  (.seq (.region ref07_item_r0) (.seq (.clr [(3, 21)] (.region ref07_item_r1)) .ret)), false⟩

/-! gauge/gaugeref07.piece: 307 -/
def ref07_piece_r0 : List POper := [
  ⟨some 8, .mov (.cst .nils), none⟩]
@[simp] theorem ref07_piece_r0_go (T : Tbl) (K : List Kt) (fr : Fr) (S : St) : gval T (.ops ref07_piece_r0 :: K) fr S = gval T (.ops [
  ⟨some 8, .mov (.cst .nils), none⟩] :: K) fr S := rfl
def ref07_piece_r1 : List POper := [
  ⟨some 12, .mov (.tmp 0), none⟩,
  ⟨some 13, .mov (.tmp 2), none⟩,
  ⟨some 14, .mov (.tmp 3), none⟩,
  ⟨some 15, .call .std 358 [(.tmp 12), (.tmp 13), (.tmp 14)], none⟩,
  ⟨some 9, .mov (.tmp 15), none⟩]
@[simp] theorem ref07_piece_r1_go (T : Tbl) (K : List Kt) (fr : Fr) (S : St) : gval T (.ops ref07_piece_r1 :: K) fr S = gval T (.ops [
  ⟨some 12, .mov (.tmp 0), none⟩,
  ⟨some 13, .mov (.tmp 2), none⟩,
  ⟨some 14, .mov (.tmp 3), none⟩,
  ⟨some 15, .call .std 358 [(.tmp 12), (.tmp 13), (.tmp 14)], none⟩,
  ⟨some 9, .mov (.tmp 15), none⟩] :: K) fr S := rfl
def ref07_piece_r2 : List POper := [
  ⟨some 16, .mov (.tmp 1), none⟩,
  ⟨some 17, .arith .eql (.tmp 16) (.cst (.int .u8 42)), none⟩,
  ⟨some 18, .mov (.tmp 17), none⟩,
  ⟨some 19, .mov (.tmp 1), some (18, false)⟩,
  ⟨some 20, .arith .eql (.tmp 19) (.cst (.int .u8 43)), some (18, false)⟩,
  ⟨some 21, .pick (.tmp 18) (.cst (.bool true)) (.tmp 20), none⟩]
@[simp] theorem ref07_piece_r2_go (T : Tbl) (K : List Kt) (fr : Fr) (S : St) : gval T (.ops ref07_piece_r2 :: K) fr S = gval T (.ops [
  ⟨some 16, .mov (.tmp 1), none⟩,
  ⟨some 17, .arith .eql (.tmp 16) (.cst (.int .u8 42)), none⟩,
  ⟨some 18, .mov (.tmp 17), none⟩,
  ⟨some 19, .mov (.tmp 1), some (18, false)⟩,
  ⟨some 20, .arith .eql (.tmp 19) (.cst (.int .u8 43)), some (18, false)⟩,
  ⟨some 21, .pick (.tmp 18) (.cst (.bool true)) (.tmp 20), none⟩] :: K) fr S := rfl
def ref07_piece_r3 : List POper := [
  ⟨some 10, .mov (.cst (.int .i64 0)), none⟩]
@[simp] theorem ref07_piece_r3_go (T : Tbl) (K : List Kt) (fr : Fr) (S : St) : gval T (.ops ref07_piece_r3 :: K) fr S = gval T (.ops [
  ⟨some 10, .mov (.cst (.int .i64 0)), none⟩] :: K) fr S := rfl
def ref07_piece_r4 : List POper := [
  ⟨some 22, .mov (.tmp 10), none⟩,
  ⟨some 23, .mov (.tmp 2), none⟩,
  ⟨some 24, .len true (.tmp 23), none⟩,
  ⟨some 25, .arith .lss (.tmp 22) (.tmp 24), none⟩]
@[simp] theorem ref07_piece_r4_go (T : Tbl) (K : List Kt) (fr : Fr) (S : St) : gval T (.ops ref07_piece_r4 :: K) fr S = gval T (.ops [
  ⟨some 22, .mov (.tmp 10), none⟩,
  ⟨some 23, .mov (.tmp 2), none⟩,
  ⟨some 24, .len true (.tmp 23), none⟩,
  ⟨some 25, .arith .lss (.tmp 22) (.tmp 24), none⟩] :: K) fr S := rfl
def ref07_piece_r6 : List POper := [
  ⟨some 28, .mov (.tmp 9), none⟩,
  ⟨some 29, .mov (.tmp 0), none⟩,
  ⟨some 30, .mov (.tmp 2), none⟩,
  ⟨some 31, .mov (.tmp 9), none⟩,
  ⟨some 32, .call .std 358 [(.tmp 29), (.tmp 30), (.tmp 31)], none⟩,
  ⟨some 33, .call .std 226 [(.tmp 28), (.tmp 32)], none⟩,
  ⟨some 11, .mov (.tmp 33), none⟩]
@[simp] theorem ref07_piece_r6_go (T : Tbl) (K : List Kt) (fr : Fr) (S : St) : gval T (.ops ref07_piece_r6 :: K) fr S = gval T (.ops [
  ⟨some 28, .mov (.tmp 9), none⟩,
  ⟨some 29, .mov (.tmp 0), none⟩,
  ⟨some 30, .mov (.tmp 2), none⟩,
  ⟨some 31, .mov (.tmp 9), none⟩,
  ⟨some 32, .call .std 358 [(.tmp 29), (.tmp 30), (.tmp 31)], none⟩,
  ⟨some 33, .call .std 226 [(.tmp 28), (.tmp 32)], none⟩,
  ⟨some 11, .mov (.tmp 33), none⟩] :: K) fr S := rfl
def ref07_piece_r7 : List POper := [
  ⟨some 34, .mov (.tmp 11), none⟩,
  ⟨some 35, .len false (.tmp 34), none⟩,
  ⟨some 36, .mov (.tmp 9), none⟩,
  ⟨some 37, .len false (.tmp 36), none⟩,
  ⟨some 38, .arith .eql (.tmp 35) (.tmp 37), none⟩]
@[simp] theorem ref07_piece_r7_go (T : Tbl) (K : List Kt) (fr : Fr) (S : St) : gval T (.ops ref07_piece_r7 :: K) fr S = gval T (.ops [
  ⟨some 34, .mov (.tmp 11), none⟩,
  ⟨some 35, .len false (.tmp 34), none⟩,
  ⟨some 36, .mov (.tmp 9), none⟩,
  ⟨some 37, .len false (.tmp 36), none⟩,
  ⟨some 38, .arith .eql (.tmp 35) (.tmp 37), none⟩] :: K) fr S := rfl
def ref07_piece_r8 : List POper := [
  ⟨some 39, .mov (.tmp 11), none⟩,
  ⟨some 9, .mov (.tmp 39), none⟩]
@[simp] theorem ref07_piece_r8_go (T : Tbl) (K : List Kt) (fr : Fr) (S : St) : gval T (.ops ref07_piece_r8 :: K) fr S = gval T (.ops [
  ⟨some 39, .mov (.tmp 11), none⟩,
  ⟨some 9, .mov (.tmp 39), none⟩] :: K) fr S := rfl
def ref07_piece_r5 : List POper := [
  ⟨some 26, .mov (.tmp 10), none⟩,
  ⟨some 27, .arith .add (.tmp 26) (.cst (.int .i64 1)), none⟩,
  ⟨some 10, .mov (.tmp 27), none⟩]
@[simp] theorem ref07_piece_r5_go (T : Tbl) (K : List Kt) (fr : Fr) (S : St) : gval T (.ops ref07_piece_r5 :: K) fr S = gval T (.ops [
  ⟨some 26, .mov (.tmp 10), none⟩,
  ⟨some 27, .arith .add (.tmp 26) (.cst (.int .i64 1)), none⟩,
  ⟨some 10, .mov (.tmp 27), none⟩] :: K) fr S := rfl
def ref07_piece_l0 : PCode :=
  (.seq (.seq (.clr [(22, 25)] (.region ref07_piece_r4)) (.cond (.tmp 25) .skip (.exit 0))) (.seq (.block 1 (.seq (.clr [(28, 34)] (.region ref07_piece_r6)) (.seq (.seq (.clr [(34, 38)] (.region ref07_piece_r7)) (.cond (.tmp 38) (.exit 0) .skip)) (.clr [(39, 40)] (.region ref07_piece_r8))))) (.clr [(26, 28)] (.region ref07_piece_r5))))
@[simp] theorem ref07_piece_l0_go (T : Tbl) (K : List Kt) (fr : Fr) (S : St) : gval T (.code ref07_piece_l0 :: K) fr S = gval T (.code (.seq (.seq (.clr [(22, 25)] (.region ref07_piece_r4)) (.cond (.tmp 25) .skip (.exit 0))) (.seq (.block 1 (.seq (.clr [(28, 34)] (.region ref07_piece_r6)) (.seq (.seq (.clr [(34, 38)] (.region ref07_piece_r7)) (.cond (.tmp 38) (.exit 0) .skip)) (.clr [(39, 40)] (.region ref07_piece_r8))))) (.clr [(26, 28)] (.region ref07_piece_r5)))) :: K) fr S := rfl
def ref07_piece_r9 : List POper := [
  ⟨some 40, .mov (.tmp 1), none⟩,
  ⟨some 41, .arith .eql (.tmp 40) (.cst (.int .u8 42)), none⟩,
  ⟨some 42, .mov (.tmp 41), none⟩,
  ⟨some 43, .mov (.tmp 1), some (42, false)⟩,
  ⟨some 44, .arith .eql (.tmp 43) (.cst (.int .u8 63)), some (42, false)⟩,
  ⟨some 45, .pick (.tmp 42) (.cst (.bool true)) (.tmp 44), none⟩]
@[simp] theorem ref07_piece_r9_go (T : Tbl) (K : List Kt) (fr : Fr) (S : St) : gval T (.ops ref07_piece_r9 :: K) fr S = gval T (.ops [
  ⟨some 40, .mov (.tmp 1), none⟩,
  ⟨some 41, .arith .eql (.tmp 40) (.cst (.int .u8 42)), none⟩,
  ⟨some 42, .mov (.tmp 41), none⟩,
  ⟨some 43, .mov (.tmp 1), some (42, false)⟩,
  ⟨some 44, .arith .eql (.tmp 43) (.cst (.int .u8 63)), some (42, false)⟩,
  ⟨some 45, .pick (.tmp 42) (.cst (.bool true)) (.tmp 44), none⟩] :: K) fr S := rfl
def ref07_piece_r10 : List POper := [
  ⟨some 46, .mov (.tmp 9), none⟩,
  ⟨some 47, .mov (.tmp 3), none⟩,
  ⟨some 48, .call .std 226 [(.tmp 46), (.tmp 47)], none⟩,
  ⟨some 9, .mov (.tmp 48), none⟩]
@[simp] theorem ref07_piece_r10_go (T : Tbl) (K : List Kt) (fr : Fr) (S : St) : gval T (.ops ref07_piece_r10 :: K) fr S = gval T (.ops [
  ⟨some 46, .mov (.tmp 9), none⟩,
  ⟨some 47, .mov (.tmp 3), none⟩,
  ⟨some 48, .call .std 226 [(.tmp 46), (.tmp 47)], none⟩,
  ⟨some 9, .mov (.tmp 48), none⟩] :: K) fr S := rfl
def ref07_piece_r11 : List POper := [
  ⟨some 49, .mov (.tmp 9), none⟩,
  ⟨some 8, .mov (.tmp 49), none⟩]
@[simp] theorem ref07_piece_r11_go (T : Tbl) (K : List Kt) (fr : Fr) (S : St) : gval T (.ops ref07_piece_r11 :: K) fr S = gval T (.ops [
  ⟨some 49, .mov (.tmp 9), none⟩,
  ⟨some 8, .mov (.tmp 49), none⟩] :: K) fr S := rfl
def ref07_piece : PCodeFn :=
  ⟨4, [.tmp 8],
  (.seq (.region ref07_piece_r0) (.seq (.clr [(12, 16)] (.region ref07_piece_r1)) (.seq (.seq (.clr [(16, 21)] (.region ref07_piece_r2)) (.cond (.tmp 21) (.seq (.region ref07_piece_r3) (.block 0 (.loop ref07_piece_l0))) .skip)) (.seq (.seq (.clr [(40, 45)] (.region ref07_piece_r9)) (.cond (.tmp 45) (.clr [(46, 49)] (.region ref07_piece_r10)) .skip)) (.seq (.clr [(49, 50)] (.region ref07_piece_r11)) .ret))))), false⟩

/-! internal/stringslite.IndexByte: 299 -/
def stringslite_IndexByte_r0 : List POper := [
  ⟨some 4, .mov (.cst (.int .i64 0)), none⟩]
@[simp] theorem stringslite_IndexByte_r0_go (T : Tbl) (K : List Kt) (fr : Fr) (S : St) : gval T (.ops stringslite_IndexByte_r0 :: K) fr S = gval T (.ops [
  ⟨some 4, .mov (.cst (.int .i64 0)), none⟩] :: K) fr S := rfl
def stringslite_IndexByte_r1 : List POper := [
  ⟨some 5, .mov (.tmp 0), none⟩,
  ⟨some 6, .mov (.tmp 1), none⟩,
  ⟨some 7, .call .pur 351 [(.tmp 5), (.tmp 6)], none⟩,
  ⟨some 4, .mov (.tmp 7), none⟩]
@[simp] theorem stringslite_IndexByte_r1_go (T : Tbl) (K : List Kt) (fr : Fr) (S : St) : gval T (.ops stringslite_IndexByte_r1 :: K) fr S = gval T (.ops [
  ⟨some 5, .mov (.tmp 0), none⟩,
  ⟨some 6, .mov (.tmp 1), none⟩,
  ⟨some 7, .call .pur 351 [(.tmp 5), (.tmp 6)], none⟩,
  ⟨some 4, .mov (.tmp 7), none⟩] :: K) fr S := rfl
def stringslite_IndexByte : PCodeFn :=
  ⟨2, [.tmp 4],
  (.seq (.region stringslite_IndexByte_r0) (.seq (.clr [(5, 8)] (.region stringslite_IndexByte_r1)) .ret)), false⟩

/-! (*gauge/regex.reader).atom: 354 -/
def regex_reader_atom_r0 : List POper := [
  ⟨some 2, .mov (.cst .nili), none⟩]
@[simp] theorem regex_reader_atom_r0_go (T : Tbl) (K : List Kt) (fr : Fr) (S : St) : gval T (.ops regex_reader_atom_r0 :: K) fr S = gval T (.ops [
  ⟨some 2, .mov (.cst .nili), none⟩] :: K) fr S := rfl
def regex_reader_atom_r1 : List POper := [
  ⟨some 8, .mov (.tmp 0), none⟩,
  ⟨some 9, .call .std 304 [(.tmp 8)], none⟩,
  ⟨some 3, .mov (.tmp 9), none⟩]
@[simp] theorem regex_reader_atom_r1_go (T : Tbl) (K : List Kt) (fr : Fr) (S : St) : gval T (.ops regex_reader_atom_r1 :: K) fr S = gval T (.ops [
  ⟨some 8, .mov (.tmp 0), none⟩,
  ⟨some 9, .call .std 304 [(.tmp 8)], none⟩,
  ⟨some 3, .mov (.tmp 9), none⟩] :: K) fr S := rfl
def regex_reader_atom_r2 : List POper := [
  ⟨some 11, .mov (.tmp 3), none⟩,
  ⟨some 12, .call .pur 390 [(.tmp 11)], none⟩,
  ⟨some 10, .mov (.tmp 12), none⟩]
@[simp] theorem regex_reader_atom_r2_go (T : Tbl) (K : List Kt) (fr : Fr) (S : St) : gval T (.ops regex_reader_atom_r2 :: K) fr S = gval T (.ops [
  ⟨some 11, .mov (.tmp 3), none⟩,
  ⟨some 12, .call .pur 390 [(.tmp 11)], none⟩,
  ⟨some 10, .mov (.tmp 12), none⟩] :: K) fr S := rfl
def regex_reader_atom_r3 : List POper := [
  ⟨some 13, .mov (.tmp 3), none⟩,
  ⟨some 14, .call .pur 391 [(.tmp 13)], none⟩,
  ⟨some 2, .mov (.tmp 14), none⟩]
@[simp] theorem regex_reader_atom_r3_go (T : Tbl) (K : List Kt) (fr : Fr) (S : St) : gval T (.ops regex_reader_atom_r3 :: K) fr S = gval T (.ops [
  ⟨some 13, .mov (.tmp 3), none⟩,
  ⟨some 14, .call .pur 391 [(.tmp 13)], none⟩,
  ⟨some 2, .mov (.tmp 14), none⟩] :: K) fr S := rfl
def regex_reader_atom_r4 : List POper := [
  ⟨some 16, .mov (.tmp 3), none⟩,
  ⟨some 17, .arith .eql (.tmp 16) (.cst (.int .u8 46)), none⟩,
  ⟨some 15, .mov (.tmp 17), none⟩]
@[simp] theorem regex_reader_atom_r4_go (T : Tbl) (K : List Kt) (fr : Fr) (S : St) : gval T (.ops regex_reader_atom_r4 :: K) fr S = gval T (.ops [
  ⟨some 16, .mov (.tmp 3), none⟩,
  ⟨some 17, .arith .eql (.tmp 16) (.cst (.int .u8 46)), none⟩,
  ⟨some 15, .mov (.tmp 17), none⟩] :: K) fr S := rfl
def regex_reader_atom_r5 : List POper := [
  ⟨some 18, .build (List.replicate 256 (.bool false)) [], none⟩,
  ⟨some 19, .box false (.tmp 18), none⟩,
  ⟨some 4, .mov (.tmp 19), none⟩]
@[simp] theorem regex_reader_atom_r5_go (T : Tbl) (K : List Kt) (fr : Fr) (S : St) : gval T (.ops regex_reader_atom_r5 :: K) fr S = gval T (.ops [
  ⟨some 18, .build (List.replicate 256 (.bool false)) [], none⟩,
  ⟨some 19, .box false (.tmp 18), none⟩,
  ⟨some 4, .mov (.tmp 19), none⟩] :: K) fr S := rfl
def regex_reader_atom_r6 : List POper := [
  ⟨some 20, .mov (.cst (.int .i64 0)), none⟩]
@[simp] theorem regex_reader_atom_r6_go (T : Tbl) (K : List Kt) (fr : Fr) (S : St) : gval T (.ops regex_reader_atom_r6 :: K) fr S = gval T (.ops [
  ⟨some 20, .mov (.cst (.int .i64 0)), none⟩] :: K) fr S := rfl
def regex_reader_atom_r7 : List POper := [
  ⟨some 21, .arith .lss (.tmp 20) (.cst (.int .i64 256)), none⟩]
@[simp] theorem regex_reader_atom_r7_go (T : Tbl) (K : List Kt) (fr : Fr) (S : St) : gval T (.ops regex_reader_atom_r7 :: K) fr S = gval T (.ops [
  ⟨some 21, .arith .lss (.tmp 20) (.cst (.int .i64 256)), none⟩] :: K) fr S := rfl
def regex_reader_atom_r8 : List POper := [
  ⟨some 22, .mov (.tmp 20), none⟩,
  ⟨some 5, .mov (.tmp 22), none⟩]
@[simp] theorem regex_reader_atom_r8_go (T : Tbl) (K : List Kt) (fr : Fr) (S : St) : gval T (.ops regex_reader_atom_r8 :: K) fr S = gval T (.ops [
  ⟨some 22, .mov (.tmp 20), none⟩,
  ⟨some 5, .mov (.tmp 22), none⟩] :: K) fr S := rfl
def regex_reader_atom_r9 : List POper := [
  ⟨some 23, .mov (.tmp 4), none⟩,
  ⟨some 24, .mov (.tmp 5), none⟩,
  ⟨some 25, .nilck (.tmp 23), none⟩,
  ⟨some 26, .iaddra 256 1 (.tmp 25) (.tmp 24), none⟩,
  ⟨none, .store 1 (.tmp 26) (.cst (.bool true)), none⟩]
@[simp] theorem regex_reader_atom_r9_go (T : Tbl) (K : List Kt) (fr : Fr) (S : St) : gval T (.ops regex_reader_atom_r9 :: K) fr S = gval T (.ops [
  ⟨some 23, .mov (.tmp 4), none⟩,
  ⟨some 24, .mov (.tmp 5), none⟩,
  ⟨some 25, .nilck (.tmp 23), none⟩,
  ⟨some 26, .iaddra 256 1 (.tmp 25) (.tmp 24), none⟩,
  ⟨none, .store 1 (.tmp 26) (.cst (.bool true)), none⟩] :: K) fr S := rfl
def regex_reader_atom_r10 : List POper := [
  ⟨some 27, .arith .add (.tmp 20) (.cst (.int .i64 1)), none⟩,
  ⟨some 20, .mov (.tmp 27), none⟩]
@[simp] theorem regex_reader_atom_r10_go (T : Tbl) (K : List Kt) (fr : Fr) (S : St) : gval T (.ops regex_reader_atom_r10 :: K) fr S = gval T (.ops [
  ⟨some 27, .arith .add (.tmp 20) (.cst (.int .i64 1)), none⟩,
  ⟨some 20, .mov (.tmp 27), none⟩] :: K) fr S := rfl
def regex_reader_atom_l0 : PCode :=
  (.seq (.region regex_reader_atom_r7) (.seq (.cond (.tmp 21) .skip (.exit 1)) (.seq (.block 2 (.seq (.clr [(22, 23)] (.region regex_reader_atom_r8)) (.clr [(23, 27)] (.region regex_reader_atom_r9)))) (.clr [(27, 28)] (.region regex_reader_atom_r10)))))
@[simp] theorem regex_reader_atom_l0_go (T : Tbl) (K : List Kt) (fr : Fr) (S : St) : gval T (.code regex_reader_atom_l0 :: K) fr S = gval T (.code (.seq (.region regex_reader_atom_r7) (.seq (.cond (.tmp 21) .skip (.exit 1)) (.seq (.block 2 (.seq (.clr [(22, 23)] (.region regex_reader_atom_r8)) (.clr [(23, 27)] (.region regex_reader_atom_r9)))) (.clr [(27, 28)] (.region regex_reader_atom_r10))))) :: K) fr S := rfl
def regex_reader_atom_r11 : List POper := [
  ⟨some 28, .mov (.tmp 4), none⟩,
  ⟨some 29, .mkif 12 (.tmp 28), none⟩,
  ⟨some 2, .mov (.tmp 29), none⟩]
@[simp] theorem regex_reader_atom_r11_go (T : Tbl) (K : List Kt) (fr : Fr) (S : St) : gval T (.ops regex_reader_atom_r11 :: K) fr S = gval T (.ops [
  ⟨some 28, .mov (.tmp 4), none⟩,
  ⟨some 29, .mkif 12 (.tmp 28), none⟩,
  ⟨some 2, .mov (.tmp 29), none⟩] :: K) fr S := rfl
def regex_reader_atom_r12 : List POper := [
  ⟨some 31, .mov (.tmp 3), none⟩,
  ⟨some 32, .arith .eql (.tmp 31) (.cst (.int .u8 92)), none⟩,
  ⟨some 30, .mov (.tmp 32), none⟩]
@[simp] theorem regex_reader_atom_r12_go (T : Tbl) (K : List Kt) (fr : Fr) (S : St) : gval T (.ops regex_reader_atom_r12 :: K) fr S = gval T (.ops [
  ⟨some 31, .mov (.tmp 3), none⟩,
  ⟨some 32, .arith .eql (.tmp 31) (.cst (.int .u8 92)), none⟩,
  ⟨some 30, .mov (.tmp 32), none⟩] :: K) fr S := rfl
def regex_reader_atom_r13 : List POper := [
  ⟨some 33, .mov (.tmp 0), none⟩,
  ⟨some 34, .call .std 304 [(.tmp 33)], none⟩,
  ⟨some 6, .mov (.tmp 34), none⟩]
@[simp] theorem regex_reader_atom_r13_go (T : Tbl) (K : List Kt) (fr : Fr) (S : St) : gval T (.ops regex_reader_atom_r13 :: K) fr S = gval T (.ops [
  ⟨some 33, .mov (.tmp 0), none⟩,
  ⟨some 34, .call .std 304 [(.tmp 33)], none⟩,
  ⟨some 6, .mov (.tmp 34), none⟩] :: K) fr S := rfl
def regex_reader_atom_r14 : List POper := [
  ⟨some 35, .mov (.tmp 0), none⟩,
  ⟨some 36, .mov (.tmp 0), none⟩,
  ⟨some 37, .nilck (.tmp 36), none⟩,
  ⟨some 38, .faddr 3 (.tmp 37), none⟩,
  ⟨some 39, .load false 1 false (.tmp 38), none⟩,
  ⟨some 40, .mov (.tmp 39), none⟩,
  ⟨some 41, .mov (.tmp 6), some (40, false)⟩,
  ⟨some 42, .call .pur 390 [(.tmp 41)], some (40, false)⟩,
  ⟨some 43, .pick (.tmp 40) (.cst (.bool true)) (.tmp 42), none⟩,
  ⟨some 44, .nilck (.tmp 35), none⟩,
  ⟨some 45, .faddr 3 (.tmp 44), none⟩,
  ⟨none, .store 1 (.tmp 45) (.tmp 43), none⟩]
@[simp] theorem regex_reader_atom_r14_go (T : Tbl) (K : List Kt) (fr : Fr) (S : St) : gval T (.ops regex_reader_atom_r14 :: K) fr S = gval T (.ops [
  ⟨some 35, .mov (.tmp 0), none⟩,
  ⟨some 36, .mov (.tmp 0), none⟩,
  ⟨some 37, .nilck (.tmp 36), none⟩,
  ⟨some 38, .faddr 3 (.tmp 37), none⟩,
  ⟨some 39, .load false 1 false (.tmp 38), none⟩,
  ⟨some 40, .mov (.tmp 39), none⟩,
  ⟨some 41, .mov (.tmp 6), some (40, false)⟩,
  ⟨some 42, .call .pur 390 [(.tmp 41)], some (40, false)⟩,
  ⟨some 43, .pick (.tmp 40) (.cst (.bool true)) (.tmp 42), none⟩,
  ⟨some 44, .nilck (.tmp 35), none⟩,
  ⟨some 45, .faddr 3 (.tmp 44), none⟩,
  ⟨none, .store 1 (.tmp 45) (.tmp 43), none⟩] :: K) fr S := rfl
def regex_reader_atom_r15 : List POper := [
  ⟨some 46, .mov (.tmp 6), none⟩,
  ⟨some 47, .call .pur 391 [(.tmp 46)], none⟩,
  ⟨some 2, .mov (.tmp 47), none⟩]
@[simp] theorem regex_reader_atom_r15_go (T : Tbl) (K : List Kt) (fr : Fr) (S : St) : gval T (.ops regex_reader_atom_r15 :: K) fr S = gval T (.ops [
  ⟨some 46, .mov (.tmp 6), none⟩,
  ⟨some 47, .call .pur 391 [(.tmp 46)], none⟩,
  ⟨some 2, .mov (.tmp 47), none⟩] :: K) fr S := rfl
def regex_reader_atom_r16 : List POper := [
  ⟨some 49, .mov (.tmp 3), none⟩,
  ⟨some 50, .arith .eql (.tmp 49) (.cst (.int .u8 91)), none⟩,
  ⟨some 48, .mov (.tmp 50), none⟩]
@[simp] theorem regex_reader_atom_r16_go (T : Tbl) (K : List Kt) (fr : Fr) (S : St) : gval T (.ops regex_reader_atom_r16 :: K) fr S = gval T (.ops [
  ⟨some 49, .mov (.tmp 3), none⟩,
  ⟨some 50, .arith .eql (.tmp 49) (.cst (.int .u8 91)), none⟩,
  ⟨some 48, .mov (.tmp 50), none⟩] :: K) fr S := rfl
def regex_reader_atom_r17 : List POper := [
  ⟨some 51, .mov (.tmp 0), none⟩,
  ⟨some 52, .call .std 392 [(.tmp 51)], none⟩,
  ⟨some 2, .mov (.tmp 52), none⟩]
@[simp] theorem regex_reader_atom_r17_go (T : Tbl) (K : List Kt) (fr : Fr) (S : St) : gval T (.ops regex_reader_atom_r17 :: K) fr S = gval T (.ops [
  ⟨some 51, .mov (.tmp 0), none⟩,
  ⟨some 52, .call .std 392 [(.tmp 51)], none⟩,
  ⟨some 2, .mov (.tmp 52), none⟩] :: K) fr S := rfl
def regex_reader_atom_r18 : List POper := [
  ⟨some 54, .mov (.tmp 3), none⟩,
  ⟨some 55, .arith .eql (.tmp 54) (.cst (.int .u8 40)), none⟩,
  ⟨some 53, .mov (.tmp 55), none⟩]
@[simp] theorem regex_reader_atom_r18_go (T : Tbl) (K : List Kt) (fr : Fr) (S : St) : gval T (.ops regex_reader_atom_r18 :: K) fr S = gval T (.ops [
  ⟨some 54, .mov (.tmp 3), none⟩,
  ⟨some 55, .arith .eql (.tmp 54) (.cst (.int .u8 40)), none⟩,
  ⟨some 53, .mov (.tmp 55), none⟩] :: K) fr S := rfl
def regex_reader_atom_r19 : List POper := [
  ⟨some 56, .mov (.tmp 0), none⟩,
  ⟨some 57, .nilck (.tmp 56), none⟩,
  ⟨some 58, .faddr 1 (.tmp 57), none⟩,
  ⟨some 59, .load false 1 false (.tmp 58), none⟩,
  ⟨some 60, .arith .add (.tmp 59) (.cst (.int .i64 1)), none⟩,
  ⟨some 61, .nilck (.tmp 56), none⟩,
  ⟨some 62, .faddr 1 (.tmp 61), none⟩,
  ⟨none, .store 1 (.tmp 62) (.tmp 60), none⟩]
@[simp] theorem regex_reader_atom_r19_go (T : Tbl) (K : List Kt) (fr : Fr) (S : St) : gval T (.ops regex_reader_atom_r19 :: K) fr S = gval T (.ops [
  ⟨some 56, .mov (.tmp 0), none⟩,
  ⟨some 57, .nilck (.tmp 56), none⟩,
  ⟨some 58, .faddr 1 (.tmp 57), none⟩,
  ⟨some 59, .load false 1 false (.tmp 58), none⟩,
  ⟨some 60, .arith .add (.tmp 59) (.cst (.int .i64 1)), none⟩,
  ⟨some 61, .nilck (.tmp 56), none⟩,
  ⟨some 62, .faddr 1 (.tmp 61), none⟩,
  ⟨none, .store 1 (.tmp 62) (.tmp 60), none⟩] :: K) fr S := rfl
def regex_reader_atom_r20 : List POper := [
  ⟨some 63, .mov (.tmp 0), none⟩,
  ⟨some 64, .mov (.tmp 0), none⟩,
  ⟨some 65, .nilck (.tmp 64), none⟩,
  ⟨some 66, .faddr 2 (.tmp 65), none⟩,
  ⟨some 67, .load false 1 false (.tmp 66), none⟩,
  ⟨some 68, .mov (.tmp 0), none⟩,
  ⟨some 69, .nilck (.tmp 68), none⟩,
  ⟨some 70, .faddr 1 (.tmp 69), none⟩,
  ⟨some 71, .load false 1 false (.tmp 70), none⟩,
  ⟨some 72, .mnmx true (.tmp 67) (.tmp 71), none⟩,
  ⟨some 73, .nilck (.tmp 63), none⟩,
  ⟨some 74, .faddr 2 (.tmp 73), none⟩,
  ⟨none, .store 1 (.tmp 74) (.tmp 72), none⟩]
@[simp] theorem regex_reader_atom_r20_go (T : Tbl) (K : List Kt) (fr : Fr) (S : St) : gval T (.ops regex_reader_atom_r20 :: K) fr S = gval T (.ops [
  ⟨some 63, .mov (.tmp 0), none⟩,
  ⟨some 64, .mov (.tmp 0), none⟩,
  ⟨some 65, .nilck (.tmp 64), none⟩,
  ⟨some 66, .faddr 2 (.tmp 65), none⟩,
  ⟨some 67, .load false 1 false (.tmp 66), none⟩,
  ⟨some 68, .mov (.tmp 0), none⟩,
  ⟨some 69, .nilck (.tmp 68), none⟩,
  ⟨some 70, .faddr 1 (.tmp 69), none⟩,
  ⟨some 71, .load false 1 false (.tmp 70), none⟩,
  ⟨some 72, .mnmx true (.tmp 67) (.tmp 71), none⟩,
  ⟨some 73, .nilck (.tmp 63), none⟩,
  ⟨some 74, .faddr 2 (.tmp 73), none⟩,
  ⟨none, .store 1 (.tmp 74) (.tmp 72), none⟩] :: K) fr S := rfl
def regex_reader_atom_r21 : List POper := [
  ⟨some 75, .mov (.tmp 0), none⟩,
  ⟨some 76, .call .std 222 [(.tmp 75)], none⟩,
  ⟨some 7, .mov (.tmp 76), none⟩]
@[simp] theorem regex_reader_atom_r21_go (T : Tbl) (K : List Kt) (fr : Fr) (S : St) : gval T (.ops regex_reader_atom_r21 :: K) fr S = gval T (.ops [
  ⟨some 75, .mov (.tmp 0), none⟩,
  ⟨some 76, .call .std 222 [(.tmp 75)], none⟩,
  ⟨some 7, .mov (.tmp 76), none⟩] :: K) fr S := rfl
def regex_reader_atom_r22 : List POper := [
  ⟨some 77, .mov (.tmp 0), none⟩,
  ⟨some 78, .nilck (.tmp 77), none⟩,
  ⟨some 79, .faddr 1 (.tmp 78), none⟩,
  ⟨some 80, .load false 1 false (.tmp 79), none⟩,
  ⟨some 81, .arith .sub (.tmp 80) (.cst (.int .i64 1)), none⟩,
  ⟨some 82, .nilck (.tmp 77), none⟩,
  ⟨some 83, .faddr 1 (.tmp 82), none⟩,
  ⟨none, .store 1 (.tmp 83) (.tmp 81), none⟩]
@[simp] theorem regex_reader_atom_r22_go (T : Tbl) (K : List Kt) (fr : Fr) (S : St) : gval T (.ops regex_reader_atom_r22 :: K) fr S = gval T (.ops [
  ⟨some 77, .mov (.tmp 0), none⟩,
  ⟨some 78, .nilck (.tmp 77), none⟩,
  ⟨some 79, .faddr 1 (.tmp 78), none⟩,
  ⟨some 80, .load false 1 false (.tmp 79), none⟩,
  ⟨some 81, .arith .sub (.tmp 80) (.cst (.int .i64 1)), none⟩,
  ⟨some 82, .nilck (.tmp 77), none⟩,
  ⟨some 83, .faddr 1 (.tmp 82), none⟩,
  ⟨none, .store 1 (.tmp 83) (.tmp 81), none⟩] :: K) fr S := rfl
def regex_reader_atom_r23 : List POper := [
  ⟨some 84, .mov (.tmp 0), none⟩,
  ⟨some 85, .call .std 304 [(.tmp 84)], none⟩,
  ⟨some 86, .arith .neq (.tmp 85) (.cst (.int .u8 41)), none⟩]
@[simp] theorem regex_reader_atom_r23_go (T : Tbl) (K : List Kt) (fr : Fr) (S : St) : gval T (.ops regex_reader_atom_r23 :: K) fr S = gval T (.ops [
  ⟨some 84, .mov (.tmp 0), none⟩,
  ⟨some 85, .call .std 304 [(.tmp 84)], none⟩,
  ⟨some 86, .arith .neq (.tmp 85) (.cst (.int .u8 41)), none⟩] :: K) fr S := rfl
def regex_reader_atom_r24 : List POper := [
  ⟨some 87, .mov (.tmp 0), none⟩,
  ⟨some 88, .nilck (.tmp 87), none⟩,
  ⟨some 89, .faddr 3 (.tmp 88), none⟩,
  ⟨none, .store 1 (.tmp 89) (.cst (.bool true)), none⟩]
@[simp] theorem regex_reader_atom_r24_go (T : Tbl) (K : List Kt) (fr : Fr) (S : St) : gval T (.ops regex_reader_atom_r24 :: K) fr S = gval T (.ops [
  ⟨some 87, .mov (.tmp 0), none⟩,
  ⟨some 88, .nilck (.tmp 87), none⟩,
  ⟨some 89, .faddr 3 (.tmp 88), none⟩,
  ⟨none, .store 1 (.tmp 89) (.cst (.bool true)), none⟩] :: K) fr S := rfl
def regex_reader_atom_r25 : List POper := [
  ⟨some 90, .mov (.tmp 7), none⟩,
  ⟨some 2, .mov (.tmp 90), none⟩]
@[simp] theorem regex_reader_atom_r25_go (T : Tbl) (K : List Kt) (fr : Fr) (S : St) : gval T (.ops regex_reader_atom_r25 :: K) fr S = gval T (.ops [
  ⟨some 90, .mov (.tmp 7), none⟩,
  ⟨some 2, .mov (.tmp 90), none⟩] :: K) fr S := rfl
def regex_reader_atom_r26 : List POper := [
  ⟨some 91, .mov (.tmp 0), none⟩,
  ⟨some 92, .nilck (.tmp 91), none⟩,
  ⟨some 93, .faddr 3 (.tmp 92), none⟩,
  ⟨none, .store 1 (.tmp 93) (.cst (.bool true)), none⟩]
@[simp] theorem regex_reader_atom_r26_go (T : Tbl) (K : List Kt) (fr : Fr) (S : St) : gval T (.ops regex_reader_atom_r26 :: K) fr S = gval T (.ops [
  ⟨some 91, .mov (.tmp 0), none⟩,
  ⟨some 92, .nilck (.tmp 91), none⟩,
  ⟨some 93, .faddr 3 (.tmp 92), none⟩,
  ⟨none, .store 1 (.tmp 93) (.cst (.bool true)), none⟩] :: K) fr S := rfl
def regex_reader_atom_r27 : List POper := [
  ⟨some 94, .bsl false .nili 0 [], none⟩,
  ⟨some 95, .mkif 10 (.tmp 94), none⟩,
  ⟨some 2, .mov (.tmp 95), none⟩]
@[simp] theorem regex_reader_atom_r27_go (T : Tbl) (K : List Kt) (fr : Fr) (S : St) : gval T (.ops regex_reader_atom_r27 :: K) fr S = gval T (.ops [
  ⟨some 94, .bsl false .nili 0 [], none⟩,
  ⟨some 95, .mkif 10 (.tmp 94), none⟩,
  ⟨some 2, .mov (.tmp 95), none⟩] :: K) fr S := rfl
def regex_reader_atom : PCodeFn :=
  ⟨1, [.tmp 2],
  (.seq (.region regex_reader_atom_r0) (.seq (.seq (.clr [(8, 10)] (.region regex_reader_atom_r1)) (.block 0 (.seq (.clr [(11, 13)] (.region regex_reader_atom_r2)) (.cond (.tmp 10) (.seq (.clr [(13, 15)] (.region regex_reader_atom_r3)) .ret) (.seq (.clr [(16, 18)] (.region regex_reader_atom_r4)) (.cond (.tmp 15) (.seq (.clr [(18, 20)] (.region regex_reader_atom_r5)) (.seq (.seq (.region regex_reader_atom_r6) (.block 1 (.loop regex_reader_atom_l0))) (.seq (.clr [(28, 30)] (.region regex_reader_atom_r11)) .ret))) (.seq (.clr [(31, 33)] (.region regex_reader_atom_r12)) (.cond (.tmp 30) (.seq (.clr [(33, 35)] (.region regex_reader_atom_r13)) (.seq (.clr [(35, 46)] (.region regex_reader_atom_r14)) (.seq (.clr [(46, 48)] (.region regex_reader_atom_r15)) .ret))) (.seq (.clr [(49, 51)] (.region regex_reader_atom_r16)) (.cond (.tmp 48) (.seq (.clr [(51, 53)] (.region regex_reader_atom_r17)) .ret) (.seq (.clr [(54, 56)] (.region regex_reader_atom_r18)) (.cond (.tmp 53) (.seq (.clr [(56, 63)] (.region regex_reader_atom_r19)) (.seq (.clr [(63, 75)] (.region regex_reader_atom_r20)) (.seq (.clr [(75, 77)] (.region regex_reader_atom_r21)) (.seq (.clr [(77, 84)] (.region regex_reader_atom_r22)) (.seq (.seq (.clr [(84, 86)] (.region regex_reader_atom_r23)) (.cond (.tmp 86) (.clr [(87, 90)] (.region regex_reader_atom_r24)) .skip)) (.seq (.clr [(90, 91)] (.region regex_reader_atom_r25)) .ret)))))) .skip)))))))))))) (.seq (.clr [(91, 94)] (.region regex_reader_atom_r26)) (.seq (.clr [(94, 96)] (.region regex_reader_atom_r27)) .ret)))), false⟩

/-! gauge/gaugeref07.Plain: 356 -/
def ref07_Plain_r0 : List POper := [
  ⟨some 2, .mov (.cst (.bool false)), none⟩]
@[simp] theorem ref07_Plain_r0_go (T : Tbl) (K : List Kt) (fr : Fr) (S : St) : gval T (.ops ref07_Plain_r0 :: K) fr S = gval T (.ops [
  ⟨some 2, .mov (.cst (.bool false)), none⟩] :: K) fr S := rfl
def ref07_Plain_r1 : List POper := [
  ⟨some 3, .mov (.cst (.str [92, 40, 41, 91, 93, 124, 42, 43, 63, 46])), none⟩]
@[simp] theorem ref07_Plain_r1_go (T : Tbl) (K : List Kt) (fr : Fr) (S : St) : gval T (.ops ref07_Plain_r1 :: K) fr S = gval T (.ops [
  ⟨some 3, .mov (.cst (.str [92, 40, 41, 91, 93, 124, 42, 43, 63, 46])), none⟩] :: K) fr S := rfl
def ref07_Plain_r2 : List POper := [
  ⟨some 4, .mov (.cst (.int .i64 0)), none⟩]
@[simp] theorem ref07_Plain_r2_go (T : Tbl) (K : List Kt) (fr : Fr) (S : St) : gval T (.ops ref07_Plain_r2 :: K) fr S = gval T (.ops [
  ⟨some 4, .mov (.cst (.int .i64 0)), none⟩] :: K) fr S := rfl
def ref07_Plain_r3 : List POper := [
  ⟨some 5, .mov (.tmp 4), none⟩,
  ⟨some 6, .mov (.tmp 3), none⟩,
  ⟨some 7, .len true (.tmp 6), none⟩,
  ⟨some 8, .arith .lss (.tmp 5) (.tmp 7), none⟩]
@[simp] theorem ref07_Plain_r3_go (T : Tbl) (K : List Kt) (fr : Fr) (S : St) : gval T (.ops ref07_Plain_r3 :: K) fr S = gval T (.ops [
  ⟨some 5, .mov (.tmp 4), none⟩,
  ⟨some 6, .mov (.tmp 3), none⟩,
  ⟨some 7, .len true (.tmp 6), none⟩,
  ⟨some 8, .arith .lss (.tmp 5) (.tmp 7), none⟩] :: K) fr S := rfl
def ref07_Plain_r5 : List POper := [
  ⟨some 11, .mov (.tmp 3), none⟩,
  ⟨some 12, .mov (.tmp 4), none⟩,
  ⟨some 13, .idxs (.tmp 11) (.tmp 12), none⟩,
  ⟨some 14, .mov (.tmp 0), none⟩,
  ⟨some 15, .arith .eql (.tmp 13) (.tmp 14), none⟩]
@[simp] theorem ref07_Plain_r5_go (T : Tbl) (K : List Kt) (fr : Fr) (S : St) : gval T (.ops ref07_Plain_r5 :: K) fr S = gval T (.ops [
  ⟨some 11, .mov (.tmp 3), none⟩,
  ⟨some 12, .mov (.tmp 4), none⟩,
  ⟨some 13, .idxs (.tmp 11) (.tmp 12), none⟩,
  ⟨some 14, .mov (.tmp 0), none⟩,
  ⟨some 15, .arith .eql (.tmp 13) (.tmp 14), none⟩] :: K) fr S := rfl
def ref07_Plain_r6 : List POper := [
  ⟨some 2, .mov (.cst (.bool false)), none⟩]
@[simp] theorem ref07_Plain_r6_go (T : Tbl) (K : List Kt) (fr : Fr) (S : St) : gval T (.ops ref07_Plain_r6 :: K) fr S = gval T (.ops [
  ⟨some 2, .mov (.cst (.bool false)), none⟩] :: K) fr S := rfl
def ref07_Plain_r4 : List POper := [
  ⟨some 9, .mov (.tmp 4), none⟩,
  ⟨some 10, .arith .add (.tmp 9) (.cst (.int .i64 1)), none⟩,
  ⟨some 4, .mov (.tmp 10), none⟩]
@[simp] theorem ref07_Plain_r4_go (T : Tbl) (K : List Kt) (fr : Fr) (S : St) : gval T (.ops ref07_Plain_r4 :: K) fr S = gval T (.ops [
  ⟨some 9, .mov (.tmp 4), none⟩,
  ⟨some 10, .arith .add (.tmp 9) (.cst (.int .i64 1)), none⟩,
  ⟨some 4, .mov (.tmp 10), none⟩] :: K) fr S := rfl
def ref07_Plain_l0 : PCode :=
  (.seq (.seq (.clr [(5, 8)] (.region ref07_Plain_r3)) (.cond (.tmp 8) .skip (.exit 0))) (.seq (.block 1 (.seq (.clr [(11, 15)] (.region ref07_Plain_r5)) (.cond (.tmp 15) (.seq (.region ref07_Plain_r6) .ret) .skip))) (.clr [(9, 11)] (.region ref07_Plain_r4))))
@[simp] theorem ref07_Plain_l0_go (T : Tbl) (K : List Kt) (fr : Fr) (S : St) : gval T (.code ref07_Plain_l0 :: K) fr S = gval T (.code (.seq (.seq (.clr [(5, 8)] (.region ref07_Plain_r3)) (.cond (.tmp 8) .skip (.exit 0))) (.seq (.block 1 (.seq (.clr [(11, 15)] (.region ref07_Plain_r5)) (.cond (.tmp 15) (.seq (.region ref07_Plain_r6) .ret) .skip))) (.clr [(9, 11)] (.region ref07_Plain_r4)))) :: K) fr S := rfl
def ref07_Plain_r7 : List POper := [
  ⟨some 2, .mov (.cst (.bool true)), none⟩]
@[simp] theorem ref07_Plain_r7_go (T : Tbl) (K : List Kt) (fr : Fr) (S : St) : gval T (.ops ref07_Plain_r7 :: K) fr S = gval T (.ops [
  ⟨some 2, .mov (.cst (.bool true)), none⟩] :: K) fr S := rfl
def ref07_Plain : PCodeFn :=
  ⟨1, [.tmp 2],
  (.seq (.region ref07_Plain_r0) (.seq (.region ref07_Plain_r1) (.seq (.seq (.region ref07_Plain_r2) (.block 0 (.loop ref07_Plain_l0))) (.seq (.region ref07_Plain_r7) .ret)))), false⟩

/-! gauge/gaugeref07.closing: 357 -/
def ref07_closing_r0 : List POper := [
  ⟨some 4, .mov (.cst (.int .i64 0)), none⟩]
@[simp] theorem ref07_closing_r0_go (T : Tbl) (K : List Kt) (fr : Fr) (S : St) : gval T (.ops ref07_closing_r0 :: K) fr S = gval T (.ops [
  ⟨some 4, .mov (.cst (.int .i64 0)), none⟩] :: K) fr S := rfl
def ref07_closing_r1 : List POper := [
  ⟨some 5, .mov (.cst (.int .i64 0)), none⟩]
@[simp] theorem ref07_closing_r1_go (T : Tbl) (K : List Kt) (fr : Fr) (S : St) : gval T (.ops ref07_closing_r1 :: K) fr S = gval T (.ops [
  ⟨some 5, .mov (.cst (.int .i64 0)), none⟩] :: K) fr S := rfl
def ref07_closing_r2 : List POper := [
  ⟨some 9, .mov (.tmp 1), none⟩,
  ⟨some 6, .mov (.tmp 9), none⟩]
@[simp] theorem ref07_closing_r2_go (T : Tbl) (K : List Kt) (fr : Fr) (S : St) : gval T (.ops ref07_closing_r2 :: K) fr S = gval T (.ops [
  ⟨some 9, .mov (.tmp 1), none⟩,
  ⟨some 6, .mov (.tmp 9), none⟩] :: K) fr S := rfl
def ref07_closing_r3 : List POper := [
  ⟨some 10, .mov (.tmp 6), none⟩,
  ⟨some 11, .mov (.tmp 0), none⟩,
  ⟨some 12, .len true (.tmp 11), none⟩,
  ⟨some 13, .arith .lss (.tmp 10) (.tmp 12), none⟩]
@[simp] theorem ref07_closing_r3_go (T : Tbl) (K : List Kt) (fr : Fr) (S : St) : gval T (.ops ref07_closing_r3 :: K) fr S = gval T (.ops [
  ⟨some 10, .mov (.tmp 6), none⟩,
  ⟨some 11, .mov (.tmp 0), none⟩,
  ⟨some 12, .len true (.tmp 11), none⟩,
  ⟨some 13, .arith .lss (.tmp 10) (.tmp 12), none⟩] :: K) fr S := rfl
def ref07_closing_r5 : List POper := [
  ⟨some 16, .mov (.tmp 0), none⟩,
  ⟨some 17, .mov (.tmp 6), none⟩,
  ⟨some 18, .idxs (.tmp 16) (.tmp 17), none⟩]
@[simp] theorem ref07_closing_r5_go (T : Tbl) (K : List Kt) (fr : Fr) (S : St) : gval T (.ops ref07_closing_r5 :: K) fr S = gval T (.ops [
  ⟨some 16, .mov (.tmp 0), none⟩,
  ⟨some 17, .mov (.tmp 6), none⟩,
  ⟨some 18, .idxs (.tmp 16) (.tmp 17), none⟩] :: K) fr S := rfl
def ref07_closing_r6 : List POper := [
  ⟨some 20, .arith .eql (.tmp 18) (.cst (.int .u8 92)), none⟩,
  ⟨some 19, .mov (.tmp 20), none⟩]
@[simp] theorem ref07_closing_r6_go (T : Tbl) (K : List Kt) (fr : Fr) (S : St) : gval T (.ops ref07_closing_r6 :: K) fr S = gval T (.ops [
  ⟨some 20, .arith .eql (.tmp 18) (.cst (.int .u8 92)), none⟩,
  ⟨some 19, .mov (.tmp 20), none⟩] :: K) fr S := rfl
def ref07_closing_r7 : List POper := [
  ⟨some 21, .mov (.tmp 6), none⟩,
  ⟨some 22, .arith .add (.tmp 21) (.cst (.int .i64 1)), none⟩,
  ⟨some 6, .mov (.tmp 22), none⟩]
@[simp] theorem ref07_closing_r7_go (T : Tbl) (K : List Kt) (fr : Fr) (S : St) : gval T (.ops ref07_closing_r7 :: K) fr S = gval T (.ops [
  ⟨some 21, .mov (.tmp 6), none⟩,
  ⟨some 22, .arith .add (.tmp 21) (.cst (.int .i64 1)), none⟩,
  ⟨some 6, .mov (.tmp 22), none⟩] :: K) fr S := rfl
def ref07_closing_r8 : List POper := [
  ⟨some 24, .arith .eql (.tmp 18) (.cst (.int .u8 91)), none⟩,
  ⟨some 23, .mov (.tmp 24), none⟩]
@[simp] theorem ref07_closing_r8_go (T : Tbl) (K : List Kt) (fr : Fr) (S : St) : gval T (.ops ref07_closing_r8 :: K) fr S = gval T (.ops [
  ⟨some 24, .arith .eql (.tmp 18) (.cst (.int .u8 91)), none⟩,
  ⟨some 23, .mov (.tmp 24), none⟩] :: K) fr S := rfl
def ref07_closing_r9 : List POper := [
  ⟨some 26, .mov (.tmp 0), none⟩,
  ⟨some 27, .mov (.tmp 6), none⟩,
  ⟨some 28, .call .pur 305 [(.tmp 26), (.tmp 27), (.cst (.int .u8 0))], none⟩,
  ⟨some 25, .mov (.tmp 28), none⟩,
  ⟨some 29, .extract 0 (.tmp 25), none⟩,
  ⟨some 30, .extract 1 (.tmp 25), none⟩,
  ⟨some 7, .mov (.tmp 29), none⟩,
  ⟨some 8, .mov (.tmp 30), none⟩]
@[simp] theorem ref07_closing_r9_go (T : Tbl) (K : List Kt) (fr : Fr) (S : St) : gval T (.ops ref07_closing_r9 :: K) fr S = gval T (.ops [
  ⟨some 26, .mov (.tmp 0), none⟩,
  ⟨some 27, .mov (.tmp 6), none⟩,
  ⟨some 28, .call .pur 305 [(.tmp 26), (.tmp 27), (.cst (.int .u8 0))], none⟩,
  ⟨some 25, .mov (.tmp 28), none⟩,
  ⟨some 29, .extract 0 (.tmp 25), none⟩,
  ⟨some 30, .extract 1 (.tmp 25), none⟩,
  ⟨some 7, .mov (.tmp 29), none⟩,
  ⟨some 8, .mov (.tmp 30), none⟩] :: K) fr S := rfl
def ref07_closing_r10 : List POper := [
  ⟨some 31, .mov (.tmp 7), none⟩,
  ⟨some 32, .arith .eql (.tmp 31) (.cst (.int .i64 0)), none⟩]
@[simp] theorem ref07_closing_r10_go (T : Tbl) (K : List Kt) (fr : Fr) (S : St) : gval T (.ops ref07_closing_r10 :: K) fr S = gval T (.ops [
  ⟨some 31, .mov (.tmp 7), none⟩,
  ⟨some 32, .arith .eql (.tmp 31) (.cst (.int .i64 0)), none⟩] :: K) fr S := rfl
def ref07_closing_r11 : List POper := [
  ⟨some 4, .mov (.cst (.int .i64 (-1))), none⟩]
@[simp] theorem ref07_closing_r11_go (T : Tbl) (K : List Kt) (fr : Fr) (S : St) : gval T (.ops ref07_closing_r11 :: K) fr S = gval T (.ops [
  ⟨some 4, .mov (.cst (.int .i64 (-1))), none⟩] :: K) fr S := rfl
def ref07_closing_r12 : List POper := [
  ⟨some 33, .mov (.tmp 7), none⟩,
  ⟨some 34, .arith .sub (.tmp 33) (.cst (.int .i64 1)), none⟩,
  ⟨some 6, .mov (.tmp 34), none⟩]
@[simp] theorem ref07_closing_r12_go (T : Tbl) (K : List Kt) (fr : Fr) (S : St) : gval T (.ops ref07_closing_r12 :: K) fr S = gval T (.ops [
  ⟨some 33, .mov (.tmp 7), none⟩,
  ⟨some 34, .arith .sub (.tmp 33) (.cst (.int .i64 1)), none⟩,
  ⟨some 6, .mov (.tmp 34), none⟩] :: K) fr S := rfl
def ref07_closing_r13 : List POper := [
  ⟨some 36, .arith .eql (.tmp 18) (.cst (.int .u8 40)), none⟩,
  ⟨some 35, .mov (.tmp 36), none⟩]
@[simp] theorem ref07_closing_r13_go (T : Tbl) (K : List Kt) (fr : Fr) (S : St) : gval T (.ops ref07_closing_r13 :: K) fr S = gval T (.ops [
  ⟨some 36, .arith .eql (.tmp 18) (.cst (.int .u8 40)), none⟩,
  ⟨some 35, .mov (.tmp 36), none⟩] :: K) fr S := rfl
def ref07_closing_r14 : List POper := [
  ⟨some 37, .mov (.tmp 5), none⟩,
  ⟨some 38, .arith .add (.tmp 37) (.cst (.int .i64 1)), none⟩,
  ⟨some 5, .mov (.tmp 38), none⟩]
@[simp] theorem ref07_closing_r14_go (T : Tbl) (K : List Kt) (fr : Fr) (S : St) : gval T (.ops ref07_closing_r14 :: K) fr S = gval T (.ops [
  ⟨some 37, .mov (.tmp 5), none⟩,
  ⟨some 38, .arith .add (.tmp 37) (.cst (.int .i64 1)), none⟩,
  ⟨some 5, .mov (.tmp 38), none⟩] :: K) fr S := rfl
def ref07_closing_r15 : List POper := [
  ⟨some 40, .arith .eql (.tmp 18) (.cst (.int .u8 41)), none⟩,
  ⟨some 39, .mov (.tmp 40), none⟩]
@[simp] theorem ref07_closing_r15_go (T : Tbl) (K : List Kt) (fr : Fr) (S : St) : gval T (.ops ref07_closing_r15 :: K) fr S = gval T (.ops [
  ⟨some 40, .arith .eql (.tmp 18) (.cst (.int .u8 41)), none⟩,
  ⟨some 39, .mov (.tmp 40), none⟩] :: K) fr S := rfl
def ref07_closing_r16 : List POper := [
  ⟨some 41, .mov (.tmp 5), none⟩,
  ⟨some 42, .arith .sub (.tmp 41) (.cst (.int .i64 1)), none⟩,
  ⟨some 5, .mov (.tmp 42), none⟩]
@[simp] theorem ref07_closing_r16_go (T : Tbl) (K : List Kt) (fr : Fr) (S : St) : gval T (.ops ref07_closing_r16 :: K) fr S = gval T (.ops [
  ⟨some 41, .mov (.tmp 5), none⟩,
  ⟨some 42, .arith .sub (.tmp 41) (.cst (.int .i64 1)), none⟩,
  ⟨some 5, .mov (.tmp 42), none⟩] :: K) fr S := rfl
def ref07_closing_r17 : List POper := [
  ⟨some 43, .mov (.tmp 5), none⟩,
  ⟨some 44, .arith .eql (.tmp 43) (.cst (.int .i64 0)), none⟩]
@[simp] theorem ref07_closing_r17_go (T : Tbl) (K : List Kt) (fr : Fr) (S : St) : gval T (.ops ref07_closing_r17 :: K) fr S = gval T (.ops [
  ⟨some 43, .mov (.tmp 5), none⟩,
  ⟨some 44, .arith .eql (.tmp 43) (.cst (.int .i64 0)), none⟩] :: K) fr S := rfl
def ref07_closing_r18 : List POper := [
  ⟨some 45, .mov (.tmp 6), none⟩,
  ⟨some 4, .mov (.tmp 45), none⟩]
@[simp] theorem ref07_closing_r18_go (T : Tbl) (K : List Kt) (fr : Fr) (S : St) : gval T (.ops ref07_closing_r18 :: K) fr S = gval T (.ops [
  ⟨some 45, .mov (.tmp 6), none⟩,
  ⟨some 4, .mov (.tmp 45), none⟩] :: K) fr S := rfl
def ref07_closing_r4 : List POper := [
  ⟨some 14, .mov (.tmp 6), none⟩,
  ⟨some 15, .arith .add (.tmp 14) (.cst (.int .i64 1)), none⟩,
  ⟨some 6, .mov (.tmp 15), none⟩]
@[simp] theorem ref07_closing_r4_go (T : Tbl) (K : List Kt) (fr : Fr) (S : St) : gval T (.ops ref07_closing_r4 :: K) fr S = gval T (.ops [
  ⟨some 14, .mov (.tmp 6), none⟩,
  ⟨some 15, .arith .add (.tmp 14) (.cst (.int .i64 1)), none⟩,
  ⟨some 6, .mov (.tmp 15), none⟩] :: K) fr S := rfl
def ref07_closing_l0 : PCode :=
  (.seq (.seq (.clr [(10, 13)] (.region ref07_closing_r3)) (.cond (.tmp 13) .skip (.exit 0))) (.seq (.block 1 (.seq (.clr [(16, 18)] (.region ref07_closing_r5)) (.block 2 (.seq (.clr [(20, 21)] (.region ref07_closing_r6)) (.cond (.tmp 19) (.clr [(21, 23)] (.region ref07_closing_r7)) (.seq (.clr [(24, 25)] (.region ref07_closing_r8)) (.cond (.tmp 23) (.seq (.clr [(8, 9), (25, 31)] (.region ref07_closing_r9)) (.seq (.seq (.clr [(31, 32)] (.region ref07_closing_r10)) (.cond (.tmp 32) (.seq (.region ref07_closing_r11) .ret) .skip)) (.clr [(33, 35)] (.region ref07_closing_r12)))) (.seq (.clr [(36, 37)] (.region ref07_closing_r13)) (.cond (.tmp 35) (.clr [(37, 39)] (.region ref07_closing_r14)) (.seq (.clr [(40, 41)] (.region ref07_closing_r15)) (.cond (.tmp 39) (.seq (.clr [(41, 43)] (.region ref07_closing_r16)) (.seq (.clr [(43, 44)] (.region ref07_closing_r17)) (.cond (.tmp 44) (.seq (.clr [(45, 46)] (.region ref07_closing_r18)) .ret) .skip))) .skip))))))))))) (.clr [(14, 16)] (.region ref07_closing_r4))))
@[simp] theorem ref07_closing_l0_go (T : Tbl) (K : List Kt) (fr : Fr) (S : St) : gval T (.code ref07_closing_l0 :: K) fr S = gval T (.code (.seq (.seq (.clr [(10, 13)] (.region ref07_closing_r3)) (.cond (.tmp 13) .skip (.exit 0))) (.seq (.block 1 (.seq (.clr [(16, 18)] (.region ref07_closing_r5)) (.block 2 (.seq (.clr [(20, 21)] (.region ref07_closing_r6)) (.cond (.tmp 19) (.clr [(21, 23)] (.region ref07_closing_r7)) (.seq (.clr [(24, 25)] (.region ref07_closing_r8)) (.cond (.tmp 23) (.seq (.clr [(8, 9), (25, 31)] (.region ref07_closing_r9)) (.seq (.seq (.clr [(31, 32)] (.region ref07_closing_r10)) (.cond (.tmp 32) (.seq (.region ref07_closing_r11) .ret) .skip)) (.clr [(33, 35)] (.region ref07_closing_r12)))) (.seq (.clr [(36, 37)] (.region ref07_closing_r13)) (.cond (.tmp 35) (.clr [(37, 39)] (.region ref07_closing_r14)) (.seq (.clr [(40, 41)] (.region ref07_closing_r15)) (.cond (.tmp 39) (.seq (.clr [(41, 43)] (.region ref07_closing_r16)) (.seq (.clr [(43, 44)] (.region ref07_closing_r17)) (.cond (.tmp 44) (.seq (.clr [(45, 46)] (.region ref07_closing_r18)) .ret) .skip))) .skip))))))))))) (.clr [(14, 16)] (.region ref07_closing_r4)))) :: K) fr S := rfl
def ref07_closing_r19 : List POper := [
  ⟨some 4, .mov (.cst (.int .i64 (-1))), none⟩]
@[simp] theorem ref07_closing_r19_go (T : Tbl) (K : List Kt) (fr : Fr) (S : St) : gval T (.ops ref07_closing_r19 :: K) fr S = gval T (.ops [
  ⟨some 4, .mov (.cst (.int .i64 (-1))), none⟩] :: K) fr S := rfl
def ref07_closing : PCodeFn :=
  ⟨2, [.tmp 4],
  (.seq (.region ref07_closing_r0) (.seq (.region ref07_closing_r1) (.seq (.seq (.clr [(9, 10)] (.region ref07_closing_r2)) (.block 0 (.loop ref07_closing_l0))) (.seq (.region ref07_closing_r19) .ret)))), false⟩

/-! gauge/gaugeref07.one: 358 -/
def ref07_one_r0 : List POper := [
  ⟨some 6, .mov (.cst .nils), none⟩]
@[simp] theorem ref07_one_r0_go (T : Tbl) (K : List Kt) (fr : Fr) (S : St) : gval T (.ops ref07_one_r0 :: K) fr S = gval T (.ops [
  ⟨some 6, .mov (.cst .nils), none⟩] :: K) fr S := rfl
def ref07_one_r1 : List POper := [
  ⟨some 9, .mov (.tmp 0), none⟩,
  ⟨some 10, .idxs (.tmp 9) (.cst (.int .i64 0)), none⟩,
  ⟨some 11, .arith .eql (.tmp 10) (.cst (.int .u8 40)), none⟩]
@[simp] theorem ref07_one_r1_go (T : Tbl) (K : List Kt) (fr : Fr) (S : St) : gval T (.ops ref07_one_r1 :: K) fr S = gval T (.ops [
  ⟨some 9, .mov (.tmp 0), none⟩,
  ⟨some 10, .idxs (.tmp 9) (.cst (.int .i64 0)), none⟩,
  ⟨some 11, .arith .eql (.tmp 10) (.cst (.int .u8 40)), none⟩] :: K) fr S := rfl
def ref07_one_r2 : List POper := [
  ⟨some 12, .mov (.tmp 0), none⟩,
  ⟨some 13, .mov (.tmp 0), none⟩,
  ⟨some 14, .len true (.tmp 13), none⟩,
  ⟨some 15, .arith .sub (.tmp 14) (.cst (.int .i64 1)), none⟩,
  ⟨some 16, .slcs (some (.cst (.int .i64 1))) (some (.tmp 15)) (.tmp 12), none⟩,
  ⟨some 17, .mov (.tmp 1), none⟩,
  ⟨some 18, .mov (.tmp 2), none⟩,
  ⟨some 19, .call .std 124 [(.tmp 16), (.tmp 17), (.tmp 18)], none⟩,
  ⟨some 6, .mov (.tmp 19), none⟩]
@[simp] theorem ref07_one_r2_go (T : Tbl) (K : List Kt) (fr : Fr) (S : St) : gval T (.ops ref07_one_r2 :: K) fr S = gval T (.ops [
  ⟨some 12, .mov (.tmp 0), none⟩,
  ⟨some 13, .mov (.tmp 0), none⟩,
  ⟨some 14, .len true (.tmp 13), none⟩,
  ⟨some 15, .arith .sub (.tmp 14) (.cst (.int .i64 1)), none⟩,
  ⟨some 16, .slcs (some (.cst (.int .i64 1))) (some (.tmp 15)) (.tmp 12), none⟩,
  ⟨some 17, .mov (.tmp 1), none⟩,
  ⟨some 18, .mov (.tmp 2), none⟩,
  ⟨some 19, .call .std 124 [(.tmp 16), (.tmp 17), (.tmp 18)], none⟩,
  ⟨some 6, .mov (.tmp 19), none⟩] :: K) fr S := rfl
def ref07_one_r3 : List POper := [
  ⟨some 7, .mov (.cst .nils), none⟩]
@[simp] theorem ref07_one_r3_go (T : Tbl) (K : List Kt) (fr : Fr) (S : St) : gval T (.ops ref07_one_r3 :: K) fr S = gval T (.ops [
  ⟨some 7, .mov (.cst .nils), none⟩] :: K) fr S := rfl
def ref07_one_r4 : List POper := [
  ⟨some 8, .mov (.cst (.int .i64 0)), none⟩]
@[simp] theorem ref07_one_r4_go (T : Tbl) (K : List Kt) (fr : Fr) (S : St) : gval T (.ops ref07_one_r4 :: K) fr S = gval T (.ops [
  ⟨some 8, .mov (.cst (.int .i64 0)), none⟩] :: K) fr S := rfl
def ref07_one_r5 : List POper := [
  ⟨some 20, .mov (.tmp 8), none⟩,
  ⟨some 21, .mov (.tmp 2), none⟩,
  ⟨some 22, .len false (.tmp 21), none⟩,
  ⟨some 23, .arith .lss (.tmp 20) (.tmp 22), none⟩]
@[simp] theorem ref07_one_r5_go (T : Tbl) (K : List Kt) (fr : Fr) (S : St) : gval T (.ops ref07_one_r5 :: K) fr S = gval T (.ops [
  ⟨some 20, .mov (.tmp 8), none⟩,
  ⟨some 21, .mov (.tmp 2), none⟩,
  ⟨some 22, .len false (.tmp 21), none⟩,
  ⟨some 23, .arith .lss (.tmp 20) (.tmp 22), none⟩] :: K) fr S := rfl
def ref07_one_r7 : List POper := [
  ⟨some 26, .mov (.tmp 2), none⟩,
  ⟨some 27, .mov (.tmp 8), none⟩,
  ⟨some 28, .iaddr 1 (.tmp 26) (.tmp 27), none⟩,
  ⟨some 29, .load false 1 false (.tmp 28), none⟩,
  ⟨some 30, .mov (.tmp 1), none⟩,
  ⟨some 31, .len true (.tmp 30), none⟩,
  ⟨some 32, .arith .lss (.tmp 29) (.tmp 31), none⟩,
  ⟨some 33, .mov (.tmp 32), none⟩,
  ⟨some 34, .mov (.tmp 0), some (33, true)⟩,
  ⟨some 35, .mov (.tmp 1), some (33, true)⟩,
  ⟨some 36, .mov (.tmp 2), some (33, true)⟩,
  ⟨some 37, .mov (.tmp 8), some (33, true)⟩,
  ⟨some 38, .iaddr 1 (.tmp 36) (.tmp 37), some (33, true)⟩,
  ⟨some 39, .load false 1 false (.tmp 38), some (33, true)⟩,
  ⟨some 40, .idxs (.tmp 35) (.tmp 39), some (33, true)⟩,
  ⟨some 41, .call .pur 393 [(.tmp 34), (.tmp 40)], some (33, true)⟩,
  ⟨some 42, .pick (.tmp 33) (.tmp 41) (.cst (.bool false)), none⟩]
@[simp] theorem ref07_one_r7_go (T : Tbl) (K : List Kt) (fr : Fr) (S : St) : gval T (.ops ref07_one_r7 :: K) fr S = gval T (.ops [
  ⟨some 26, .mov (.tmp 2), none⟩,
  ⟨some 27, .mov (.tmp 8), none⟩,
  ⟨some 28, .iaddr 1 (.tmp 26) (.tmp 27), none⟩,
  ⟨some 29, .load false 1 false (.tmp 28), none⟩,
  ⟨some 30, .mov (.tmp 1), none⟩,
  ⟨some 31, .len true (.tmp 30), none⟩,
  ⟨some 32, .arith .lss (.tmp 29) (.tmp 31), none⟩,
  ⟨some 33, .mov (.tmp 32), none⟩,
  ⟨some 34, .mov (.tmp 0), some (33, true)⟩,
  ⟨some 35, .mov (.tmp 1), some (33, true)⟩,
  ⟨some 36, .mov (.tmp 2), some (33, true)⟩,
  ⟨some 37, .mov (.tmp 8), some (33, true)⟩,
  ⟨some 38, .iaddr 1 (.tmp 36) (.tmp 37), some (33, true)⟩,
  ⟨some 39, .load false 1 false (.tmp 38), some (33, true)⟩,
  ⟨some 40, .idxs (.tmp 35) (.tmp 39), some (33, true)⟩,
  ⟨some 41, .call .pur 393 [(.tmp 34), (.tmp 40)], some (33, true)⟩,
  ⟨some 42, .pick (.tmp 33) (.tmp 41) (.cst (.bool false)), none⟩] :: K) fr S := rfl
def ref07_one_r8 : List POper := [
  ⟨some 43, .mov (.tmp 7), none⟩,
  ⟨some 44, .mov (.tmp 2), none⟩,
  ⟨some 45, .mov (.tmp 8), none⟩,
  ⟨some 46, .iaddr 1 (.tmp 44) (.tmp 45), none⟩,
  ⟨some 47, .load false 1 false (.tmp 46), none⟩,
  ⟨some 48, .arith .add (.tmp 47) (.cst (.int .i64 1)), none⟩,
  ⟨some 49, .bsl false (.int .i64 0) 1 [(0, (.tmp 48))], none⟩,
  ⟨some 50, .app 1 8 (.tmp 43) (.tmp 49), none⟩,
  ⟨some 7, .mov (.tmp 50), none⟩]
@[simp] theorem ref07_one_r8_go (T : Tbl) (K : List Kt) (fr : Fr) (S : St) : gval T (.ops ref07_one_r8 :: K) fr S = gval T (.ops [
  ⟨some 43, .mov (.tmp 7), none⟩,
  ⟨some 44, .mov (.tmp 2), none⟩,
  ⟨some 45, .mov (.tmp 8), none⟩,
  ⟨some 46, .iaddr 1 (.tmp 44) (.tmp 45), none⟩,
  ⟨some 47, .load false 1 false (.tmp 46), none⟩,
  ⟨some 48, .arith .add (.tmp 47) (.cst (.int .i64 1)), none⟩,
  ⟨some 49, .bsl false (.int .i64 0) 1 [(0, (.tmp 48))], none⟩,
  ⟨some 50, .app 1 8 (.tmp 43) (.tmp 49), none⟩,
  ⟨some 7, .mov (.tmp 50), none⟩] :: K) fr S := rfl
def ref07_one_r6 : List POper := [
  ⟨some 24, .mov (.tmp 8), none⟩,
  ⟨some 25, .arith .add (.tmp 24) (.cst (.int .i64 1)), none⟩,
  ⟨some 8, .mov (.tmp 25), none⟩]
@[simp] theorem ref07_one_r6_go (T : Tbl) (K : List Kt) (fr : Fr) (S : St) : gval T (.ops ref07_one_r6 :: K) fr S = gval T (.ops [
  ⟨some 24, .mov (.tmp 8), none⟩,
  ⟨some 25, .arith .add (.tmp 24) (.cst (.int .i64 1)), none⟩,
  ⟨some 8, .mov (.tmp 25), none⟩] :: K) fr S := rfl
def ref07_one_l0 : PCode :=
  (.seq (.seq (.clr [(20, 23)] (.region ref07_one_r5)) (.cond (.tmp 23) .skip (.exit 0))) (.seq (.block 1 (.seq (.clr [(26, 42)] (.region ref07_one_r7)) (.cond (.tmp 42) (.clr [(43, 51)] (.region ref07_one_r8)) .skip))) (.clr [(24, 26)] (.region ref07_one_r6))))
@[simp] theorem ref07_one_l0_go (T : Tbl) (K : List Kt) (fr : Fr) (S : St) : gval T (.code ref07_one_l0 :: K) fr S = gval T (.code (.seq (.seq (.clr [(20, 23)] (.region ref07_one_r5)) (.cond (.tmp 23) .skip (.exit 0))) (.seq (.block 1 (.seq (.clr [(26, 42)] (.region ref07_one_r7)) (.cond (.tmp 42) (.clr [(43, 51)] (.region ref07_one_r8)) .skip))) (.clr [(24, 26)] (.region ref07_one_r6)))) :: K) fr S := rfl
def ref07_one_r9 : List POper := [
  ⟨some 51, .mov (.tmp 7), none⟩,
  ⟨some 6, .mov (.tmp 51), none⟩]
@[simp] theorem ref07_one_r9_go (T : Tbl) (K : List Kt) (fr : Fr) (S : St) : gval T (.ops ref07_one_r9 :: K) fr S = gval T (.ops [
  ⟨some 51, .mov (.tmp 7), none⟩,
  ⟨some 6, .mov (.tmp 51), none⟩] :: K) fr S := rfl
def ref07_one : PCodeFn :=
  ⟨3, [.tmp 6],
  (.seq (.region ref07_one_r0) (.seq (.seq (.clr [(9, 11)] (.region ref07_one_r1)) (.cond (.tmp 11) (.seq (.clr [(12, 20)] (.region ref07_one_r2)) .ret) .skip)) (.seq (.region ref07_one_r3) (.seq (.seq (.region ref07_one_r4) (.block 0 (.loop ref07_one_l0))) (.seq (.clr [(51, 52)] (.region ref07_one_r9)) .ret))))), false⟩

/-! gauge/regex.just: 391 -/
def regex_just_r0 : List POper := [
  ⟨some 2, .mov (.cst .nili), none⟩]
@[simp] theorem regex_just_r0_go (T : Tbl) (K : List Kt) (fr : Fr) (S : St) : gval T (.ops regex_just_r0 :: K) fr S = gval T (.ops [
  ⟨some 2, .mov (.cst .nili), none⟩] :: K) fr S := rfl
def regex_just_r1 : List POper := [
  ⟨some 4, .build (List.replicate 256 (.bool false)) [], none⟩,
  ⟨some 5, .box false (.tmp 4), none⟩,
  ⟨some 3, .mov (.tmp 5), none⟩]
@[simp] theorem regex_just_r1_go (T : Tbl) (K : List Kt) (fr : Fr) (S : St) : gval T (.ops regex_just_r1 :: K) fr S = gval T (.ops [
  ⟨some 4, .build (List.replicate 256 (.bool false)) [], none⟩,
  ⟨some 5, .box false (.tmp 4), none⟩,
  ⟨some 3, .mov (.tmp 5), none⟩] :: K) fr S := rfl
def regex_just_r2 : List POper := [
  ⟨some 6, .mov (.tmp 3), none⟩,
  ⟨some 7, .mov (.tmp 0), none⟩,
  ⟨some 8, .nilck (.tmp 6), none⟩,
  ⟨some 9, .iaddra 256 1 (.tmp 8) (.tmp 7), none⟩,
  ⟨none, .store 1 (.tmp 9) (.cst (.bool true)), none⟩]
@[simp] theorem regex_just_r2_go (T : Tbl) (K : List Kt) (fr : Fr) (S : St) : gval T (.ops regex_just_r2 :: K) fr S = gval T (.ops [
  ⟨some 6, .mov (.tmp 3), none⟩,
  ⟨some 7, .mov (.tmp 0), none⟩,
  ⟨some 8, .nilck (.tmp 6), none⟩,
  ⟨some 9, .iaddra 256 1 (.tmp 8) (.tmp 7), none⟩,
  ⟨none, .store 1 (.tmp 9) (.cst (.bool true)), none⟩] :: K) fr S := rfl
def regex_just_r3 : List POper := [
  ⟨some 10, .mov (.tmp 3), none⟩,
  ⟨some 11, .mkif 12 (.tmp 10), none⟩,
  ⟨some 2, .mov (.tmp 11), none⟩]
@[simp] theorem regex_just_r3_go (T : Tbl) (K : List Kt) (fr : Fr) (S : St) : gval T (.ops regex_just_r3 :: K) fr S = gval T (.ops [
  ⟨some 10, .mov (.tmp 3), none⟩,
  ⟨some 11, .mkif 12 (.tmp 10), none⟩,
  ⟨some 2, .mov (.tmp 11), none⟩] :: K) fr S := rfl
def regex_just : PCodeFn :=
  ⟨1, [.tmp 2],
  (.seq (.region regex_just_r0) (.seq (.clr [(4, 6)] (.region regex_just_r1)) (.seq (.clr [(6, 10)] (.region regex_just_r2)) (.seq (.clr [(10, 12)] (.region regex_just_r3)) .ret)))), false⟩

/-! (*gauge/regex.reader).class: 392 -/
def regex_reader_class_r0 : List POper := [
  ⟨some 2, .mov (.cst .nili), none⟩]
@[simp] theorem regex_reader_class_r0_go (T : Tbl) (K : List Kt) (fr : Fr) (S : St) : gval T (.ops regex_reader_class_r0 :: K) fr S = gval T (.ops [
  ⟨some 2, .mov (.cst .nili), none⟩] :: K) fr S := rfl
def regex_reader_class_r1 : List POper := [
  ⟨some 10, .build (List.replicate 256 (.bool false)) [], none⟩,
  ⟨some 11, .box false (.tmp 10), none⟩,
  ⟨some 3, .mov (.tmp 11), none⟩]
@[simp] theorem regex_reader_class_r1_go (T : Tbl) (K : List Kt) (fr : Fr) (S : St) : gval T (.ops regex_reader_class_r1 :: K) fr S = gval T (.ops [
  ⟨some 10, .build (List.replicate 256 (.bool false)) [], none⟩,
  ⟨some 11, .box false (.tmp 10), none⟩,
  ⟨some 3, .mov (.tmp 11), none⟩] :: K) fr S := rfl
def regex_reader_class_r2 : List POper := [
  ⟨some 12, .mov (.tmp 0), none⟩,
  ⟨some 13, .call .std 303 [(.tmp 12), (.cst (.str [94]))], none⟩,
  ⟨some 4, .mov (.tmp 13), none⟩]
@[simp] theorem regex_reader_class_r2_go (T : Tbl) (K : List Kt) (fr : Fr) (S : St) : gval T (.ops regex_reader_class_r2 :: K) fr S = gval T (.ops [
  ⟨some 12, .mov (.tmp 0), none⟩,
  ⟨some 13, .call .std 303 [(.tmp 12), (.cst (.str [94]))], none⟩,
  ⟨some 4, .mov (.tmp 13), none⟩] :: K) fr S := rfl
def regex_reader_class_r3 : List POper := [
  ⟨some 14, .mov (.tmp 4), none⟩]
@[simp] theorem regex_reader_class_r3_go (T : Tbl) (K : List Kt) (fr : Fr) (S : St) : gval T (.ops regex_reader_class_r3 :: K) fr S = gval T (.ops [
  ⟨some 14, .mov (.tmp 4), none⟩] :: K) fr S := rfl
def regex_reader_class_r4 : List POper := [
  ⟨some 15, .mov (.tmp 0), none⟩,
  ⟨some 16, .call .std 304 [(.tmp 15)], none⟩]
@[simp] theorem regex_reader_class_r4_go (T : Tbl) (K : List Kt) (fr : Fr) (S : St) : gval T (.ops regex_reader_class_r4 :: K) fr S = gval T (.ops [
  ⟨some 15, .mov (.tmp 0), none⟩,
  ⟨some 16, .call .std 304 [(.tmp 15)], none⟩] :: K) fr S := rfl
def regex_reader_class_r5 : List POper := [
  ⟨some 5, .mov (.cst (.int .i64 0)), none⟩]
@[simp] theorem regex_reader_class_r5_go (T : Tbl) (K : List Kt) (fr : Fr) (S : St) : gval T (.ops regex_reader_class_r5 :: K) fr S = gval T (.ops [
  ⟨some 5, .mov (.cst (.int .i64 0)), none⟩] :: K) fr S := rfl
def regex_reader_class_r6 : List POper := [
  ⟨some 17, .mov (.tmp 0), none⟩,
  ⟨some 18, .nilck (.tmp 17), none⟩,
  ⟨some 19, .faddr 3 (.tmp 18), none⟩,
  ⟨some 20, .load false 1 false (.tmp 19), none⟩,
  ⟨some 21, .un .not (.tmp 20), none⟩,
  ⟨some 22, .mov (.tmp 21), none⟩,
  ⟨some 23, .mov (.tmp 0), some (22, true)⟩,
  ⟨some 24, .call .std 303 [(.tmp 23), (.cst (.str [93]))], some (22, true)⟩,
  ⟨some 25, .un .not (.tmp 24), some (22, true)⟩,
  ⟨some 26, .pick (.tmp 22) (.tmp 25) (.cst (.bool false)), none⟩]
@[simp] theorem regex_reader_class_r6_go (T : Tbl) (K : List Kt) (fr : Fr) (S : St) : gval T (.ops regex_reader_class_r6 :: K) fr S = gval T (.ops [
  ⟨some 17, .mov (.tmp 0), none⟩,
  ⟨some 18, .nilck (.tmp 17), none⟩,
  ⟨some 19, .faddr 3 (.tmp 18), none⟩,
  ⟨some 20, .load false 1 false (.tmp 19), none⟩,
  ⟨some 21, .un .not (.tmp 20), none⟩,
  ⟨some 22, .mov (.tmp 21), none⟩,
  ⟨some 23, .mov (.tmp 0), some (22, true)⟩,
  ⟨some 24, .call .std 303 [(.tmp 23), (.cst (.str [93]))], some (22, true)⟩,
  ⟨some 25, .un .not (.tmp 24), some (22, true)⟩,
  ⟨some 26, .pick (.tmp 22) (.tmp 25) (.cst (.bool false)), none⟩] :: K) fr S := rfl
def regex_reader_class_r8 : List POper := [
  ⟨some 29, .mov (.tmp 0), none⟩,
  ⟨some 30, .call .std 410 [(.tmp 29)], none⟩,
  ⟨some 6, .mov (.tmp 30), none⟩]
@[simp] theorem regex_reader_class_r8_go (T : Tbl) (K : List Kt) (fr : Fr) (S : St) : gval T (.ops regex_reader_class_r8 :: K) fr S = gval T (.ops [
  ⟨some 29, .mov (.tmp 0), none⟩,
  ⟨some 30, .call .std 410 [(.tmp 29)], none⟩,
  ⟨some 6, .mov (.tmp 30), none⟩] :: K) fr S := rfl
def regex_reader_class_r9 : List POper := [
  ⟨some 31, .mov (.tmp 6), none⟩,
  ⟨some 7, .mov (.tmp 31), none⟩]
@[simp] theorem regex_reader_class_r9_go (T : Tbl) (K : List Kt) (fr : Fr) (S : St) : gval T (.ops regex_reader_class_r9 :: K) fr S = gval T (.ops [
  ⟨some 31, .mov (.tmp 6), none⟩,
  ⟨some 7, .mov (.tmp 31), none⟩] :: K) fr S := rfl
def regex_reader_class_r10 : List POper := [
  ⟨some 32, .mov (.tmp 0), none⟩,
  ⟨some 33, .call .std 303 [(.tmp 32), (.cst (.str [45]))], none⟩]
@[simp] theorem regex_reader_class_r10_go (T : Tbl) (K : List Kt) (fr : Fr) (S : St) : gval T (.ops regex_reader_class_r10 :: K) fr S = gval T (.ops [
  ⟨some 32, .mov (.tmp 0), none⟩,
  ⟨some 33, .call .std 303 [(.tmp 32), (.cst (.str [45]))], none⟩] :: K) fr S := rfl
def regex_reader_class_r11 : List POper := [
  ⟨some 34, .mov (.tmp 0), none⟩,
  ⟨some 35, .call .std 304 [(.tmp 34)], none⟩]
@[simp] theorem regex_reader_class_r11_go (T : Tbl) (K : List Kt) (fr : Fr) (S : St) : gval T (.ops regex_reader_class_r11 :: K) fr S = gval T (.ops [
  ⟨some 34, .mov (.tmp 0), none⟩,
  ⟨some 35, .call .std 304 [(.tmp 34)], none⟩] :: K) fr S := rfl
def regex_reader_class_r12 : List POper := [
  ⟨some 36, .mov (.tmp 0), none⟩,
  ⟨some 37, .call .std 410 [(.tmp 36)], none⟩,
  ⟨some 7, .mov (.tmp 37), none⟩]
@[simp] theorem regex_reader_class_r12_go (T : Tbl) (K : List Kt) (fr : Fr) (S : St) : gval T (.ops regex_reader_class_r12 :: K) fr S = gval T (.ops [
  ⟨some 36, .mov (.tmp 0), none⟩,
  ⟨some 37, .call .std 410 [(.tmp 36)], none⟩,
  ⟨some 7, .mov (.tmp 37), none⟩] :: K) fr S := rfl
def regex_reader_class_r13 : List POper := [
  ⟨some 38, .mov (.tmp 0), none⟩,
  ⟨some 39, .mov (.tmp 0), none⟩,
  ⟨some 40, .nilck (.tmp 39), none⟩,
  ⟨some 41, .faddr 3 (.tmp 40), none⟩,
  ⟨some 42, .load false 1 false (.tmp 41), none⟩,
  ⟨some 43, .mov (.tmp 42), none⟩,
  ⟨some 44, .mov (.tmp 7), some (43, false)⟩,
  ⟨some 45, .mov (.tmp 6), some (43, false)⟩,
  ⟨some 46, .arith .lss (.tmp 44) (.tmp 45), some (43, false)⟩,
  ⟨some 47, .pick (.tmp 43) (.cst (.bool true)) (.tmp 46), none⟩,
  ⟨some 48, .nilck (.tmp 38), none⟩,
  ⟨some 49, .faddr 3 (.tmp 48), none⟩,
  ⟨none, .store 1 (.tmp 49) (.tmp 47), none⟩]
@[simp] theorem regex_reader_class_r13_go (T : Tbl) (K : List Kt) (fr : Fr) (S : St) : gval T (.ops regex_reader_class_r13 :: K) fr S = gval T (.ops [
  ⟨some 38, .mov (.tmp 0), none⟩,
  ⟨some 39, .mov (.tmp 0), none⟩,
  ⟨some 40, .nilck (.tmp 39), none⟩,
  ⟨some 41, .faddr 3 (.tmp 40), none⟩,
  ⟨some 42, .load false 1 false (.tmp 41), none⟩,
  ⟨some 43, .mov (.tmp 42), none⟩,
  ⟨some 44, .mov (.tmp 7), some (43, false)⟩,
  ⟨some 45, .mov (.tmp 6), some (43, false)⟩,
  ⟨some 46, .arith .lss (.tmp 44) (.tmp 45), some (43, false)⟩,
  ⟨some 47, .pick (.tmp 43) (.cst (.bool true)) (.tmp 46), none⟩,
  ⟨some 48, .nilck (.tmp 38), none⟩,
  ⟨some 49, .faddr 3 (.tmp 48), none⟩,
  ⟨none, .store 1 (.tmp 49) (.tmp 47), none⟩] :: K) fr S := rfl
def regex_reader_class_r14 : List POper := [
  ⟨some 50, .mov (.tmp 6), none⟩,
  ⟨some 51, .toInt .i64 (.tmp 50), none⟩,
  ⟨some 8, .mov (.tmp 51), none⟩]
@[simp] theorem regex_reader_class_r14_go (T : Tbl) (K : List Kt) (fr : Fr) (S : St) : gval T (.ops regex_reader_class_r14 :: K) fr S = gval T (.ops [
  ⟨some 50, .mov (.tmp 6), none⟩,
  ⟨some 51, .toInt .i64 (.tmp 50), none⟩,
  ⟨some 8, .mov (.tmp 51), none⟩] :: K) fr S := rfl
def regex_reader_class_r15 : List POper := [
  ⟨some 52, .mov (.tmp 8), none⟩,
  ⟨some 53, .mov (.tmp 7), none⟩,
  ⟨some 54, .toInt .i64 (.tmp 53), none⟩,
  ⟨some 55, .arith .leq (.tmp 52) (.tmp 54), none⟩]
@[simp] theorem regex_reader_class_r15_go (T : Tbl) (K : List Kt) (fr : Fr) (S : St) : gval T (.ops regex_reader_class_r15 :: K) fr S = gval T (.ops [
  ⟨some 52, .mov (.tmp 8), none⟩,
  ⟨some 53, .mov (.tmp 7), none⟩,
  ⟨some 54, .toInt .i64 (.tmp 53), none⟩,
  ⟨some 55, .arith .leq (.tmp 52) (.tmp 54), none⟩] :: K) fr S := rfl
def regex_reader_class_r17 : List POper := [
  ⟨some 58, .mov (.tmp 3), none⟩,
  ⟨some 59, .mov (.tmp 8), none⟩,
  ⟨some 60, .nilck (.tmp 58), none⟩,
  ⟨some 61, .iaddra 256 1 (.tmp 60) (.tmp 59), none⟩,
  ⟨none, .store 1 (.tmp 61) (.cst (.bool true)), none⟩]
@[simp] theorem regex_reader_class_r17_go (T : Tbl) (K : List Kt) (fr : Fr) (S : St) : gval T (.ops regex_reader_class_r17 :: K) fr S = gval T (.ops [
  ⟨some 58, .mov (.tmp 3), none⟩,
  ⟨some 59, .mov (.tmp 8), none⟩,
  ⟨some 60, .nilck (.tmp 58), none⟩,
  ⟨some 61, .iaddra 256 1 (.tmp 60) (.tmp 59), none⟩,
  ⟨none, .store 1 (.tmp 61) (.cst (.bool true)), none⟩] :: K) fr S := rfl
def regex_reader_class_r16 : List POper := [
  ⟨some 56, .mov (.tmp 8), none⟩,
  ⟨some 57, .arith .add (.tmp 56) (.cst (.int .i64 1)), none⟩,
  ⟨some 8, .mov (.tmp 57), none⟩]
@[simp] theorem regex_reader_class_r16_go (T : Tbl) (K : List Kt) (fr : Fr) (S : St) : gval T (.ops regex_reader_class_r16 :: K) fr S = gval T (.ops [
  ⟨some 56, .mov (.tmp 8), none⟩,
  ⟨some 57, .arith .add (.tmp 56) (.cst (.int .i64 1)), none⟩,
  ⟨some 8, .mov (.tmp 57), none⟩] :: K) fr S := rfl
def regex_reader_class_l1 : PCode :=
  (.seq (.seq (.clr [(52, 55)] (.region regex_reader_class_r15)) (.cond (.tmp 55) .skip (.exit 2))) (.seq (.block 3 (.clr [(58, 62)] (.region regex_reader_class_r17))) (.clr [(56, 58)] (.region regex_reader_class_r16))))
@[simp] theorem regex_reader_class_l1_go (T : Tbl) (K : List Kt) (fr : Fr) (S : St) : gval T (.code regex_reader_class_l1 :: K) fr S = gval T (.code (.seq (.seq (.clr [(52, 55)] (.region regex_reader_class_r15)) (.cond (.tmp 55) .skip (.exit 2))) (.seq (.block 3 (.clr [(58, 62)] (.region regex_reader_class_r17))) (.clr [(56, 58)] (.region regex_reader_class_r16)))) :: K) fr S := rfl
def regex_reader_class_r7 : List POper := [
  ⟨some 27, .mov (.tmp 5), none⟩,
  ⟨some 28, .arith .add (.tmp 27) (.cst (.int .i64 1)), none⟩,
  ⟨some 5, .mov (.tmp 28), none⟩]
@[simp] theorem regex_reader_class_r7_go (T : Tbl) (K : List Kt) (fr : Fr) (S : St) : gval T (.ops regex_reader_class_r7 :: K) fr S = gval T (.ops [
  ⟨some 27, .mov (.tmp 5), none⟩,
  ⟨some 28, .arith .add (.tmp 27) (.cst (.int .i64 1)), none⟩,
  ⟨some 5, .mov (.tmp 28), none⟩] :: K) fr S := rfl
def regex_reader_class_l0 : PCode :=
  (.seq (.seq (.clr [(17, 26)] (.region regex_reader_class_r6)) (.cond (.tmp 26) .skip (.exit 0))) (.seq (.block 1 (.seq (.clr [(29, 31)] (.region regex_reader_class_r8)) (.seq (.clr [(31, 32)] (.region regex_reader_class_r9)) (.seq (.seq (.clr [(32, 33)] (.region regex_reader_class_r10)) (.cond (.tmp 33) (.seq (.clr [(34, 36)] (.region regex_reader_class_r11)) (.clr [(36, 38)] (.region regex_reader_class_r12))) .skip)) (.seq (.clr [(38, 50)] (.region regex_reader_class_r13)) (.seq (.clr [(50, 52)] (.region regex_reader_class_r14)) (.block 2 (.loop regex_reader_class_l1)))))))) (.clr [(27, 29)] (.region regex_reader_class_r7))))
@[simp] theorem regex_reader_class_l0_go (T : Tbl) (K : List Kt) (fr : Fr) (S : St) : gval T (.code regex_reader_class_l0 :: K) fr S = gval T (.code (.seq (.seq (.clr [(17, 26)] (.region regex_reader_class_r6)) (.cond (.tmp 26) .skip (.exit 0))) (.seq (.block 1 (.seq (.clr [(29, 31)] (.region regex_reader_class_r8)) (.seq (.clr [(31, 32)] (.region regex_reader_class_r9)) (.seq (.seq (.clr [(32, 33)] (.region regex_reader_class_r10)) (.cond (.tmp 33) (.seq (.clr [(34, 36)] (.region regex_reader_class_r11)) (.clr [(36, 38)] (.region regex_reader_class_r12))) .skip)) (.seq (.clr [(38, 50)] (.region regex_reader_class_r13)) (.seq (.clr [(50, 52)] (.region regex_reader_class_r14)) (.block 2 (.loop regex_reader_class_l1)))))))) (.clr [(27, 29)] (.region regex_reader_class_r7)))) :: K) fr S := rfl
def regex_reader_class_r18 : List POper := [
  ⟨some 62, .mov (.tmp 0), none⟩,
  ⟨some 63, .call .std 304 [(.tmp 62)], none⟩]
@[simp] theorem regex_reader_class_r18_go (T : Tbl) (K : List Kt) (fr : Fr) (S : St) : gval T (.ops regex_reader_class_r18 :: K) fr S = gval T (.ops [
  ⟨some 62, .mov (.tmp 0), none⟩,
  ⟨some 63, .call .std 304 [(.tmp 62)], none⟩] :: K) fr S := rfl
def regex_reader_class_r19 : List POper := [
  ⟨some 64, .mov (.tmp 0), none⟩,
  ⟨some 65, .mov (.tmp 0), none⟩,
  ⟨some 66, .nilck (.tmp 65), none⟩,
  ⟨some 67, .faddr 3 (.tmp 66), none⟩,
  ⟨some 68, .load false 1 false (.tmp 67), none⟩,
  ⟨some 69, .mov (.tmp 68), none⟩,
  ⟨some 70, .mov (.tmp 5), some (69, false)⟩,
  ⟨some 71, .arith .eql (.tmp 70) (.cst (.int .i64 0)), some (69, false)⟩,
  ⟨some 72, .pick (.tmp 69) (.cst (.bool true)) (.tmp 71), none⟩,
  ⟨some 73, .nilck (.tmp 64), none⟩,
  ⟨some 74, .faddr 3 (.tmp 73), none⟩,
  ⟨none, .store 1 (.tmp 74) (.tmp 72), none⟩]
@[simp] theorem regex_reader_class_r19_go (T : Tbl) (K : List Kt) (fr : Fr) (S : St) : gval T (.ops regex_reader_class_r19 :: K) fr S = gval T (.ops [
  ⟨some 64, .mov (.tmp 0), none⟩,
  ⟨some 65, .mov (.tmp 0), none⟩,
  ⟨some 66, .nilck (.tmp 65), none⟩,
  ⟨some 67, .faddr 3 (.tmp 66), none⟩,
  ⟨some 68, .load false 1 false (.tmp 67), none⟩,
  ⟨some 69, .mov (.tmp 68), none⟩,
  ⟨some 70, .mov (.tmp 5), some (69, false)⟩,
  ⟨some 71, .arith .eql (.tmp 70) (.cst (.int .i64 0)), some (69, false)⟩,
  ⟨some 72, .pick (.tmp 69) (.cst (.bool true)) (.tmp 71), none⟩,
  ⟨some 73, .nilck (.tmp 64), none⟩,
  ⟨some 74, .faddr 3 (.tmp 73), none⟩,
  ⟨none, .store 1 (.tmp 74) (.tmp 72), none⟩] :: K) fr S := rfl
def regex_reader_class_r20 : List POper := [
  ⟨some 75, .mov (.cst (.int .i64 0)), none⟩]
@[simp] theorem regex_reader_class_r20_go (T : Tbl) (K : List Kt) (fr : Fr) (S : St) : gval T (.ops regex_reader_class_r20 :: K) fr S = gval T (.ops [
  ⟨some 75, .mov (.cst (.int .i64 0)), none⟩] :: K) fr S := rfl
def regex_reader_class_r21 : List POper := [
  ⟨some 76, .arith .lss (.tmp 75) (.cst (.int .i64 256)), none⟩]
@[simp] theorem regex_reader_class_r21_go (T : Tbl) (K : List Kt) (fr : Fr) (S : St) : gval T (.ops regex_reader_class_r21 :: K) fr S = gval T (.ops [
  ⟨some 76, .arith .lss (.tmp 75) (.cst (.int .i64 256)), none⟩] :: K) fr S := rfl
def regex_reader_class_r22 : List POper := [
  ⟨some 77, .mov (.tmp 75), none⟩,
  ⟨some 9, .mov (.tmp 77), none⟩]
@[simp] theorem regex_reader_class_r22_go (T : Tbl) (K : List Kt) (fr : Fr) (S : St) : gval T (.ops regex_reader_class_r22 :: K) fr S = gval T (.ops [
  ⟨some 77, .mov (.tmp 75), none⟩,
  ⟨some 9, .mov (.tmp 77), none⟩] :: K) fr S := rfl
def regex_reader_class_r23 : List POper := [
  ⟨some 78, .mov (.tmp 3), none⟩,
  ⟨some 79, .mov (.tmp 9), none⟩,
  ⟨some 80, .mov (.tmp 3), none⟩,
  ⟨some 81, .mov (.tmp 9), none⟩,
  ⟨some 82, .nilck (.tmp 80), none⟩,
  ⟨some 83, .iaddra 256 1 (.tmp 82) (.tmp 81), none⟩,
  ⟨some 84, .load false 1 false (.tmp 83), none⟩,
  ⟨some 85, .mov (.tmp 4), none⟩,
  ⟨some 86, .eqb true (.tmp 84) (.tmp 85), none⟩,
  ⟨some 87, .nilck (.tmp 78), none⟩,
  ⟨some 88, .iaddra 256 1 (.tmp 87) (.tmp 79), none⟩,
  ⟨none, .store 1 (.tmp 88) (.tmp 86), none⟩]
@[simp] theorem regex_reader_class_r23_go (T : Tbl) (K : List Kt) (fr : Fr) (S : St) : gval T (.ops regex_reader_class_r23 :: K) fr S = gval T (.ops [
  ⟨some 78, .mov (.tmp 3), none⟩,
  ⟨some 79, .mov (.tmp 9), none⟩,
  ⟨some 80, .mov (.tmp 3), none⟩,
  ⟨some 81, .mov (.tmp 9), none⟩,
  ⟨some 82, .nilck (.tmp 80), none⟩,
  ⟨some 83, .iaddra 256 1 (.tmp 82) (.tmp 81), none⟩,
  ⟨some 84, .load false 1 false (.tmp 83), none⟩,
  ⟨some 85, .mov (.tmp 4), none⟩,
  ⟨some 86, .eqb true (.tmp 84) (.tmp 85), none⟩,
  ⟨some 87, .nilck (.tmp 78), none⟩,
  ⟨some 88, .iaddra 256 1 (.tmp 87) (.tmp 79), none⟩,
  ⟨none, .store 1 (.tmp 88) (.tmp 86), none⟩] :: K) fr S := rfl
def regex_reader_class_r24 : List POper := [
  ⟨some 89, .arith .add (.tmp 75) (.cst (.int .i64 1)), none⟩,
  ⟨some 75, .mov (.tmp 89), none⟩]
@[simp] theorem regex_reader_class_r24_go (T : Tbl) (K : List Kt) (fr : Fr) (S : St) : gval T (.ops regex_reader_class_r24 :: K) fr S = gval T (.ops [
  ⟨some 89, .arith .add (.tmp 75) (.cst (.int .i64 1)), none⟩,
  ⟨some 75, .mov (.tmp 89), none⟩] :: K) fr S := rfl
def regex_reader_class_l2 : PCode :=
  (.seq (.region regex_reader_class_r21) (.seq (.cond (.tmp 76) .skip (.exit 4)) (.seq (.block 5 (.seq (.clr [(77, 78)] (.region regex_reader_class_r22)) (.clr [(78, 89)] (.region regex_reader_class_r23)))) (.clr [(89, 90)] (.region regex_reader_class_r24)))))
@[simp] theorem regex_reader_class_l2_go (T : Tbl) (K : List Kt) (fr : Fr) (S : St) : gval T (.code regex_reader_class_l2 :: K) fr S = gval T (.code (.seq (.region regex_reader_class_r21) (.seq (.cond (.tmp 76) .skip (.exit 4)) (.seq (.block 5 (.seq (.clr [(77, 78)] (.region regex_reader_class_r22)) (.clr [(78, 89)] (.region regex_reader_class_r23)))) (.clr [(89, 90)] (.region regex_reader_class_r24))))) :: K) fr S := rfl
def regex_reader_class_r25 : List POper := [
  ⟨some 90, .mov (.tmp 3), none⟩,
  ⟨some 91, .mkif 12 (.tmp 90), none⟩,
  ⟨some 2, .mov (.tmp 91), none⟩]
@[simp] theorem regex_reader_class_r25_go (T : Tbl) (K : List Kt) (fr : Fr) (S : St) : gval T (.ops regex_reader_class_r25 :: K) fr S = gval T (.ops [
  ⟨some 90, .mov (.tmp 3), none⟩,
  ⟨some 91, .mkif 12 (.tmp 90), none⟩,
  ⟨some 2, .mov (.tmp 91), none⟩] :: K) fr S := rfl
def regex_reader_class : PCodeFn :=
  ⟨1, [.tmp 2],
  (.seq (.region regex_reader_class_r0) (.seq (.clr [(10, 12)] (.region regex_reader_class_r1)) (.seq (.clr [(12, 14)] (.region regex_reader_class_r2)) (.seq (.seq (.region regex_reader_class_r3) (.cond (.tmp 14) (.clr [(15, 17)] (.region regex_reader_class_r4)) .skip)) (.seq (.region regex_reader_class_r5) (.seq (.block 0 (.loop regex_reader_class_l0)) (.seq (.clr [(62, 64)] (.region regex_reader_class_r18)) (.seq (.clr [(64, 75)] (.region regex_reader_class_r19)) (.seq (.seq (.region regex_reader_class_r20) (.block 4 (.loop regex_reader_class_l2))) (.seq (.clr [(90, 92)] (.region regex_reader_class_r25)) .ret)))))))))), false⟩

end Ps
