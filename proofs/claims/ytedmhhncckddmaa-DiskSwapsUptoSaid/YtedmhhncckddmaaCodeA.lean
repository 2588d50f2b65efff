/- The functions' code, as the pure semantics has it: printed by program. -/
import Derived.Test.YtedmhhncckddmaaWalk
namespace Ps
open Go
set_option maxRecDepth 10000

/-! gauge/gaugelaw04.DiskSwaps: 472 -/
def law04_DiskSwaps_r0 : List POper := [
  ⟨some 8, .mov (.cst (.bool false)), none⟩]
@[simp] theorem law04_DiskSwaps_r0_go (T : Tbl) (K : List Kt) (fr : Fr) (S : St) : gval T (.ops law04_DiskSwaps_r0 :: K) fr S = gval T (.ops [
  ⟨some 8, .mov (.cst (.bool false)), none⟩] :: K) fr S := rfl
def law04_DiskSwaps_r1 : List POper := [
  ⟨some 18, .call .std 16 [(.cst (.int .i64 4194304))], none⟩,
  ⟨some 17, .mov (.tmp 18), none⟩,
  ⟨some 19, .extract 0 (.tmp 17), none⟩,
  ⟨some 20, .extract 1 (.tmp 17), none⟩,
  ⟨some 9, .mov (.tmp 19), none⟩,
  ⟨some 10, .mov (.tmp 20), none⟩]
@[simp] theorem law04_DiskSwaps_r1_go (T : Tbl) (K : List Kt) (fr : Fr) (S : St) : gval T (.ops law04_DiskSwaps_r1 :: K) fr S = gval T (.ops [
  ⟨some 18, .call .std 16 [(.cst (.int .i64 4194304))], none⟩,
  ⟨some 17, .mov (.tmp 18), none⟩,
  ⟨some 19, .extract 0 (.tmp 17), none⟩,
  ⟨some 20, .extract 1 (.tmp 17), none⟩,
  ⟨some 9, .mov (.tmp 19), none⟩,
  ⟨some 10, .mov (.tmp 20), none⟩] :: K) fr S := rfl
def law04_DiskSwaps_r2 : List POper := [
  ⟨some 21, .mov (.tmp 10), none⟩,
  ⟨some 22, .arith .neq (.tmp 21) (.cst (.int .i64 0)), none⟩,
  ⟨some 23, .mov (.tmp 22), none⟩,
  ⟨some 24, .mov (.tmp 9), some (23, false)⟩,
  ⟨some 25, .eqn false .p (.tmp 24), some (23, false)⟩,
  ⟨some 26, .pick (.tmp 23) (.cst (.bool true)) (.tmp 25), none⟩,
  ⟨some 27, .mov (.tmp 26), none⟩,
  ⟨some 28, .mov (.tmp 0), some (27, false)⟩,
  ⟨some 29, .len false (.tmp 28), some (27, false)⟩,
  ⟨some 30, .mov (.tmp 1), some (27, false)⟩,
  ⟨some 31, .len false (.tmp 30), some (27, false)⟩,
  ⟨some 32, .arith .add (.tmp 29) (.tmp 31), some (27, false)⟩,
  ⟨some 33, .arith .gtr (.tmp 32) (.cst (.int .i64 100000)), some (27, false)⟩,
  ⟨some 34, .pick (.tmp 27) (.cst (.bool true)) (.tmp 33), none⟩]
@[simp] theorem law04_DiskSwaps_r2_go (T : Tbl) (K : List Kt) (fr : Fr) (S : St) : gval T (.ops law04_DiskSwaps_r2 :: K) fr S = gval T (.ops [
  ⟨some 21, .mov (.tmp 10), none⟩,
  ⟨some 22, .arith .neq (.tmp 21) (.cst (.int .i64 0)), none⟩,
  ⟨some 23, .mov (.tmp 22), none⟩,
  ⟨some 24, .mov (.tmp 9), some (23, false)⟩,
  ⟨some 25, .eqn false .p (.tmp 24), some (23, false)⟩,
  ⟨some 26, .pick (.tmp 23) (.cst (.bool true)) (.tmp 25), none⟩,
  ⟨some 27, .mov (.tmp 26), none⟩,
  ⟨some 28, .mov (.tmp 0), some (27, false)⟩,
  ⟨some 29, .len false (.tmp 28), some (27, false)⟩,
  ⟨some 30, .mov (.tmp 1), some (27, false)⟩,
  ⟨some 31, .len false (.tmp 30), some (27, false)⟩,
  ⟨some 32, .arith .add (.tmp 29) (.tmp 31), some (27, false)⟩,
  ⟨some 33, .arith .gtr (.tmp 32) (.cst (.int .i64 100000)), some (27, false)⟩,
  ⟨some 34, .pick (.tmp 27) (.cst (.bool true)) (.tmp 33), none⟩] :: K) fr S := rfl
def law04_DiskSwaps_r3 : List POper := [
  ⟨some 35, .mov (.tmp 10), none⟩,
  ⟨some 36, .arith .eql (.tmp 35) (.cst (.int .i64 0)), none⟩,
  ⟨some 37, .mov (.tmp 36), none⟩,
  ⟨some 38, .mov (.tmp 9), some (37, true)⟩,
  ⟨some 39, .eqn true .p (.tmp 38), some (37, true)⟩,
  ⟨some 40, .pick (.tmp 37) (.tmp 39) (.cst (.bool false)), none⟩,
  ⟨some 41, .mov (.tmp 40), none⟩,
  ⟨some 42, .call .pur 18 [], some (41, true)⟩,
  ⟨some 43, .pick (.tmp 41) (.tmp 42) (.cst (.bool false)), none⟩,
  ⟨some 8, .mov (.tmp 43), none⟩]
@[simp] theorem law04_DiskSwaps_r3_go (T : Tbl) (K : List Kt) (fr : Fr) (S : St) : gval T (.ops law04_DiskSwaps_r3 :: K) fr S = gval T (.ops [
  ⟨some 35, .mov (.tmp 10), none⟩,
  ⟨some 36, .arith .eql (.tmp 35) (.cst (.int .i64 0)), none⟩,
  ⟨some 37, .mov (.tmp 36), none⟩,
  ⟨some 38, .mov (.tmp 9), some (37, true)⟩,
  ⟨some 39, .eqn true .p (.tmp 38), some (37, true)⟩,
  ⟨some 40, .pick (.tmp 37) (.tmp 39) (.cst (.bool false)), none⟩,
  ⟨some 41, .mov (.tmp 40), none⟩,
  ⟨some 42, .call .pur 18 [], some (41, true)⟩,
  ⟨some 43, .pick (.tmp 41) (.tmp 42) (.cst (.bool false)), none⟩,
  ⟨some 8, .mov (.tmp 43), none⟩] :: K) fr S := rfl
def law04_DiskSwaps_r4 : List POper := [
  ⟨some 44, .mov (.tmp 9), none⟩,
  ⟨some 45, .call .std 77 [(.tmp 44), (.cst (.str [111, 110, 101]))], none⟩,
  ⟨some 46, .arith .neq (.tmp 45) (.cst (.int .i64 0)), none⟩,
  ⟨some 47, .mov (.tmp 46), none⟩,
  ⟨some 48, .mov (.tmp 9), some (47, false)⟩,
  ⟨some 49, .call .std 77 [(.tmp 48), (.cst (.str [116, 119, 111]))], some (47, false)⟩,
  ⟨some 50, .arith .neq (.tmp 49) (.cst (.int .i64 0)), some (47, false)⟩,
  ⟨some 51, .pick (.tmp 47) (.cst (.bool true)) (.tmp 50), none⟩,
  ⟨some 52, .mov (.tmp 51), none⟩,
  ⟨some 53, .mov (.tmp 9), some (52, false)⟩,
  ⟨some 54, .mov (.tmp 0), some (52, false)⟩,
  ⟨some 55, .call .std 78 [(.tmp 53), (.cst (.str [111, 110, 101])), (.tmp 54)], some (52, false)⟩,
  ⟨some 56, .arith .neq (.tmp 55) (.cst (.int .i64 0)), some (52, false)⟩,
  ⟨some 57, .pick (.tmp 52) (.cst (.bool true)) (.tmp 56), none⟩,
  ⟨some 58, .mov (.tmp 57), none⟩,
  ⟨some 59, .mov (.tmp 9), some (58, false)⟩,
  ⟨some 60, .mov (.tmp 1), some (58, false)⟩,
  ⟨some 61, .call .std 78 [(.tmp 59), (.cst (.str [116, 119, 111])), (.tmp 60)], some (58, false)⟩,
  ⟨some 62, .arith .neq (.tmp 61) (.cst (.int .i64 0)), some (58, false)⟩,
  ⟨some 63, .pick (.tmp 58) (.cst (.bool true)) (.tmp 62), none⟩,
  ⟨some 64, .mov (.tmp 63), none⟩,
  ⟨some 65, .mov (.tmp 9), some (64, false)⟩,
  ⟨some 66, .call .std 84 [(.tmp 65), (.cst (.str [111, 110, 101]))], some (64, false)⟩,
  ⟨some 67, .arith .neq (.tmp 66) (.cst (.int .i64 0)), some (64, false)⟩,
  ⟨some 68, .pick (.tmp 64) (.cst (.bool true)) (.tmp 67), none⟩,
  ⟨some 69, .mov (.tmp 68), none⟩,
  ⟨some 70, .mov (.tmp 9), some (69, false)⟩,
  ⟨some 71, .call .std 84 [(.tmp 70), (.cst (.str [116, 119, 111]))], some (69, false)⟩,
  ⟨some 72, .arith .neq (.tmp 71) (.cst (.int .i64 0)), some (69, false)⟩,
  ⟨some 73, .pick (.tmp 69) (.cst (.bool true)) (.tmp 72), none⟩,
  ⟨some 74, .mov (.tmp 73), none⟩,
  ⟨some 75, .mov (.tmp 9), some (74, false)⟩,
  ⟨some 76, .call .std 79 [(.tmp 75)], some (74, false)⟩,
  ⟨some 77, .arith .neq (.tmp 76) (.cst (.int .i64 0)), some (74, false)⟩,
  ⟨some 78, .pick (.tmp 74) (.cst (.bool true)) (.tmp 77), none⟩,
  ⟨some 79, .mov (.tmp 78), none⟩,
  ⟨some 80, .mov (.tmp 9), some (79, false)⟩,
  ⟨some 81, .call .std 82 [(.tmp 80), (.cst (.str [116, 119, 111])), (.cst (.str [111, 110, 101]))], some (79, false)⟩,
  ⟨some 82, .arith .neq (.tmp 81) (.cst (.int .i64 0)), some (79, false)⟩,
  ⟨some 83, .pick (.tmp 79) (.cst (.bool true)) (.tmp 82), none⟩]
@[simp] theorem law04_DiskSwaps_r4_go (T : Tbl) (K : List Kt) (fr : Fr) (S : St) : gval T (.ops law04_DiskSwaps_r4 :: K) fr S = gval T (.ops [
  ⟨some 44, .mov (.tmp 9), none⟩,
  ⟨some 45, .call .std 77 [(.tmp 44), (.cst (.str [111, 110, 101]))], none⟩,
  ⟨some 46, .arith .neq (.tmp 45) (.cst (.int .i64 0)), none⟩,
  ⟨some 47, .mov (.tmp 46), none⟩,
  ⟨some 48, .mov (.tmp 9), some (47, false)⟩,
  ⟨some 49, .call .std 77 [(.tmp 48), (.cst (.str [116, 119, 111]))], some (47, false)⟩,
  ⟨some 50, .arith .neq (.tmp 49) (.cst (.int .i64 0)), some (47, false)⟩,
  ⟨some 51, .pick (.tmp 47) (.cst (.bool true)) (.tmp 50), none⟩,
  ⟨some 52, .mov (.tmp 51), none⟩,
  ⟨some 53, .mov (.tmp 9), some (52, false)⟩,
  ⟨some 54, .mov (.tmp 0), some (52, false)⟩,
  ⟨some 55, .call .std 78 [(.tmp 53), (.cst (.str [111, 110, 101])), (.tmp 54)], some (52, false)⟩,
  ⟨some 56, .arith .neq (.tmp 55) (.cst (.int .i64 0)), some (52, false)⟩,
  ⟨some 57, .pick (.tmp 52) (.cst (.bool true)) (.tmp 56), none⟩,
  ⟨some 58, .mov (.tmp 57), none⟩,
  ⟨some 59, .mov (.tmp 9), some (58, false)⟩,
  ⟨some 60, .mov (.tmp 1), some (58, false)⟩,
  ⟨some 61, .call .std 78 [(.tmp 59), (.cst (.str [116, 119, 111])), (.tmp 60)], some (58, false)⟩,
  ⟨some 62, .arith .neq (.tmp 61) (.cst (.int .i64 0)), some (58, false)⟩,
  ⟨some 63, .pick (.tmp 58) (.cst (.bool true)) (.tmp 62), none⟩,
  ⟨some 64, .mov (.tmp 63), none⟩,
  ⟨some 65, .mov (.tmp 9), some (64, false)⟩,
  ⟨some 66, .call .std 84 [(.tmp 65), (.cst (.str [111, 110, 101]))], some (64, false)⟩,
  ⟨some 67, .arith .neq (.tmp 66) (.cst (.int .i64 0)), some (64, false)⟩,
  ⟨some 68, .pick (.tmp 64) (.cst (.bool true)) (.tmp 67), none⟩,
  ⟨some 69, .mov (.tmp 68), none⟩,
  ⟨some 70, .mov (.tmp 9), some (69, false)⟩,
  ⟨some 71, .call .std 84 [(.tmp 70), (.cst (.str [116, 119, 111]))], some (69, false)⟩,
  ⟨some 72, .arith .neq (.tmp 71) (.cst (.int .i64 0)), some (69, false)⟩,
  ⟨some 73, .pick (.tmp 69) (.cst (.bool true)) (.tmp 72), none⟩,
  ⟨some 74, .mov (.tmp 73), none⟩,
  ⟨some 75, .mov (.tmp 9), some (74, false)⟩,
  ⟨some 76, .call .std 79 [(.tmp 75)], some (74, false)⟩,
  ⟨some 77, .arith .neq (.tmp 76) (.cst (.int .i64 0)), some (74, false)⟩,
  ⟨some 78, .pick (.tmp 74) (.cst (.bool true)) (.tmp 77), none⟩,
  ⟨some 79, .mov (.tmp 78), none⟩,
  ⟨some 80, .mov (.tmp 9), some (79, false)⟩,
  ⟨some 81, .call .std 82 [(.tmp 80), (.cst (.str [116, 119, 111])), (.cst (.str [111, 110, 101]))], some (79, false)⟩,
  ⟨some 82, .arith .neq (.tmp 81) (.cst (.int .i64 0)), some (79, false)⟩,
  ⟨some 83, .pick (.tmp 79) (.cst (.bool true)) (.tmp 82), none⟩] :: K) fr S := rfl
def law04_DiskSwaps_r5 : List POper := [
  ⟨some 8, .mov (.cst (.bool false)), none⟩]
@[simp] theorem law04_DiskSwaps_r5_go (T : Tbl) (K : List Kt) (fr : Fr) (S : St) : gval T (.ops law04_DiskSwaps_r5 :: K) fr S = gval T (.ops [
  ⟨some 8, .mov (.cst (.bool false)), none⟩] :: K) fr S := rfl
def law04_DiskSwaps_r6 : List POper := [
  ⟨some 84, .mov (.tmp 3), none⟩,
  ⟨some 85, .mov (.tmp 84), none⟩,
  ⟨some 86, .mov (.tmp 9), some (85, true)⟩,
  ⟨some 87, .call .std 79 [(.tmp 86)], some (85, true)⟩,
  ⟨some 88, .arith .neq (.tmp 87) (.cst (.int .i64 0)), some (85, true)⟩,
  ⟨some 89, .pick (.tmp 85) (.tmp 88) (.cst (.bool false)), none⟩]
@[simp] theorem law04_DiskSwaps_r6_go (T : Tbl) (K : List Kt) (fr : Fr) (S : St) : gval T (.ops law04_DiskSwaps_r6 :: K) fr S = gval T (.ops [
  ⟨some 84, .mov (.tmp 3), none⟩,
  ⟨some 85, .mov (.tmp 84), none⟩,
  ⟨some 86, .mov (.tmp 9), some (85, true)⟩,
  ⟨some 87, .call .std 79 [(.tmp 86)], some (85, true)⟩,
  ⟨some 88, .arith .neq (.tmp 87) (.cst (.int .i64 0)), some (85, true)⟩,
  ⟨some 89, .pick (.tmp 85) (.tmp 88) (.cst (.bool false)), none⟩] :: K) fr S := rfl
def law04_DiskSwaps_r7 : List POper := [
  ⟨some 8, .mov (.cst (.bool false)), none⟩]
@[simp] theorem law04_DiskSwaps_r7_go (T : Tbl) (K : List Kt) (fr : Fr) (S : St) : gval T (.ops law04_DiskSwaps_r7 :: K) fr S = gval T (.ops [
  ⟨some 8, .mov (.cst (.bool false)), none⟩] :: K) fr S := rfl
def law04_DiskSwaps_r8 : List POper := [
  ⟨some 90, .mov (.tmp 9), none⟩,
  ⟨some 91, .mov (.tmp 2), none⟩,
  ⟨some 92, .call .std 80 [(.tmp 90), (.tmp 91), (.cst .nils)], none⟩]
@[simp] theorem law04_DiskSwaps_r8_go (T : Tbl) (K : List Kt) (fr : Fr) (S : St) : gval T (.ops law04_DiskSwaps_r8 :: K) fr S = gval T (.ops [
  ⟨some 90, .mov (.tmp 9), none⟩,
  ⟨some 91, .mov (.tmp 2), none⟩,
  ⟨some 92, .call .std 80 [(.tmp 90), (.tmp 91), (.cst .nils)], none⟩] :: K) fr S := rfl
def law04_DiskSwaps_r9 : List POper := [
  ⟨some 94, .mov (.tmp 9), none⟩,
  ⟨some 95, .call .std 81 [(.tmp 94), (.cst (.str [111, 110, 101]))], none⟩,
  ⟨some 93, .mov (.tmp 95), none⟩,
  ⟨some 96, .extract 0 (.tmp 93), none⟩,
  ⟨some 97, .extract 1 (.tmp 93), none⟩,
  ⟨some 11, .mov (.tmp 96), none⟩,
  ⟨some 12, .mov (.tmp 97), none⟩]
@[simp] theorem law04_DiskSwaps_r9_go (T : Tbl) (K : List Kt) (fr : Fr) (S : St) : gval T (.ops law04_DiskSwaps_r9 :: K) fr S = gval T (.ops [
  ⟨some 94, .mov (.tmp 9), none⟩,
  ⟨some 95, .call .std 81 [(.tmp 94), (.cst (.str [111, 110, 101]))], none⟩,
  ⟨some 93, .mov (.tmp 95), none⟩,
  ⟨some 96, .extract 0 (.tmp 93), none⟩,
  ⟨some 97, .extract 1 (.tmp 93), none⟩,
  ⟨some 11, .mov (.tmp 96), none⟩,
  ⟨some 12, .mov (.tmp 97), none⟩] :: K) fr S := rfl
def law04_DiskSwaps_r10 : List POper := [
  ⟨some 99, .mov (.tmp 9), none⟩,
  ⟨some 100, .call .std 81 [(.tmp 99), (.cst (.str [116, 119, 111]))], none⟩,
  ⟨some 98, .mov (.tmp 100), none⟩,
  ⟨some 101, .extract 0 (.tmp 98), none⟩,
  ⟨some 102, .extract 1 (.tmp 98), none⟩,
  ⟨some 13, .mov (.tmp 101), none⟩,
  ⟨some 14, .mov (.tmp 102), none⟩]
@[simp] theorem law04_DiskSwaps_r10_go (T : Tbl) (K : List Kt) (fr : Fr) (S : St) : gval T (.ops law04_DiskSwaps_r10 :: K) fr S = gval T (.ops [
  ⟨some 99, .mov (.tmp 9), none⟩,
  ⟨some 100, .call .std 81 [(.tmp 99), (.cst (.str [116, 119, 111]))], none⟩,
  ⟨some 98, .mov (.tmp 100), none⟩,
  ⟨some 101, .extract 0 (.tmp 98), none⟩,
  ⟨some 102, .extract 1 (.tmp 98), none⟩,
  ⟨some 13, .mov (.tmp 101), none⟩,
  ⟨some 14, .mov (.tmp 102), none⟩] :: K) fr S := rfl
def law04_DiskSwaps_r11 : List POper := [
  ⟨some 103, .mov (.tmp 11), none⟩,
  ⟨some 104, .toStr (.tmp 103), none⟩,
  ⟨some 105, .mov (.tmp 1), none⟩,
  ⟨some 106, .toStr (.tmp 105), none⟩,
  ⟨some 107, .arith .eql (.tmp 104) (.tmp 106), none⟩,
  ⟨some 108, .mov (.tmp 107), none⟩,
  ⟨some 109, .mov (.tmp 14), some (108, true)⟩,
  ⟨some 110, .arith .eql (.tmp 109) (.cst (.int .i64 9)), some (108, true)⟩,
  ⟨some 111, .pick (.tmp 108) (.tmp 110) (.cst (.bool false)), none⟩,
  ⟨some 15, .mov (.tmp 111), none⟩]
@[simp] theorem law04_DiskSwaps_r11_go (T : Tbl) (K : List Kt) (fr : Fr) (S : St) : gval T (.ops law04_DiskSwaps_r11 :: K) fr S = gval T (.ops [
  ⟨some 103, .mov (.tmp 11), none⟩,
  ⟨some 104, .toStr (.tmp 103), none⟩,
  ⟨some 105, .mov (.tmp 1), none⟩,
  ⟨some 106, .toStr (.tmp 105), none⟩,
  ⟨some 107, .arith .eql (.tmp 104) (.tmp 106), none⟩,
  ⟨some 108, .mov (.tmp 107), none⟩,
  ⟨some 109, .mov (.tmp 14), some (108, true)⟩,
  ⟨some 110, .arith .eql (.tmp 109) (.cst (.int .i64 9)), some (108, true)⟩,
  ⟨some 111, .pick (.tmp 108) (.tmp 110) (.cst (.bool false)), none⟩,
  ⟨some 15, .mov (.tmp 111), none⟩] :: K) fr S := rfl
def law04_DiskSwaps_r12 : List POper := [
  ⟨some 112, .mov (.tmp 11), none⟩,
  ⟨some 113, .toStr (.tmp 112), none⟩,
  ⟨some 114, .mov (.tmp 0), none⟩,
  ⟨some 115, .toStr (.tmp 114), none⟩,
  ⟨some 116, .arith .eql (.tmp 113) (.tmp 115), none⟩,
  ⟨some 117, .mov (.tmp 116), none⟩,
  ⟨some 118, .mov (.tmp 14), some (117, true)⟩,
  ⟨some 119, .arith .eql (.tmp 118) (.cst (.int .i64 0)), some (117, true)⟩,
  ⟨some 120, .pick (.tmp 117) (.tmp 119) (.cst (.bool false)), none⟩,
  ⟨some 16, .mov (.tmp 120), none⟩]
@[simp] theorem law04_DiskSwaps_r12_go (T : Tbl) (K : List Kt) (fr : Fr) (S : St) : gval T (.ops law04_DiskSwaps_r12 :: K) fr S = gval T (.ops [
  ⟨some 112, .mov (.tmp 11), none⟩,
  ⟨some 113, .toStr (.tmp 112), none⟩,
  ⟨some 114, .mov (.tmp 0), none⟩,
  ⟨some 115, .toStr (.tmp 114), none⟩,
  ⟨some 116, .arith .eql (.tmp 113) (.tmp 115), none⟩,
  ⟨some 117, .mov (.tmp 116), none⟩,
  ⟨some 118, .mov (.tmp 14), some (117, true)⟩,
  ⟨some 119, .arith .eql (.tmp 118) (.cst (.int .i64 0)), some (117, true)⟩,
  ⟨some 120, .pick (.tmp 117) (.tmp 119) (.cst (.bool false)), none⟩,
  ⟨some 16, .mov (.tmp 120), none⟩] :: K) fr S := rfl
def law04_DiskSwaps_r13 : List POper := [
  ⟨some 121, .mov (.tmp 12), none⟩,
  ⟨some 122, .arith .eql (.tmp 121) (.cst (.int .i64 0)), none⟩,
  ⟨some 123, .mov (.tmp 122), none⟩,
  ⟨some 124, .mov (.tmp 15), some (123, true)⟩,
  ⟨some 125, .mov (.tmp 124), some (123, true)⟩,
  ⟨some 126, .mov (.tmp 3), some (125, false)⟩,
  ⟨some 127, .un .not (.tmp 126), some (125, false)⟩,
  ⟨some 128, .mov (.tmp 127), some (125, false)⟩,
  ⟨some 129, .mov (.tmp 16), some (128, true)⟩,
  ⟨some 130, .pick (.tmp 128) (.tmp 129) (.cst (.bool false)), some (125, false)⟩,
  ⟨some 131, .pick (.tmp 125) (.cst (.bool true)) (.tmp 130), some (123, true)⟩,
  ⟨some 132, .pick (.tmp 123) (.tmp 131) (.cst (.bool false)), none⟩,
  ⟨some 133, .mov (.tmp 132), none⟩,
  ⟨some 134, .call .pur 18 [], some (133, true)⟩,
  ⟨some 135, .pick (.tmp 133) (.tmp 134) (.cst (.bool false)), none⟩,
  ⟨some 8, .mov (.tmp 135), none⟩]
@[simp] theorem law04_DiskSwaps_r13_go (T : Tbl) (K : List Kt) (fr : Fr) (S : St) : gval T (.ops law04_DiskSwaps_r13 :: K) fr S = gval T (.ops [
  ⟨some 121, .mov (.tmp 12), none⟩,
  ⟨some 122, .arith .eql (.tmp 121) (.cst (.int .i64 0)), none⟩,
  ⟨some 123, .mov (.tmp 122), none⟩,
  ⟨some 124, .mov (.tmp 15), some (123, true)⟩,
  ⟨some 125, .mov (.tmp 124), some (123, true)⟩,
  ⟨some 126, .mov (.tmp 3), some (125, false)⟩,
  ⟨some 127, .un .not (.tmp 126), some (125, false)⟩,
  ⟨some 128, .mov (.tmp 127), some (125, false)⟩,
  ⟨some 129, .mov (.tmp 16), some (128, true)⟩,
  ⟨some 130, .pick (.tmp 128) (.tmp 129) (.cst (.bool false)), some (125, false)⟩,
  ⟨some 131, .pick (.tmp 125) (.cst (.bool true)) (.tmp 130), some (123, true)⟩,
  ⟨some 132, .pick (.tmp 123) (.tmp 131) (.cst (.bool false)), none⟩,
  ⟨some 133, .mov (.tmp 132), none⟩,
  ⟨some 134, .call .pur 18 [], some (133, true)⟩,
  ⟨some 135, .pick (.tmp 133) (.tmp 134) (.cst (.bool false)), none⟩,
  ⟨some 8, .mov (.tmp 135), none⟩] :: K) fr S := rfl
def law04_DiskSwaps : PCodeFn :=
  ⟨4, [.tmp 8],
  (.seq (.region law04_DiskSwaps_r0) (.seq (.clr [(17, 21)] (.region law04_DiskSwaps_r1)) (.seq (.seq (.clr [(21, 34)] (.region law04_DiskSwaps_r2)) (.cond (.tmp 34) (.seq (.clr [(35, 44)] (.region law04_DiskSwaps_r3)) .ret) .skip)) (.seq (.seq (.clr [(44, 83)] (.region law04_DiskSwaps_r4)) (.cond (.tmp 83) (.seq (.region law04_DiskSwaps_r5) .ret) .skip)) (.seq (.seq (.clr [(84, 89)] (.region law04_DiskSwaps_r6)) (.cond (.tmp 89) (.seq (.region law04_DiskSwaps_r7) .ret) .skip)) (.seq (.clr [(90, 93)] (.region law04_DiskSwaps_r8)) (.seq (.clr [(93, 98)] (.region law04_DiskSwaps_r9)) (.seq (.clr [(13, 14), (98, 103)] (.region law04_DiskSwaps_r10)) (.seq (.clr [(103, 112)] (.region law04_DiskSwaps_r11)) (.seq (.clr [(112, 121)] (.region law04_DiskSwaps_r12)) (.seq (.clr [(121, 136)] (.region law04_DiskSwaps_r13)) .ret))))))))))), false⟩

/-! gauge/gaugelaw04.DiskLasts: 467 -/
def law04_DiskLasts_r0 : List POper := [
  ⟨some 10, .mov (.cst (.bool false)), none⟩]
@[simp] theorem law04_DiskLasts_r0_go (T : Tbl) (K : List Kt) (fr : Fr) (S : St) : gval T (.ops law04_DiskLasts_r0 :: K) fr S = gval T (.ops [
  ⟨some 10, .mov (.cst (.bool false)), none⟩] :: K) fr S := rfl
def law04_DiskLasts_r1 : List POper := [
  ⟨some 18, .mov (.tmp 0), none⟩,
  ⟨some 19, .mov (.tmp 1), none⟩,
  ⟨some 20, .call .std 466 [(.tmp 18), (.tmp 19)], none⟩,
  ⟨some 11, .mov (.tmp 20), none⟩]
@[simp] theorem law04_DiskLasts_r1_go (T : Tbl) (K : List Kt) (fr : Fr) (S : St) : gval T (.ops law04_DiskLasts_r1 :: K) fr S = gval T (.ops [
  ⟨some 18, .mov (.tmp 0), none⟩,
  ⟨some 19, .mov (.tmp 1), none⟩,
  ⟨some 20, .call .std 466 [(.tmp 18), (.tmp 19)], none⟩,
  ⟨some 11, .mov (.tmp 20), none⟩] :: K) fr S := rfl
def law04_DiskLasts_r2 : List POper := [
  ⟨some 21, .mov (.tmp 11), none⟩,
  ⟨some 22, .eqn false .p (.tmp 21), none⟩]
@[simp] theorem law04_DiskLasts_r2_go (T : Tbl) (K : List Kt) (fr : Fr) (S : St) : gval T (.ops law04_DiskLasts_r2 :: K) fr S = gval T (.ops [
  ⟨some 21, .mov (.tmp 11), none⟩,
  ⟨some 22, .eqn false .p (.tmp 21), none⟩] :: K) fr S := rfl
def law04_DiskLasts_r3 : List POper := [
  ⟨some 23, .call .pur 18 [], none⟩,
  ⟨some 10, .mov (.tmp 23), none⟩]
@[simp] theorem law04_DiskLasts_r3_go (T : Tbl) (K : List Kt) (fr : Fr) (S : St) : gval T (.ops law04_DiskLasts_r3 :: K) fr S = gval T (.ops [
  ⟨some 23, .call .pur 18 [], none⟩,
  ⟨some 10, .mov (.tmp 23), none⟩] :: K) fr S := rfl
def law04_DiskLasts_r4 : List POper := [
  ⟨some 24, .mov (.tmp 11), none⟩,
  ⟨some 25, .call .std 85 [(.tmp 24), (.cst (.int .i64 (-1)))], none⟩]
@[simp] theorem law04_DiskLasts_r4_go (T : Tbl) (K : List Kt) (fr : Fr) (S : St) : gval T (.ops law04_DiskLasts_r4 :: K) fr S = gval T (.ops [
  ⟨some 24, .mov (.tmp 11), none⟩,
  ⟨some 25, .call .std 85 [(.tmp 24), (.cst (.int .i64 (-1)))], none⟩] :: K) fr S := rfl
def law04_DiskLasts_r5 : List POper := [
  ⟨some 26, .mov (.tmp 11), none⟩,
  ⟨some 27, .mov (.tmp 2), none⟩,
  ⟨some 28, .call .std 84 [(.tmp 26), (.tmp 27)], none⟩,
  ⟨some 29, .arith .neq (.tmp 28) (.cst (.int .i64 0)), none⟩,
  ⟨some 30, .mov (.tmp 29), none⟩,
  ⟨some 31, .mov (.tmp 11), some (30, false)⟩,
  ⟨some 32, .call .std 79 [(.tmp 31)], some (30, false)⟩,
  ⟨some 33, .arith .neq (.tmp 32) (.cst (.int .i64 0)), some (30, false)⟩,
  ⟨some 34, .pick (.tmp 30) (.cst (.bool true)) (.tmp 33), none⟩]
@[simp] theorem law04_DiskLasts_r5_go (T : Tbl) (K : List Kt) (fr : Fr) (S : St) : gval T (.ops law04_DiskLasts_r5 :: K) fr S = gval T (.ops [
  ⟨some 26, .mov (.tmp 11), none⟩,
  ⟨some 27, .mov (.tmp 2), none⟩,
  ⟨some 28, .call .std 84 [(.tmp 26), (.tmp 27)], none⟩,
  ⟨some 29, .arith .neq (.tmp 28) (.cst (.int .i64 0)), none⟩,
  ⟨some 30, .mov (.tmp 29), none⟩,
  ⟨some 31, .mov (.tmp 11), some (30, false)⟩,
  ⟨some 32, .call .std 79 [(.tmp 31)], some (30, false)⟩,
  ⟨some 33, .arith .neq (.tmp 32) (.cst (.int .i64 0)), some (30, false)⟩,
  ⟨some 34, .pick (.tmp 30) (.cst (.bool true)) (.tmp 33), none⟩] :: K) fr S := rfl
def law04_DiskLasts_r6 : List POper := [
  ⟨some 35, .call .pur 18 [], none⟩,
  ⟨some 10, .mov (.tmp 35), none⟩]
@[simp] theorem law04_DiskLasts_r6_go (T : Tbl) (K : List Kt) (fr : Fr) (S : St) : gval T (.ops law04_DiskLasts_r6 :: K) fr S = gval T (.ops [
  ⟨some 35, .call .pur 18 [], none⟩,
  ⟨some 10, .mov (.tmp 35), none⟩] :: K) fr S := rfl
def law04_DiskLasts_r7 : List POper := [
  ⟨some 37, .mov (.tmp 11), none⟩,
  ⟨some 38, .mov (.tmp 2), none⟩,
  ⟨some 39, .call .std 81 [(.tmp 37), (.tmp 38)], none⟩,
  ⟨some 36, .mov (.tmp 39), none⟩,
  ⟨some 40, .extract 0 (.tmp 36), none⟩,
  ⟨some 41, .extract 1 (.tmp 36), none⟩,
  ⟨some 12, .mov (.tmp 40), none⟩,
  ⟨some 13, .mov (.tmp 41), none⟩]
@[simp] theorem law04_DiskLasts_r7_go (T : Tbl) (K : List Kt) (fr : Fr) (S : St) : gval T (.ops law04_DiskLasts_r7 :: K) fr S = gval T (.ops [
  ⟨some 37, .mov (.tmp 11), none⟩,
  ⟨some 38, .mov (.tmp 2), none⟩,
  ⟨some 39, .call .std 81 [(.tmp 37), (.tmp 38)], none⟩,
  ⟨some 36, .mov (.tmp 39), none⟩,
  ⟨some 40, .extract 0 (.tmp 36), none⟩,
  ⟨some 41, .extract 1 (.tmp 36), none⟩,
  ⟨some 12, .mov (.tmp 40), none⟩,
  ⟨some 13, .mov (.tmp 41), none⟩] :: K) fr S := rfl
def law04_DiskLasts_r8 : List POper := [
  ⟨some 42, .mov (.tmp 13), none⟩,
  ⟨some 43, .arith .neq (.tmp 42) (.cst (.int .i64 0)), none⟩]
@[simp] theorem law04_DiskLasts_r8_go (T : Tbl) (K : List Kt) (fr : Fr) (S : St) : gval T (.ops law04_DiskLasts_r8 :: K) fr S = gval T (.ops [
  ⟨some 42, .mov (.tmp 13), none⟩,
  ⟨some 43, .arith .neq (.tmp 42) (.cst (.int .i64 0)), none⟩] :: K) fr S := rfl
def law04_DiskLasts_r9 : List POper := [
  ⟨some 10, .mov (.cst (.bool false)), none⟩]
@[simp] theorem law04_DiskLasts_r9_go (T : Tbl) (K : List Kt) (fr : Fr) (S : St) : gval T (.ops law04_DiskLasts_r9 :: K) fr S = gval T (.ops [
  ⟨some 10, .mov (.cst (.bool false)), none⟩] :: K) fr S := rfl
def law04_DiskLasts_r10 : List POper := [
  ⟨some 44, .mov (.tmp 11), none⟩,
  ⟨some 45, .mov (.tmp 2), none⟩,
  ⟨some 46, .mov (.cst .und), none⟩,
  ⟨some 47, .bsl false (.int .u8 0) 4 [(0, (.cst (.int .u8 109))), (1, (.cst (.int .u8 111))), (2, (.cst (.int .u8 114))), (3, (.cst (.int .u8 101)))], none⟩,
  ⟨some 48, .call .std 78 [(.tmp 44), (.tmp 45), (.tmp 47)], none⟩,
  ⟨some 49, .arith .neq (.tmp 48) (.cst (.int .i64 0)), none⟩]
@[simp] theorem law04_DiskLasts_r10_go (T : Tbl) (K : List Kt) (fr : Fr) (S : St) : gval T (.ops law04_DiskLasts_r10 :: K) fr S = gval T (.ops [
  ⟨some 44, .mov (.tmp 11), none⟩,
  ⟨some 45, .mov (.tmp 2), none⟩,
  ⟨some 46, .mov (.cst .und), none⟩,
  ⟨some 47, .bsl false (.int .u8 0) 4 [(0, (.cst (.int .u8 109))), (1, (.cst (.int .u8 111))), (2, (.cst (.int .u8 114))), (3, (.cst (.int .u8 101)))], none⟩,
  ⟨some 48, .call .std 78 [(.tmp 44), (.tmp 45), (.tmp 47)], none⟩,
  ⟨some 49, .arith .neq (.tmp 48) (.cst (.int .i64 0)), none⟩] :: K) fr S := rfl
def law04_DiskLasts_r11 : List POper := [
  ⟨some 50, .call .pur 18 [], none⟩,
  ⟨some 10, .mov (.tmp 50), none⟩]
@[simp] theorem law04_DiskLasts_r11_go (T : Tbl) (K : List Kt) (fr : Fr) (S : St) : gval T (.ops law04_DiskLasts_r11 :: K) fr S = gval T (.ops [
  ⟨some 50, .call .pur 18 [], none⟩,
  ⟨some 10, .mov (.tmp 50), none⟩] :: K) fr S := rfl
def law04_DiskLasts_r12 : List POper := [
  ⟨some 52, .mov (.tmp 11), none⟩,
  ⟨some 53, .mov (.tmp 2), none⟩,
  ⟨some 54, .call .std 81 [(.tmp 52), (.tmp 53)], none⟩,
  ⟨some 51, .mov (.tmp 54), none⟩,
  ⟨some 55, .extract 0 (.tmp 51), none⟩,
  ⟨some 56, .extract 1 (.tmp 51), none⟩,
  ⟨some 14, .mov (.tmp 55), none⟩,
  ⟨some 15, .mov (.tmp 56), none⟩]
@[simp] theorem law04_DiskLasts_r12_go (T : Tbl) (K : List Kt) (fr : Fr) (S : St) : gval T (.ops law04_DiskLasts_r12 :: K) fr S = gval T (.ops [
  ⟨some 52, .mov (.tmp 11), none⟩,
  ⟨some 53, .mov (.tmp 2), none⟩,
  ⟨some 54, .call .std 81 [(.tmp 52), (.tmp 53)], none⟩,
  ⟨some 51, .mov (.tmp 54), none⟩,
  ⟨some 55, .extract 0 (.tmp 51), none⟩,
  ⟨some 56, .extract 1 (.tmp 51), none⟩,
  ⟨some 14, .mov (.tmp 55), none⟩,
  ⟨some 15, .mov (.tmp 56), none⟩] :: K) fr S := rfl
def law04_DiskLasts_r13 : List POper := [
  ⟨some 57, .mov (.tmp 11), none⟩,
  ⟨some 58, .mov (.tmp 3), none⟩,
  ⟨some 59, .mov (.tmp 4), none⟩,
  ⟨some 60, .call .std 80 [(.tmp 57), (.tmp 58), (.tmp 59)], none⟩,
  ⟨some 61, .arith .neq (.tmp 60) (.cst (.int .i64 0)), none⟩]
@[simp] theorem law04_DiskLasts_r13_go (T : Tbl) (K : List Kt) (fr : Fr) (S : St) : gval T (.ops law04_DiskLasts_r13 :: K) fr S = gval T (.ops [
  ⟨some 57, .mov (.tmp 11), none⟩,
  ⟨some 58, .mov (.tmp 3), none⟩,
  ⟨some 59, .mov (.tmp 4), none⟩,
  ⟨some 60, .call .std 80 [(.tmp 57), (.tmp 58), (.tmp 59)], none⟩,
  ⟨some 61, .arith .neq (.tmp 60) (.cst (.int .i64 0)), none⟩] :: K) fr S := rfl
def law04_DiskLasts_r14 : List POper := [
  ⟨some 10, .mov (.cst (.bool false)), none⟩]
@[simp] theorem law04_DiskLasts_r14_go (T : Tbl) (K : List Kt) (fr : Fr) (S : St) : gval T (.ops law04_DiskLasts_r14 :: K) fr S = gval T (.ops [
  ⟨some 10, .mov (.cst (.bool false)), none⟩] :: K) fr S := rfl
def law04_DiskLasts_r15 : List POper := [
  ⟨some 63, .mov (.tmp 11), none⟩,
  ⟨some 64, .mov (.tmp 2), none⟩,
  ⟨some 65, .call .std 81 [(.tmp 63), (.tmp 64)], none⟩,
  ⟨some 62, .mov (.tmp 65), none⟩,
  ⟨some 66, .extract 0 (.tmp 62), none⟩,
  ⟨some 67, .extract 1 (.tmp 62), none⟩,
  ⟨some 16, .mov (.tmp 66), none⟩,
  ⟨some 17, .mov (.tmp 67), none⟩]
@[simp] theorem law04_DiskLasts_r15_go (T : Tbl) (K : List Kt) (fr : Fr) (S : St) : gval T (.ops law04_DiskLasts_r15 :: K) fr S = gval T (.ops [
  ⟨some 63, .mov (.tmp 11), none⟩,
  ⟨some 64, .mov (.tmp 2), none⟩,
  ⟨some 65, .call .std 81 [(.tmp 63), (.tmp 64)], none⟩,
  ⟨some 62, .mov (.tmp 65), none⟩,
  ⟨some 66, .extract 0 (.tmp 62), none⟩,
  ⟨some 67, .extract 1 (.tmp 62), none⟩,
  ⟨some 16, .mov (.tmp 66), none⟩,
  ⟨some 17, .mov (.tmp 67), none⟩] :: K) fr S := rfl
def law04_DiskLasts_r16 : List POper := [
  ⟨some 68, .mov (.tmp 17), none⟩,
  ⟨some 69, .arith .eql (.tmp 68) (.cst (.int .i64 0)), none⟩,
  ⟨some 70, .mov (.tmp 69), none⟩,
  ⟨some 71, .mov (.tmp 16), some (70, true)⟩,
  ⟨some 72, .mov (.tmp 12), some (70, true)⟩,
  ⟨some 73, .call .std 468 [(.tmp 71), (.tmp 72)], some (70, true)⟩,
  ⟨some 74, .pick (.tmp 70) (.tmp 73) (.cst (.bool false)), none⟩,
  ⟨some 75, .mov (.tmp 74), none⟩,
  ⟨some 76, .mov (.tmp 14), some (75, true)⟩,
  ⟨some 77, .mov (.tmp 16), some (75, true)⟩,
  ⟨some 78, .call .std 468 [(.tmp 76), (.tmp 77)], some (75, true)⟩,
  ⟨some 79, .pick (.tmp 75) (.tmp 78) (.cst (.bool false)), none⟩,
  ⟨some 80, .mov (.tmp 79), none⟩,
  ⟨some 81, .call .pur 18 [], some (80, true)⟩,
  ⟨some 82, .pick (.tmp 80) (.tmp 81) (.cst (.bool false)), none⟩,
  ⟨some 10, .mov (.tmp 82), none⟩]
@[simp] theorem law04_DiskLasts_r16_go (T : Tbl) (K : List Kt) (fr : Fr) (S : St) : gval T (.ops law04_DiskLasts_r16 :: K) fr S = gval T (.ops [
  ⟨some 68, .mov (.tmp 17), none⟩,
  ⟨some 69, .arith .eql (.tmp 68) (.cst (.int .i64 0)), none⟩,
  ⟨some 70, .mov (.tmp 69), none⟩,
  ⟨some 71, .mov (.tmp 16), some (70, true)⟩,
  ⟨some 72, .mov (.tmp 12), some (70, true)⟩,
  ⟨some 73, .call .std 468 [(.tmp 71), (.tmp 72)], some (70, true)⟩,
  ⟨some 74, .pick (.tmp 70) (.tmp 73) (.cst (.bool false)), none⟩,
  ⟨some 75, .mov (.tmp 74), none⟩,
  ⟨some 76, .mov (.tmp 14), some (75, true)⟩,
  ⟨some 77, .mov (.tmp 16), some (75, true)⟩,
  ⟨some 78, .call .std 468 [(.tmp 76), (.tmp 77)], some (75, true)⟩,
  ⟨some 79, .pick (.tmp 75) (.tmp 78) (.cst (.bool false)), none⟩,
  ⟨some 80, .mov (.tmp 79), none⟩,
  ⟨some 81, .call .pur 18 [], some (80, true)⟩,
  ⟨some 82, .pick (.tmp 80) (.tmp 81) (.cst (.bool false)), none⟩,
  ⟨some 10, .mov (.tmp 82), none⟩] :: K) fr S := rfl
def law04_DiskLasts : PCodeFn :=
  ⟨5, [.tmp 10],
  (.seq (.region law04_DiskLasts_r0) (.seq (.clr [(18, 21)] (.region law04_DiskLasts_r1)) (.seq (.seq (.clr [(21, 22)] (.region law04_DiskLasts_r2)) (.cond (.tmp 22) (.seq (.clr [(23, 24)] (.region law04_DiskLasts_r3)) .ret) .skip)) (.seq (.clr [(24, 26)] (.region law04_DiskLasts_r4)) (.seq (.seq (.clr [(26, 34)] (.region law04_DiskLasts_r5)) (.cond (.tmp 34) (.seq (.clr [(35, 36)] (.region law04_DiskLasts_r6)) .ret) .skip)) (.seq (.clr [(36, 42)] (.region law04_DiskLasts_r7)) (.seq (.seq (.clr [(42, 43)] (.region law04_DiskLasts_r8)) (.cond (.tmp 43) (.seq (.region law04_DiskLasts_r9) .ret) .skip)) (.seq (.seq (.clr [(44, 49)] (.region law04_DiskLasts_r10)) (.cond (.tmp 49) (.seq (.clr [(50, 51)] (.region law04_DiskLasts_r11)) .ret) .skip)) (.seq (.clr [(15, 16), (51, 57)] (.region law04_DiskLasts_r12)) (.seq (.seq (.clr [(57, 61)] (.region law04_DiskLasts_r13)) (.cond (.tmp 61) (.seq (.region law04_DiskLasts_r14) .ret) .skip)) (.seq (.clr [(62, 68)] (.region law04_DiskLasts_r15)) (.seq (.clr [(68, 83)] (.region law04_DiskLasts_r16)) .ret)))))))))))), false⟩

/-! gauge/gaugelaw04.DiskNames: 469 -/
def law04_DiskNames_r0 : List POper := [
  ⟨some 8, .mov (.cst (.bool false)), none⟩]
@[simp] theorem law04_DiskNames_r0_go (T : Tbl) (K : List Kt) (fr : Fr) (S : St) : gval T (.ops law04_DiskNames_r0 :: K) fr S = gval T (.ops [
  ⟨some 8, .mov (.cst (.bool false)), none⟩] :: K) fr S := rfl
def law04_DiskNames_r1 : List POper := [
  ⟨some 14, .mov (.tmp 0), none⟩,
  ⟨some 15, .mov (.tmp 1), none⟩,
  ⟨some 16, .call .std 466 [(.tmp 14), (.tmp 15)], none⟩,
  ⟨some 9, .mov (.tmp 16), none⟩]
@[simp] theorem law04_DiskNames_r1_go (T : Tbl) (K : List Kt) (fr : Fr) (S : St) : gval T (.ops law04_DiskNames_r1 :: K) fr S = gval T (.ops [
  ⟨some 14, .mov (.tmp 0), none⟩,
  ⟨some 15, .mov (.tmp 1), none⟩,
  ⟨some 16, .call .std 466 [(.tmp 14), (.tmp 15)], none⟩,
  ⟨some 9, .mov (.tmp 16), none⟩] :: K) fr S := rfl
def law04_DiskNames_r2 : List POper := [
  ⟨some 17, .mov (.tmp 9), none⟩,
  ⟨some 18, .eqn false .p (.tmp 17), none⟩,
  ⟨some 19, .mov (.tmp 18), none⟩,
  ⟨some 20, .mov (.tmp 9), some (19, false)⟩,
  ⟨some 21, .call .std 80 [(.tmp 20), (.cst (.int .i64 0)), (.cst .nils)], some (19, false)⟩,
  ⟨some 22, .arith .neq (.tmp 21) (.cst (.int .i64 0)), some (19, false)⟩,
  ⟨some 23, .pick (.tmp 19) (.cst (.bool true)) (.tmp 22), none⟩]
@[simp] theorem law04_DiskNames_r2_go (T : Tbl) (K : List Kt) (fr : Fr) (S : St) : gval T (.ops law04_DiskNames_r2 :: K) fr S = gval T (.ops [
  ⟨some 17, .mov (.tmp 9), none⟩,
  ⟨some 18, .eqn false .p (.tmp 17), none⟩,
  ⟨some 19, .mov (.tmp 18), none⟩,
  ⟨some 20, .mov (.tmp 9), some (19, false)⟩,
  ⟨some 21, .call .std 80 [(.tmp 20), (.cst (.int .i64 0)), (.cst .nils)], some (19, false)⟩,
  ⟨some 22, .arith .neq (.tmp 21) (.cst (.int .i64 0)), some (19, false)⟩,
  ⟨some 23, .pick (.tmp 19) (.cst (.bool true)) (.tmp 22), none⟩] :: K) fr S := rfl
def law04_DiskNames_r3 : List POper := [
  ⟨some 24, .mov (.tmp 9), none⟩,
  ⟨some 25, .eqn false .p (.tmp 24), none⟩,
  ⟨some 26, .mov (.tmp 25), none⟩,
  ⟨some 27, .call .pur 18 [], some (26, true)⟩,
  ⟨some 28, .pick (.tmp 26) (.tmp 27) (.cst (.bool false)), none⟩,
  ⟨some 8, .mov (.tmp 28), none⟩]
@[simp] theorem law04_DiskNames_r3_go (T : Tbl) (K : List Kt) (fr : Fr) (S : St) : gval T (.ops law04_DiskNames_r3 :: K) fr S = gval T (.ops [
  ⟨some 24, .mov (.tmp 9), none⟩,
  ⟨some 25, .eqn false .p (.tmp 24), none⟩,
  ⟨some 26, .mov (.tmp 25), none⟩,
  ⟨some 27, .call .pur 18 [], some (26, true)⟩,
  ⟨some 28, .pick (.tmp 26) (.tmp 27) (.cst (.bool false)), none⟩,
  ⟨some 8, .mov (.tmp 28), none⟩] :: K) fr S := rfl
def law04_DiskNames_r4 : List POper := [
  ⟨some 29, .mov (.tmp 9), none⟩,
  ⟨some 30, .call .std 90 [(.tmp 29)], none⟩,
  ⟨some 31, .bsl false .nils 1 [(0, (.tmp 30))], none⟩,
  ⟨some 10, .mov (.tmp 31), none⟩]
@[simp] theorem law04_DiskNames_r4_go (T : Tbl) (K : List Kt) (fr : Fr) (S : St) : gval T (.ops law04_DiskNames_r4 :: K) fr S = gval T (.ops [
  ⟨some 29, .mov (.tmp 9), none⟩,
  ⟨some 30, .call .std 90 [(.tmp 29)], none⟩,
  ⟨some 31, .bsl false .nils 1 [(0, (.tmp 30))], none⟩,
  ⟨some 10, .mov (.tmp 31), none⟩] :: K) fr S := rfl
def law04_DiskNames_r5 : List POper := [
  ⟨some 11, .mov (.cst (.int .i64 0)), none⟩]
@[simp] theorem law04_DiskNames_r5_go (T : Tbl) (K : List Kt) (fr : Fr) (S : St) : gval T (.ops law04_DiskNames_r5 :: K) fr S = gval T (.ops [
  ⟨some 11, .mov (.cst (.int .i64 0)), none⟩] :: K) fr S := rfl
def law04_DiskNames_r6 : List POper := [
  ⟨some 32, .mov (.tmp 11), none⟩,
  ⟨some 33, .mov (.tmp 2), none⟩,
  ⟨some 34, .len false (.tmp 33), none⟩,
  ⟨some 35, .arith .lss (.tmp 32) (.tmp 34), none⟩,
  ⟨some 36, .mov (.tmp 35), none⟩,
  ⟨some 37, .mov (.tmp 11), some (36, true)⟩,
  ⟨some 38, .arith .lss (.tmp 37) (.cst (.int .i64 15)), some (36, true)⟩,
  ⟨some 39, .pick (.tmp 36) (.tmp 38) (.cst (.bool false)), none⟩]
@[simp] theorem law04_DiskNames_r6_go (T : Tbl) (K : List Kt) (fr : Fr) (S : St) : gval T (.ops law04_DiskNames_r6 :: K) fr S = gval T (.ops [
  ⟨some 32, .mov (.tmp 11), none⟩,
  ⟨some 33, .mov (.tmp 2), none⟩,
  ⟨some 34, .len false (.tmp 33), none⟩,
  ⟨some 35, .arith .lss (.tmp 32) (.tmp 34), none⟩,
  ⟨some 36, .mov (.tmp 35), none⟩,
  ⟨some 37, .mov (.tmp 11), some (36, true)⟩,
  ⟨some 38, .arith .lss (.tmp 37) (.cst (.int .i64 15)), some (36, true)⟩,
  ⟨some 39, .pick (.tmp 36) (.tmp 38) (.cst (.bool false)), none⟩] :: K) fr S := rfl
def law04_DiskNames_r8 : List POper := [
  ⟨some 42, .mov (.tmp 2), none⟩,
  ⟨some 43, .mov (.tmp 11), none⟩,
  ⟨some 44, .iaddr 6 (.tmp 42) (.tmp 43), none⟩,
  ⟨some 45, .faddr 0 (.tmp 44), none⟩,
  ⟨some 46, .load false 1 false (.tmp 45), none⟩,
  ⟨some 47, .arith .geq (.tmp 46) (.cst (.int .i64 1)), none⟩,
  ⟨some 48, .mov (.tmp 47), none⟩,
  ⟨some 49, .mov (.tmp 2), some (48, true)⟩,
  ⟨some 50, .mov (.tmp 11), some (48, true)⟩,
  ⟨some 51, .iaddr 6 (.tmp 49) (.tmp 50), some (48, true)⟩,
  ⟨some 52, .faddr 0 (.tmp 51), some (48, true)⟩,
  ⟨some 53, .load false 1 false (.tmp 52), some (48, true)⟩,
  ⟨some 54, .arith .leq (.tmp 53) (.cst (.int .i64 5)), some (48, true)⟩,
  ⟨some 55, .pick (.tmp 48) (.tmp 54) (.cst (.bool false)), none⟩]
@[simp] theorem law04_DiskNames_r8_go (T : Tbl) (K : List Kt) (fr : Fr) (S : St) : gval T (.ops law04_DiskNames_r8 :: K) fr S = gval T (.ops [
  ⟨some 42, .mov (.tmp 2), none⟩,
  ⟨some 43, .mov (.tmp 11), none⟩,
  ⟨some 44, .iaddr 6 (.tmp 42) (.tmp 43), none⟩,
  ⟨some 45, .faddr 0 (.tmp 44), none⟩,
  ⟨some 46, .load false 1 false (.tmp 45), none⟩,
  ⟨some 47, .arith .geq (.tmp 46) (.cst (.int .i64 1)), none⟩,
  ⟨some 48, .mov (.tmp 47), none⟩,
  ⟨some 49, .mov (.tmp 2), some (48, true)⟩,
  ⟨some 50, .mov (.tmp 11), some (48, true)⟩,
  ⟨some 51, .iaddr 6 (.tmp 49) (.tmp 50), some (48, true)⟩,
  ⟨some 52, .faddr 0 (.tmp 51), some (48, true)⟩,
  ⟨some 53, .load false 1 false (.tmp 52), some (48, true)⟩,
  ⟨some 54, .arith .leq (.tmp 53) (.cst (.int .i64 5)), some (48, true)⟩,
  ⟨some 55, .pick (.tmp 48) (.tmp 54) (.cst (.bool false)), none⟩] :: K) fr S := rfl
def law04_DiskNames_r9 : List POper := [
  ⟨some 56, .mov (.tmp 9), none⟩,
  ⟨some 57, .mov (.tmp 2), none⟩,
  ⟨some 58, .mov (.tmp 11), none⟩,
  ⟨some 59, .iaddr 6 (.tmp 57) (.tmp 58), none⟩,
  ⟨some 60, .load true 6 false (.tmp 59), none⟩,
  ⟨some 61, .call .std 19 [(.tmp 56), (.tmp 60)], none⟩]
@[simp] theorem law04_DiskNames_r9_go (T : Tbl) (K : List Kt) (fr : Fr) (S : St) : gval T (.ops law04_DiskNames_r9 :: K) fr S = gval T (.ops [
  ⟨some 56, .mov (.tmp 9), none⟩,
  ⟨some 57, .mov (.tmp 2), none⟩,
  ⟨some 58, .mov (.tmp 11), none⟩,
  ⟨some 59, .iaddr 6 (.tmp 57) (.tmp 58), none⟩,
  ⟨some 60, .load true 6 false (.tmp 59), none⟩,
  ⟨some 61, .call .std 19 [(.tmp 56), (.tmp 60)], none⟩] :: K) fr S := rfl
def law04_DiskNames_r10 : List POper := [
  ⟨some 62, .mov (.tmp 10), none⟩,
  ⟨some 63, .mov (.tmp 9), none⟩,
  ⟨some 64, .call .std 90 [(.tmp 63)], none⟩,
  ⟨some 65, .bsl false .nils 1 [(0, (.tmp 64))], none⟩,
  ⟨some 66, .app 1 24 (.tmp 62) (.tmp 65), none⟩,
  ⟨some 10, .mov (.tmp 66), none⟩]
@[simp] theorem law04_DiskNames_r10_go (T : Tbl) (K : List Kt) (fr : Fr) (S : St) : gval T (.ops law04_DiskNames_r10 :: K) fr S = gval T (.ops [
  ⟨some 62, .mov (.tmp 10), none⟩,
  ⟨some 63, .mov (.tmp 9), none⟩,
  ⟨some 64, .call .std 90 [(.tmp 63)], none⟩,
  ⟨some 65, .bsl false .nils 1 [(0, (.tmp 64))], none⟩,
  ⟨some 66, .app 1 24 (.tmp 62) (.tmp 65), none⟩,
  ⟨some 10, .mov (.tmp 66), none⟩] :: K) fr S := rfl
def law04_DiskNames_r7 : List POper := [
  ⟨some 40, .mov (.tmp 11), none⟩,
  ⟨some 41, .arith .add (.tmp 40) (.cst (.int .i64 1)), none⟩,
  ⟨some 11, .mov (.tmp 41), none⟩]
@[simp] theorem law04_DiskNames_r7_go (T : Tbl) (K : List Kt) (fr : Fr) (S : St) : gval T (.ops law04_DiskNames_r7 :: K) fr S = gval T (.ops [
  ⟨some 40, .mov (.tmp 11), none⟩,
  ⟨some 41, .arith .add (.tmp 40) (.cst (.int .i64 1)), none⟩,
  ⟨some 11, .mov (.tmp 41), none⟩] :: K) fr S := rfl
def law04_DiskNames_l0 : PCode :=
  (.seq (.seq (.clr [(32, 39)] (.region law04_DiskNames_r6)) (.cond (.tmp 39) .skip (.exit 0))) (.seq (.block 1 (.seq (.clr [(42, 55)] (.region law04_DiskNames_r8)) (.cond (.tmp 55) (.seq (.clr [(56, 62)] (.region law04_DiskNames_r9)) (.clr [(62, 67)] (.region law04_DiskNames_r10))) .skip))) (.clr [(40, 42)] (.region law04_DiskNames_r7))))
@[simp] theorem law04_DiskNames_l0_go (T : Tbl) (K : List Kt) (fr : Fr) (S : St) : gval T (.code law04_DiskNames_l0 :: K) fr S = gval T (.code (.seq (.seq (.clr [(32, 39)] (.region law04_DiskNames_r6)) (.cond (.tmp 39) .skip (.exit 0))) (.seq (.block 1 (.seq (.clr [(42, 55)] (.region law04_DiskNames_r8)) (.cond (.tmp 55) (.seq (.clr [(56, 62)] (.region law04_DiskNames_r9)) (.clr [(62, 67)] (.region law04_DiskNames_r10))) .skip))) (.clr [(40, 42)] (.region law04_DiskNames_r7)))) :: K) fr S := rfl
def law04_DiskNames_r11 : List POper := [
  ⟨some 67, .mov (.tmp 9), none⟩,
  ⟨some 68, .mov (.tmp 3), none⟩,
  ⟨some 69, .call .std 80 [(.tmp 67), (.tmp 68), (.cst .nils)], none⟩]
@[simp] theorem law04_DiskNames_r11_go (T : Tbl) (K : List Kt) (fr : Fr) (S : St) : gval T (.ops law04_DiskNames_r11 :: K) fr S = gval T (.ops [
  ⟨some 67, .mov (.tmp 9), none⟩,
  ⟨some 68, .mov (.tmp 3), none⟩,
  ⟨some 69, .call .std 80 [(.tmp 67), (.tmp 68), (.cst .nils)], none⟩] :: K) fr S := rfl
def law04_DiskNames_r12 : List POper := [
  ⟨some 70, .mov (.tmp 9), none⟩,
  ⟨some 71, .call .std 90 [(.tmp 70)], none⟩,
  ⟨some 12, .mov (.tmp 71), none⟩]
@[simp] theorem law04_DiskNames_r12_go (T : Tbl) (K : List Kt) (fr : Fr) (S : St) : gval T (.ops law04_DiskNames_r12 :: K) fr S = gval T (.ops [
  ⟨some 70, .mov (.tmp 9), none⟩,
  ⟨some 71, .call .std 90 [(.tmp 70)], none⟩,
  ⟨some 12, .mov (.tmp 71), none⟩] :: K) fr S := rfl
def law04_DiskNames_r13 : List POper := [
  ⟨some 13, .mov (.cst (.int .i64 0)), none⟩]
@[simp] theorem law04_DiskNames_r13_go (T : Tbl) (K : List Kt) (fr : Fr) (S : St) : gval T (.ops law04_DiskNames_r13 :: K) fr S = gval T (.ops [
  ⟨some 13, .mov (.cst (.int .i64 0)), none⟩] :: K) fr S := rfl
def law04_DiskNames_r14 : List POper := [
  ⟨some 72, .mov (.tmp 13), none⟩,
  ⟨some 73, .mov (.tmp 10), none⟩,
  ⟨some 74, .len false (.tmp 73), none⟩,
  ⟨some 75, .arith .lss (.tmp 72) (.tmp 74), none⟩]
@[simp] theorem law04_DiskNames_r14_go (T : Tbl) (K : List Kt) (fr : Fr) (S : St) : gval T (.ops law04_DiskNames_r14 :: K) fr S = gval T (.ops [
  ⟨some 72, .mov (.tmp 13), none⟩,
  ⟨some 73, .mov (.tmp 10), none⟩,
  ⟨some 74, .len false (.tmp 73), none⟩,
  ⟨some 75, .arith .lss (.tmp 72) (.tmp 74), none⟩] :: K) fr S := rfl
def law04_DiskNames_r16 : List POper := [
  ⟨some 78, .mov (.tmp 10), none⟩,
  ⟨some 79, .mov (.tmp 13), none⟩,
  ⟨some 80, .iaddr 1 (.tmp 78) (.tmp 79), none⟩,
  ⟨some 81, .load false 1 false (.tmp 80), none⟩,
  ⟨some 82, .mov (.tmp 12), none⟩,
  ⟨some 83, .call .std 91 [(.tmp 81), (.tmp 82)], none⟩]
@[simp] theorem law04_DiskNames_r16_go (T : Tbl) (K : List Kt) (fr : Fr) (S : St) : gval T (.ops law04_DiskNames_r16 :: K) fr S = gval T (.ops [
  ⟨some 78, .mov (.tmp 10), none⟩,
  ⟨some 79, .mov (.tmp 13), none⟩,
  ⟨some 80, .iaddr 1 (.tmp 78) (.tmp 79), none⟩,
  ⟨some 81, .load false 1 false (.tmp 80), none⟩,
  ⟨some 82, .mov (.tmp 12), none⟩,
  ⟨some 83, .call .std 91 [(.tmp 81), (.tmp 82)], none⟩] :: K) fr S := rfl
def law04_DiskNames_r17 : List POper := [
  ⟨some 84, .call .pur 18 [], none⟩,
  ⟨some 8, .mov (.tmp 84), none⟩]
@[simp] theorem law04_DiskNames_r17_go (T : Tbl) (K : List Kt) (fr : Fr) (S : St) : gval T (.ops law04_DiskNames_r17 :: K) fr S = gval T (.ops [
  ⟨some 84, .call .pur 18 [], none⟩,
  ⟨some 8, .mov (.tmp 84), none⟩] :: K) fr S := rfl
def law04_DiskNames_r15 : List POper := [
  ⟨some 76, .mov (.tmp 13), none⟩,
  ⟨some 77, .arith .add (.tmp 76) (.cst (.int .i64 1)), none⟩,
  ⟨some 13, .mov (.tmp 77), none⟩]
@[simp] theorem law04_DiskNames_r15_go (T : Tbl) (K : List Kt) (fr : Fr) (S : St) : gval T (.ops law04_DiskNames_r15 :: K) fr S = gval T (.ops [
  ⟨some 76, .mov (.tmp 13), none⟩,
  ⟨some 77, .arith .add (.tmp 76) (.cst (.int .i64 1)), none⟩,
  ⟨some 13, .mov (.tmp 77), none⟩] :: K) fr S := rfl
def law04_DiskNames_l1 : PCode :=
  (.seq (.seq (.clr [(72, 75)] (.region law04_DiskNames_r14)) (.cond (.tmp 75) .skip (.exit 2))) (.seq (.block 3 (.seq (.clr [(78, 83)] (.region law04_DiskNames_r16)) (.cond (.tmp 83) (.seq (.clr [(84, 85)] (.region law04_DiskNames_r17)) .ret) .skip))) (.clr [(76, 78)] (.region law04_DiskNames_r15))))
@[simp] theorem law04_DiskNames_l1_go (T : Tbl) (K : List Kt) (fr : Fr) (S : St) : gval T (.code law04_DiskNames_l1 :: K) fr S = gval T (.code (.seq (.seq (.clr [(72, 75)] (.region law04_DiskNames_r14)) (.cond (.tmp 75) .skip (.exit 2))) (.seq (.block 3 (.seq (.clr [(78, 83)] (.region law04_DiskNames_r16)) (.cond (.tmp 83) (.seq (.clr [(84, 85)] (.region law04_DiskNames_r17)) .ret) .skip))) (.clr [(76, 78)] (.region law04_DiskNames_r15)))) :: K) fr S := rfl
def law04_DiskNames_r18 : List POper := [
  ⟨some 8, .mov (.cst (.bool false)), none⟩]
@[simp] theorem law04_DiskNames_r18_go (T : Tbl) (K : List Kt) (fr : Fr) (S : St) : gval T (.ops law04_DiskNames_r18 :: K) fr S = gval T (.ops [
  ⟨some 8, .mov (.cst (.bool false)), none⟩] :: K) fr S := rfl
def law04_DiskNames : PCodeFn :=
  ⟨4, [.tmp 8],
  (.seq (.region law04_DiskNames_r0) (.seq (.clr [(14, 17)] (.region law04_DiskNames_r1)) (.seq (.seq (.clr [(17, 23)] (.region law04_DiskNames_r2)) (.cond (.tmp 23) (.seq (.clr [(24, 29)] (.region law04_DiskNames_r3)) .ret) .skip)) (.seq (.clr [(29, 32)] (.region law04_DiskNames_r4)) (.seq (.seq (.region law04_DiskNames_r5) (.block 0 (.loop law04_DiskNames_l0))) (.seq (.clr [(67, 70)] (.region law04_DiskNames_r11)) (.seq (.clr [(70, 72)] (.region law04_DiskNames_r12)) (.seq (.seq (.region law04_DiskNames_r13) (.block 2 (.loop law04_DiskNames_l1))) (.seq (.region law04_DiskNames_r18) .ret))))))))), false⟩

/-! gauge/gaugelaw04.DiskPlays: 3 -/
def law04_DiskPlays_r0 : List POper := [
  ⟨some 4, .mov (.cst (.bool false)), none⟩]
@[simp] theorem law04_DiskPlays_r0_go (T : Tbl) (K : List Kt) (fr : Fr) (S : St) : gval T (.ops law04_DiskPlays_r0 :: K) fr S = gval T (.ops [
  ⟨some 4, .mov (.cst (.bool false)), none⟩] :: K) fr S := rfl
def law04_DiskPlays_r1 : List POper := [
  ⟨some 17, .mov (.tmp 0), none⟩,
  ⟨some 18, .call .std 16 [(.tmp 17)], none⟩,
  ⟨some 16, .mov (.tmp 18), none⟩,
  ⟨some 19, .extract 0 (.tmp 16), none⟩,
  ⟨some 20, .extract 1 (.tmp 16), none⟩,
  ⟨some 5, .mov (.tmp 19), none⟩,
  ⟨some 6, .mov (.tmp 20), none⟩]
@[simp] theorem law04_DiskPlays_r1_go (T : Tbl) (K : List Kt) (fr : Fr) (S : St) : gval T (.ops law04_DiskPlays_r1 :: K) fr S = gval T (.ops [
  ⟨some 17, .mov (.tmp 0), none⟩,
  ⟨some 18, .call .std 16 [(.tmp 17)], none⟩,
  ⟨some 16, .mov (.tmp 18), none⟩,
  ⟨some 19, .extract 0 (.tmp 16), none⟩,
  ⟨some 20, .extract 1 (.tmp 16), none⟩,
  ⟨some 5, .mov (.tmp 19), none⟩,
  ⟨some 6, .mov (.tmp 20), none⟩] :: K) fr S := rfl
def law04_DiskPlays_r2 : List POper := [
  ⟨some 22, .mov (.tmp 0), none⟩,
  ⟨some 23, .call .pur 17 [(.tmp 22)], none⟩,
  ⟨some 21, .mov (.tmp 23), none⟩,
  ⟨some 24, .extract 0 (.tmp 21), none⟩,
  ⟨some 25, .extract 1 (.tmp 21), none⟩,
  ⟨some 7, .alloc false [(.int .i64 0), .nils, .nils, .nils, (.int .i64 0), (.bool false), (.int .i64 0)], none⟩,
  ⟨none, .store 7 (.tmp 7) (.tmp 24), none⟩,
  ⟨some 8, .mov (.tmp 25), none⟩]
@[simp] theorem law04_DiskPlays_r2_go (T : Tbl) (K : List Kt) (fr : Fr) (S : St) : gval T (.ops law04_DiskPlays_r2 :: K) fr S = gval T (.ops [
  ⟨some 22, .mov (.tmp 0), none⟩,
  ⟨some 23, .call .pur 17 [(.tmp 22)], none⟩,
  ⟨some 21, .mov (.tmp 23), none⟩,
  ⟨some 24, .extract 0 (.tmp 21), none⟩,
  ⟨some 25, .extract 1 (.tmp 21), none⟩,
  ⟨some 7, .alloc false [(.int .i64 0), .nils, .nils, .nils, (.int .i64 0), (.bool false), (.int .i64 0)], none⟩,
  ⟨none, .store 7 (.tmp 7) (.tmp 24), none⟩,
  ⟨some 8, .mov (.tmp 25), none⟩] :: K) fr S := rfl
def law04_DiskPlays_r3 : List POper := [
  ⟨some 26, .mov (.tmp 6), none⟩,
  ⟨some 27, .mov (.tmp 8), none⟩,
  ⟨some 28, .arith .neq (.tmp 26) (.tmp 27), none⟩,
  ⟨some 29, .mov (.tmp 28), none⟩,
  ⟨some 30, .mov (.tmp 8), some (29, false)⟩,
  ⟨some 31, .arith .neq (.tmp 30) (.cst (.int .i64 0)), some (29, false)⟩,
  ⟨some 32, .pick (.tmp 29) (.cst (.bool true)) (.tmp 31), none⟩]
@[simp] theorem law04_DiskPlays_r3_go (T : Tbl) (K : List Kt) (fr : Fr) (S : St) : gval T (.ops law04_DiskPlays_r3 :: K) fr S = gval T (.ops [
  ⟨some 26, .mov (.tmp 6), none⟩,
  ⟨some 27, .mov (.tmp 8), none⟩,
  ⟨some 28, .arith .neq (.tmp 26) (.tmp 27), none⟩,
  ⟨some 29, .mov (.tmp 28), none⟩,
  ⟨some 30, .mov (.tmp 8), some (29, false)⟩,
  ⟨some 31, .arith .neq (.tmp 30) (.cst (.int .i64 0)), some (29, false)⟩,
  ⟨some 32, .pick (.tmp 29) (.cst (.bool true)) (.tmp 31), none⟩] :: K) fr S := rfl
def law04_DiskPlays_r4 : List POper := [
  ⟨some 33, .mov (.tmp 6), none⟩,
  ⟨some 34, .mov (.tmp 8), none⟩,
  ⟨some 35, .arith .eql (.tmp 33) (.tmp 34), none⟩,
  ⟨some 36, .mov (.tmp 35), none⟩,
  ⟨some 37, .mov (.tmp 5), some (36, true)⟩,
  ⟨some 38, .eqn false .p (.tmp 37), some (36, true)⟩,
  ⟨some 39, .pick (.tmp 36) (.tmp 38) (.cst (.bool false)), none⟩,
  ⟨some 40, .mov (.tmp 39), none⟩,
  ⟨some 41, .call .pur 18 [], some (40, true)⟩,
  ⟨some 42, .pick (.tmp 40) (.tmp 41) (.cst (.bool false)), none⟩,
  ⟨some 4, .mov (.tmp 42), none⟩]
@[simp] theorem law04_DiskPlays_r4_go (T : Tbl) (K : List Kt) (fr : Fr) (S : St) : gval T (.ops law04_DiskPlays_r4 :: K) fr S = gval T (.ops [
  ⟨some 33, .mov (.tmp 6), none⟩,
  ⟨some 34, .mov (.tmp 8), none⟩,
  ⟨some 35, .arith .eql (.tmp 33) (.tmp 34), none⟩,
  ⟨some 36, .mov (.tmp 35), none⟩,
  ⟨some 37, .mov (.tmp 5), some (36, true)⟩,
  ⟨some 38, .eqn false .p (.tmp 37), some (36, true)⟩,
  ⟨some 39, .pick (.tmp 36) (.tmp 38) (.cst (.bool false)), none⟩,
  ⟨some 40, .mov (.tmp 39), none⟩,
  ⟨some 41, .call .pur 18 [], some (40, true)⟩,
  ⟨some 42, .pick (.tmp 40) (.tmp 41) (.cst (.bool false)), none⟩,
  ⟨some 4, .mov (.tmp 42), none⟩] :: K) fr S := rfl
def law04_DiskPlays_r5 : List POper := [
  ⟨some 9, .mov (.cst (.int .i64 0)), none⟩]
@[simp] theorem law04_DiskPlays_r5_go (T : Tbl) (K : List Kt) (fr : Fr) (S : St) : gval T (.ops law04_DiskPlays_r5 :: K) fr S = gval T (.ops [
  ⟨some 9, .mov (.cst (.int .i64 0)), none⟩] :: K) fr S := rfl
def law04_DiskPlays_r6 : List POper := [
  ⟨some 43, .mov (.tmp 9), none⟩,
  ⟨some 44, .mov (.tmp 1), none⟩,
  ⟨some 45, .len false (.tmp 44), none⟩,
  ⟨some 46, .arith .lss (.tmp 43) (.tmp 45), none⟩,
  ⟨some 47, .mov (.tmp 46), none⟩,
  ⟨some 48, .mov (.tmp 9), some (47, true)⟩,
  ⟨some 49, .arith .lss (.tmp 48) (.cst (.int .i64 60)), some (47, true)⟩,
  ⟨some 50, .pick (.tmp 47) (.tmp 49) (.cst (.bool false)), none⟩]
@[simp] theorem law04_DiskPlays_r6_go (T : Tbl) (K : List Kt) (fr : Fr) (S : St) : gval T (.ops law04_DiskPlays_r6 :: K) fr S = gval T (.ops [
  ⟨some 43, .mov (.tmp 9), none⟩,
  ⟨some 44, .mov (.tmp 1), none⟩,
  ⟨some 45, .len false (.tmp 44), none⟩,
  ⟨some 46, .arith .lss (.tmp 43) (.tmp 45), none⟩,
  ⟨some 47, .mov (.tmp 46), none⟩,
  ⟨some 48, .mov (.tmp 9), some (47, true)⟩,
  ⟨some 49, .arith .lss (.tmp 48) (.cst (.int .i64 60)), some (47, true)⟩,
  ⟨some 50, .pick (.tmp 47) (.tmp 49) (.cst (.bool false)), none⟩] :: K) fr S := rfl
def law04_DiskPlays_r8 : List POper := [
  ⟨some 54, .mov (.tmp 5), none⟩,
  ⟨some 55, .mov (.tmp 1), none⟩,
  ⟨some 56, .mov (.tmp 9), none⟩,
  ⟨some 57, .iaddr 6 (.tmp 55) (.tmp 56), none⟩,
  ⟨some 58, .load true 6 false (.tmp 57), none⟩,
  ⟨some 59, .call .std 19 [(.tmp 54), (.tmp 58)], none⟩,
  ⟨some 53, .mov (.tmp 59), none⟩,
  ⟨some 60, .extract 0 (.tmp 53), none⟩,
  ⟨some 61, .extract 1 (.tmp 53), none⟩,
  ⟨some 10, .mov (.tmp 60), none⟩,
  ⟨some 11, .mov (.tmp 61), none⟩]
@[simp] theorem law04_DiskPlays_r8_go (T : Tbl) (K : List Kt) (fr : Fr) (S : St) : gval T (.ops law04_DiskPlays_r8 :: K) fr S = gval T (.ops [
  ⟨some 54, .mov (.tmp 5), none⟩,
  ⟨some 55, .mov (.tmp 1), none⟩,
  ⟨some 56, .mov (.tmp 9), none⟩,
  ⟨some 57, .iaddr 6 (.tmp 55) (.tmp 56), none⟩,
  ⟨some 58, .load true 6 false (.tmp 57), none⟩,
  ⟨some 59, .call .std 19 [(.tmp 54), (.tmp 58)], none⟩,
  ⟨some 53, .mov (.tmp 59), none⟩,
  ⟨some 60, .extract 0 (.tmp 53), none⟩,
  ⟨some 61, .extract 1 (.tmp 53), none⟩,
  ⟨some 10, .mov (.tmp 60), none⟩,
  ⟨some 11, .mov (.tmp 61), none⟩] :: K) fr S := rfl
def law04_DiskPlays_r9 : List POper := [
  ⟨some 63, .load true 7 false (.tmp 7), none⟩,
  ⟨some 64, .mov (.tmp 1), none⟩,
  ⟨some 65, .mov (.tmp 9), none⟩,
  ⟨some 66, .iaddr 6 (.tmp 64) (.tmp 65), none⟩,
  ⟨some 67, .load true 6 true (.tmp 66), none⟩,
  ⟨some 68, .call .pur 20 [(.tmp 63), (.tmp 67)], none⟩,
  ⟨some 62, .mov (.tmp 68), none⟩,
  ⟨some 69, .extract 0 (.tmp 62), none⟩,
  ⟨some 70, .extract 1 (.tmp 62), none⟩,
  ⟨some 71, .extract 2 (.tmp 62), none⟩,
  ⟨some 12, .alloc false [(.int .i64 0), .nils, .nils, .nils, (.int .i64 0), (.bool false), (.int .i64 0)], none⟩,
  ⟨none, .store 7 (.tmp 12) (.tmp 69), none⟩,
  ⟨some 13, .mov (.tmp 70), none⟩,
  ⟨some 14, .mov (.tmp 71), none⟩]
@[simp] theorem law04_DiskPlays_r9_go (T : Tbl) (K : List Kt) (fr : Fr) (S : St) : gval T (.ops law04_DiskPlays_r9 :: K) fr S = gval T (.ops [
  ⟨some 63, .load true 7 false (.tmp 7), none⟩,
  ⟨some 64, .mov (.tmp 1), none⟩,
  ⟨some 65, .mov (.tmp 9), none⟩,
  ⟨some 66, .iaddr 6 (.tmp 64) (.tmp 65), none⟩,
  ⟨some 67, .load true 6 true (.tmp 66), none⟩,
  ⟨some 68, .call .pur 20 [(.tmp 63), (.tmp 67)], none⟩,
  ⟨some 62, .mov (.tmp 68), none⟩,
  ⟨some 69, .extract 0 (.tmp 62), none⟩,
  ⟨some 70, .extract 1 (.tmp 62), none⟩,
  ⟨some 71, .extract 2 (.tmp 62), none⟩,
  ⟨some 12, .alloc false [(.int .i64 0), .nils, .nils, .nils, (.int .i64 0), (.bool false), (.int .i64 0)], none⟩,
  ⟨none, .store 7 (.tmp 12) (.tmp 69), none⟩,
  ⟨some 13, .mov (.tmp 70), none⟩,
  ⟨some 14, .mov (.tmp 71), none⟩] :: K) fr S := rfl
def law04_DiskPlays_r10 : List POper := [
  ⟨some 72, .mov (.tmp 10), none⟩,
  ⟨some 73, .mov (.tmp 13), none⟩,
  ⟨some 74, .arith .neq (.tmp 72) (.tmp 73), none⟩,
  ⟨some 75, .mov (.tmp 74), none⟩,
  ⟨some 76, .mov (.tmp 11), some (75, false)⟩,
  ⟨some 77, .toStr (.tmp 76), some (75, false)⟩,
  ⟨some 78, .mov (.tmp 14), some (75, false)⟩,
  ⟨some 79, .toStr (.tmp 78), some (75, false)⟩,
  ⟨some 80, .arith .neq (.tmp 77) (.tmp 79), some (75, false)⟩,
  ⟨some 81, .pick (.tmp 75) (.cst (.bool true)) (.tmp 80), none⟩,
  ⟨some 82, .mov (.tmp 81), none⟩,
  ⟨some 83, .mov (.tmp 5), some (82, false)⟩,
  ⟨some 84, .load true 7 false (.tmp 12), some (82, false)⟩,
  ⟨some 85, .call .std 21 [(.tmp 83), (.tmp 84)], some (82, false)⟩,
  ⟨some 86, .un .not (.tmp 85), some (82, false)⟩,
  ⟨some 87, .pick (.tmp 82) (.cst (.bool true)) (.tmp 86), none⟩]
@[simp] theorem law04_DiskPlays_r10_go (T : Tbl) (K : List Kt) (fr : Fr) (S : St) : gval T (.ops law04_DiskPlays_r10 :: K) fr S = gval T (.ops [
  ⟨some 72, .mov (.tmp 10), none⟩,
  ⟨some 73, .mov (.tmp 13), none⟩,
  ⟨some 74, .arith .neq (.tmp 72) (.tmp 73), none⟩,
  ⟨some 75, .mov (.tmp 74), none⟩,
  ⟨some 76, .mov (.tmp 11), some (75, false)⟩,
  ⟨some 77, .toStr (.tmp 76), some (75, false)⟩,
  ⟨some 78, .mov (.tmp 14), some (75, false)⟩,
  ⟨some 79, .toStr (.tmp 78), some (75, false)⟩,
  ⟨some 80, .arith .neq (.tmp 77) (.tmp 79), some (75, false)⟩,
  ⟨some 81, .pick (.tmp 75) (.cst (.bool true)) (.tmp 80), none⟩,
  ⟨some 82, .mov (.tmp 81), none⟩,
  ⟨some 83, .mov (.tmp 5), some (82, false)⟩,
  ⟨some 84, .load true 7 false (.tmp 12), some (82, false)⟩,
  ⟨some 85, .call .std 21 [(.tmp 83), (.tmp 84)], some (82, false)⟩,
  ⟨some 86, .un .not (.tmp 85), some (82, false)⟩,
  ⟨some 87, .pick (.tmp 82) (.cst (.bool true)) (.tmp 86), none⟩] :: K) fr S := rfl
def law04_DiskPlays_r11 : List POper := [
  ⟨some 4, .mov (.cst (.bool false)), none⟩]
@[simp] theorem law04_DiskPlays_r11_go (T : Tbl) (K : List Kt) (fr : Fr) (S : St) : gval T (.ops law04_DiskPlays_r11 :: K) fr S = gval T (.ops [
  ⟨some 4, .mov (.cst (.bool false)), none⟩] :: K) fr S := rfl
def law04_DiskPlays_r12 : List POper := [
  ⟨some 15, .mov (.cst (.int .i64 0)), none⟩]
@[simp] theorem law04_DiskPlays_r12_go (T : Tbl) (K : List Kt) (fr : Fr) (S : St) : gval T (.ops law04_DiskPlays_r12 :: K) fr S = gval T (.ops [
  ⟨some 15, .mov (.cst (.int .i64 0)), none⟩] :: K) fr S := rfl
def law04_DiskPlays_r13 : List POper := [
  ⟨some 88, .mov (.tmp 15), none⟩,
  ⟨some 89, .mov (.tmp 11), none⟩,
  ⟨some 90, .len false (.tmp 89), none⟩,
  ⟨some 91, .arith .lss (.tmp 88) (.tmp 90), none⟩]
@[simp] theorem law04_DiskPlays_r13_go (T : Tbl) (K : List Kt) (fr : Fr) (S : St) : gval T (.ops law04_DiskPlays_r13 :: K) fr S = gval T (.ops [
  ⟨some 88, .mov (.tmp 15), none⟩,
  ⟨some 89, .mov (.tmp 11), none⟩,
  ⟨some 90, .len false (.tmp 89), none⟩,
  ⟨some 91, .arith .lss (.tmp 88) (.tmp 90), none⟩] :: K) fr S := rfl
def law04_DiskPlays_r15 : List POper := [
  ⟨some 94, .mov (.tmp 11), none⟩,
  ⟨some 95, .mov (.tmp 15), none⟩,
  ⟨some 96, .mov (.tmp 11), none⟩,
  ⟨some 97, .mov (.tmp 15), none⟩,
  ⟨some 98, .iaddr 1 (.tmp 96) (.tmp 97), none⟩,
  ⟨some 99, .load false 1 false (.tmp 98), none⟩,
  ⟨some 100, .arith .add (.tmp 99) (.cst (.int .u8 1)), none⟩,
  ⟨some 101, .iaddr 1 (.tmp 94) (.tmp 95), none⟩,
  ⟨none, .store 1 (.tmp 101) (.tmp 100), none⟩]
@[simp] theorem law04_DiskPlays_r15_go (T : Tbl) (K : List Kt) (fr : Fr) (S : St) : gval T (.ops law04_DiskPlays_r15 :: K) fr S = gval T (.ops [
  ⟨some 94, .mov (.tmp 11), none⟩,
  ⟨some 95, .mov (.tmp 15), none⟩,
  ⟨some 96, .mov (.tmp 11), none⟩,
  ⟨some 97, .mov (.tmp 15), none⟩,
  ⟨some 98, .iaddr 1 (.tmp 96) (.tmp 97), none⟩,
  ⟨some 99, .load false 1 false (.tmp 98), none⟩,
  ⟨some 100, .arith .add (.tmp 99) (.cst (.int .u8 1)), none⟩,
  ⟨some 101, .iaddr 1 (.tmp 94) (.tmp 95), none⟩,
  ⟨none, .store 1 (.tmp 101) (.tmp 100), none⟩] :: K) fr S := rfl
def law04_DiskPlays_r14 : List POper := [
  ⟨some 92, .mov (.tmp 15), none⟩,
  ⟨some 93, .arith .add (.tmp 92) (.cst (.int .i64 1)), none⟩,
  ⟨some 15, .mov (.tmp 93), none⟩]
@[simp] theorem law04_DiskPlays_r14_go (T : Tbl) (K : List Kt) (fr : Fr) (S : St) : gval T (.ops law04_DiskPlays_r14 :: K) fr S = gval T (.ops [
  ⟨some 92, .mov (.tmp 15), none⟩,
  ⟨some 93, .arith .add (.tmp 92) (.cst (.int .i64 1)), none⟩,
  ⟨some 15, .mov (.tmp 93), none⟩] :: K) fr S := rfl
def law04_DiskPlays_l1 : PCode :=
  (.seq (.seq (.clr [(88, 91)] (.region law04_DiskPlays_r13)) (.cond (.tmp 91) .skip (.exit 2))) (.seq (.block 3 (.clr [(94, 102)] (.region law04_DiskPlays_r15))) (.clr [(92, 94)] (.region law04_DiskPlays_r14))))
@[simp] theorem law04_DiskPlays_l1_go (T : Tbl) (K : List Kt) (fr : Fr) (S : St) : gval T (.code law04_DiskPlays_l1 :: K) fr S = gval T (.code (.seq (.seq (.clr [(88, 91)] (.region law04_DiskPlays_r13)) (.cond (.tmp 91) .skip (.exit 2))) (.seq (.block 3 (.clr [(94, 102)] (.region law04_DiskPlays_r15))) (.clr [(92, 94)] (.region law04_DiskPlays_r14)))) :: K) fr S := rfl
def law04_DiskPlays_r16 : List POper := [
  ⟨some 102, .load true 7 false (.tmp 12), none⟩,
  ⟨none, .store 7 (.tmp 7) (.tmp 102), none⟩]
@[simp] theorem law04_DiskPlays_r16_go (T : Tbl) (K : List Kt) (fr : Fr) (S : St) : gval T (.ops law04_DiskPlays_r16 :: K) fr S = gval T (.ops [
  ⟨some 102, .load true 7 false (.tmp 12), none⟩,
  ⟨none, .store 7 (.tmp 7) (.tmp 102), none⟩] :: K) fr S := rfl
def law04_DiskPlays_r7 : List POper := [
  ⟨some 51, .mov (.tmp 9), none⟩,
  ⟨some 52, .arith .add (.tmp 51) (.cst (.int .i64 1)), none⟩,
  ⟨some 9, .mov (.tmp 52), none⟩]
@[simp] theorem law04_DiskPlays_r7_go (T : Tbl) (K : List Kt) (fr : Fr) (S : St) : gval T (.ops law04_DiskPlays_r7 :: K) fr S = gval T (.ops [
  ⟨some 51, .mov (.tmp 9), none⟩,
  ⟨some 52, .arith .add (.tmp 51) (.cst (.int .i64 1)), none⟩,
  ⟨some 9, .mov (.tmp 52), none⟩] :: K) fr S := rfl
def law04_DiskPlays_l0 : PCode :=
  (.seq (.seq (.clr [(43, 50)] (.region law04_DiskPlays_r6)) (.cond (.tmp 50) .skip (.exit 0))) (.seq (.block 1 (.seq (.clr [(53, 62)] (.region law04_DiskPlays_r8)) (.seq (.clr [(62, 72)] (.region law04_DiskPlays_r9)) (.seq (.seq (.clr [(72, 87)] (.region law04_DiskPlays_r10)) (.cond (.tmp 87) (.seq (.region law04_DiskPlays_r11) .ret) .skip)) (.seq (.seq (.region law04_DiskPlays_r12) (.block 2 (.loop law04_DiskPlays_l1))) (.clr [(102, 103)] (.region law04_DiskPlays_r16))))))) (.clr [(51, 53)] (.region law04_DiskPlays_r7))))
@[simp] theorem law04_DiskPlays_l0_go (T : Tbl) (K : List Kt) (fr : Fr) (S : St) : gval T (.code law04_DiskPlays_l0 :: K) fr S = gval T (.code (.seq (.seq (.clr [(43, 50)] (.region law04_DiskPlays_r6)) (.cond (.tmp 50) .skip (.exit 0))) (.seq (.block 1 (.seq (.clr [(53, 62)] (.region law04_DiskPlays_r8)) (.seq (.clr [(62, 72)] (.region law04_DiskPlays_r9)) (.seq (.seq (.clr [(72, 87)] (.region law04_DiskPlays_r10)) (.cond (.tmp 87) (.seq (.region law04_DiskPlays_r11) .ret) .skip)) (.seq (.seq (.region law04_DiskPlays_r12) (.block 2 (.loop law04_DiskPlays_l1))) (.clr [(102, 103)] (.region law04_DiskPlays_r16))))))) (.clr [(51, 53)] (.region law04_DiskPlays_r7)))) :: K) fr S := rfl
def law04_DiskPlays_r17 : List POper := [
  ⟨some 103, .mov (.tmp 5), none⟩,
  ⟨some 104, .load true 7 false (.tmp 7), none⟩,
  ⟨some 105, .call .std 21 [(.tmp 103), (.tmp 104)], none⟩,
  ⟨some 106, .mov (.tmp 105), none⟩,
  ⟨some 107, .call .pur 18 [], some (106, true)⟩,
  ⟨some 108, .pick (.tmp 106) (.tmp 107) (.cst (.bool false)), none⟩,
  ⟨some 4, .mov (.tmp 108), none⟩]
@[simp] theorem law04_DiskPlays_r17_go (T : Tbl) (K : List Kt) (fr : Fr) (S : St) : gval T (.ops law04_DiskPlays_r17 :: K) fr S = gval T (.ops [
  ⟨some 103, .mov (.tmp 5), none⟩,
  ⟨some 104, .load true 7 false (.tmp 7), none⟩,
  ⟨some 105, .call .std 21 [(.tmp 103), (.tmp 104)], none⟩,
  ⟨some 106, .mov (.tmp 105), none⟩,
  ⟨some 107, .call .pur 18 [], some (106, true)⟩,
  ⟨some 108, .pick (.tmp 106) (.tmp 107) (.cst (.bool false)), none⟩,
  ⟨some 4, .mov (.tmp 108), none⟩] :: K) fr S := rfl
def law04_DiskPlays : PCodeFn :=
  ⟨2, [.tmp 4],
  (.seq (.region law04_DiskPlays_r0) (.seq (.clr [(16, 21)] (.region law04_DiskPlays_r1)) (.seq (.clr [(21, 26)] (.region law04_DiskPlays_r2)) (.seq (.seq (.clr [(26, 32)] (.region law04_DiskPlays_r3)) (.cond (.tmp 32) (.seq (.clr [(33, 43)] (.region law04_DiskPlays_r4)) .ret) .skip)) (.seq (.seq (.region law04_DiskPlays_r5) (.block 0 (.loop law04_DiskPlays_l0))) (.seq (.clr [(103, 109)] (.region law04_DiskPlays_r17)) .ret)))))), false⟩

/-! gauge/gaugelaw04.DiskRefuses: 471 -/
def law04_DiskRefuses_r0 : List POper := [
  ⟨some 5, .box true (.tmp 2), none⟩,
  ⟨some 6, .mov (.cst (.bool false)), none⟩]
@[simp] theorem law04_DiskRefuses_r0_go (T : Tbl) (K : List Kt) (fr : Fr) (S : St) : gval T (.ops law04_DiskRefuses_r0 :: K) fr S = gval T (.ops [
  ⟨some 5, .box true (.tmp 2), none⟩,
  ⟨some 6, .mov (.cst (.bool false)), none⟩] :: K) fr S := rfl
def law04_DiskRefuses_r1 : List POper := [
  ⟨some 19, .mov (.tmp 0), none⟩,
  ⟨some 20, .mov (.tmp 1), none⟩,
  ⟨some 21, .call .std 466 [(.tmp 19), (.tmp 20)], none⟩,
  ⟨some 7, .mov (.tmp 21), none⟩]
@[simp] theorem law04_DiskRefuses_r1_go (T : Tbl) (K : List Kt) (fr : Fr) (S : St) : gval T (.ops law04_DiskRefuses_r1 :: K) fr S = gval T (.ops [
  ⟨some 19, .mov (.tmp 0), none⟩,
  ⟨some 20, .mov (.tmp 1), none⟩,
  ⟨some 21, .call .std 466 [(.tmp 19), (.tmp 20)], none⟩,
  ⟨some 7, .mov (.tmp 21), none⟩] :: K) fr S := rfl
def law04_DiskRefuses_r2 : List POper := [
  ⟨some 22, .mov (.tmp 7), none⟩,
  ⟨some 23, .eqn false .p (.tmp 22), none⟩,
  ⟨some 24, .mov (.tmp 23), none⟩,
  ⟨some 25, .faddr 0 (.tmp 5), some (24, false)⟩,
  ⟨some 26, .load false 1 false (.tmp 25), some (24, false)⟩,
  ⟨some 27, .arith .lss (.tmp 26) (.cst (.int .i64 1)), some (24, false)⟩,
  ⟨some 28, .pick (.tmp 24) (.cst (.bool true)) (.tmp 27), none⟩,
  ⟨some 29, .mov (.tmp 28), none⟩,
  ⟨some 30, .faddr 0 (.tmp 5), some (29, false)⟩,
  ⟨some 31, .load false 1 false (.tmp 30), some (29, false)⟩,
  ⟨some 32, .arith .gtr (.tmp 31) (.cst (.int .i64 6)), some (29, false)⟩,
  ⟨some 33, .pick (.tmp 29) (.cst (.bool true)) (.tmp 32), none⟩]
@[simp] theorem law04_DiskRefuses_r2_go (T : Tbl) (K : List Kt) (fr : Fr) (S : St) : gval T (.ops law04_DiskRefuses_r2 :: K) fr S = gval T (.ops [
  ⟨some 22, .mov (.tmp 7), none⟩,
  ⟨some 23, .eqn false .p (.tmp 22), none⟩,
  ⟨some 24, .mov (.tmp 23), none⟩,
  ⟨some 25, .faddr 0 (.tmp 5), some (24, false)⟩,
  ⟨some 26, .load false 1 false (.tmp 25), some (24, false)⟩,
  ⟨some 27, .arith .lss (.tmp 26) (.cst (.int .i64 1)), some (24, false)⟩,
  ⟨some 28, .pick (.tmp 24) (.cst (.bool true)) (.tmp 27), none⟩,
  ⟨some 29, .mov (.tmp 28), none⟩,
  ⟨some 30, .faddr 0 (.tmp 5), some (29, false)⟩,
  ⟨some 31, .load false 1 false (.tmp 30), some (29, false)⟩,
  ⟨some 32, .arith .gtr (.tmp 31) (.cst (.int .i64 6)), some (29, false)⟩,
  ⟨some 33, .pick (.tmp 29) (.cst (.bool true)) (.tmp 32), none⟩] :: K) fr S := rfl
def law04_DiskRefuses_r3 : List POper := [
  ⟨some 34, .call .pur 18 [], none⟩,
  ⟨some 6, .mov (.tmp 34), none⟩]
@[simp] theorem law04_DiskRefuses_r3_go (T : Tbl) (K : List Kt) (fr : Fr) (S : St) : gval T (.ops law04_DiskRefuses_r3 :: K) fr S = gval T (.ops [
  ⟨some 34, .call .pur 18 [], none⟩,
  ⟨some 6, .mov (.tmp 34), none⟩] :: K) fr S := rfl
def law04_DiskRefuses_r4 : List POper := [
  ⟨some 35, .mov (.tmp 7), none⟩,
  ⟨some 36, .call .std 90 [(.tmp 35)], none⟩,
  ⟨some 37, .mov (.tmp 7), none⟩,
  ⟨some 38, .call .std 93 [(.tmp 37)], none⟩,
  ⟨some 8, .mov (.tmp 36), none⟩,
  ⟨some 9, .mov (.tmp 38), none⟩]
@[simp] theorem law04_DiskRefuses_r4_go (T : Tbl) (K : List Kt) (fr : Fr) (S : St) : gval T (.ops law04_DiskRefuses_r4 :: K) fr S = gval T (.ops [
  ⟨some 35, .mov (.tmp 7), none⟩,
  ⟨some 36, .call .std 90 [(.tmp 35)], none⟩,
  ⟨some 37, .mov (.tmp 7), none⟩,
  ⟨some 38, .call .std 93 [(.tmp 37)], none⟩,
  ⟨some 8, .mov (.tmp 36), none⟩,
  ⟨some 9, .mov (.tmp 38), none⟩] :: K) fr S := rfl
def law04_DiskRefuses_r5 : List POper := [
  ⟨some 10, .mov (.cst .nils), none⟩]
@[simp] theorem law04_DiskRefuses_r5_go (T : Tbl) (K : List Kt) (fr : Fr) (S : St) : gval T (.ops law04_DiskRefuses_r5 :: K) fr S = gval T (.ops [
  ⟨some 10, .mov (.cst .nils), none⟩] :: K) fr S := rfl
def law04_DiskRefuses_r6 : List POper := [
  ⟨some 11, .mov (.cst (.int .i64 0)), none⟩]
@[simp] theorem law04_DiskRefuses_r6_go (T : Tbl) (K : List Kt) (fr : Fr) (S : St) : gval T (.ops law04_DiskRefuses_r6 :: K) fr S = gval T (.ops [
  ⟨some 11, .mov (.cst (.int .i64 0)), none⟩] :: K) fr S := rfl
def law04_DiskRefuses_r7 : List POper := [
  ⟨some 39, .mov (.tmp 11), none⟩,
  ⟨some 40, .mov (.tmp 8), none⟩,
  ⟨some 41, .len false (.tmp 40), none⟩,
  ⟨some 42, .arith .lss (.tmp 39) (.tmp 41), none⟩]
@[simp] theorem law04_DiskRefuses_r7_go (T : Tbl) (K : List Kt) (fr : Fr) (S : St) : gval T (.ops law04_DiskRefuses_r7 :: K) fr S = gval T (.ops [
  ⟨some 39, .mov (.tmp 11), none⟩,
  ⟨some 40, .mov (.tmp 8), none⟩,
  ⟨some 41, .len false (.tmp 40), none⟩,
  ⟨some 42, .arith .lss (.tmp 39) (.tmp 41), none⟩] :: K) fr S := rfl
def law04_DiskRefuses_r9 : List POper := [
  ⟨some 46, .mov (.tmp 7), none⟩,
  ⟨some 47, .mov (.tmp 8), none⟩,
  ⟨some 48, .mov (.tmp 11), none⟩,
  ⟨some 49, .iaddr 1 (.tmp 47) (.tmp 48), none⟩,
  ⟨some 50, .load false 1 false (.tmp 49), none⟩,
  ⟨some 51, .call .std 81 [(.tmp 46), (.tmp 50)], none⟩,
  ⟨some 45, .mov (.tmp 51), none⟩,
  ⟨some 52, .extract 0 (.tmp 45), none⟩,
  ⟨some 53, .extract 1 (.tmp 45), none⟩,
  ⟨some 12, .mov (.tmp 52), none⟩,
  ⟨some 13, .mov (.tmp 53), none⟩]
@[simp] theorem law04_DiskRefuses_r9_go (T : Tbl) (K : List Kt) (fr : Fr) (S : St) : gval T (.ops law04_DiskRefuses_r9 :: K) fr S = gval T (.ops [
  ⟨some 46, .mov (.tmp 7), none⟩,
  ⟨some 47, .mov (.tmp 8), none⟩,
  ⟨some 48, .mov (.tmp 11), none⟩,
  ⟨some 49, .iaddr 1 (.tmp 47) (.tmp 48), none⟩,
  ⟨some 50, .load false 1 false (.tmp 49), none⟩,
  ⟨some 51, .call .std 81 [(.tmp 46), (.tmp 50)], none⟩,
  ⟨some 45, .mov (.tmp 51), none⟩,
  ⟨some 52, .extract 0 (.tmp 45), none⟩,
  ⟨some 53, .extract 1 (.tmp 45), none⟩,
  ⟨some 12, .mov (.tmp 52), none⟩,
  ⟨some 13, .mov (.tmp 53), none⟩] :: K) fr S := rfl
def law04_DiskRefuses_r10 : List POper := [
  ⟨some 54, .mov (.tmp 10), none⟩,
  ⟨some 55, .mov (.tmp 12), none⟩,
  ⟨some 56, .bsl false .nils 1 [(0, (.tmp 55))], none⟩,
  ⟨some 57, .app 1 24 (.tmp 54) (.tmp 56), none⟩,
  ⟨some 10, .mov (.tmp 57), none⟩]
@[simp] theorem law04_DiskRefuses_r10_go (T : Tbl) (K : List Kt) (fr : Fr) (S : St) : gval T (.ops law04_DiskRefuses_r10 :: K) fr S = gval T (.ops [
  ⟨some 54, .mov (.tmp 10), none⟩,
  ⟨some 55, .mov (.tmp 12), none⟩,
  ⟨some 56, .bsl false .nils 1 [(0, (.tmp 55))], none⟩,
  ⟨some 57, .app 1 24 (.tmp 54) (.tmp 56), none⟩,
  ⟨some 10, .mov (.tmp 57), none⟩] :: K) fr S := rfl
def law04_DiskRefuses_r8 : List POper := [
  ⟨some 43, .mov (.tmp 11), none⟩,
  ⟨some 44, .arith .add (.tmp 43) (.cst (.int .i64 1)), none⟩,
  ⟨some 11, .mov (.tmp 44), none⟩]
@[simp] theorem law04_DiskRefuses_r8_go (T : Tbl) (K : List Kt) (fr : Fr) (S : St) : gval T (.ops law04_DiskRefuses_r8 :: K) fr S = gval T (.ops [
  ⟨some 43, .mov (.tmp 11), none⟩,
  ⟨some 44, .arith .add (.tmp 43) (.cst (.int .i64 1)), none⟩,
  ⟨some 11, .mov (.tmp 44), none⟩] :: K) fr S := rfl
def law04_DiskRefuses_l0 : PCode :=
  (.seq (.seq (.clr [(39, 42)] (.region law04_DiskRefuses_r7)) (.cond (.tmp 42) .skip (.exit 0))) (.seq (.block 1 (.seq (.clr [(13, 14), (45, 54)] (.region law04_DiskRefuses_r9)) (.clr [(54, 58)] (.region law04_DiskRefuses_r10)))) (.clr [(43, 45)] (.region law04_DiskRefuses_r8))))
@[simp] theorem law04_DiskRefuses_l0_go (T : Tbl) (K : List Kt) (fr : Fr) (S : St) : gval T (.code law04_DiskRefuses_l0 :: K) fr S = gval T (.code (.seq (.seq (.clr [(39, 42)] (.region law04_DiskRefuses_r7)) (.cond (.tmp 42) .skip (.exit 0))) (.seq (.block 1 (.seq (.clr [(13, 14), (45, 54)] (.region law04_DiskRefuses_r9)) (.clr [(54, 58)] (.region law04_DiskRefuses_r10)))) (.clr [(43, 45)] (.region law04_DiskRefuses_r8)))) :: K) fr S := rfl
def law04_DiskRefuses_r11 : List POper := [
  ⟨some 59, .mov (.tmp 7), none⟩,
  ⟨some 60, .load true 6 false (.tmp 5), none⟩,
  ⟨some 61, .call .std 19 [(.tmp 59), (.tmp 60)], none⟩,
  ⟨some 58, .mov (.tmp 61), none⟩,
  ⟨some 62, .extract 0 (.tmp 58), none⟩,
  ⟨some 63, .extract 1 (.tmp 58), none⟩,
  ⟨some 14, .mov (.tmp 62), none⟩,
  ⟨some 15, .mov (.tmp 63), none⟩]
@[simp] theorem law04_DiskRefuses_r11_go (T : Tbl) (K : List Kt) (fr : Fr) (S : St) : gval T (.ops law04_DiskRefuses_r11 :: K) fr S = gval T (.ops [
  ⟨some 59, .mov (.tmp 7), none⟩,
  ⟨some 60, .load true 6 false (.tmp 5), none⟩,
  ⟨some 61, .call .std 19 [(.tmp 59), (.tmp 60)], none⟩,
  ⟨some 58, .mov (.tmp 61), none⟩,
  ⟨some 62, .extract 0 (.tmp 58), none⟩,
  ⟨some 63, .extract 1 (.tmp 58), none⟩,
  ⟨some 14, .mov (.tmp 62), none⟩,
  ⟨some 15, .mov (.tmp 63), none⟩] :: K) fr S := rfl
def law04_DiskRefuses_r12 : List POper := [
  ⟨some 64, .mov (.tmp 14), none⟩,
  ⟨some 65, .arith .eql (.tmp 64) (.cst (.int .i64 0)), none⟩]
@[simp] theorem law04_DiskRefuses_r12_go (T : Tbl) (K : List Kt) (fr : Fr) (S : St) : gval T (.ops law04_DiskRefuses_r12 :: K) fr S = gval T (.ops [
  ⟨some 64, .mov (.tmp 14), none⟩,
  ⟨some 65, .arith .eql (.tmp 64) (.cst (.int .i64 0)), none⟩] :: K) fr S := rfl
def law04_DiskRefuses_r13 : List POper := [
  ⟨some 66, .mov (.tmp 7), none⟩,
  ⟨some 67, .call .std 93 [(.tmp 66)], none⟩,
  ⟨some 68, .mov (.tmp 9), none⟩,
  ⟨some 69, .arith .add (.tmp 68) (.cst (.int .i64 1)), none⟩,
  ⟨some 70, .arith .eql (.tmp 67) (.tmp 69), none⟩,
  ⟨some 71, .mov (.tmp 70), none⟩,
  ⟨some 72, .call .pur 18 [], some (71, true)⟩,
  ⟨some 73, .pick (.tmp 71) (.tmp 72) (.cst (.bool false)), none⟩,
  ⟨some 6, .mov (.tmp 73), none⟩]
@[simp] theorem law04_DiskRefuses_r13_go (T : Tbl) (K : List Kt) (fr : Fr) (S : St) : gval T (.ops law04_DiskRefuses_r13 :: K) fr S = gval T (.ops [
  ⟨some 66, .mov (.tmp 7), none⟩,
  ⟨some 67, .call .std 93 [(.tmp 66)], none⟩,
  ⟨some 68, .mov (.tmp 9), none⟩,
  ⟨some 69, .arith .add (.tmp 68) (.cst (.int .i64 1)), none⟩,
  ⟨some 70, .arith .eql (.tmp 67) (.tmp 69), none⟩,
  ⟨some 71, .mov (.tmp 70), none⟩,
  ⟨some 72, .call .pur 18 [], some (71, true)⟩,
  ⟨some 73, .pick (.tmp 71) (.tmp 72) (.cst (.bool false)), none⟩,
  ⟨some 6, .mov (.tmp 73), none⟩] :: K) fr S := rfl
def law04_DiskRefuses_r14 : List POper := [
  ⟨some 74, .mov (.tmp 7), none⟩,
  ⟨some 75, .call .std 93 [(.tmp 74)], none⟩,
  ⟨some 76, .mov (.tmp 9), none⟩,
  ⟨some 77, .arith .neq (.tmp 75) (.tmp 76), none⟩]
@[simp] theorem law04_DiskRefuses_r14_go (T : Tbl) (K : List Kt) (fr : Fr) (S : St) : gval T (.ops law04_DiskRefuses_r14 :: K) fr S = gval T (.ops [
  ⟨some 74, .mov (.tmp 7), none⟩,
  ⟨some 75, .call .std 93 [(.tmp 74)], none⟩,
  ⟨some 76, .mov (.tmp 9), none⟩,
  ⟨some 77, .arith .neq (.tmp 75) (.tmp 76), none⟩] :: K) fr S := rfl
def law04_DiskRefuses_r15 : List POper := [
  ⟨some 6, .mov (.cst (.bool false)), none⟩]
@[simp] theorem law04_DiskRefuses_r15_go (T : Tbl) (K : List Kt) (fr : Fr) (S : St) : gval T (.ops law04_DiskRefuses_r15 :: K) fr S = gval T (.ops [
  ⟨some 6, .mov (.cst (.bool false)), none⟩] :: K) fr S := rfl
def law04_DiskRefuses_r16 : List POper := [
  ⟨some 78, .mov (.tmp 14), none⟩,
  ⟨some 79, .arith .eql (.tmp 78) (.cst (.int .i64 6)), none⟩]
@[simp] theorem law04_DiskRefuses_r16_go (T : Tbl) (K : List Kt) (fr : Fr) (S : St) : gval T (.ops law04_DiskRefuses_r16 :: K) fr S = gval T (.ops [
  ⟨some 78, .mov (.tmp 14), none⟩,
  ⟨some 79, .arith .eql (.tmp 78) (.cst (.int .i64 6)), none⟩] :: K) fr S := rfl
def law04_DiskRefuses_r17 : List POper := [
  ⟨some 80, .mov (.tmp 7), none⟩,
  ⟨some 81, .call .std 90 [(.tmp 80)], none⟩,
  ⟨some 82, .len false (.tmp 81), none⟩,
  ⟨some 83, .arith .eql (.tmp 82) (.cst (.int .i64 0)), none⟩,
  ⟨some 84, .mov (.tmp 83), none⟩,
  ⟨some 85, .call .pur 18 [], some (84, true)⟩,
  ⟨some 86, .pick (.tmp 84) (.tmp 85) (.cst (.bool false)), none⟩,
  ⟨some 6, .mov (.tmp 86), none⟩]
@[simp] theorem law04_DiskRefuses_r17_go (T : Tbl) (K : List Kt) (fr : Fr) (S : St) : gval T (.ops law04_DiskRefuses_r17 :: K) fr S = gval T (.ops [
  ⟨some 80, .mov (.tmp 7), none⟩,
  ⟨some 81, .call .std 90 [(.tmp 80)], none⟩,
  ⟨some 82, .len false (.tmp 81), none⟩,
  ⟨some 83, .arith .eql (.tmp 82) (.cst (.int .i64 0)), none⟩,
  ⟨some 84, .mov (.tmp 83), none⟩,
  ⟨some 85, .call .pur 18 [], some (84, true)⟩,
  ⟨some 86, .pick (.tmp 84) (.tmp 85) (.cst (.bool false)), none⟩,
  ⟨some 6, .mov (.tmp 86), none⟩] :: K) fr S := rfl
def law04_DiskRefuses_r18 : List POper := [
  ⟨some 87, .mov (.tmp 7), none⟩,
  ⟨some 88, .call .std 90 [(.tmp 87)], none⟩,
  ⟨some 89, .mov (.tmp 8), none⟩,
  ⟨some 90, .call .std 91 [(.tmp 88), (.tmp 89)], none⟩,
  ⟨some 91, .un .not (.tmp 90), none⟩]
@[simp] theorem law04_DiskRefuses_r18_go (T : Tbl) (K : List Kt) (fr : Fr) (S : St) : gval T (.ops law04_DiskRefuses_r18 :: K) fr S = gval T (.ops [
  ⟨some 87, .mov (.tmp 7), none⟩,
  ⟨some 88, .call .std 90 [(.tmp 87)], none⟩,
  ⟨some 89, .mov (.tmp 8), none⟩,
  ⟨some 90, .call .std 91 [(.tmp 88), (.tmp 89)], none⟩,
  ⟨some 91, .un .not (.tmp 90), none⟩] :: K) fr S := rfl
def law04_DiskRefuses_r19 : List POper := [
  ⟨some 6, .mov (.cst (.bool false)), none⟩]
@[simp] theorem law04_DiskRefuses_r19_go (T : Tbl) (K : List Kt) (fr : Fr) (S : St) : gval T (.ops law04_DiskRefuses_r19 :: K) fr S = gval T (.ops [
  ⟨some 6, .mov (.cst (.bool false)), none⟩] :: K) fr S := rfl
def law04_DiskRefuses_r20 : List POper := [
  ⟨some 16, .mov (.cst (.int .i64 0)), none⟩]
@[simp] theorem law04_DiskRefuses_r20_go (T : Tbl) (K : List Kt) (fr : Fr) (S : St) : gval T (.ops law04_DiskRefuses_r20 :: K) fr S = gval T (.ops [
  ⟨some 16, .mov (.cst (.int .i64 0)), none⟩] :: K) fr S := rfl
def law04_DiskRefuses_r21 : List POper := [
  ⟨some 92, .mov (.tmp 16), none⟩,
  ⟨some 93, .mov (.tmp 8), none⟩,
  ⟨some 94, .len false (.tmp 93), none⟩,
  ⟨some 95, .arith .lss (.tmp 92) (.tmp 94), none⟩]
@[simp] theorem law04_DiskRefuses_r21_go (T : Tbl) (K : List Kt) (fr : Fr) (S : St) : gval T (.ops law04_DiskRefuses_r21 :: K) fr S = gval T (.ops [
  ⟨some 92, .mov (.tmp 16), none⟩,
  ⟨some 93, .mov (.tmp 8), none⟩,
  ⟨some 94, .len false (.tmp 93), none⟩,
  ⟨some 95, .arith .lss (.tmp 92) (.tmp 94), none⟩] :: K) fr S := rfl
def law04_DiskRefuses_r23 : List POper := [
  ⟨some 99, .mov (.tmp 7), none⟩,
  ⟨some 100, .mov (.tmp 8), none⟩,
  ⟨some 101, .mov (.tmp 16), none⟩,
  ⟨some 102, .iaddr 1 (.tmp 100) (.tmp 101), none⟩,
  ⟨some 103, .load false 1 false (.tmp 102), none⟩,
  ⟨some 104, .call .std 81 [(.tmp 99), (.tmp 103)], none⟩,
  ⟨some 98, .mov (.tmp 104), none⟩,
  ⟨some 105, .extract 0 (.tmp 98), none⟩,
  ⟨some 106, .extract 1 (.tmp 98), none⟩,
  ⟨some 17, .mov (.tmp 105), none⟩,
  ⟨some 18, .mov (.tmp 106), none⟩]
@[simp] theorem law04_DiskRefuses_r23_go (T : Tbl) (K : List Kt) (fr : Fr) (S : St) : gval T (.ops law04_DiskRefuses_r23 :: K) fr S = gval T (.ops [
  ⟨some 99, .mov (.tmp 7), none⟩,
  ⟨some 100, .mov (.tmp 8), none⟩,
  ⟨some 101, .mov (.tmp 16), none⟩,
  ⟨some 102, .iaddr 1 (.tmp 100) (.tmp 101), none⟩,
  ⟨some 103, .load false 1 false (.tmp 102), none⟩,
  ⟨some 104, .call .std 81 [(.tmp 99), (.tmp 103)], none⟩,
  ⟨some 98, .mov (.tmp 104), none⟩,
  ⟨some 105, .extract 0 (.tmp 98), none⟩,
  ⟨some 106, .extract 1 (.tmp 98), none⟩,
  ⟨some 17, .mov (.tmp 105), none⟩,
  ⟨some 18, .mov (.tmp 106), none⟩] :: K) fr S := rfl
def law04_DiskRefuses_r24 : List POper := [
  ⟨some 107, .mov (.tmp 17), none⟩,
  ⟨some 108, .toStr (.tmp 107), none⟩,
  ⟨some 109, .mov (.tmp 10), none⟩,
  ⟨some 110, .mov (.tmp 16), none⟩,
  ⟨some 111, .iaddr 1 (.tmp 109) (.tmp 110), none⟩,
  ⟨some 112, .load false 1 true (.tmp 111), none⟩,
  ⟨some 113, .toStr (.tmp 112), none⟩,
  ⟨some 114, .arith .neq (.tmp 108) (.tmp 113), none⟩]
@[simp] theorem law04_DiskRefuses_r24_go (T : Tbl) (K : List Kt) (fr : Fr) (S : St) : gval T (.ops law04_DiskRefuses_r24 :: K) fr S = gval T (.ops [
  ⟨some 107, .mov (.tmp 17), none⟩,
  ⟨some 108, .toStr (.tmp 107), none⟩,
  ⟨some 109, .mov (.tmp 10), none⟩,
  ⟨some 110, .mov (.tmp 16), none⟩,
  ⟨some 111, .iaddr 1 (.tmp 109) (.tmp 110), none⟩,
  ⟨some 112, .load false 1 true (.tmp 111), none⟩,
  ⟨some 113, .toStr (.tmp 112), none⟩,
  ⟨some 114, .arith .neq (.tmp 108) (.tmp 113), none⟩] :: K) fr S := rfl
def law04_DiskRefuses_r25 : List POper := [
  ⟨some 6, .mov (.cst (.bool false)), none⟩]
@[simp] theorem law04_DiskRefuses_r25_go (T : Tbl) (K : List Kt) (fr : Fr) (S : St) : gval T (.ops law04_DiskRefuses_r25 :: K) fr S = gval T (.ops [
  ⟨some 6, .mov (.cst (.bool false)), none⟩] :: K) fr S := rfl
def law04_DiskRefuses_r22 : List POper := [
  ⟨some 96, .mov (.tmp 16), none⟩,
  ⟨some 97, .arith .add (.tmp 96) (.cst (.int .i64 1)), none⟩,
  ⟨some 16, .mov (.tmp 97), none⟩]
@[simp] theorem law04_DiskRefuses_r22_go (T : Tbl) (K : List Kt) (fr : Fr) (S : St) : gval T (.ops law04_DiskRefuses_r22 :: K) fr S = gval T (.ops [
  ⟨some 96, .mov (.tmp 16), none⟩,
  ⟨some 97, .arith .add (.tmp 96) (.cst (.int .i64 1)), none⟩,
  ⟨some 16, .mov (.tmp 97), none⟩] :: K) fr S := rfl
def law04_DiskRefuses_l1 : PCode :=
  (.seq (.seq (.clr [(92, 95)] (.region law04_DiskRefuses_r21)) (.cond (.tmp 95) .skip (.exit 2))) (.seq (.block 3 (.seq (.clr [(18, 19), (98, 107)] (.region law04_DiskRefuses_r23)) (.seq (.clr [(107, 114)] (.region law04_DiskRefuses_r24)) (.cond (.tmp 114) (.seq (.region law04_DiskRefuses_r25) .ret) .skip)))) (.clr [(96, 98)] (.region law04_DiskRefuses_r22))))
@[simp] theorem law04_DiskRefuses_l1_go (T : Tbl) (K : List Kt) (fr : Fr) (S : St) : gval T (.code law04_DiskRefuses_l1 :: K) fr S = gval T (.code (.seq (.seq (.clr [(92, 95)] (.region law04_DiskRefuses_r21)) (.cond (.tmp 95) .skip (.exit 2))) (.seq (.block 3 (.seq (.clr [(18, 19), (98, 107)] (.region law04_DiskRefuses_r23)) (.seq (.clr [(107, 114)] (.region law04_DiskRefuses_r24)) (.cond (.tmp 114) (.seq (.region law04_DiskRefuses_r25) .ret) .skip)))) (.clr [(96, 98)] (.region law04_DiskRefuses_r22)))) :: K) fr S := rfl
def law04_DiskRefuses_r26 : List POper := [
  ⟨some 115, .call .pur 18 [], none⟩,
  ⟨some 6, .mov (.tmp 115), none⟩]
@[simp] theorem law04_DiskRefuses_r26_go (T : Tbl) (K : List Kt) (fr : Fr) (S : St) : gval T (.ops law04_DiskRefuses_r26 :: K) fr S = gval T (.ops [
  ⟨some 115, .call .pur 18 [], none⟩,
  ⟨some 6, .mov (.tmp 115), none⟩] :: K) fr S := rfl
def law04_DiskRefuses : PCodeFn :=
  ⟨3, [.tmp 6],
  (.seq (.region law04_DiskRefuses_r0) (.seq (.clr [(19, 22)] (.region law04_DiskRefuses_r1)) (.seq (.seq (.clr [(22, 33)] (.region law04_DiskRefuses_r2)) (.cond (.tmp 33) (.seq (.clr [(34, 35)] (.region law04_DiskRefuses_r3)) .ret) .skip)) (.seq (.clr [(35, 39)] (.region law04_DiskRefuses_r4)) (.seq (.region law04_DiskRefuses_r5) (.seq (.seq (.region law04_DiskRefuses_r6) (.block 0 (.loop law04_DiskRefuses_l0))) (.seq (.clr [(15, 16), (58, 64)] (.region law04_DiskRefuses_r11)) (.seq (.seq (.clr [(64, 65)] (.region law04_DiskRefuses_r12)) (.cond (.tmp 65) (.seq (.clr [(66, 74)] (.region law04_DiskRefuses_r13)) .ret) .skip)) (.seq (.seq (.clr [(74, 77)] (.region law04_DiskRefuses_r14)) (.cond (.tmp 77) (.seq (.region law04_DiskRefuses_r15) .ret) .skip)) (.seq (.seq (.clr [(78, 79)] (.region law04_DiskRefuses_r16)) (.cond (.tmp 79) (.seq (.clr [(80, 87)] (.region law04_DiskRefuses_r17)) .ret) .skip)) (.seq (.seq (.clr [(87, 91)] (.region law04_DiskRefuses_r18)) (.cond (.tmp 91) (.seq (.region law04_DiskRefuses_r19) .ret) .skip)) (.seq (.seq (.region law04_DiskRefuses_r20) (.block 2 (.loop law04_DiskRefuses_l1))) (.seq (.clr [(115, 116)] (.region law04_DiskRefuses_r26)) .ret))))))))))))), false⟩

/-! gauge/gaugelaw04.DiskDark: 465 -/
def law04_DiskDark_r0 : List POper := [
  ⟨some 6, .mov (.cst (.bool false)), none⟩]
@[simp] theorem law04_DiskDark_r0_go (T : Tbl) (K : List Kt) (fr : Fr) (S : St) : gval T (.ops law04_DiskDark_r0 :: K) fr S = gval T (.ops [
  ⟨some 6, .mov (.cst (.bool false)), none⟩] :: K) fr S := rfl
def law04_DiskDark_r1 : List POper := [
  ⟨some 12, .mov (.tmp 0), none⟩,
  ⟨some 13, .mov (.tmp 1), none⟩,
  ⟨some 14, .call .std 466 [(.tmp 12), (.tmp 13)], none⟩,
  ⟨some 7, .mov (.tmp 14), none⟩]
@[simp] theorem law04_DiskDark_r1_go (T : Tbl) (K : List Kt) (fr : Fr) (S : St) : gval T (.ops law04_DiskDark_r1 :: K) fr S = gval T (.ops [
  ⟨some 12, .mov (.tmp 0), none⟩,
  ⟨some 13, .mov (.tmp 1), none⟩,
  ⟨some 14, .call .std 466 [(.tmp 12), (.tmp 13)], none⟩,
  ⟨some 7, .mov (.tmp 14), none⟩] :: K) fr S := rfl
def law04_DiskDark_r2 : List POper := [
  ⟨some 15, .mov (.tmp 7), none⟩,
  ⟨some 16, .eqn false .p (.tmp 15), none⟩]
@[simp] theorem law04_DiskDark_r2_go (T : Tbl) (K : List Kt) (fr : Fr) (S : St) : gval T (.ops law04_DiskDark_r2 :: K) fr S = gval T (.ops [
  ⟨some 15, .mov (.tmp 7), none⟩,
  ⟨some 16, .eqn false .p (.tmp 15), none⟩] :: K) fr S := rfl
def law04_DiskDark_r3 : List POper := [
  ⟨some 17, .call .pur 18 [], none⟩,
  ⟨some 6, .mov (.tmp 17), none⟩]
@[simp] theorem law04_DiskDark_r3_go (T : Tbl) (K : List Kt) (fr : Fr) (S : St) : gval T (.ops law04_DiskDark_r3 :: K) fr S = gval T (.ops [
  ⟨some 17, .call .pur 18 [], none⟩,
  ⟨some 6, .mov (.tmp 17), none⟩] :: K) fr S := rfl
def law04_DiskDark_r4 : List POper := [
  ⟨some 18, .mov (.tmp 7), none⟩,
  ⟨some 19, .call .std 85 [(.tmp 18), (.cst (.int .i64 0))], none⟩]
@[simp] theorem law04_DiskDark_r4_go (T : Tbl) (K : List Kt) (fr : Fr) (S : St) : gval T (.ops law04_DiskDark_r4 :: K) fr S = gval T (.ops [
  ⟨some 18, .mov (.tmp 7), none⟩,
  ⟨some 19, .call .std 85 [(.tmp 18), (.cst (.int .i64 0))], none⟩] :: K) fr S := rfl
def law04_DiskDark_r5 : List POper := [
  ⟨some 20, .mov (.tmp 7), none⟩,
  ⟨some 21, .call .std 79 [(.tmp 20)], none⟩,
  ⟨some 22, .arith .neq (.tmp 21) (.cst (.int .i64 6)), none⟩]
@[simp] theorem law04_DiskDark_r5_go (T : Tbl) (K : List Kt) (fr : Fr) (S : St) : gval T (.ops law04_DiskDark_r5 :: K) fr S = gval T (.ops [
  ⟨some 20, .mov (.tmp 7), none⟩,
  ⟨some 21, .call .std 79 [(.tmp 20)], none⟩,
  ⟨some 22, .arith .neq (.tmp 21) (.cst (.int .i64 6)), none⟩] :: K) fr S := rfl
def law04_DiskDark_r6 : List POper := [
  ⟨some 6, .mov (.cst (.bool false)), none⟩]
@[simp] theorem law04_DiskDark_r6_go (T : Tbl) (K : List Kt) (fr : Fr) (S : St) : gval T (.ops law04_DiskDark_r6 :: K) fr S = gval T (.ops [
  ⟨some 6, .mov (.cst (.bool false)), none⟩] :: K) fr S := rfl
def law04_DiskDark_r7 : List POper := [
  ⟨some 23, .mov (.tmp 7), none⟩,
  ⟨some 24, .call .std 93 [(.tmp 23)], none⟩,
  ⟨some 8, .mov (.tmp 24), none⟩]
@[simp] theorem law04_DiskDark_r7_go (T : Tbl) (K : List Kt) (fr : Fr) (S : St) : gval T (.ops law04_DiskDark_r7 :: K) fr S = gval T (.ops [
  ⟨some 23, .mov (.tmp 7), none⟩,
  ⟨some 24, .call .std 93 [(.tmp 23)], none⟩,
  ⟨some 8, .mov (.tmp 24), none⟩] :: K) fr S := rfl
def law04_DiskDark_r8 : List POper := [
  ⟨some 9, .mov (.cst (.int .i64 0)), none⟩]
@[simp] theorem law04_DiskDark_r8_go (T : Tbl) (K : List Kt) (fr : Fr) (S : St) : gval T (.ops law04_DiskDark_r8 :: K) fr S = gval T (.ops [
  ⟨some 9, .mov (.cst (.int .i64 0)), none⟩] :: K) fr S := rfl
def law04_DiskDark_r9 : List POper := [
  ⟨some 25, .mov (.tmp 9), none⟩,
  ⟨some 26, .mov (.tmp 2), none⟩,
  ⟨some 27, .len false (.tmp 26), none⟩,
  ⟨some 28, .arith .lss (.tmp 25) (.tmp 27), none⟩,
  ⟨some 29, .mov (.tmp 28), none⟩,
  ⟨some 30, .mov (.tmp 9), some (29, true)⟩,
  ⟨some 31, .arith .lss (.tmp 30) (.cst (.int .i64 15)), some (29, true)⟩,
  ⟨some 32, .pick (.tmp 29) (.tmp 31) (.cst (.bool false)), none⟩]
@[simp] theorem law04_DiskDark_r9_go (T : Tbl) (K : List Kt) (fr : Fr) (S : St) : gval T (.ops law04_DiskDark_r9 :: K) fr S = gval T (.ops [
  ⟨some 25, .mov (.tmp 9), none⟩,
  ⟨some 26, .mov (.tmp 2), none⟩,
  ⟨some 27, .len false (.tmp 26), none⟩,
  ⟨some 28, .arith .lss (.tmp 25) (.tmp 27), none⟩,
  ⟨some 29, .mov (.tmp 28), none⟩,
  ⟨some 30, .mov (.tmp 9), some (29, true)⟩,
  ⟨some 31, .arith .lss (.tmp 30) (.cst (.int .i64 15)), some (29, true)⟩,
  ⟨some 32, .pick (.tmp 29) (.tmp 31) (.cst (.bool false)), none⟩] :: K) fr S := rfl
def law04_DiskDark_r11 : List POper := [
  ⟨some 35, .mov (.tmp 2), none⟩,
  ⟨some 36, .mov (.tmp 9), none⟩,
  ⟨some 37, .iaddr 6 (.tmp 35) (.tmp 36), none⟩,
  ⟨some 38, .faddr 0 (.tmp 37), none⟩,
  ⟨some 39, .load false 1 false (.tmp 38), none⟩,
  ⟨some 40, .arith .geq (.tmp 39) (.cst (.int .i64 1)), none⟩,
  ⟨some 41, .mov (.tmp 40), none⟩,
  ⟨some 42, .mov (.tmp 2), some (41, true)⟩,
  ⟨some 43, .mov (.tmp 9), some (41, true)⟩,
  ⟨some 44, .iaddr 6 (.tmp 42) (.tmp 43), some (41, true)⟩,
  ⟨some 45, .faddr 0 (.tmp 44), some (41, true)⟩,
  ⟨some 46, .load false 1 false (.tmp 45), some (41, true)⟩,
  ⟨some 47, .arith .leq (.tmp 46) (.cst (.int .i64 7)), some (41, true)⟩,
  ⟨some 48, .pick (.tmp 41) (.tmp 47) (.cst (.bool false)), none⟩]
@[simp] theorem law04_DiskDark_r11_go (T : Tbl) (K : List Kt) (fr : Fr) (S : St) : gval T (.ops law04_DiskDark_r11 :: K) fr S = gval T (.ops [
  ⟨some 35, .mov (.tmp 2), none⟩,
  ⟨some 36, .mov (.tmp 9), none⟩,
  ⟨some 37, .iaddr 6 (.tmp 35) (.tmp 36), none⟩,
  ⟨some 38, .faddr 0 (.tmp 37), none⟩,
  ⟨some 39, .load false 1 false (.tmp 38), none⟩,
  ⟨some 40, .arith .geq (.tmp 39) (.cst (.int .i64 1)), none⟩,
  ⟨some 41, .mov (.tmp 40), none⟩,
  ⟨some 42, .mov (.tmp 2), some (41, true)⟩,
  ⟨some 43, .mov (.tmp 9), some (41, true)⟩,
  ⟨some 44, .iaddr 6 (.tmp 42) (.tmp 43), some (41, true)⟩,
  ⟨some 45, .faddr 0 (.tmp 44), some (41, true)⟩,
  ⟨some 46, .load false 1 false (.tmp 45), some (41, true)⟩,
  ⟨some 47, .arith .leq (.tmp 46) (.cst (.int .i64 7)), some (41, true)⟩,
  ⟨some 48, .pick (.tmp 41) (.tmp 47) (.cst (.bool false)), none⟩] :: K) fr S := rfl
def law04_DiskDark_r12 : List POper := [
  ⟨some 50, .mov (.tmp 7), none⟩,
  ⟨some 51, .mov (.tmp 2), none⟩,
  ⟨some 52, .mov (.tmp 9), none⟩,
  ⟨some 53, .iaddr 6 (.tmp 51) (.tmp 52), none⟩,
  ⟨some 54, .load true 6 false (.tmp 53), none⟩,
  ⟨some 55, .call .std 19 [(.tmp 50), (.tmp 54)], none⟩,
  ⟨some 49, .mov (.tmp 55), none⟩,
  ⟨some 56, .extract 0 (.tmp 49), none⟩,
  ⟨some 57, .extract 1 (.tmp 49), none⟩,
  ⟨some 10, .mov (.tmp 56), none⟩,
  ⟨some 11, .mov (.tmp 57), none⟩]
@[simp] theorem law04_DiskDark_r12_go (T : Tbl) (K : List Kt) (fr : Fr) (S : St) : gval T (.ops law04_DiskDark_r12 :: K) fr S = gval T (.ops [
  ⟨some 50, .mov (.tmp 7), none⟩,
  ⟨some 51, .mov (.tmp 2), none⟩,
  ⟨some 52, .mov (.tmp 9), none⟩,
  ⟨some 53, .iaddr 6 (.tmp 51) (.tmp 52), none⟩,
  ⟨some 54, .load true 6 false (.tmp 53), none⟩,
  ⟨some 55, .call .std 19 [(.tmp 50), (.tmp 54)], none⟩,
  ⟨some 49, .mov (.tmp 55), none⟩,
  ⟨some 56, .extract 0 (.tmp 49), none⟩,
  ⟨some 57, .extract 1 (.tmp 49), none⟩,
  ⟨some 10, .mov (.tmp 56), none⟩,
  ⟨some 11, .mov (.tmp 57), none⟩] :: K) fr S := rfl
def law04_DiskDark_r13 : List POper := [
  ⟨some 58, .mov (.tmp 10), none⟩,
  ⟨some 59, .arith .eql (.tmp 58) (.cst (.int .i64 0)), none⟩,
  ⟨some 60, .mov (.tmp 59), none⟩,
  ⟨some 61, .mov (.tmp 11), some (60, false)⟩,
  ⟨some 62, .len false (.tmp 61), some (60, false)⟩,
  ⟨some 63, .arith .gtr (.tmp 62) (.cst (.int .i64 0)), some (60, false)⟩,
  ⟨some 64, .pick (.tmp 60) (.cst (.bool true)) (.tmp 63), none⟩]
@[simp] theorem law04_DiskDark_r13_go (T : Tbl) (K : List Kt) (fr : Fr) (S : St) : gval T (.ops law04_DiskDark_r13 :: K) fr S = gval T (.ops [
  ⟨some 58, .mov (.tmp 10), none⟩,
  ⟨some 59, .arith .eql (.tmp 58) (.cst (.int .i64 0)), none⟩,
  ⟨some 60, .mov (.tmp 59), none⟩,
  ⟨some 61, .mov (.tmp 11), some (60, false)⟩,
  ⟨some 62, .len false (.tmp 61), some (60, false)⟩,
  ⟨some 63, .arith .gtr (.tmp 62) (.cst (.int .i64 0)), some (60, false)⟩,
  ⟨some 64, .pick (.tmp 60) (.cst (.bool true)) (.tmp 63), none⟩] :: K) fr S := rfl
def law04_DiskDark_r14 : List POper := [
  ⟨some 6, .mov (.cst (.bool false)), none⟩]
@[simp] theorem law04_DiskDark_r14_go (T : Tbl) (K : List Kt) (fr : Fr) (S : St) : gval T (.ops law04_DiskDark_r14 :: K) fr S = gval T (.ops [
  ⟨some 6, .mov (.cst (.bool false)), none⟩] :: K) fr S := rfl
def law04_DiskDark_r10 : List POper := [
  ⟨some 33, .mov (.tmp 9), none⟩,
  ⟨some 34, .arith .add (.tmp 33) (.cst (.int .i64 1)), none⟩,
  ⟨some 9, .mov (.tmp 34), none⟩]
@[simp] theorem law04_DiskDark_r10_go (T : Tbl) (K : List Kt) (fr : Fr) (S : St) : gval T (.ops law04_DiskDark_r10 :: K) fr S = gval T (.ops [
  ⟨some 33, .mov (.tmp 9), none⟩,
  ⟨some 34, .arith .add (.tmp 33) (.cst (.int .i64 1)), none⟩,
  ⟨some 9, .mov (.tmp 34), none⟩] :: K) fr S := rfl
def law04_DiskDark_l0 : PCode :=
  (.seq (.seq (.clr [(25, 32)] (.region law04_DiskDark_r9)) (.cond (.tmp 32) .skip (.exit 0))) (.seq (.block 1 (.seq (.clr [(35, 48)] (.region law04_DiskDark_r11)) (.cond (.tmp 48) (.seq (.clr [(49, 58)] (.region law04_DiskDark_r12)) (.seq (.clr [(58, 64)] (.region law04_DiskDark_r13)) (.cond (.tmp 64) (.seq (.region law04_DiskDark_r14) .ret) .skip))) .skip))) (.clr [(33, 35)] (.region law04_DiskDark_r10))))
@[simp] theorem law04_DiskDark_l0_go (T : Tbl) (K : List Kt) (fr : Fr) (S : St) : gval T (.code law04_DiskDark_l0 :: K) fr S = gval T (.code (.seq (.seq (.clr [(25, 32)] (.region law04_DiskDark_r9)) (.cond (.tmp 32) .skip (.exit 0))) (.seq (.block 1 (.seq (.clr [(35, 48)] (.region law04_DiskDark_r11)) (.cond (.tmp 48) (.seq (.clr [(49, 58)] (.region law04_DiskDark_r12)) (.seq (.clr [(58, 64)] (.region law04_DiskDark_r13)) (.cond (.tmp 64) (.seq (.region law04_DiskDark_r14) .ret) .skip))) .skip))) (.clr [(33, 35)] (.region law04_DiskDark_r10)))) :: K) fr S := rfl
def law04_DiskDark_r15 : List POper := [
  ⟨some 65, .mov (.tmp 7), none⟩,
  ⟨some 66, .call .std 93 [(.tmp 65)], none⟩,
  ⟨some 67, .mov (.tmp 8), none⟩,
  ⟨some 68, .arith .neq (.tmp 66) (.tmp 67), none⟩,
  ⟨some 69, .mov (.tmp 68), none⟩,
  ⟨some 70, .mov (.tmp 7), some (69, false)⟩,
  ⟨some 71, .call .std 90 [(.tmp 70)], some (69, false)⟩,
  ⟨some 72, .len false (.tmp 71), some (69, false)⟩,
  ⟨some 73, .arith .neq (.tmp 72) (.cst (.int .i64 0)), some (69, false)⟩,
  ⟨some 74, .pick (.tmp 69) (.cst (.bool true)) (.tmp 73), none⟩]
@[simp] theorem law04_DiskDark_r15_go (T : Tbl) (K : List Kt) (fr : Fr) (S : St) : gval T (.ops law04_DiskDark_r15 :: K) fr S = gval T (.ops [
  ⟨some 65, .mov (.tmp 7), none⟩,
  ⟨some 66, .call .std 93 [(.tmp 65)], none⟩,
  ⟨some 67, .mov (.tmp 8), none⟩,
  ⟨some 68, .arith .neq (.tmp 66) (.tmp 67), none⟩,
  ⟨some 69, .mov (.tmp 68), none⟩,
  ⟨some 70, .mov (.tmp 7), some (69, false)⟩,
  ⟨some 71, .call .std 90 [(.tmp 70)], some (69, false)⟩,
  ⟨some 72, .len false (.tmp 71), some (69, false)⟩,
  ⟨some 73, .arith .neq (.tmp 72) (.cst (.int .i64 0)), some (69, false)⟩,
  ⟨some 74, .pick (.tmp 69) (.cst (.bool true)) (.tmp 73), none⟩] :: K) fr S := rfl
def law04_DiskDark_r16 : List POper := [
  ⟨some 6, .mov (.cst (.bool false)), none⟩]
@[simp] theorem law04_DiskDark_r16_go (T : Tbl) (K : List Kt) (fr : Fr) (S : St) : gval T (.ops law04_DiskDark_r16 :: K) fr S = gval T (.ops [
  ⟨some 6, .mov (.cst (.bool false)), none⟩] :: K) fr S := rfl
def law04_DiskDark_r17 : List POper := [
  ⟨some 75, .mov (.tmp 7), none⟩,
  ⟨some 76, .call .std 80 [(.tmp 75), (.cst (.int .i64 0)), (.cst .nils)], none⟩]
@[simp] theorem law04_DiskDark_r17_go (T : Tbl) (K : List Kt) (fr : Fr) (S : St) : gval T (.ops law04_DiskDark_r17 :: K) fr S = gval T (.ops [
  ⟨some 75, .mov (.tmp 7), none⟩,
  ⟨some 76, .call .std 80 [(.tmp 75), (.cst (.int .i64 0)), (.cst .nils)], none⟩] :: K) fr S := rfl
def law04_DiskDark_r18 : List POper := [
  ⟨some 77, .mov (.tmp 7), none⟩,
  ⟨some 78, .call .std 79 [(.tmp 77)], none⟩,
  ⟨some 79, .arith .eql (.tmp 78) (.cst (.int .i64 0)), none⟩,
  ⟨some 80, .mov (.tmp 79), none⟩,
  ⟨some 81, .mov (.tmp 7), some (80, true)⟩,
  ⟨some 82, .call .std 93 [(.tmp 81)], some (80, true)⟩,
  ⟨some 83, .mov (.tmp 8), some (80, true)⟩,
  ⟨some 84, .arith .add (.tmp 83) (.cst (.int .i64 1)), some (80, true)⟩,
  ⟨some 85, .arith .eql (.tmp 82) (.tmp 84), some (80, true)⟩,
  ⟨some 86, .pick (.tmp 80) (.tmp 85) (.cst (.bool false)), none⟩,
  ⟨some 87, .mov (.tmp 86), none⟩,
  ⟨some 88, .call .pur 18 [], some (87, true)⟩,
  ⟨some 89, .pick (.tmp 87) (.tmp 88) (.cst (.bool false)), none⟩,
  ⟨some 6, .mov (.tmp 89), none⟩]
@[simp] theorem law04_DiskDark_r18_go (T : Tbl) (K : List Kt) (fr : Fr) (S : St) : gval T (.ops law04_DiskDark_r18 :: K) fr S = gval T (.ops [
  ⟨some 77, .mov (.tmp 7), none⟩,
  ⟨some 78, .call .std 79 [(.tmp 77)], none⟩,
  ⟨some 79, .arith .eql (.tmp 78) (.cst (.int .i64 0)), none⟩,
  ⟨some 80, .mov (.tmp 79), none⟩,
  ⟨some 81, .mov (.tmp 7), some (80, true)⟩,
  ⟨some 82, .call .std 93 [(.tmp 81)], some (80, true)⟩,
  ⟨some 83, .mov (.tmp 8), some (80, true)⟩,
  ⟨some 84, .arith .add (.tmp 83) (.cst (.int .i64 1)), some (80, true)⟩,
  ⟨some 85, .arith .eql (.tmp 82) (.tmp 84), some (80, true)⟩,
  ⟨some 86, .pick (.tmp 80) (.tmp 85) (.cst (.bool false)), none⟩,
  ⟨some 87, .mov (.tmp 86), none⟩,
  ⟨some 88, .call .pur 18 [], some (87, true)⟩,
  ⟨some 89, .pick (.tmp 87) (.tmp 88) (.cst (.bool false)), none⟩,
  ⟨some 6, .mov (.tmp 89), none⟩] :: K) fr S := rfl
def law04_DiskDark : PCodeFn :=
  ⟨3, [.tmp 6],
  (.seq (.region law04_DiskDark_r0) (.seq (.clr [(12, 15)] (.region law04_DiskDark_r1)) (.seq (.seq (.clr [(15, 16)] (.region law04_DiskDark_r2)) (.cond (.tmp 16) (.seq (.clr [(17, 18)] (.region law04_DiskDark_r3)) .ret) .skip)) (.seq (.clr [(18, 20)] (.region law04_DiskDark_r4)) (.seq (.seq (.clr [(20, 22)] (.region law04_DiskDark_r5)) (.cond (.tmp 22) (.seq (.region law04_DiskDark_r6) .ret) .skip)) (.seq (.clr [(23, 25)] (.region law04_DiskDark_r7)) (.seq (.seq (.region law04_DiskDark_r8) (.block 0 (.loop law04_DiskDark_l0))) (.seq (.seq (.clr [(65, 74)] (.region law04_DiskDark_r15)) (.cond (.tmp 74) (.seq (.region law04_DiskDark_r16) .ret) .skip)) (.seq (.clr [(75, 77)] (.region law04_DiskDark_r17)) (.seq (.clr [(77, 90)] (.region law04_DiskDark_r18)) .ret)))))))))), false⟩

/-! gauge/gaugelaw04.DiskCopies: 461 -/
def law04_DiskCopies_r0 : List POper := [
  ⟨some 6, .mov (.cst (.bool false)), none⟩]
@[simp] theorem law04_DiskCopies_r0_go (T : Tbl) (K : List Kt) (fr : Fr) (S : St) : gval T (.ops law04_DiskCopies_r0 :: K) fr S = gval T (.ops [
  ⟨some 6, .mov (.cst (.bool false)), none⟩] :: K) fr S := rfl
def law04_DiskCopies_r1 : List POper := [
  ⟨some 16, .mov (.tmp 0), none⟩,
  ⟨some 17, .call .std 16 [(.tmp 16)], none⟩,
  ⟨some 15, .mov (.tmp 17), none⟩,
  ⟨some 18, .extract 0 (.tmp 15), none⟩,
  ⟨some 19, .extract 1 (.tmp 15), none⟩,
  ⟨some 7, .mov (.tmp 18), none⟩,
  ⟨some 8, .mov (.tmp 19), none⟩]
@[simp] theorem law04_DiskCopies_r1_go (T : Tbl) (K : List Kt) (fr : Fr) (S : St) : gval T (.ops law04_DiskCopies_r1 :: K) fr S = gval T (.ops [
  ⟨some 16, .mov (.tmp 0), none⟩,
  ⟨some 17, .call .std 16 [(.tmp 16)], none⟩,
  ⟨some 15, .mov (.tmp 17), none⟩,
  ⟨some 18, .extract 0 (.tmp 15), none⟩,
  ⟨some 19, .extract 1 (.tmp 15), none⟩,
  ⟨some 7, .mov (.tmp 18), none⟩,
  ⟨some 8, .mov (.tmp 19), none⟩] :: K) fr S := rfl
def law04_DiskCopies_r2 : List POper := [
  ⟨some 21, .mov (.tmp 0), none⟩,
  ⟨some 22, .call .pur 17 [(.tmp 21)], none⟩,
  ⟨some 20, .mov (.tmp 22), none⟩,
  ⟨some 23, .extract 0 (.tmp 20), none⟩,
  ⟨some 24, .extract 1 (.tmp 20), none⟩,
  ⟨some 9, .alloc false [(.int .i64 0), .nils, .nils, .nils, (.int .i64 0), (.bool false), (.int .i64 0)], none⟩,
  ⟨none, .store 7 (.tmp 9) (.tmp 23), none⟩,
  ⟨some 10, .mov (.tmp 24), none⟩]
@[simp] theorem law04_DiskCopies_r2_go (T : Tbl) (K : List Kt) (fr : Fr) (S : St) : gval T (.ops law04_DiskCopies_r2 :: K) fr S = gval T (.ops [
  ⟨some 21, .mov (.tmp 0), none⟩,
  ⟨some 22, .call .pur 17 [(.tmp 21)], none⟩,
  ⟨some 20, .mov (.tmp 22), none⟩,
  ⟨some 23, .extract 0 (.tmp 20), none⟩,
  ⟨some 24, .extract 1 (.tmp 20), none⟩,
  ⟨some 9, .alloc false [(.int .i64 0), .nils, .nils, .nils, (.int .i64 0), (.bool false), (.int .i64 0)], none⟩,
  ⟨none, .store 7 (.tmp 9) (.tmp 23), none⟩,
  ⟨some 10, .mov (.tmp 24), none⟩] :: K) fr S := rfl
def law04_DiskCopies_r3 : List POper := [
  ⟨some 25, .mov (.tmp 8), none⟩,
  ⟨some 26, .arith .neq (.tmp 25) (.cst (.int .i64 0)), none⟩,
  ⟨some 27, .mov (.tmp 26), none⟩,
  ⟨some 28, .mov (.tmp 10), some (27, false)⟩,
  ⟨some 29, .arith .neq (.tmp 28) (.cst (.int .i64 0)), some (27, false)⟩,
  ⟨some 30, .pick (.tmp 27) (.cst (.bool true)) (.tmp 29), none⟩]
@[simp] theorem law04_DiskCopies_r3_go (T : Tbl) (K : List Kt) (fr : Fr) (S : St) : gval T (.ops law04_DiskCopies_r3 :: K) fr S = gval T (.ops [
  ⟨some 25, .mov (.tmp 8), none⟩,
  ⟨some 26, .arith .neq (.tmp 25) (.cst (.int .i64 0)), none⟩,
  ⟨some 27, .mov (.tmp 26), none⟩,
  ⟨some 28, .mov (.tmp 10), some (27, false)⟩,
  ⟨some 29, .arith .neq (.tmp 28) (.cst (.int .i64 0)), some (27, false)⟩,
  ⟨some 30, .pick (.tmp 27) (.cst (.bool true)) (.tmp 29), none⟩] :: K) fr S := rfl
def law04_DiskCopies_r4 : List POper := [
  ⟨some 31, .mov (.tmp 8), none⟩,
  ⟨some 32, .mov (.tmp 10), none⟩,
  ⟨some 33, .arith .eql (.tmp 31) (.tmp 32), none⟩,
  ⟨some 34, .mov (.tmp 33), none⟩,
  ⟨some 35, .call .pur 18 [], some (34, true)⟩,
  ⟨some 36, .pick (.tmp 34) (.tmp 35) (.cst (.bool false)), none⟩,
  ⟨some 6, .mov (.tmp 36), none⟩]
@[simp] theorem law04_DiskCopies_r4_go (T : Tbl) (K : List Kt) (fr : Fr) (S : St) : gval T (.ops law04_DiskCopies_r4 :: K) fr S = gval T (.ops [
  ⟨some 31, .mov (.tmp 8), none⟩,
  ⟨some 32, .mov (.tmp 10), none⟩,
  ⟨some 33, .arith .eql (.tmp 31) (.tmp 32), none⟩,
  ⟨some 34, .mov (.tmp 33), none⟩,
  ⟨some 35, .call .pur 18 [], some (34, true)⟩,
  ⟨some 36, .pick (.tmp 34) (.tmp 35) (.cst (.bool false)), none⟩,
  ⟨some 6, .mov (.tmp 36), none⟩] :: K) fr S := rfl
def law04_DiskCopies_r5 : List POper := [
  ⟨some 11, .mov (.cst (.int .i64 0)), none⟩]
@[simp] theorem law04_DiskCopies_r5_go (T : Tbl) (K : List Kt) (fr : Fr) (S : St) : gval T (.ops law04_DiskCopies_r5 :: K) fr S = gval T (.ops [
  ⟨some 11, .mov (.cst (.int .i64 0)), none⟩] :: K) fr S := rfl
def law04_DiskCopies_r6 : List POper := [
  ⟨some 37, .mov (.tmp 11), none⟩,
  ⟨some 38, .mov (.tmp 1), none⟩,
  ⟨some 39, .len false (.tmp 38), none⟩,
  ⟨some 40, .arith .lss (.tmp 37) (.tmp 39), none⟩,
  ⟨some 41, .mov (.tmp 40), none⟩,
  ⟨some 42, .mov (.tmp 11), some (41, true)⟩,
  ⟨some 43, .arith .lss (.tmp 42) (.cst (.int .i64 30)), some (41, true)⟩,
  ⟨some 44, .pick (.tmp 41) (.tmp 43) (.cst (.bool false)), none⟩]
@[simp] theorem law04_DiskCopies_r6_go (T : Tbl) (K : List Kt) (fr : Fr) (S : St) : gval T (.ops law04_DiskCopies_r6 :: K) fr S = gval T (.ops [
  ⟨some 37, .mov (.tmp 11), none⟩,
  ⟨some 38, .mov (.tmp 1), none⟩,
  ⟨some 39, .len false (.tmp 38), none⟩,
  ⟨some 40, .arith .lss (.tmp 37) (.tmp 39), none⟩,
  ⟨some 41, .mov (.tmp 40), none⟩,
  ⟨some 42, .mov (.tmp 11), some (41, true)⟩,
  ⟨some 43, .arith .lss (.tmp 42) (.cst (.int .i64 30)), some (41, true)⟩,
  ⟨some 44, .pick (.tmp 41) (.tmp 43) (.cst (.bool false)), none⟩] :: K) fr S := rfl
def law04_DiskCopies_r8 : List POper := [
  ⟨some 47, .mov (.tmp 7), none⟩,
  ⟨some 48, .mov (.tmp 1), none⟩,
  ⟨some 49, .mov (.tmp 11), none⟩,
  ⟨some 50, .iaddr 6 (.tmp 48) (.tmp 49), none⟩,
  ⟨some 51, .load true 6 false (.tmp 50), none⟩,
  ⟨some 52, .call .std 19 [(.tmp 47), (.tmp 51)], none⟩]
@[simp] theorem law04_DiskCopies_r8_go (T : Tbl) (K : List Kt) (fr : Fr) (S : St) : gval T (.ops law04_DiskCopies_r8 :: K) fr S = gval T (.ops [
  ⟨some 47, .mov (.tmp 7), none⟩,
  ⟨some 48, .mov (.tmp 1), none⟩,
  ⟨some 49, .mov (.tmp 11), none⟩,
  ⟨some 50, .iaddr 6 (.tmp 48) (.tmp 49), none⟩,
  ⟨some 51, .load true 6 false (.tmp 50), none⟩,
  ⟨some 52, .call .std 19 [(.tmp 47), (.tmp 51)], none⟩] :: K) fr S := rfl
def law04_DiskCopies_r9 : List POper := [
  ⟨some 54, .load true 7 false (.tmp 9), none⟩,
  ⟨some 55, .mov (.tmp 1), none⟩,
  ⟨some 56, .mov (.tmp 11), none⟩,
  ⟨some 57, .iaddr 6 (.tmp 55) (.tmp 56), none⟩,
  ⟨some 58, .load true 6 true (.tmp 57), none⟩,
  ⟨some 59, .call .std 20 [(.tmp 54), (.tmp 58)], none⟩,
  ⟨some 53, .mov (.tmp 59), none⟩,
  ⟨some 60, .extract 0 (.tmp 53), none⟩,
  ⟨some 61, .extract 1 (.tmp 53), none⟩,
  ⟨some 62, .extract 2 (.tmp 53), none⟩,
  ⟨none, .store 7 (.tmp 9) (.tmp 60), none⟩]
@[simp] theorem law04_DiskCopies_r9_go (T : Tbl) (K : List Kt) (fr : Fr) (S : St) : gval T (.ops law04_DiskCopies_r9 :: K) fr S = gval T (.ops [
  ⟨some 54, .load true 7 false (.tmp 9), none⟩,
  ⟨some 55, .mov (.tmp 1), none⟩,
  ⟨some 56, .mov (.tmp 11), none⟩,
  ⟨some 57, .iaddr 6 (.tmp 55) (.tmp 56), none⟩,
  ⟨some 58, .load true 6 true (.tmp 57), none⟩,
  ⟨some 59, .call .std 20 [(.tmp 54), (.tmp 58)], none⟩,
  ⟨some 53, .mov (.tmp 59), none⟩,
  ⟨some 60, .extract 0 (.tmp 53), none⟩,
  ⟨some 61, .extract 1 (.tmp 53), none⟩,
  ⟨some 62, .extract 2 (.tmp 53), none⟩,
  ⟨none, .store 7 (.tmp 9) (.tmp 60), none⟩] :: K) fr S := rfl
def law04_DiskCopies_r7 : List POper := [
  ⟨some 45, .mov (.tmp 11), none⟩,
  ⟨some 46, .arith .add (.tmp 45) (.cst (.int .i64 1)), none⟩,
  ⟨some 11, .mov (.tmp 46), none⟩]
@[simp] theorem law04_DiskCopies_r7_go (T : Tbl) (K : List Kt) (fr : Fr) (S : St) : gval T (.ops law04_DiskCopies_r7 :: K) fr S = gval T (.ops [
  ⟨some 45, .mov (.tmp 11), none⟩,
  ⟨some 46, .arith .add (.tmp 45) (.cst (.int .i64 1)), none⟩,
  ⟨some 11, .mov (.tmp 46), none⟩] :: K) fr S := rfl
def law04_DiskCopies_l0 : PCode :=
  (.seq (.seq (.clr [(37, 44)] (.region law04_DiskCopies_r6)) (.cond (.tmp 44) .skip (.exit 0))) (.seq (.block 1 (.seq (.clr [(47, 53)] (.region law04_DiskCopies_r8)) (.clr [(53, 63)] (.region law04_DiskCopies_r9)))) (.clr [(45, 47)] (.region law04_DiskCopies_r7))))
@[simp] theorem law04_DiskCopies_l0_go (T : Tbl) (K : List Kt) (fr : Fr) (S : St) : gval T (.code law04_DiskCopies_l0 :: K) fr S = gval T (.code (.seq (.seq (.clr [(37, 44)] (.region law04_DiskCopies_r6)) (.cond (.tmp 44) .skip (.exit 0))) (.seq (.block 1 (.seq (.clr [(47, 53)] (.region law04_DiskCopies_r8)) (.clr [(53, 63)] (.region law04_DiskCopies_r9)))) (.clr [(45, 47)] (.region law04_DiskCopies_r7)))) :: K) fr S := rfl
def law04_DiskCopies_r10 : List POper := [
  ⟨some 63, .mov (.tmp 7), none⟩,
  ⟨some 64, .call .std 462 [(.tmp 63)], none⟩,
  ⟨some 12, .mov (.tmp 64), none⟩]
@[simp] theorem law04_DiskCopies_r10_go (T : Tbl) (K : List Kt) (fr : Fr) (S : St) : gval T (.ops law04_DiskCopies_r10 :: K) fr S = gval T (.ops [
  ⟨some 63, .mov (.tmp 7), none⟩,
  ⟨some 64, .call .std 462 [(.tmp 63)], none⟩,
  ⟨some 12, .mov (.tmp 64), none⟩] :: K) fr S := rfl
def law04_DiskCopies_r11 : List POper := [
  ⟨some 65, .mov (.tmp 12), none⟩,
  ⟨some 66, .eqn false .p (.tmp 65), none⟩]
@[simp] theorem law04_DiskCopies_r11_go (T : Tbl) (K : List Kt) (fr : Fr) (S : St) : gval T (.ops law04_DiskCopies_r11 :: K) fr S = gval T (.ops [
  ⟨some 65, .mov (.tmp 12), none⟩,
  ⟨some 66, .eqn false .p (.tmp 65), none⟩] :: K) fr S := rfl
def law04_DiskCopies_r12 : List POper := [
  ⟨some 6, .mov (.cst (.bool false)), none⟩]
@[simp] theorem law04_DiskCopies_r12_go (T : Tbl) (K : List Kt) (fr : Fr) (S : St) : gval T (.ops law04_DiskCopies_r12 :: K) fr S = gval T (.ops [
  ⟨some 6, .mov (.cst (.bool false)), none⟩] :: K) fr S := rfl
def law04_DiskCopies_r13 : List POper := [
  ⟨some 67, .load true 7 false (.tmp 9), none⟩,
  ⟨some 13, .alloc false [(.int .i64 0), .nils, .nils, .nils, (.int .i64 0), (.bool false), (.int .i64 0)], none⟩,
  ⟨none, .store 7 (.tmp 13) (.tmp 67), none⟩]
@[simp] theorem law04_DiskCopies_r13_go (T : Tbl) (K : List Kt) (fr : Fr) (S : St) : gval T (.ops law04_DiskCopies_r13 :: K) fr S = gval T (.ops [
  ⟨some 67, .load true 7 false (.tmp 9), none⟩,
  ⟨some 13, .alloc false [(.int .i64 0), .nils, .nils, .nils, (.int .i64 0), (.bool false), (.int .i64 0)], none⟩,
  ⟨none, .store 7 (.tmp 13) (.tmp 67), none⟩] :: K) fr S := rfl
def law04_DiskCopies_r14 : List POper := [
  ⟨some 14, .mov (.cst (.int .i64 0)), none⟩]
@[simp] theorem law04_DiskCopies_r14_go (T : Tbl) (K : List Kt) (fr : Fr) (S : St) : gval T (.ops law04_DiskCopies_r14 :: K) fr S = gval T (.ops [
  ⟨some 14, .mov (.cst (.int .i64 0)), none⟩] :: K) fr S := rfl
def law04_DiskCopies_r15 : List POper := [
  ⟨some 68, .mov (.tmp 14), none⟩,
  ⟨some 69, .mov (.tmp 2), none⟩,
  ⟨some 70, .len false (.tmp 69), none⟩,
  ⟨some 71, .arith .lss (.tmp 68) (.tmp 70), none⟩,
  ⟨some 72, .mov (.tmp 71), none⟩,
  ⟨some 73, .mov (.tmp 14), some (72, true)⟩,
  ⟨some 74, .arith .lss (.tmp 73) (.cst (.int .i64 15)), some (72, true)⟩,
  ⟨some 75, .pick (.tmp 72) (.tmp 74) (.cst (.bool false)), none⟩]
@[simp] theorem law04_DiskCopies_r15_go (T : Tbl) (K : List Kt) (fr : Fr) (S : St) : gval T (.ops law04_DiskCopies_r15 :: K) fr S = gval T (.ops [
  ⟨some 68, .mov (.tmp 14), none⟩,
  ⟨some 69, .mov (.tmp 2), none⟩,
  ⟨some 70, .len false (.tmp 69), none⟩,
  ⟨some 71, .arith .lss (.tmp 68) (.tmp 70), none⟩,
  ⟨some 72, .mov (.tmp 71), none⟩,
  ⟨some 73, .mov (.tmp 14), some (72, true)⟩,
  ⟨some 74, .arith .lss (.tmp 73) (.cst (.int .i64 15)), some (72, true)⟩,
  ⟨some 75, .pick (.tmp 72) (.tmp 74) (.cst (.bool false)), none⟩] :: K) fr S := rfl
def law04_DiskCopies_r17 : List POper := [
  ⟨some 78, .mov (.tmp 12), none⟩,
  ⟨some 79, .mov (.tmp 2), none⟩,
  ⟨some 80, .mov (.tmp 14), none⟩,
  ⟨some 81, .iaddr 6 (.tmp 79) (.tmp 80), none⟩,
  ⟨some 82, .load true 6 false (.tmp 81), none⟩,
  ⟨some 83, .call .std 19 [(.tmp 78), (.tmp 82)], none⟩]
@[simp] theorem law04_DiskCopies_r17_go (T : Tbl) (K : List Kt) (fr : Fr) (S : St) : gval T (.ops law04_DiskCopies_r17 :: K) fr S = gval T (.ops [
  ⟨some 78, .mov (.tmp 12), none⟩,
  ⟨some 79, .mov (.tmp 2), none⟩,
  ⟨some 80, .mov (.tmp 14), none⟩,
  ⟨some 81, .iaddr 6 (.tmp 79) (.tmp 80), none⟩,
  ⟨some 82, .load true 6 false (.tmp 81), none⟩,
  ⟨some 83, .call .std 19 [(.tmp 78), (.tmp 82)], none⟩] :: K) fr S := rfl
def law04_DiskCopies_r18 : List POper := [
  ⟨some 85, .load true 7 false (.tmp 13), none⟩,
  ⟨some 86, .mov (.tmp 2), none⟩,
  ⟨some 87, .mov (.tmp 14), none⟩,
  ⟨some 88, .iaddr 6 (.tmp 86) (.tmp 87), none⟩,
  ⟨some 89, .load true 6 true (.tmp 88), none⟩,
  ⟨some 90, .call .std 20 [(.tmp 85), (.tmp 89)], none⟩,
  ⟨some 84, .mov (.tmp 90), none⟩,
  ⟨some 91, .extract 0 (.tmp 84), none⟩,
  ⟨some 92, .extract 1 (.tmp 84), none⟩,
  ⟨some 93, .extract 2 (.tmp 84), none⟩,
  ⟨none, .store 7 (.tmp 13) (.tmp 91), none⟩]
@[simp] theorem law04_DiskCopies_r18_go (T : Tbl) (K : List Kt) (fr : Fr) (S : St) : gval T (.ops law04_DiskCopies_r18 :: K) fr S = gval T (.ops [
  ⟨some 85, .load true 7 false (.tmp 13), none⟩,
  ⟨some 86, .mov (.tmp 2), none⟩,
  ⟨some 87, .mov (.tmp 14), none⟩,
  ⟨some 88, .iaddr 6 (.tmp 86) (.tmp 87), none⟩,
  ⟨some 89, .load true 6 true (.tmp 88), none⟩,
  ⟨some 90, .call .std 20 [(.tmp 85), (.tmp 89)], none⟩,
  ⟨some 84, .mov (.tmp 90), none⟩,
  ⟨some 91, .extract 0 (.tmp 84), none⟩,
  ⟨some 92, .extract 1 (.tmp 84), none⟩,
  ⟨some 93, .extract 2 (.tmp 84), none⟩,
  ⟨none, .store 7 (.tmp 13) (.tmp 91), none⟩] :: K) fr S := rfl
def law04_DiskCopies_r16 : List POper := [
  ⟨some 76, .mov (.tmp 14), none⟩,
  ⟨some 77, .arith .add (.tmp 76) (.cst (.int .i64 1)), none⟩,
  ⟨some 14, .mov (.tmp 77), none⟩]
@[simp] theorem law04_DiskCopies_r16_go (T : Tbl) (K : List Kt) (fr : Fr) (S : St) : gval T (.ops law04_DiskCopies_r16 :: K) fr S = gval T (.ops [
  ⟨some 76, .mov (.tmp 14), none⟩,
  ⟨some 77, .arith .add (.tmp 76) (.cst (.int .i64 1)), none⟩,
  ⟨some 14, .mov (.tmp 77), none⟩] :: K) fr S := rfl
def law04_DiskCopies_l1 : PCode :=
  (.seq (.seq (.clr [(68, 75)] (.region law04_DiskCopies_r15)) (.cond (.tmp 75) .skip (.exit 2))) (.seq (.block 3 (.seq (.clr [(78, 84)] (.region law04_DiskCopies_r17)) (.clr [(84, 94)] (.region law04_DiskCopies_r18)))) (.clr [(76, 78)] (.region law04_DiskCopies_r16))))
@[simp] theorem law04_DiskCopies_l1_go (T : Tbl) (K : List Kt) (fr : Fr) (S : St) : gval T (.code law04_DiskCopies_l1 :: K) fr S = gval T (.code (.seq (.seq (.clr [(68, 75)] (.region law04_DiskCopies_r15)) (.cond (.tmp 75) .skip (.exit 2))) (.seq (.block 3 (.seq (.clr [(78, 84)] (.region law04_DiskCopies_r17)) (.clr [(84, 94)] (.region law04_DiskCopies_r18)))) (.clr [(76, 78)] (.region law04_DiskCopies_r16)))) :: K) fr S := rfl
def law04_DiskCopies_r19 : List POper := [
  ⟨some 94, .mov (.tmp 7), none⟩,
  ⟨some 95, .load true 7 false (.tmp 9), none⟩,
  ⟨some 96, .call .std 21 [(.tmp 94), (.tmp 95)], none⟩,
  ⟨some 97, .mov (.tmp 96), none⟩,
  ⟨some 98, .mov (.tmp 12), some (97, true)⟩,
  ⟨some 99, .load true 7 false (.tmp 13), some (97, true)⟩,
  ⟨some 100, .call .std 21 [(.tmp 98), (.tmp 99)], some (97, true)⟩,
  ⟨some 101, .pick (.tmp 97) (.tmp 100) (.cst (.bool false)), none⟩,
  ⟨some 102, .mov (.tmp 101), none⟩,
  ⟨some 103, .call .pur 18 [], some (102, true)⟩,
  ⟨some 104, .pick (.tmp 102) (.tmp 103) (.cst (.bool false)), none⟩,
  ⟨some 6, .mov (.tmp 104), none⟩]
@[simp] theorem law04_DiskCopies_r19_go (T : Tbl) (K : List Kt) (fr : Fr) (S : St) : gval T (.ops law04_DiskCopies_r19 :: K) fr S = gval T (.ops [
  ⟨some 94, .mov (.tmp 7), none⟩,
  ⟨some 95, .load true 7 false (.tmp 9), none⟩,
  ⟨some 96, .call .std 21 [(.tmp 94), (.tmp 95)], none⟩,
  ⟨some 97, .mov (.tmp 96), none⟩,
  ⟨some 98, .mov (.tmp 12), some (97, true)⟩,
  ⟨some 99, .load true 7 false (.tmp 13), some (97, true)⟩,
  ⟨some 100, .call .std 21 [(.tmp 98), (.tmp 99)], some (97, true)⟩,
  ⟨some 101, .pick (.tmp 97) (.tmp 100) (.cst (.bool false)), none⟩,
  ⟨some 102, .mov (.tmp 101), none⟩,
  ⟨some 103, .call .pur 18 [], some (102, true)⟩,
  ⟨some 104, .pick (.tmp 102) (.tmp 103) (.cst (.bool false)), none⟩,
  ⟨some 6, .mov (.tmp 104), none⟩] :: K) fr S := rfl
def law04_DiskCopies : PCodeFn :=
  ⟨3, [.tmp 6],
  (.seq (.region law04_DiskCopies_r0) (.seq (.clr [(15, 20)] (.region law04_DiskCopies_r1)) (.seq (.clr [(20, 25)] (.region law04_DiskCopies_r2)) (.seq (.seq (.clr [(25, 30)] (.region law04_DiskCopies_r3)) (.cond (.tmp 30) (.seq (.clr [(31, 37)] (.region law04_DiskCopies_r4)) .ret) .skip)) (.seq (.seq (.region law04_DiskCopies_r5) (.block 0 (.loop law04_DiskCopies_l0))) (.seq (.clr [(63, 65)] (.region law04_DiskCopies_r10)) (.seq (.seq (.clr [(65, 66)] (.region law04_DiskCopies_r11)) (.cond (.tmp 66) (.seq (.region law04_DiskCopies_r12) .ret) .skip)) (.seq (.clr [(67, 68)] (.region law04_DiskCopies_r13)) (.seq (.seq (.region law04_DiskCopies_r14) (.block 2 (.loop law04_DiskCopies_l1))) (.seq (.clr [(94, 105)] (.region law04_DiskCopies_r19)) .ret)))))))))), false⟩

/-! gauge/gaugelaw04.DiskNil: 470 -/
def law04_DiskNil_r0 : List POper := [
  ⟨some 1, .box true (.tmp 0), none⟩,
  ⟨some 2, .mov (.cst (.bool false)), none⟩]
@[simp] theorem law04_DiskNil_r0_go (T : Tbl) (K : List Kt) (fr : Fr) (S : St) : gval T (.ops law04_DiskNil_r0 :: K) fr S = gval T (.ops [
  ⟨some 1, .box true (.tmp 0), none⟩,
  ⟨some 2, .mov (.cst (.bool false)), none⟩] :: K) fr S := rfl
def law04_DiskNil_r1 : List POper := [
  ⟨some 3, .mov (.cst .nilp), none⟩]
@[simp] theorem law04_DiskNil_r1_go (T : Tbl) (K : List Kt) (fr : Fr) (S : St) : gval T (.ops law04_DiskNil_r1 :: K) fr S = gval T (.ops [
  ⟨some 3, .mov (.cst .nilp), none⟩] :: K) fr S := rfl
def law04_DiskNil_r2 : List POper := [
  ⟨some 8, .mov (.tmp 3), none⟩,
  ⟨some 9, .load true 6 false (.tmp 1), none⟩,
  ⟨some 10, .call .std 19 [(.tmp 8), (.tmp 9)], none⟩,
  ⟨some 7, .mov (.tmp 10), none⟩,
  ⟨some 11, .extract 0 (.tmp 7), none⟩,
  ⟨some 12, .extract 1 (.tmp 7), none⟩,
  ⟨some 4, .mov (.tmp 11), none⟩,
  ⟨some 5, .mov (.tmp 12), none⟩]
@[simp] theorem law04_DiskNil_r2_go (T : Tbl) (K : List Kt) (fr : Fr) (S : St) : gval T (.ops law04_DiskNil_r2 :: K) fr S = gval T (.ops [
  ⟨some 8, .mov (.tmp 3), none⟩,
  ⟨some 9, .load true 6 false (.tmp 1), none⟩,
  ⟨some 10, .call .std 19 [(.tmp 8), (.tmp 9)], none⟩,
  ⟨some 7, .mov (.tmp 10), none⟩,
  ⟨some 11, .extract 0 (.tmp 7), none⟩,
  ⟨some 12, .extract 1 (.tmp 7), none⟩,
  ⟨some 4, .mov (.tmp 11), none⟩,
  ⟨some 5, .mov (.tmp 12), none⟩] :: K) fr S := rfl
def law04_DiskNil_r3 : List POper := [
  ⟨some 13, .mov (.tmp 3), none⟩,
  ⟨some 14, .faddr 4 (.tmp 1), none⟩,
  ⟨some 15, .load false 1 false (.tmp 14), none⟩,
  ⟨some 16, .call .std 85 [(.tmp 13), (.tmp 15)], none⟩]
@[simp] theorem law04_DiskNil_r3_go (T : Tbl) (K : List Kt) (fr : Fr) (S : St) : gval T (.ops law04_DiskNil_r3 :: K) fr S = gval T (.ops [
  ⟨some 13, .mov (.tmp 3), none⟩,
  ⟨some 14, .faddr 4 (.tmp 1), none⟩,
  ⟨some 15, .load false 1 false (.tmp 14), none⟩,
  ⟨some 16, .call .std 85 [(.tmp 13), (.tmp 15)], none⟩] :: K) fr S := rfl
def law04_DiskNil_r4 : List POper := [
  ⟨some 17, .faddr 0 (.tmp 1), none⟩,
  ⟨some 18, .load false 1 false (.tmp 17), none⟩,
  ⟨some 19, .arith .geq (.tmp 18) (.cst (.int .i64 1)), none⟩,
  ⟨some 20, .mov (.tmp 19), none⟩,
  ⟨some 21, .faddr 0 (.tmp 1), some (20, true)⟩,
  ⟨some 22, .load false 1 false (.tmp 21), some (20, true)⟩,
  ⟨some 23, .arith .leq (.tmp 22) (.cst (.int .i64 7)), some (20, true)⟩,
  ⟨some 24, .pick (.tmp 20) (.tmp 23) (.cst (.bool false)), none⟩,
  ⟨some 25, .mov (.tmp 24), none⟩,
  ⟨some 26, .faddr 0 (.tmp 1), some (25, false)⟩,
  ⟨some 27, .load false 1 false (.tmp 26), some (25, false)⟩,
  ⟨some 28, .arith .eql (.tmp 27) (.cst (.int .i64 9)), some (25, false)⟩,
  ⟨some 29, .pick (.tmp 25) (.cst (.bool true)) (.tmp 28), none⟩,
  ⟨some 6, .mov (.tmp 29), none⟩]
@[simp] theorem law04_DiskNil_r4_go (T : Tbl) (K : List Kt) (fr : Fr) (S : St) : gval T (.ops law04_DiskNil_r4 :: K) fr S = gval T (.ops [
  ⟨some 17, .faddr 0 (.tmp 1), none⟩,
  ⟨some 18, .load false 1 false (.tmp 17), none⟩,
  ⟨some 19, .arith .geq (.tmp 18) (.cst (.int .i64 1)), none⟩,
  ⟨some 20, .mov (.tmp 19), none⟩,
  ⟨some 21, .faddr 0 (.tmp 1), some (20, true)⟩,
  ⟨some 22, .load false 1 false (.tmp 21), some (20, true)⟩,
  ⟨some 23, .arith .leq (.tmp 22) (.cst (.int .i64 7)), some (20, true)⟩,
  ⟨some 24, .pick (.tmp 20) (.tmp 23) (.cst (.bool false)), none⟩,
  ⟨some 25, .mov (.tmp 24), none⟩,
  ⟨some 26, .faddr 0 (.tmp 1), some (25, false)⟩,
  ⟨some 27, .load false 1 false (.tmp 26), some (25, false)⟩,
  ⟨some 28, .arith .eql (.tmp 27) (.cst (.int .i64 9)), some (25, false)⟩,
  ⟨some 29, .pick (.tmp 25) (.cst (.bool true)) (.tmp 28), none⟩,
  ⟨some 6, .mov (.tmp 29), none⟩] :: K) fr S := rfl
def law04_DiskNil_r5 : List POper := [
  ⟨some 30, .mov (.tmp 4), none⟩,
  ⟨some 31, .arith .eql (.tmp 30) (.cst (.int .i64 1)), none⟩,
  ⟨some 32, .mov (.tmp 6), none⟩,
  ⟨some 33, .eqb false (.tmp 31) (.tmp 32), none⟩,
  ⟨some 34, .mov (.tmp 33), none⟩,
  ⟨some 35, .mov (.tmp 5), some (34, true)⟩,
  ⟨some 36, .len false (.tmp 35), some (34, true)⟩,
  ⟨some 37, .arith .eql (.tmp 36) (.cst (.int .i64 0)), some (34, true)⟩,
  ⟨some 38, .pick (.tmp 34) (.tmp 37) (.cst (.bool false)), none⟩,
  ⟨some 39, .mov (.tmp 38), none⟩,
  ⟨some 40, .mov (.tmp 3), some (39, true)⟩,
  ⟨some 41, .call .std 90 [(.tmp 40)], some (39, true)⟩,
  ⟨some 42, .len false (.tmp 41), some (39, true)⟩,
  ⟨some 43, .arith .eql (.tmp 42) (.cst (.int .i64 0)), some (39, true)⟩,
  ⟨some 44, .pick (.tmp 39) (.tmp 43) (.cst (.bool false)), none⟩,
  ⟨some 45, .mov (.tmp 44), none⟩,
  ⟨some 46, .mov (.tmp 3), some (45, true)⟩,
  ⟨some 47, .call .std 93 [(.tmp 46)], some (45, true)⟩,
  ⟨some 48, .arith .eql (.tmp 47) (.cst (.int .i64 0)), some (45, true)⟩,
  ⟨some 49, .pick (.tmp 45) (.tmp 48) (.cst (.bool false)), none⟩,
  ⟨some 50, .mov (.tmp 49), none⟩,
  ⟨some 51, .mov (.tmp 3), some (50, true)⟩,
  ⟨some 52, .call .std 462 [(.tmp 51)], some (50, true)⟩,
  ⟨some 53, .eqn false .p (.tmp 52), some (50, true)⟩,
  ⟨some 54, .pick (.tmp 50) (.tmp 53) (.cst (.bool false)), none⟩,
  ⟨some 55, .mov (.tmp 54), none⟩,
  ⟨some 56, .call .pur 18 [], some (55, true)⟩,
  ⟨some 57, .pick (.tmp 55) (.tmp 56) (.cst (.bool false)), none⟩,
  ⟨some 2, .mov (.tmp 57), none⟩]
@[simp] theorem law04_DiskNil_r5_go (T : Tbl) (K : List Kt) (fr : Fr) (S : St) : gval T (.ops law04_DiskNil_r5 :: K) fr S = gval T (.ops [
  ⟨some 30, .mov (.tmp 4), none⟩,
  ⟨some 31, .arith .eql (.tmp 30) (.cst (.int .i64 1)), none⟩,
  ⟨some 32, .mov (.tmp 6), none⟩,
  ⟨some 33, .eqb false (.tmp 31) (.tmp 32), none⟩,
  ⟨some 34, .mov (.tmp 33), none⟩,
  ⟨some 35, .mov (.tmp 5), some (34, true)⟩,
  ⟨some 36, .len false (.tmp 35), some (34, true)⟩,
  ⟨some 37, .arith .eql (.tmp 36) (.cst (.int .i64 0)), some (34, true)⟩,
  ⟨some 38, .pick (.tmp 34) (.tmp 37) (.cst (.bool false)), none⟩,
  ⟨some 39, .mov (.tmp 38), none⟩,
  ⟨some 40, .mov (.tmp 3), some (39, true)⟩,
  ⟨some 41, .call .std 90 [(.tmp 40)], some (39, true)⟩,
  ⟨some 42, .len false (.tmp 41), some (39, true)⟩,
  ⟨some 43, .arith .eql (.tmp 42) (.cst (.int .i64 0)), some (39, true)⟩,
  ⟨some 44, .pick (.tmp 39) (.tmp 43) (.cst (.bool false)), none⟩,
  ⟨some 45, .mov (.tmp 44), none⟩,
  ⟨some 46, .mov (.tmp 3), some (45, true)⟩,
  ⟨some 47, .call .std 93 [(.tmp 46)], some (45, true)⟩,
  ⟨some 48, .arith .eql (.tmp 47) (.cst (.int .i64 0)), some (45, true)⟩,
  ⟨some 49, .pick (.tmp 45) (.tmp 48) (.cst (.bool false)), none⟩,
  ⟨some 50, .mov (.tmp 49), none⟩,
  ⟨some 51, .mov (.tmp 3), some (50, true)⟩,
  ⟨some 52, .call .std 462 [(.tmp 51)], some (50, true)⟩,
  ⟨some 53, .eqn false .p (.tmp 52), some (50, true)⟩,
  ⟨some 54, .pick (.tmp 50) (.tmp 53) (.cst (.bool false)), none⟩,
  ⟨some 55, .mov (.tmp 54), none⟩,
  ⟨some 56, .call .pur 18 [], some (55, true)⟩,
  ⟨some 57, .pick (.tmp 55) (.tmp 56) (.cst (.bool false)), none⟩,
  ⟨some 2, .mov (.tmp 57), none⟩] :: K) fr S := rfl
def law04_DiskNil : PCodeFn :=
  ⟨1, [.tmp 2],
  (.seq (.region law04_DiskNil_r0) (.seq (.region law04_DiskNil_r1) (.seq (.clr [(7, 13)] (.region law04_DiskNil_r2)) (.seq (.clr [(13, 17)] (.region law04_DiskNil_r3)) (.seq (.clr [(17, 30)] (.region law04_DiskNil_r4)) (.seq (.clr [(30, 58)] (.region law04_DiskNil_r5)) .ret)))))), false⟩

/-! gauge/disk.New: 16 -/
def disk_New_r0 : List POper := [
  ⟨some 2, .mov (.cst .nilp), none⟩,
  ⟨some 3, .mov (.cst (.int .i64 0)), none⟩]
@[simp] theorem disk_New_r0_go (T : Tbl) (K : List Kt) (fr : Fr) (S : St) : gval T (.ops disk_New_r0 :: K) fr S = gval T (.ops [
  ⟨some 2, .mov (.cst .nilp), none⟩,
  ⟨some 3, .mov (.cst (.int .i64 0)), none⟩] :: K) fr S := rfl
def disk_New_r1 : List POper := [
  ⟨some 4, .mov (.tmp 0), none⟩,
  ⟨some 5, .arith .lss (.tmp 4) (.cst (.int .i64 1)), none⟩,
  ⟨some 6, .mov (.tmp 5), none⟩,
  ⟨some 7, .mov (.tmp 0), some (6, false)⟩,
  ⟨some 8, .arith .gtr (.tmp 7) (.cst (.int .i64 4194304)), some (6, false)⟩,
  ⟨some 9, .pick (.tmp 6) (.cst (.bool true)) (.tmp 8), none⟩]
@[simp] theorem disk_New_r1_go (T : Tbl) (K : List Kt) (fr : Fr) (S : St) : gval T (.ops disk_New_r1 :: K) fr S = gval T (.ops [
  ⟨some 4, .mov (.tmp 0), none⟩,
  ⟨some 5, .arith .lss (.tmp 4) (.cst (.int .i64 1)), none⟩,
  ⟨some 6, .mov (.tmp 5), none⟩,
  ⟨some 7, .mov (.tmp 0), some (6, false)⟩,
  ⟨some 8, .arith .gtr (.tmp 7) (.cst (.int .i64 4194304)), some (6, false)⟩,
  ⟨some 9, .pick (.tmp 6) (.cst (.bool true)) (.tmp 8), none⟩] :: K) fr S := rfl
def disk_New_r2 : List POper := [
  ⟨some 2, .mov (.cst .nilp), none⟩,
  ⟨some 3, .mov (.cst (.int .i64 2)), none⟩]
@[simp] theorem disk_New_r2_go (T : Tbl) (K : List Kt) (fr : Fr) (S : St) : gval T (.ops disk_New_r2 :: K) fr S = gval T (.ops [
  ⟨some 2, .mov (.cst .nilp), none⟩,
  ⟨some 3, .mov (.cst (.int .i64 2)), none⟩] :: K) fr S := rfl
def disk_New_r3 : List POper := [
  ⟨some 10, .mov (.tmp 0), none⟩,
  ⟨some 11, .mkm, none⟩,
  ⟨some 12, .mkm, none⟩,
  ⟨some 13, .build [(.int .i64 0), .nilm, .nilm, .nils, (.int .i64 0), (.int .i64 0), (.bool false)] [(0, 1, (.tmp 10)), (1, 1, (.tmp 11)), (2, 1, (.tmp 12)), (4, 1, (.cst (.int .i64 (-1))))], none⟩,
  ⟨some 14, .box false (.tmp 13), none⟩,
  ⟨some 2, .mov (.tmp 14), none⟩,
  ⟨some 3, .mov (.cst (.int .i64 0)), none⟩]
@[simp] theorem disk_New_r3_go (T : Tbl) (K : List Kt) (fr : Fr) (S : St) : gval T (.ops disk_New_r3 :: K) fr S = gval T (.ops [
  ⟨some 10, .mov (.tmp 0), none⟩,
  ⟨some 11, .mkm, none⟩,
  ⟨some 12, .mkm, none⟩,
  ⟨some 13, .build [(.int .i64 0), .nilm, .nilm, .nils, (.int .i64 0), (.int .i64 0), (.bool false)] [(0, 1, (.tmp 10)), (1, 1, (.tmp 11)), (2, 1, (.tmp 12)), (4, 1, (.cst (.int .i64 (-1))))], none⟩,
  ⟨some 14, .box false (.tmp 13), none⟩,
  ⟨some 2, .mov (.tmp 14), none⟩,
  ⟨some 3, .mov (.cst (.int .i64 0)), none⟩] :: K) fr S := rfl
def disk_New : PCodeFn :=
  ⟨1, [.tmp 2, .tmp 3],
  (.seq (.region disk_New_r0) (.seq (.seq (.clr [(4, 9)] (.region disk_New_r1)) (.cond (.tmp 9) (.seq (.region disk_New_r2) .ret) .skip)) (.seq (.clr [(10, 15)] (.region disk_New_r3)) .ret))), false⟩

/-! gauge/gaugelaw04.lives: 18 -/
def law04_lives_r0 : List POper := [
  ⟨some 0, .mov (.cst (.bool false)), none⟩]
@[simp] theorem law04_lives_r0_go (T : Tbl) (K : List Kt) (fr : Fr) (S : St) : gval T (.ops law04_lives_r0 :: K) fr S = gval T (.ops [
  ⟨some 0, .mov (.cst (.bool false)), none⟩] :: K) fr S := rfl
def law04_lives_r1 : List POper := [
  ⟨some 10, .call .std 16 [(.cst (.int .i64 10))], none⟩,
  ⟨some 9, .mov (.tmp 10), none⟩,
  ⟨some 11, .extract 0 (.tmp 9), none⟩,
  ⟨some 12, .extract 1 (.tmp 9), none⟩,
  ⟨some 1, .mov (.tmp 11), none⟩,
  ⟨some 2, .mov (.tmp 12), none⟩]
@[simp] theorem law04_lives_r1_go (T : Tbl) (K : List Kt) (fr : Fr) (S : St) : gval T (.ops law04_lives_r1 :: K) fr S = gval T (.ops [
  ⟨some 10, .call .std 16 [(.cst (.int .i64 10))], none⟩,
  ⟨some 9, .mov (.tmp 10), none⟩,
  ⟨some 11, .extract 0 (.tmp 9), none⟩,
  ⟨some 12, .extract 1 (.tmp 9), none⟩,
  ⟨some 1, .mov (.tmp 11), none⟩,
  ⟨some 2, .mov (.tmp 12), none⟩] :: K) fr S := rfl
def law04_lives_r2 : List POper := [
  ⟨some 13, .mov (.tmp 2), none⟩,
  ⟨some 14, .arith .neq (.tmp 13) (.cst (.int .i64 0)), none⟩,
  ⟨some 15, .mov (.tmp 14), none⟩,
  ⟨some 16, .mov (.tmp 1), some (15, false)⟩,
  ⟨some 17, .eqn false .p (.tmp 16), some (15, false)⟩,
  ⟨some 18, .pick (.tmp 15) (.cst (.bool true)) (.tmp 17), none⟩]
@[simp] theorem law04_lives_r2_go (T : Tbl) (K : List Kt) (fr : Fr) (S : St) : gval T (.ops law04_lives_r2 :: K) fr S = gval T (.ops [
  ⟨some 13, .mov (.tmp 2), none⟩,
  ⟨some 14, .arith .neq (.tmp 13) (.cst (.int .i64 0)), none⟩,
  ⟨some 15, .mov (.tmp 14), none⟩,
  ⟨some 16, .mov (.tmp 1), some (15, false)⟩,
  ⟨some 17, .eqn false .p (.tmp 16), some (15, false)⟩,
  ⟨some 18, .pick (.tmp 15) (.cst (.bool true)) (.tmp 17), none⟩] :: K) fr S := rfl
def law04_lives_r3 : List POper := [
  ⟨some 0, .mov (.cst (.bool false)), none⟩]
@[simp] theorem law04_lives_r3_go (T : Tbl) (K : List Kt) (fr : Fr) (S : St) : gval T (.ops law04_lives_r3 :: K) fr S = gval T (.ops [
  ⟨some 0, .mov (.cst (.bool false)), none⟩] :: K) fr S := rfl
def law04_lives_r4 : List POper := [
  ⟨some 19, .mov (.tmp 1), none⟩,
  ⟨some 20, .call .std 77 [(.tmp 19), (.cst (.str [97]))], none⟩,
  ⟨some 3, .mov (.tmp 20), none⟩]
@[simp] theorem law04_lives_r4_go (T : Tbl) (K : List Kt) (fr : Fr) (S : St) : gval T (.ops law04_lives_r4 :: K) fr S = gval T (.ops [
  ⟨some 19, .mov (.tmp 1), none⟩,
  ⟨some 20, .call .std 77 [(.tmp 19), (.cst (.str [97]))], none⟩,
  ⟨some 3, .mov (.tmp 20), none⟩] :: K) fr S := rfl
def law04_lives_r5 : List POper := [
  ⟨some 21, .mov (.tmp 1), none⟩,
  ⟨some 22, .mov (.cst .und), none⟩,
  ⟨some 23, .bsl false (.int .u8 0) 5 [(0, (.cst (.int .u8 104))), (1, (.cst (.int .u8 101))), (2, (.cst (.int .u8 108))), (3, (.cst (.int .u8 108))), (4, (.cst (.int .u8 111)))], none⟩,
  ⟨some 24, .call .std 78 [(.tmp 21), (.cst (.str [97])), (.tmp 23)], none⟩,
  ⟨some 4, .mov (.tmp 24), none⟩]
@[simp] theorem law04_lives_r5_go (T : Tbl) (K : List Kt) (fr : Fr) (S : St) : gval T (.ops law04_lives_r5 :: K) fr S = gval T (.ops [
  ⟨some 21, .mov (.tmp 1), none⟩,
  ⟨some 22, .mov (.cst .und), none⟩,
  ⟨some 23, .bsl false (.int .u8 0) 5 [(0, (.cst (.int .u8 104))), (1, (.cst (.int .u8 101))), (2, (.cst (.int .u8 108))), (3, (.cst (.int .u8 108))), (4, (.cst (.int .u8 111)))], none⟩,
  ⟨some 24, .call .std 78 [(.tmp 21), (.cst (.str [97])), (.tmp 23)], none⟩,
  ⟨some 4, .mov (.tmp 24), none⟩] :: K) fr S := rfl
def law04_lives_r6 : List POper := [
  ⟨some 25, .mov (.tmp 1), none⟩,
  ⟨some 26, .call .std 79 [(.tmp 25)], none⟩,
  ⟨some 5, .mov (.tmp 26), none⟩]
@[simp] theorem law04_lives_r6_go (T : Tbl) (K : List Kt) (fr : Fr) (S : St) : gval T (.ops law04_lives_r6 :: K) fr S = gval T (.ops [
  ⟨some 25, .mov (.tmp 1), none⟩,
  ⟨some 26, .call .std 79 [(.tmp 25)], none⟩,
  ⟨some 5, .mov (.tmp 26), none⟩] :: K) fr S := rfl
def law04_lives_r7 : List POper := [
  ⟨some 27, .mov (.tmp 1), none⟩,
  ⟨some 28, .bsl false (.int .i64 0) 1 [(0, (.cst (.int .i64 2)))], none⟩,
  ⟨some 29, .call .std 80 [(.tmp 27), (.cst (.int .i64 0)), (.tmp 28)], none⟩,
  ⟨some 6, .mov (.tmp 29), none⟩]
@[simp] theorem law04_lives_r7_go (T : Tbl) (K : List Kt) (fr : Fr) (S : St) : gval T (.ops law04_lives_r7 :: K) fr S = gval T (.ops [
  ⟨some 27, .mov (.tmp 1), none⟩,
  ⟨some 28, .bsl false (.int .i64 0) 1 [(0, (.cst (.int .i64 2)))], none⟩,
  ⟨some 29, .call .std 80 [(.tmp 27), (.cst (.int .i64 0)), (.tmp 28)], none⟩,
  ⟨some 6, .mov (.tmp 29), none⟩] :: K) fr S := rfl
def law04_lives_r8 : List POper := [
  ⟨some 31, .mov (.tmp 1), none⟩,
  ⟨some 32, .call .std 81 [(.tmp 31), (.cst (.str [97]))], none⟩,
  ⟨some 30, .mov (.tmp 32), none⟩,
  ⟨some 33, .extract 0 (.tmp 30), none⟩,
  ⟨some 34, .extract 1 (.tmp 30), none⟩,
  ⟨some 7, .mov (.tmp 33), none⟩,
  ⟨some 8, .mov (.tmp 34), none⟩]
@[simp] theorem law04_lives_r8_go (T : Tbl) (K : List Kt) (fr : Fr) (S : St) : gval T (.ops law04_lives_r8 :: K) fr S = gval T (.ops [
  ⟨some 31, .mov (.tmp 1), none⟩,
  ⟨some 32, .call .std 81 [(.tmp 31), (.cst (.str [97]))], none⟩,
  ⟨some 30, .mov (.tmp 32), none⟩,
  ⟨some 33, .extract 0 (.tmp 30), none⟩,
  ⟨some 34, .extract 1 (.tmp 30), none⟩,
  ⟨some 7, .mov (.tmp 33), none⟩,
  ⟨some 8, .mov (.tmp 34), none⟩] :: K) fr S := rfl
def law04_lives_r9 : List POper := [
  ⟨some 35, .mov (.tmp 3), none⟩,
  ⟨some 36, .arith .eql (.tmp 35) (.cst (.int .i64 0)), none⟩,
  ⟨some 37, .mov (.tmp 36), none⟩,
  ⟨some 38, .mov (.tmp 4), some (37, true)⟩,
  ⟨some 39, .arith .eql (.tmp 38) (.cst (.int .i64 0)), some (37, true)⟩,
  ⟨some 40, .pick (.tmp 37) (.tmp 39) (.cst (.bool false)), none⟩,
  ⟨some 41, .mov (.tmp 40), none⟩,
  ⟨some 42, .mov (.tmp 5), some (41, true)⟩,
  ⟨some 43, .arith .eql (.tmp 42) (.cst (.int .i64 0)), some (41, true)⟩,
  ⟨some 44, .pick (.tmp 41) (.tmp 43) (.cst (.bool false)), none⟩,
  ⟨some 45, .mov (.tmp 44), none⟩,
  ⟨some 46, .mov (.tmp 6), some (45, true)⟩,
  ⟨some 47, .arith .eql (.tmp 46) (.cst (.int .i64 0)), some (45, true)⟩,
  ⟨some 48, .pick (.tmp 45) (.tmp 47) (.cst (.bool false)), none⟩,
  ⟨some 49, .mov (.tmp 48), none⟩,
  ⟨some 50, .mov (.tmp 7), some (49, true)⟩,
  ⟨some 51, .toStr (.tmp 50), some (49, true)⟩,
  ⟨some 52, .arith .eql (.tmp 51) (.cst (.str [104, 101])), some (49, true)⟩,
  ⟨some 53, .pick (.tmp 49) (.tmp 52) (.cst (.bool false)), none⟩,
  ⟨some 54, .mov (.tmp 53), none⟩,
  ⟨some 55, .mov (.tmp 8), some (54, true)⟩,
  ⟨some 56, .arith .eql (.tmp 55) (.cst (.int .i64 0)), some (54, true)⟩,
  ⟨some 57, .pick (.tmp 54) (.tmp 56) (.cst (.bool false)), none⟩,
  ⟨some 58, .mov (.tmp 57), none⟩,
  ⟨some 59, .pick (.tmp 58) (.cst (.bool true)) (.cst (.bool false)), none⟩,
  ⟨some 60, .mov (.tmp 59), none⟩,
  ⟨some 61, .pick (.tmp 60) (.cst (.bool true)) (.cst (.bool false)), none⟩,
  ⟨some 62, .mov (.tmp 61), none⟩,
  ⟨some 63, .pick (.tmp 62) (.cst (.bool true)) (.cst (.bool false)), none⟩,
  ⟨some 64, .mov (.tmp 63), none⟩,
  ⟨some 65, .pick (.tmp 64) (.cst (.bool true)) (.cst (.bool false)), none⟩,
  ⟨some 0, .mov (.tmp 65), none⟩]
@[simp] theorem law04_lives_r9_go (T : Tbl) (K : List Kt) (fr : Fr) (S : St) : gval T (.ops law04_lives_r9 :: K) fr S = gval T (.ops [
  ⟨some 35, .mov (.tmp 3), none⟩,
  ⟨some 36, .arith .eql (.tmp 35) (.cst (.int .i64 0)), none⟩,
  ⟨some 37, .mov (.tmp 36), none⟩,
  ⟨some 38, .mov (.tmp 4), some (37, true)⟩,
  ⟨some 39, .arith .eql (.tmp 38) (.cst (.int .i64 0)), some (37, true)⟩,
  ⟨some 40, .pick (.tmp 37) (.tmp 39) (.cst (.bool false)), none⟩,
  ⟨some 41, .mov (.tmp 40), none⟩,
  ⟨some 42, .mov (.tmp 5), some (41, true)⟩,
  ⟨some 43, .arith .eql (.tmp 42) (.cst (.int .i64 0)), some (41, true)⟩,
  ⟨some 44, .pick (.tmp 41) (.tmp 43) (.cst (.bool false)), none⟩,
  ⟨some 45, .mov (.tmp 44), none⟩,
  ⟨some 46, .mov (.tmp 6), some (45, true)⟩,
  ⟨some 47, .arith .eql (.tmp 46) (.cst (.int .i64 0)), some (45, true)⟩,
  ⟨some 48, .pick (.tmp 45) (.tmp 47) (.cst (.bool false)), none⟩,
  ⟨some 49, .mov (.tmp 48), none⟩,
  ⟨some 50, .mov (.tmp 7), some (49, true)⟩,
  ⟨some 51, .toStr (.tmp 50), some (49, true)⟩,
  ⟨some 52, .arith .eql (.tmp 51) (.cst (.str [104, 101])), some (49, true)⟩,
  ⟨some 53, .pick (.tmp 49) (.tmp 52) (.cst (.bool false)), none⟩,
  ⟨some 54, .mov (.tmp 53), none⟩,
  ⟨some 55, .mov (.tmp 8), some (54, true)⟩,
  ⟨some 56, .arith .eql (.tmp 55) (.cst (.int .i64 0)), some (54, true)⟩,
  ⟨some 57, .pick (.tmp 54) (.tmp 56) (.cst (.bool false)), none⟩,
  ⟨some 58, .mov (.tmp 57), none⟩,
  ⟨some 59, .pick (.tmp 58) (.cst (.bool true)) (.cst (.bool false)), none⟩,
  ⟨some 60, .mov (.tmp 59), none⟩,
  ⟨some 61, .pick (.tmp 60) (.cst (.bool true)) (.cst (.bool false)), none⟩,
  ⟨some 62, .mov (.tmp 61), none⟩,
  ⟨some 63, .pick (.tmp 62) (.cst (.bool true)) (.cst (.bool false)), none⟩,
  ⟨some 64, .mov (.tmp 63), none⟩,
  ⟨some 65, .pick (.tmp 64) (.cst (.bool true)) (.cst (.bool false)), none⟩,
  ⟨some 0, .mov (.tmp 65), none⟩] :: K) fr S := rfl
def law04_lives : PCodeFn :=
  ⟨0, [.tmp 0],
  (.seq (.region law04_lives_r0) (.seq (.clr [(9, 13)] (.region law04_lives_r1)) (.seq (.seq (.clr [(13, 18)] (.region law04_lives_r2)) (.cond (.tmp 18) (.seq (.region law04_lives_r3) .ret) .skip)) (.seq (.clr [(19, 21)] (.region law04_lives_r4)) (.seq (.clr [(21, 25)] (.region law04_lives_r5)) (.seq (.clr [(25, 27)] (.region law04_lives_r6)) (.seq (.clr [(27, 30)] (.region law04_lives_r7)) (.seq (.clr [(30, 35)] (.region law04_lives_r8)) (.seq (.clr [(35, 66)] (.region law04_lives_r9)) .ret))))))))), false⟩

/-! (*gauge/disk.Disk).Create: 77 -/
def disk_Disk_Create_r0 : List POper := [
  ⟨some 4, .mov (.cst (.int .i64 0)), none⟩]
@[simp] theorem disk_Disk_Create_r0_go (T : Tbl) (K : List Kt) (fr : Fr) (S : St) : gval T (.ops disk_Disk_Create_r0 :: K) fr S = gval T (.ops [
  ⟨some 4, .mov (.cst (.int .i64 0)), none⟩] :: K) fr S := rfl
def disk_Disk_Create_r1 : List POper := [
  ⟨some 8, .mov (.tmp 0), none⟩,
  ⟨some 9, .mov (.tmp 1), none⟩,
  ⟨some 10, .call .std 194 [(.tmp 8), (.tmp 9)], none⟩,
  ⟨some 7, .mov (.tmp 10), none⟩,
  ⟨some 11, .extract 0 (.tmp 7), none⟩,
  ⟨some 12, .extract 1 (.tmp 7), none⟩,
  ⟨some 5, .mov (.tmp 11), none⟩,
  ⟨some 6, .mov (.tmp 12), none⟩]
@[simp] theorem disk_Disk_Create_r1_go (T : Tbl) (K : List Kt) (fr : Fr) (S : St) : gval T (.ops disk_Disk_Create_r1 :: K) fr S = gval T (.ops [
  ⟨some 8, .mov (.tmp 0), none⟩,
  ⟨some 9, .mov (.tmp 1), none⟩,
  ⟨some 10, .call .std 194 [(.tmp 8), (.tmp 9)], none⟩,
  ⟨some 7, .mov (.tmp 10), none⟩,
  ⟨some 11, .extract 0 (.tmp 7), none⟩,
  ⟨some 12, .extract 1 (.tmp 7), none⟩,
  ⟨some 5, .mov (.tmp 11), none⟩,
  ⟨some 6, .mov (.tmp 12), none⟩] :: K) fr S := rfl
def disk_Disk_Create_r2 : List POper := [
  ⟨some 14, .mov (.tmp 6), none⟩,
  ⟨some 15, .arith .eql (.tmp 14) (.cst (.int .i64 0)), none⟩,
  ⟨some 13, .mov (.tmp 15), none⟩]
@[simp] theorem disk_Disk_Create_r2_go (T : Tbl) (K : List Kt) (fr : Fr) (S : St) : gval T (.ops disk_Disk_Create_r2 :: K) fr S = gval T (.ops [
  ⟨some 14, .mov (.tmp 6), none⟩,
  ⟨some 15, .arith .eql (.tmp 14) (.cst (.int .i64 0)), none⟩,
  ⟨some 13, .mov (.tmp 15), none⟩] :: K) fr S := rfl
def disk_Disk_Create_r3 : List POper := [
  ⟨some 4, .mov (.cst (.int .i64 10)), none⟩]
@[simp] theorem disk_Disk_Create_r3_go (T : Tbl) (K : List Kt) (fr : Fr) (S : St) : gval T (.ops disk_Disk_Create_r3 :: K) fr S = gval T (.ops [
  ⟨some 4, .mov (.cst (.int .i64 10)), none⟩] :: K) fr S := rfl
def disk_Disk_Create_r4 : List POper := [
  ⟨some 17, .mov (.tmp 6), none⟩,
  ⟨some 18, .arith .neq (.tmp 17) (.cst (.int .i64 9)), none⟩,
  ⟨some 16, .mov (.tmp 18), none⟩]
@[simp] theorem disk_Disk_Create_r4_go (T : Tbl) (K : List Kt) (fr : Fr) (S : St) : gval T (.ops disk_Disk_Create_r4 :: K) fr S = gval T (.ops [
  ⟨some 17, .mov (.tmp 6), none⟩,
  ⟨some 18, .arith .neq (.tmp 17) (.cst (.int .i64 9)), none⟩,
  ⟨some 16, .mov (.tmp 18), none⟩] :: K) fr S := rfl
def disk_Disk_Create_r5 : List POper := [
  ⟨some 19, .mov (.tmp 6), none⟩,
  ⟨some 4, .mov (.tmp 19), none⟩]
@[simp] theorem disk_Disk_Create_r5_go (T : Tbl) (K : List Kt) (fr : Fr) (S : St) : gval T (.ops disk_Disk_Create_r5 :: K) fr S = gval T (.ops [
  ⟨some 19, .mov (.tmp 6), none⟩,
  ⟨some 4, .mov (.tmp 19), none⟩] :: K) fr S := rfl
def disk_Disk_Create_r6 : List POper := [
  ⟨some 21, .mov (.tmp 0), none⟩,
  ⟨some 22, .nilck (.tmp 21), none⟩,
  ⟨some 23, .faddr 2 (.tmp 22), none⟩,
  ⟨some 24, .load false 1 false (.tmp 23), none⟩,
  ⟨some 25, .mlen (.tmp 24), none⟩,
  ⟨some 26, .arith .geq (.tmp 25) (.cst (.int .i64 64)), none⟩,
  ⟨some 20, .mov (.tmp 26), none⟩]
@[simp] theorem disk_Disk_Create_r6_go (T : Tbl) (K : List Kt) (fr : Fr) (S : St) : gval T (.ops disk_Disk_Create_r6 :: K) fr S = gval T (.ops [
  ⟨some 21, .mov (.tmp 0), none⟩,
  ⟨some 22, .nilck (.tmp 21), none⟩,
  ⟨some 23, .faddr 2 (.tmp 22), none⟩,
  ⟨some 24, .load false 1 false (.tmp 23), none⟩,
  ⟨some 25, .mlen (.tmp 24), none⟩,
  ⟨some 26, .arith .geq (.tmp 25) (.cst (.int .i64 64)), none⟩,
  ⟨some 20, .mov (.tmp 26), none⟩] :: K) fr S := rfl
def disk_Disk_Create_r7 : List POper := [
  ⟨some 4, .mov (.cst (.int .i64 7)), none⟩]
@[simp] theorem disk_Disk_Create_r7_go (T : Tbl) (K : List Kt) (fr : Fr) (S : St) : gval T (.ops disk_Disk_Create_r7 :: K) fr S = gval T (.ops [
  ⟨some 4, .mov (.cst (.int .i64 7)), none⟩] :: K) fr S := rfl
def disk_Disk_Create_r8 : List POper := [
  ⟨some 27, .mov (.tmp 0), none⟩,
  ⟨some 28, .mov (.tmp 1), none⟩,
  ⟨some 29, .build [.nils, (.int .i64 0)] [], none⟩,
  ⟨some 30, .box false (.tmp 29), none⟩,
  ⟨some 31, .build [(.str []), (.str []), .nilp] [(1, 1, (.tmp 28)), (2, 1, (.tmp 30))], none⟩,
  ⟨some 32, .call .std 195 [(.tmp 27), (.tmp 31)], none⟩,
  ⟨some 4, .mov (.tmp 32), none⟩]
@[simp] theorem disk_Disk_Create_r8_go (T : Tbl) (K : List Kt) (fr : Fr) (S : St) : gval T (.ops disk_Disk_Create_r8 :: K) fr S = gval T (.ops [
  ⟨some 27, .mov (.tmp 0), none⟩,
  ⟨some 28, .mov (.tmp 1), none⟩,
  ⟨some 29, .build [.nils, (.int .i64 0)] [], none⟩,
  ⟨some 30, .box false (.tmp 29), none⟩,
  ⟨some 31, .build [(.str []), (.str []), .nilp] [(1, 1, (.tmp 28)), (2, 1, (.tmp 30))], none⟩,
  ⟨some 32, .call .std 195 [(.tmp 27), (.tmp 31)], none⟩,
  ⟨some 4, .mov (.tmp 32), none⟩] :: K) fr S := rfl
def disk_Disk_Create : PCodeFn :=
  ⟨2, [.tmp 4],
  (.seq (.region disk_Disk_Create_r0) (.seq (.clr [(5, 6), (7, 13)] (.region disk_Disk_Create_r1)) (.seq (.block 0 (.seq (.clr [(14, 16)] (.region disk_Disk_Create_r2)) (.cond (.tmp 13) (.seq (.region disk_Disk_Create_r3) .ret) (.seq (.clr [(17, 19)] (.region disk_Disk_Create_r4)) (.cond (.tmp 16) (.seq (.clr [(19, 20)] (.region disk_Disk_Create_r5)) .ret) (.seq (.clr [(21, 27)] (.region disk_Disk_Create_r6)) (.cond (.tmp 20) (.seq (.region disk_Disk_Create_r7) .ret) .skip))))))) (.seq (.clr [(27, 33)] (.region disk_Disk_Create_r8)) .ret)))), false⟩

end Ps
