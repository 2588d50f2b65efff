/- The functions' code, as the pure semantics has it: printed by program. -/
import Derived.Test.YtppjibgophfdfaaWalk
namespace Ps
open Go
set_option maxRecDepth 10000

/-! gauge/gaugelaw11.WalRecords: 492 -/
def law11_WalRecords_r0 : List POper := [
  ⟨some 2, .box true (.tmp 0), none⟩,
  ⟨some 4, .mov (.cst (.bool false)), none⟩]
@[simp] theorem law11_WalRecords_r0_go (T : Tbl) (K : List Kt) (fr : Fr) (S : St) : gval T (.ops law11_WalRecords_r0 :: K) fr S = gval T (.ops [
  ⟨some 2, .box true (.tmp 0), none⟩,
  ⟨some 4, .mov (.cst (.bool false)), none⟩] :: K) fr S := rfl
def law11_WalRecords_r1 : List POper := [
  ⟨some 14, .load true 6 false (.tmp 2), none⟩,
  ⟨some 15, .call .std 149 [(.tmp 14)], none⟩,
  ⟨some 5, .alloc false [(.int .i64 0), .nils, .nils, .nils, (.int .i64 0), (.int .i64 0)], none⟩,
  ⟨none, .store 6 (.tmp 5) (.tmp 15), none⟩]
@[simp] theorem law11_WalRecords_r1_go (T : Tbl) (K : List Kt) (fr : Fr) (S : St) : gval T (.ops law11_WalRecords_r1 :: K) fr S = gval T (.ops [
  ⟨some 14, .load true 6 false (.tmp 2), none⟩,
  ⟨some 15, .call .std 149 [(.tmp 14)], none⟩,
  ⟨some 5, .alloc false [(.int .i64 0), .nils, .nils, .nils, (.int .i64 0), (.int .i64 0)], none⟩,
  ⟨none, .store 6 (.tmp 5) (.tmp 15), none⟩] :: K) fr S := rfl
def law11_WalRecords_r2 : List POper := [
  ⟨some 17, .load true 6 false (.tmp 5), none⟩,
  ⟨some 18, .call .std 142 [(.tmp 17)], none⟩,
  ⟨some 16, .mov (.tmp 18), none⟩,
  ⟨some 19, .extract 0 (.tmp 16), none⟩,
  ⟨some 20, .extract 1 (.tmp 16), none⟩,
  ⟨some 6, .mov (.tmp 19), none⟩,
  ⟨some 7, .mov (.tmp 20), none⟩]
@[simp] theorem law11_WalRecords_r2_go (T : Tbl) (K : List Kt) (fr : Fr) (S : St) : gval T (.ops law11_WalRecords_r2 :: K) fr S = gval T (.ops [
  ⟨some 17, .load true 6 false (.tmp 5), none⟩,
  ⟨some 18, .call .std 142 [(.tmp 17)], none⟩,
  ⟨some 16, .mov (.tmp 18), none⟩,
  ⟨some 19, .extract 0 (.tmp 16), none⟩,
  ⟨some 20, .extract 1 (.tmp 16), none⟩,
  ⟨some 6, .mov (.tmp 19), none⟩,
  ⟨some 7, .mov (.tmp 20), none⟩] :: K) fr S := rfl
def law11_WalRecords_r3 : List POper := [
  ⟨some 22, .load true 6 false (.tmp 2), none⟩,
  ⟨some 23, .call .std 254 [(.tmp 22)], none⟩,
  ⟨some 21, .mov (.tmp 23), none⟩,
  ⟨some 24, .extract 0 (.tmp 21), none⟩,
  ⟨some 25, .extract 1 (.tmp 21), none⟩,
  ⟨some 8, .mov (.tmp 24), none⟩,
  ⟨some 9, .mov (.tmp 25), none⟩]
@[simp] theorem law11_WalRecords_r3_go (T : Tbl) (K : List Kt) (fr : Fr) (S : St) : gval T (.ops law11_WalRecords_r3 :: K) fr S = gval T (.ops [
  ⟨some 22, .load true 6 false (.tmp 2), none⟩,
  ⟨some 23, .call .std 254 [(.tmp 22)], none⟩,
  ⟨some 21, .mov (.tmp 23), none⟩,
  ⟨some 24, .extract 0 (.tmp 21), none⟩,
  ⟨some 25, .extract 1 (.tmp 21), none⟩,
  ⟨some 8, .mov (.tmp 24), none⟩,
  ⟨some 9, .mov (.tmp 25), none⟩] :: K) fr S := rfl
def law11_WalRecords_r4 : List POper := [
  ⟨some 26, .load true 6 false (.tmp 5), none⟩,
  ⟨some 27, .call .std 179 [(.tmp 26)], none⟩,
  ⟨some 28, .load true 6 true (.tmp 2), none⟩,
  ⟨some 29, .call .std 183 [(.tmp 28)], none⟩,
  ⟨some 30, .arith .neq (.tmp 27) (.tmp 29), none⟩,
  ⟨some 31, .mov (.tmp 30), none⟩,
  ⟨some 32, .mov (.tmp 6), some (31, false)⟩,
  ⟨some 33, .toStr (.tmp 32), some (31, false)⟩,
  ⟨some 34, .mov (.tmp 8), some (31, false)⟩,
  ⟨some 35, .toStr (.tmp 34), some (31, false)⟩,
  ⟨some 36, .arith .neq (.tmp 33) (.tmp 35), some (31, false)⟩,
  ⟨some 37, .pick (.tmp 31) (.cst (.bool true)) (.tmp 36), none⟩,
  ⟨some 38, .mov (.tmp 37), none⟩,
  ⟨some 39, .mov (.tmp 7), some (38, false)⟩,
  ⟨some 40, .mov (.tmp 9), some (38, false)⟩,
  ⟨some 41, .arith .neq (.tmp 39) (.tmp 40), some (38, false)⟩,
  ⟨some 42, .pick (.tmp 38) (.cst (.bool true)) (.tmp 41), none⟩,
  ⟨some 43, .mov (.tmp 42), none⟩,
  ⟨some 44, .load true 6 false (.tmp 5), some (43, false)⟩,
  ⟨some 45, .load true 6 true (.tmp 2), some (43, false)⟩,
  ⟨some 46, .call .std 253 [(.tmp 44), (.tmp 45)], some (43, false)⟩,
  ⟨some 47, .un .not (.tmp 46), some (43, false)⟩,
  ⟨some 48, .pick (.tmp 43) (.cst (.bool true)) (.tmp 47), none⟩]
@[simp] theorem law11_WalRecords_r4_go (T : Tbl) (K : List Kt) (fr : Fr) (S : St) : gval T (.ops law11_WalRecords_r4 :: K) fr S = gval T (.ops [
  ⟨some 26, .load true 6 false (.tmp 5), none⟩,
  ⟨some 27, .call .std 179 [(.tmp 26)], none⟩,
  ⟨some 28, .load true 6 true (.tmp 2), none⟩,
  ⟨some 29, .call .std 183 [(.tmp 28)], none⟩,
  ⟨some 30, .arith .neq (.tmp 27) (.tmp 29), none⟩,
  ⟨some 31, .mov (.tmp 30), none⟩,
  ⟨some 32, .mov (.tmp 6), some (31, false)⟩,
  ⟨some 33, .toStr (.tmp 32), some (31, false)⟩,
  ⟨some 34, .mov (.tmp 8), some (31, false)⟩,
  ⟨some 35, .toStr (.tmp 34), some (31, false)⟩,
  ⟨some 36, .arith .neq (.tmp 33) (.tmp 35), some (31, false)⟩,
  ⟨some 37, .pick (.tmp 31) (.cst (.bool true)) (.tmp 36), none⟩,
  ⟨some 38, .mov (.tmp 37), none⟩,
  ⟨some 39, .mov (.tmp 7), some (38, false)⟩,
  ⟨some 40, .mov (.tmp 9), some (38, false)⟩,
  ⟨some 41, .arith .neq (.tmp 39) (.tmp 40), some (38, false)⟩,
  ⟨some 42, .pick (.tmp 38) (.cst (.bool true)) (.tmp 41), none⟩,
  ⟨some 43, .mov (.tmp 42), none⟩,
  ⟨some 44, .load true 6 false (.tmp 5), some (43, false)⟩,
  ⟨some 45, .load true 6 true (.tmp 2), some (43, false)⟩,
  ⟨some 46, .call .std 253 [(.tmp 44), (.tmp 45)], some (43, false)⟩,
  ⟨some 47, .un .not (.tmp 46), some (43, false)⟩,
  ⟨some 48, .pick (.tmp 43) (.cst (.bool true)) (.tmp 47), none⟩] :: K) fr S := rfl
def law11_WalRecords_r5 : List POper := [
  ⟨some 4, .mov (.cst (.bool false)), none⟩]
@[simp] theorem law11_WalRecords_r5_go (T : Tbl) (K : List Kt) (fr : Fr) (S : St) : gval T (.ops law11_WalRecords_r5 :: K) fr S = gval T (.ops [
  ⟨some 4, .mov (.cst (.bool false)), none⟩] :: K) fr S := rfl
def law11_WalRecords_r6 : List POper := [
  ⟨some 50, .bsl false (.int .u8 0) 0 [], none⟩,
  ⟨some 51, .mov (.tmp 1), none⟩,
  ⟨some 52, .app 1 1 (.tmp 50) (.tmp 51), none⟩,
  ⟨some 53, .call .std 143 [(.tmp 52)], none⟩,
  ⟨some 49, .mov (.tmp 53), none⟩,
  ⟨some 54, .extract 0 (.tmp 49), none⟩,
  ⟨some 55, .extract 1 (.tmp 49), none⟩,
  ⟨some 10, .alloc false [(.int .i64 0), .nils, .nils, .nils, (.int .i64 0), (.int .i64 0)], none⟩,
  ⟨none, .store 6 (.tmp 10) (.tmp 54), none⟩,
  ⟨some 11, .mov (.tmp 55), none⟩]
@[simp] theorem law11_WalRecords_r6_go (T : Tbl) (K : List Kt) (fr : Fr) (S : St) : gval T (.ops law11_WalRecords_r6 :: K) fr S = gval T (.ops [
  ⟨some 50, .bsl false (.int .u8 0) 0 [], none⟩,
  ⟨some 51, .mov (.tmp 1), none⟩,
  ⟨some 52, .app 1 1 (.tmp 50) (.tmp 51), none⟩,
  ⟨some 53, .call .std 143 [(.tmp 52)], none⟩,
  ⟨some 49, .mov (.tmp 53), none⟩,
  ⟨some 54, .extract 0 (.tmp 49), none⟩,
  ⟨some 55, .extract 1 (.tmp 49), none⟩,
  ⟨some 10, .alloc false [(.int .i64 0), .nils, .nils, .nils, (.int .i64 0), (.int .i64 0)], none⟩,
  ⟨none, .store 6 (.tmp 10) (.tmp 54), none⟩,
  ⟨some 11, .mov (.tmp 55), none⟩] :: K) fr S := rfl
def law11_WalRecords_r7 : List POper := [
  ⟨some 57, .mov (.tmp 1), none⟩,
  ⟨some 58, .call .std 325 [(.tmp 57)], none⟩,
  ⟨some 56, .mov (.tmp 58), none⟩,
  ⟨some 59, .extract 0 (.tmp 56), none⟩,
  ⟨some 60, .extract 1 (.tmp 56), none⟩,
  ⟨some 12, .alloc false [(.int .i64 0), .nils, .nils, .nils, (.int .i64 0), (.int .i64 0)], none⟩,
  ⟨none, .store 6 (.tmp 12) (.tmp 59), none⟩,
  ⟨some 13, .mov (.tmp 60), none⟩]
@[simp] theorem law11_WalRecords_r7_go (T : Tbl) (K : List Kt) (fr : Fr) (S : St) : gval T (.ops law11_WalRecords_r7 :: K) fr S = gval T (.ops [
  ⟨some 57, .mov (.tmp 1), none⟩,
  ⟨some 58, .call .std 325 [(.tmp 57)], none⟩,
  ⟨some 56, .mov (.tmp 58), none⟩,
  ⟨some 59, .extract 0 (.tmp 56), none⟩,
  ⟨some 60, .extract 1 (.tmp 56), none⟩,
  ⟨some 12, .alloc false [(.int .i64 0), .nils, .nils, .nils, (.int .i64 0), (.int .i64 0)], none⟩,
  ⟨none, .store 6 (.tmp 12) (.tmp 59), none⟩,
  ⟨some 13, .mov (.tmp 60), none⟩] :: K) fr S := rfl
def law11_WalRecords_r8 : List POper := [
  ⟨some 61, .load true 6 false (.tmp 10), none⟩,
  ⟨some 62, .load true 6 false (.tmp 12), none⟩,
  ⟨some 63, .call .std 253 [(.tmp 61), (.tmp 62)], none⟩,
  ⟨some 64, .mov (.tmp 63), none⟩,
  ⟨some 65, .mov (.tmp 11), some (64, true)⟩,
  ⟨some 66, .mov (.tmp 13), some (64, true)⟩,
  ⟨some 67, .arith .eql (.tmp 65) (.tmp 66), some (64, true)⟩,
  ⟨some 68, .pick (.tmp 64) (.tmp 67) (.cst (.bool false)), none⟩,
  ⟨some 69, .mov (.tmp 68), none⟩,
  ⟨some 70, .call .pur 57 [], some (69, true)⟩,
  ⟨some 71, .pick (.tmp 69) (.tmp 70) (.cst (.bool false)), none⟩,
  ⟨some 4, .mov (.tmp 71), none⟩]
@[simp] theorem law11_WalRecords_r8_go (T : Tbl) (K : List Kt) (fr : Fr) (S : St) : gval T (.ops law11_WalRecords_r8 :: K) fr S = gval T (.ops [
  ⟨some 61, .load true 6 false (.tmp 10), none⟩,
  ⟨some 62, .load true 6 false (.tmp 12), none⟩,
  ⟨some 63, .call .std 253 [(.tmp 61), (.tmp 62)], none⟩,
  ⟨some 64, .mov (.tmp 63), none⟩,
  ⟨some 65, .mov (.tmp 11), some (64, true)⟩,
  ⟨some 66, .mov (.tmp 13), some (64, true)⟩,
  ⟨some 67, .arith .eql (.tmp 65) (.tmp 66), some (64, true)⟩,
  ⟨some 68, .pick (.tmp 64) (.tmp 67) (.cst (.bool false)), none⟩,
  ⟨some 69, .mov (.tmp 68), none⟩,
  ⟨some 70, .call .pur 57 [], some (69, true)⟩,
  ⟨some 71, .pick (.tmp 69) (.tmp 70) (.cst (.bool false)), none⟩,
  ⟨some 4, .mov (.tmp 71), none⟩] :: K) fr S := rfl
def law11_WalRecords : PCodeFn :=
  ⟨2, [.tmp 4],
  (.seq (.region law11_WalRecords_r0) (.seq (.clr [(14, 16)] (.region law11_WalRecords_r1)) (.seq (.clr [(16, 21)] (.region law11_WalRecords_r2)) (.seq (.clr [(21, 26)] (.region law11_WalRecords_r3)) (.seq (.seq (.clr [(26, 48)] (.region law11_WalRecords_r4)) (.cond (.tmp 48) (.seq (.region law11_WalRecords_r5) .ret) .skip)) (.seq (.clr [(49, 56)] (.region law11_WalRecords_r6)) (.seq (.clr [(56, 61)] (.region law11_WalRecords_r7)) (.seq (.clr [(61, 72)] (.region law11_WalRecords_r8)) .ret)))))))), false⟩

/-! gauge/gaugelaw11.WalBack: 488 -/
def law11_WalBack_r0 : List POper := [
  ⟨some 2, .box true (.tmp 0), none⟩,
  ⟨some 4, .mov (.cst (.bool false)), none⟩]
@[simp] theorem law11_WalBack_r0_go (T : Tbl) (K : List Kt) (fr : Fr) (S : St) : gval T (.ops law11_WalBack_r0 :: K) fr S = gval T (.ops [
  ⟨some 2, .box true (.tmp 0), none⟩,
  ⟨some 4, .mov (.cst (.bool false)), none⟩] :: K) fr S := rfl
def law11_WalBack_r1 : List POper := [
  ⟨some 14, .mov (.tmp 1), none⟩,
  ⟨some 15, .call .std 143 [(.tmp 14)], none⟩,
  ⟨some 13, .mov (.tmp 15), none⟩,
  ⟨some 16, .extract 0 (.tmp 13), none⟩,
  ⟨some 17, .extract 1 (.tmp 13), none⟩,
  ⟨some 5, .alloc false [(.int .i64 0), .nils, .nils, .nils, (.int .i64 0), (.int .i64 0)], none⟩,
  ⟨none, .store 6 (.tmp 5) (.tmp 16), none⟩,
  ⟨some 6, .mov (.tmp 17), none⟩]
@[simp] theorem law11_WalBack_r1_go (T : Tbl) (K : List Kt) (fr : Fr) (S : St) : gval T (.ops law11_WalBack_r1 :: K) fr S = gval T (.ops [
  ⟨some 14, .mov (.tmp 1), none⟩,
  ⟨some 15, .call .std 143 [(.tmp 14)], none⟩,
  ⟨some 13, .mov (.tmp 15), none⟩,
  ⟨some 16, .extract 0 (.tmp 13), none⟩,
  ⟨some 17, .extract 1 (.tmp 13), none⟩,
  ⟨some 5, .alloc false [(.int .i64 0), .nils, .nils, .nils, (.int .i64 0), (.int .i64 0)], none⟩,
  ⟨none, .store 6 (.tmp 5) (.tmp 16), none⟩,
  ⟨some 6, .mov (.tmp 17), none⟩] :: K) fr S := rfl
def law11_WalBack_r2 : List POper := [
  ⟨some 18, .mov (.tmp 6), none⟩,
  ⟨some 19, .arith .eql (.tmp 18) (.cst (.int .i64 0)), none⟩]
@[simp] theorem law11_WalBack_r2_go (T : Tbl) (K : List Kt) (fr : Fr) (S : St) : gval T (.ops law11_WalBack_r2 :: K) fr S = gval T (.ops [
  ⟨some 18, .mov (.tmp 6), none⟩,
  ⟨some 19, .arith .eql (.tmp 18) (.cst (.int .i64 0)), none⟩] :: K) fr S := rfl
def law11_WalBack_r3 : List POper := [
  ⟨some 21, .load true 6 false (.tmp 5), none⟩,
  ⟨some 22, .call .std 142 [(.tmp 21)], none⟩,
  ⟨some 20, .mov (.tmp 22), none⟩,
  ⟨some 23, .extract 0 (.tmp 20), none⟩,
  ⟨some 24, .extract 1 (.tmp 20), none⟩,
  ⟨some 7, .mov (.tmp 23), none⟩,
  ⟨some 8, .mov (.tmp 24), none⟩]
@[simp] theorem law11_WalBack_r3_go (T : Tbl) (K : List Kt) (fr : Fr) (S : St) : gval T (.ops law11_WalBack_r3 :: K) fr S = gval T (.ops [
  ⟨some 21, .load true 6 false (.tmp 5), none⟩,
  ⟨some 22, .call .std 142 [(.tmp 21)], none⟩,
  ⟨some 20, .mov (.tmp 22), none⟩,
  ⟨some 23, .extract 0 (.tmp 20), none⟩,
  ⟨some 24, .extract 1 (.tmp 20), none⟩,
  ⟨some 7, .mov (.tmp 23), none⟩,
  ⟨some 8, .mov (.tmp 24), none⟩] :: K) fr S := rfl
def law11_WalBack_r4 : List POper := [
  ⟨some 25, .mov (.tmp 8), none⟩,
  ⟨some 26, .arith .neq (.tmp 25) (.cst (.int .i64 0)), none⟩,
  ⟨some 27, .mov (.tmp 26), none⟩,
  ⟨some 28, .mov (.tmp 7), some (27, false)⟩,
  ⟨some 29, .toStr (.tmp 28), some (27, false)⟩,
  ⟨some 30, .mov (.tmp 1), some (27, false)⟩,
  ⟨some 31, .toStr (.tmp 30), some (27, false)⟩,
  ⟨some 32, .arith .neq (.tmp 29) (.tmp 31), some (27, false)⟩,
  ⟨some 33, .pick (.tmp 27) (.cst (.bool true)) (.tmp 32), none⟩]
@[simp] theorem law11_WalBack_r4_go (T : Tbl) (K : List Kt) (fr : Fr) (S : St) : gval T (.ops law11_WalBack_r4 :: K) fr S = gval T (.ops [
  ⟨some 25, .mov (.tmp 8), none⟩,
  ⟨some 26, .arith .neq (.tmp 25) (.cst (.int .i64 0)), none⟩,
  ⟨some 27, .mov (.tmp 26), none⟩,
  ⟨some 28, .mov (.tmp 7), some (27, false)⟩,
  ⟨some 29, .toStr (.tmp 28), some (27, false)⟩,
  ⟨some 30, .mov (.tmp 1), some (27, false)⟩,
  ⟨some 31, .toStr (.tmp 30), some (27, false)⟩,
  ⟨some 32, .arith .neq (.tmp 29) (.tmp 31), some (27, false)⟩,
  ⟨some 33, .pick (.tmp 27) (.cst (.bool true)) (.tmp 32), none⟩] :: K) fr S := rfl
def law11_WalBack_r5 : List POper := [
  ⟨some 4, .mov (.cst (.bool false)), none⟩]
@[simp] theorem law11_WalBack_r5_go (T : Tbl) (K : List Kt) (fr : Fr) (S : St) : gval T (.ops law11_WalBack_r5 :: K) fr S = gval T (.ops [
  ⟨some 4, .mov (.cst (.bool false)), none⟩] :: K) fr S := rfl
def law11_WalBack_r6 : List POper := [
  ⟨some 35, .load true 6 false (.tmp 2), none⟩,
  ⟨some 36, .call .std 142 [(.tmp 35)], none⟩,
  ⟨some 34, .mov (.tmp 36), none⟩,
  ⟨some 37, .extract 0 (.tmp 34), none⟩,
  ⟨some 38, .extract 1 (.tmp 34), none⟩,
  ⟨some 9, .mov (.tmp 37), none⟩,
  ⟨some 10, .mov (.tmp 38), none⟩]
@[simp] theorem law11_WalBack_r6_go (T : Tbl) (K : List Kt) (fr : Fr) (S : St) : gval T (.ops law11_WalBack_r6 :: K) fr S = gval T (.ops [
  ⟨some 35, .load true 6 false (.tmp 2), none⟩,
  ⟨some 36, .call .std 142 [(.tmp 35)], none⟩,
  ⟨some 34, .mov (.tmp 36), none⟩,
  ⟨some 37, .extract 0 (.tmp 34), none⟩,
  ⟨some 38, .extract 1 (.tmp 34), none⟩,
  ⟨some 9, .mov (.tmp 37), none⟩,
  ⟨some 10, .mov (.tmp 38), none⟩] :: K) fr S := rfl
def law11_WalBack_r7 : List POper := [
  ⟨some 39, .mov (.tmp 10), none⟩,
  ⟨some 40, .arith .neq (.tmp 39) (.cst (.int .i64 0)), none⟩]
@[simp] theorem law11_WalBack_r7_go (T : Tbl) (K : List Kt) (fr : Fr) (S : St) : gval T (.ops law11_WalBack_r7 :: K) fr S = gval T (.ops [
  ⟨some 39, .mov (.tmp 10), none⟩,
  ⟨some 40, .arith .neq (.tmp 39) (.cst (.int .i64 0)), none⟩] :: K) fr S := rfl
def law11_WalBack_r8 : List POper := [
  ⟨some 41, .load true 6 false (.tmp 2), none⟩,
  ⟨some 42, .call .std 179 [(.tmp 41)], none⟩,
  ⟨some 43, .mov (.tmp 10), none⟩,
  ⟨some 44, .arith .eql (.tmp 42) (.tmp 43), none⟩,
  ⟨some 45, .mov (.tmp 44), none⟩,
  ⟨some 46, .mov (.tmp 9), some (45, true)⟩,
  ⟨some 47, .len false (.tmp 46), some (45, true)⟩,
  ⟨some 48, .arith .eql (.tmp 47) (.cst (.int .i64 0)), some (45, true)⟩,
  ⟨some 49, .pick (.tmp 45) (.tmp 48) (.cst (.bool false)), none⟩,
  ⟨some 50, .mov (.tmp 49), none⟩,
  ⟨some 51, .call .pur 57 [], some (50, true)⟩,
  ⟨some 52, .pick (.tmp 50) (.tmp 51) (.cst (.bool false)), none⟩,
  ⟨some 4, .mov (.tmp 52), none⟩]
@[simp] theorem law11_WalBack_r8_go (T : Tbl) (K : List Kt) (fr : Fr) (S : St) : gval T (.ops law11_WalBack_r8 :: K) fr S = gval T (.ops [
  ⟨some 41, .load true 6 false (.tmp 2), none⟩,
  ⟨some 42, .call .std 179 [(.tmp 41)], none⟩,
  ⟨some 43, .mov (.tmp 10), none⟩,
  ⟨some 44, .arith .eql (.tmp 42) (.tmp 43), none⟩,
  ⟨some 45, .mov (.tmp 44), none⟩,
  ⟨some 46, .mov (.tmp 9), some (45, true)⟩,
  ⟨some 47, .len false (.tmp 46), some (45, true)⟩,
  ⟨some 48, .arith .eql (.tmp 47) (.cst (.int .i64 0)), some (45, true)⟩,
  ⟨some 49, .pick (.tmp 45) (.tmp 48) (.cst (.bool false)), none⟩,
  ⟨some 50, .mov (.tmp 49), none⟩,
  ⟨some 51, .call .pur 57 [], some (50, true)⟩,
  ⟨some 52, .pick (.tmp 50) (.tmp 51) (.cst (.bool false)), none⟩,
  ⟨some 4, .mov (.tmp 52), none⟩] :: K) fr S := rfl
def law11_WalBack_r9 : List POper := [
  ⟨some 54, .mov (.tmp 9), none⟩,
  ⟨some 55, .call .std 143 [(.tmp 54)], none⟩,
  ⟨some 53, .mov (.tmp 55), none⟩,
  ⟨some 56, .extract 0 (.tmp 53), none⟩,
  ⟨some 57, .extract 1 (.tmp 53), none⟩,
  ⟨some 11, .alloc false [(.int .i64 0), .nils, .nils, .nils, (.int .i64 0), (.int .i64 0)], none⟩,
  ⟨none, .store 6 (.tmp 11) (.tmp 56), none⟩,
  ⟨some 12, .mov (.tmp 57), none⟩]
@[simp] theorem law11_WalBack_r9_go (T : Tbl) (K : List Kt) (fr : Fr) (S : St) : gval T (.ops law11_WalBack_r9 :: K) fr S = gval T (.ops [
  ⟨some 54, .mov (.tmp 9), none⟩,
  ⟨some 55, .call .std 143 [(.tmp 54)], none⟩,
  ⟨some 53, .mov (.tmp 55), none⟩,
  ⟨some 56, .extract 0 (.tmp 53), none⟩,
  ⟨some 57, .extract 1 (.tmp 53), none⟩,
  ⟨some 11, .alloc false [(.int .i64 0), .nils, .nils, .nils, (.int .i64 0), (.int .i64 0)], none⟩,
  ⟨none, .store 6 (.tmp 11) (.tmp 56), none⟩,
  ⟨some 12, .mov (.tmp 57), none⟩] :: K) fr S := rfl
def law11_WalBack_r10 : List POper := [
  ⟨some 58, .mov (.tmp 12), none⟩,
  ⟨some 59, .arith .eql (.tmp 58) (.cst (.int .i64 0)), none⟩,
  ⟨some 60, .mov (.tmp 59), none⟩,
  ⟨some 61, .load true 6 false (.tmp 11), some (60, true)⟩,
  ⟨some 62, .load true 6 false (.tmp 2), some (60, true)⟩,
  ⟨some 63, .call .std 253 [(.tmp 61), (.tmp 62)], some (60, true)⟩,
  ⟨some 64, .pick (.tmp 60) (.tmp 63) (.cst (.bool false)), none⟩,
  ⟨some 65, .mov (.tmp 64), none⟩,
  ⟨some 66, .call .pur 57 [], some (65, true)⟩,
  ⟨some 67, .pick (.tmp 65) (.tmp 66) (.cst (.bool false)), none⟩,
  ⟨some 4, .mov (.tmp 67), none⟩]
@[simp] theorem law11_WalBack_r10_go (T : Tbl) (K : List Kt) (fr : Fr) (S : St) : gval T (.ops law11_WalBack_r10 :: K) fr S = gval T (.ops [
  ⟨some 58, .mov (.tmp 12), none⟩,
  ⟨some 59, .arith .eql (.tmp 58) (.cst (.int .i64 0)), none⟩,
  ⟨some 60, .mov (.tmp 59), none⟩,
  ⟨some 61, .load true 6 false (.tmp 11), some (60, true)⟩,
  ⟨some 62, .load true 6 false (.tmp 2), some (60, true)⟩,
  ⟨some 63, .call .std 253 [(.tmp 61), (.tmp 62)], some (60, true)⟩,
  ⟨some 64, .pick (.tmp 60) (.tmp 63) (.cst (.bool false)), none⟩,
  ⟨some 65, .mov (.tmp 64), none⟩,
  ⟨some 66, .call .pur 57 [], some (65, true)⟩,
  ⟨some 67, .pick (.tmp 65) (.tmp 66) (.cst (.bool false)), none⟩,
  ⟨some 4, .mov (.tmp 67), none⟩] :: K) fr S := rfl
def law11_WalBack : PCodeFn :=
  ⟨2, [.tmp 4],
  (.seq (.region law11_WalBack_r0) (.seq (.seq (.clr [(13, 18)] (.region law11_WalBack_r1)) (.seq (.clr [(18, 19)] (.region law11_WalBack_r2)) (.cond (.tmp 19) (.seq (.clr [(20, 25)] (.region law11_WalBack_r3)) (.seq (.clr [(25, 33)] (.region law11_WalBack_r4)) (.cond (.tmp 33) (.seq (.region law11_WalBack_r5) .ret) .skip))) .skip))) (.seq (.clr [(34, 39)] (.region law11_WalBack_r6)) (.seq (.seq (.clr [(39, 40)] (.region law11_WalBack_r7)) (.cond (.tmp 40) (.seq (.clr [(41, 53)] (.region law11_WalBack_r8)) .ret) .skip)) (.seq (.clr [(53, 58)] (.region law11_WalBack_r9)) (.seq (.clr [(58, 68)] (.region law11_WalBack_r10)) .ret)))))), false⟩

/-! gauge/gaugelaw11.WalWhatever: 493 -/
def law11_WalWhatever_r0 : List POper := [
  ⟨some 4, .mov (.cst (.bool false)), none⟩]
@[simp] theorem law11_WalWhatever_r0_go (T : Tbl) (K : List Kt) (fr : Fr) (S : St) : gval T (.ops law11_WalWhatever_r0 :: K) fr S = gval T (.ops [
  ⟨some 4, .mov (.cst (.bool false)), none⟩] :: K) fr S := rfl
def law11_WalWhatever_r1 : List POper := [
  ⟨some 20, .call .std 490 [], none⟩,
  ⟨some 19, .mov (.tmp 20), none⟩,
  ⟨some 21, .extract 0 (.tmp 19), none⟩,
  ⟨some 22, .extract 1 (.tmp 19), none⟩,
  ⟨some 23, .extract 2 (.tmp 19), none⟩,
  ⟨some 5, .mov (.tmp 21), none⟩,
  ⟨some 6, .mov (.tmp 22), none⟩,
  ⟨some 7, .mov (.tmp 23), none⟩]
@[simp] theorem law11_WalWhatever_r1_go (T : Tbl) (K : List Kt) (fr : Fr) (S : St) : gval T (.ops law11_WalWhatever_r1 :: K) fr S = gval T (.ops [
  ⟨some 20, .call .std 490 [], none⟩,
  ⟨some 19, .mov (.tmp 20), none⟩,
  ⟨some 21, .extract 0 (.tmp 19), none⟩,
  ⟨some 22, .extract 1 (.tmp 19), none⟩,
  ⟨some 23, .extract 2 (.tmp 19), none⟩,
  ⟨some 5, .mov (.tmp 21), none⟩,
  ⟨some 6, .mov (.tmp 22), none⟩,
  ⟨some 7, .mov (.tmp 23), none⟩] :: K) fr S := rfl
def law11_WalWhatever_r2 : List POper := [
  ⟨some 24, .mov (.tmp 7), none⟩,
  ⟨some 25, .un .not (.tmp 24), none⟩,
  ⟨some 26, .mov (.tmp 25), none⟩,
  ⟨some 27, .mov (.tmp 1), some (26, false)⟩,
  ⟨some 28, .len false (.tmp 27), some (26, false)⟩,
  ⟨some 29, .arith .gtr (.tmp 28) (.cst (.int .i64 65536)), some (26, false)⟩,
  ⟨some 30, .pick (.tmp 26) (.cst (.bool true)) (.tmp 29), none⟩]
@[simp] theorem law11_WalWhatever_r2_go (T : Tbl) (K : List Kt) (fr : Fr) (S : St) : gval T (.ops law11_WalWhatever_r2 :: K) fr S = gval T (.ops [
  ⟨some 24, .mov (.tmp 7), none⟩,
  ⟨some 25, .un .not (.tmp 24), none⟩,
  ⟨some 26, .mov (.tmp 25), none⟩,
  ⟨some 27, .mov (.tmp 1), some (26, false)⟩,
  ⟨some 28, .len false (.tmp 27), some (26, false)⟩,
  ⟨some 29, .arith .gtr (.tmp 28) (.cst (.int .i64 65536)), some (26, false)⟩,
  ⟨some 30, .pick (.tmp 26) (.cst (.bool true)) (.tmp 29), none⟩] :: K) fr S := rfl
def law11_WalWhatever_r3 : List POper := [
  ⟨some 31, .mov (.tmp 7), none⟩,
  ⟨some 4, .mov (.tmp 31), none⟩]
@[simp] theorem law11_WalWhatever_r3_go (T : Tbl) (K : List Kt) (fr : Fr) (S : St) : gval T (.ops law11_WalWhatever_r3 :: K) fr S = gval T (.ops [
  ⟨some 31, .mov (.tmp 7), none⟩,
  ⟨some 4, .mov (.tmp 31), none⟩] :: K) fr S := rfl
def law11_WalWhatever_r4 : List POper := [
  ⟨some 8, .mov (.cst .nils), none⟩]
@[simp] theorem law11_WalWhatever_r4_go (T : Tbl) (K : List Kt) (fr : Fr) (S : St) : gval T (.ops law11_WalWhatever_r4 :: K) fr S = gval T (.ops [
  ⟨some 8, .mov (.cst .nils), none⟩] :: K) fr S := rfl
def law11_WalWhatever_r5 : List POper := [
  ⟨some 9, .mov (.cst (.int .i64 0)), none⟩]
@[simp] theorem law11_WalWhatever_r5_go (T : Tbl) (K : List Kt) (fr : Fr) (S : St) : gval T (.ops law11_WalWhatever_r5 :: K) fr S = gval T (.ops [
  ⟨some 9, .mov (.cst (.int .i64 0)), none⟩] :: K) fr S := rfl
def law11_WalWhatever_r6 : List POper := [
  ⟨some 32, .mov (.tmp 9), none⟩,
  ⟨some 33, .mov (.tmp 0), none⟩,
  ⟨some 34, .len false (.tmp 33), none⟩,
  ⟨some 35, .arith .lss (.tmp 32) (.tmp 34), none⟩,
  ⟨some 36, .mov (.tmp 35), none⟩,
  ⟨some 37, .mov (.tmp 9), some (36, true)⟩,
  ⟨some 38, .arith .lss (.tmp 37) (.cst (.int .i64 20)), some (36, true)⟩,
  ⟨some 39, .pick (.tmp 36) (.tmp 38) (.cst (.bool false)), none⟩]
@[simp] theorem law11_WalWhatever_r6_go (T : Tbl) (K : List Kt) (fr : Fr) (S : St) : gval T (.ops law11_WalWhatever_r6 :: K) fr S = gval T (.ops [
  ⟨some 32, .mov (.tmp 9), none⟩,
  ⟨some 33, .mov (.tmp 0), none⟩,
  ⟨some 34, .len false (.tmp 33), none⟩,
  ⟨some 35, .arith .lss (.tmp 32) (.tmp 34), none⟩,
  ⟨some 36, .mov (.tmp 35), none⟩,
  ⟨some 37, .mov (.tmp 9), some (36, true)⟩,
  ⟨some 38, .arith .lss (.tmp 37) (.cst (.int .i64 20)), some (36, true)⟩,
  ⟨some 39, .pick (.tmp 36) (.tmp 38) (.cst (.bool false)), none⟩] :: K) fr S := rfl
def law11_WalWhatever_r8 : List POper := [
  ⟨some 42, .mov (.tmp 6), none⟩,
  ⟨some 43, .mov (.tmp 0), none⟩,
  ⟨some 44, .mov (.tmp 9), none⟩,
  ⟨some 45, .iaddr 6 (.tmp 43) (.tmp 44), none⟩,
  ⟨some 46, .load true 6 false (.tmp 45), none⟩,
  ⟨some 47, .call .std 148 [(.tmp 42), (.tmp 46)], none⟩,
  ⟨some 48, .arith .eql (.tmp 47) (.cst (.int .i64 0)), none⟩]
@[simp] theorem law11_WalWhatever_r8_go (T : Tbl) (K : List Kt) (fr : Fr) (S : St) : gval T (.ops law11_WalWhatever_r8 :: K) fr S = gval T (.ops [
  ⟨some 42, .mov (.tmp 6), none⟩,
  ⟨some 43, .mov (.tmp 0), none⟩,
  ⟨some 44, .mov (.tmp 9), none⟩,
  ⟨some 45, .iaddr 6 (.tmp 43) (.tmp 44), none⟩,
  ⟨some 46, .load true 6 false (.tmp 45), none⟩,
  ⟨some 47, .call .std 148 [(.tmp 42), (.tmp 46)], none⟩,
  ⟨some 48, .arith .eql (.tmp 47) (.cst (.int .i64 0)), none⟩] :: K) fr S := rfl
def law11_WalWhatever_r9 : List POper := [
  ⟨some 49, .mov (.tmp 8), none⟩,
  ⟨some 50, .mov (.tmp 0), none⟩,
  ⟨some 51, .mov (.tmp 9), none⟩,
  ⟨some 52, .iaddr 6 (.tmp 50) (.tmp 51), none⟩,
  ⟨some 53, .load true 6 false (.tmp 52), none⟩,
  ⟨some 54, .bsl false (.agg [(.int .i64 0), .nils, .nils, .nils, (.int .i64 0), (.int .i64 0)]) 1 [(0, (.tmp 53))], none⟩,
  ⟨some 55, .app 6 96 (.tmp 49) (.tmp 54), none⟩,
  ⟨some 8, .mov (.tmp 55), none⟩]
@[simp] theorem law11_WalWhatever_r9_go (T : Tbl) (K : List Kt) (fr : Fr) (S : St) : gval T (.ops law11_WalWhatever_r9 :: K) fr S = gval T (.ops [
  ⟨some 49, .mov (.tmp 8), none⟩,
  ⟨some 50, .mov (.tmp 0), none⟩,
  ⟨some 51, .mov (.tmp 9), none⟩,
  ⟨some 52, .iaddr 6 (.tmp 50) (.tmp 51), none⟩,
  ⟨some 53, .load true 6 false (.tmp 52), none⟩,
  ⟨some 54, .bsl false (.agg [(.int .i64 0), .nils, .nils, .nils, (.int .i64 0), (.int .i64 0)]) 1 [(0, (.tmp 53))], none⟩,
  ⟨some 55, .app 6 96 (.tmp 49) (.tmp 54), none⟩,
  ⟨some 8, .mov (.tmp 55), none⟩] :: K) fr S := rfl
def law11_WalWhatever_r7 : List POper := [
  ⟨some 40, .mov (.tmp 9), none⟩,
  ⟨some 41, .arith .add (.tmp 40) (.cst (.int .i64 1)), none⟩,
  ⟨some 9, .mov (.tmp 41), none⟩]
@[simp] theorem law11_WalWhatever_r7_go (T : Tbl) (K : List Kt) (fr : Fr) (S : St) : gval T (.ops law11_WalWhatever_r7 :: K) fr S = gval T (.ops [
  ⟨some 40, .mov (.tmp 9), none⟩,
  ⟨some 41, .arith .add (.tmp 40) (.cst (.int .i64 1)), none⟩,
  ⟨some 9, .mov (.tmp 41), none⟩] :: K) fr S := rfl
def law11_WalWhatever_l0 : PCode :=
  (.seq (.seq (.clr [(32, 39)] (.region law11_WalWhatever_r6)) (.cond (.tmp 39) .skip (.exit 0))) (.seq (.block 1 (.seq (.clr [(42, 48)] (.region law11_WalWhatever_r8)) (.cond (.tmp 48) (.clr [(49, 56)] (.region law11_WalWhatever_r9)) .skip))) (.clr [(40, 42)] (.region law11_WalWhatever_r7))))
@[simp] theorem law11_WalWhatever_l0_go (T : Tbl) (K : List Kt) (fr : Fr) (S : St) : gval T (.code law11_WalWhatever_l0 :: K) fr S = gval T (.code (.seq (.seq (.clr [(32, 39)] (.region law11_WalWhatever_r6)) (.cond (.tmp 39) .skip (.exit 0))) (.seq (.block 1 (.seq (.clr [(42, 48)] (.region law11_WalWhatever_r8)) (.cond (.tmp 48) (.clr [(49, 56)] (.region law11_WalWhatever_r9)) .skip))) (.clr [(40, 42)] (.region law11_WalWhatever_r7)))) :: K) fr S := rfl
def law11_WalWhatever_r10 : List POper := [
  ⟨some 56, .mov (.tmp 6), none⟩,
  ⟨some 57, .call .std 62 [(.tmp 56)], none⟩,
  ⟨some 10, .mov (.tmp 57), none⟩]
@[simp] theorem law11_WalWhatever_r10_go (T : Tbl) (K : List Kt) (fr : Fr) (S : St) : gval T (.ops law11_WalWhatever_r10 :: K) fr S = gval T (.ops [
  ⟨some 56, .mov (.tmp 6), none⟩,
  ⟨some 57, .call .std 62 [(.tmp 56)], none⟩,
  ⟨some 10, .mov (.tmp 57), none⟩] :: K) fr S := rfl
def law11_WalWhatever_r11 : List POper := [
  ⟨some 58, .mov (.tmp 5), none⟩,
  ⟨some 59, .mov (.tmp 1), none⟩,
  ⟨some 60, .call .std 78 [(.tmp 58), (.cst (.str [108, 111, 103])), (.tmp 59)], none⟩,
  ⟨some 61, .arith .neq (.tmp 60) (.cst (.int .i64 0)), none⟩]
@[simp] theorem law11_WalWhatever_r11_go (T : Tbl) (K : List Kt) (fr : Fr) (S : St) : gval T (.ops law11_WalWhatever_r11 :: K) fr S = gval T (.ops [
  ⟨some 58, .mov (.tmp 5), none⟩,
  ⟨some 59, .mov (.tmp 1), none⟩,
  ⟨some 60, .call .std 78 [(.tmp 58), (.cst (.str [108, 111, 103])), (.tmp 59)], none⟩,
  ⟨some 61, .arith .neq (.tmp 60) (.cst (.int .i64 0)), none⟩] :: K) fr S := rfl
def law11_WalWhatever_r12 : List POper := [
  ⟨some 4, .mov (.cst (.bool false)), none⟩]
@[simp] theorem law11_WalWhatever_r12_go (T : Tbl) (K : List Kt) (fr : Fr) (S : St) : gval T (.ops law11_WalWhatever_r12 :: K) fr S = gval T (.ops [
  ⟨some 4, .mov (.cst (.bool false)), none⟩] :: K) fr S := rfl
def law11_WalWhatever_r13 : List POper := [
  ⟨some 63, .mov (.tmp 5), none⟩,
  ⟨some 64, .call .std 144 [(.tmp 63), (.cst (.str [108, 111, 103]))], none⟩,
  ⟨some 62, .mov (.tmp 64), none⟩,
  ⟨some 65, .extract 0 (.tmp 62), none⟩,
  ⟨some 66, .extract 1 (.tmp 62), none⟩,
  ⟨some 67, .extract 2 (.tmp 62), none⟩,
  ⟨some 11, .mov (.tmp 65), none⟩,
  ⟨some 12, .mov (.tmp 66), none⟩,
  ⟨some 13, .mov (.tmp 67), none⟩]
@[simp] theorem law11_WalWhatever_r13_go (T : Tbl) (K : List Kt) (fr : Fr) (S : St) : gval T (.ops law11_WalWhatever_r13 :: K) fr S = gval T (.ops [
  ⟨some 63, .mov (.tmp 5), none⟩,
  ⟨some 64, .call .std 144 [(.tmp 63), (.cst (.str [108, 111, 103]))], none⟩,
  ⟨some 62, .mov (.tmp 64), none⟩,
  ⟨some 65, .extract 0 (.tmp 62), none⟩,
  ⟨some 66, .extract 1 (.tmp 62), none⟩,
  ⟨some 67, .extract 2 (.tmp 62), none⟩,
  ⟨some 11, .mov (.tmp 65), none⟩,
  ⟨some 12, .mov (.tmp 66), none⟩,
  ⟨some 13, .mov (.tmp 67), none⟩] :: K) fr S := rfl
def law11_WalWhatever_r14 : List POper := [
  ⟨some 68, .mov (.tmp 13), none⟩,
  ⟨some 69, .arith .neq (.tmp 68) (.cst (.int .i64 0)), none⟩,
  ⟨some 70, .mov (.tmp 69), none⟩,
  ⟨some 71, .mov (.tmp 11), some (70, false)⟩,
  ⟨some 72, .eqn false .p (.tmp 71), some (70, false)⟩,
  ⟨some 73, .pick (.tmp 70) (.cst (.bool true)) (.tmp 72), none⟩,
  ⟨some 74, .mov (.tmp 73), none⟩,
  ⟨some 75, .mov (.tmp 12), some (74, false)⟩,
  ⟨some 76, .len false (.tmp 75), some (74, false)⟩,
  ⟨some 77, .mov (.tmp 8), some (74, false)⟩,
  ⟨some 78, .len false (.tmp 77), some (74, false)⟩,
  ⟨some 79, .arith .lss (.tmp 76) (.tmp 78), some (74, false)⟩,
  ⟨some 80, .pick (.tmp 74) (.cst (.bool true)) (.tmp 79), none⟩,
  ⟨some 81, .mov (.tmp 80), none⟩,
  ⟨some 82, .mov (.tmp 12), some (81, false)⟩,
  ⟨some 83, .mov (.tmp 8), some (81, false)⟩,
  ⟨some 84, .len false (.tmp 83), some (81, false)⟩,
  ⟨some 85, .slc 6 none (some (.tmp 84)) (.tmp 82), some (81, false)⟩,
  ⟨some 86, .mov (.tmp 8), some (81, false)⟩,
  ⟨some 87, .call .std 146 [(.tmp 85), (.tmp 86)], some (81, false)⟩,
  ⟨some 88, .un .not (.tmp 87), some (81, false)⟩,
  ⟨some 89, .pick (.tmp 81) (.cst (.bool true)) (.tmp 88), none⟩]
@[simp] theorem law11_WalWhatever_r14_go (T : Tbl) (K : List Kt) (fr : Fr) (S : St) : gval T (.ops law11_WalWhatever_r14 :: K) fr S = gval T (.ops [
  ⟨some 68, .mov (.tmp 13), none⟩,
  ⟨some 69, .arith .neq (.tmp 68) (.cst (.int .i64 0)), none⟩,
  ⟨some 70, .mov (.tmp 69), none⟩,
  ⟨some 71, .mov (.tmp 11), some (70, false)⟩,
  ⟨some 72, .eqn false .p (.tmp 71), some (70, false)⟩,
  ⟨some 73, .pick (.tmp 70) (.cst (.bool true)) (.tmp 72), none⟩,
  ⟨some 74, .mov (.tmp 73), none⟩,
  ⟨some 75, .mov (.tmp 12), some (74, false)⟩,
  ⟨some 76, .len false (.tmp 75), some (74, false)⟩,
  ⟨some 77, .mov (.tmp 8), some (74, false)⟩,
  ⟨some 78, .len false (.tmp 77), some (74, false)⟩,
  ⟨some 79, .arith .lss (.tmp 76) (.tmp 78), some (74, false)⟩,
  ⟨some 80, .pick (.tmp 74) (.cst (.bool true)) (.tmp 79), none⟩,
  ⟨some 81, .mov (.tmp 80), none⟩,
  ⟨some 82, .mov (.tmp 12), some (81, false)⟩,
  ⟨some 83, .mov (.tmp 8), some (81, false)⟩,
  ⟨some 84, .len false (.tmp 83), some (81, false)⟩,
  ⟨some 85, .slc 6 none (some (.tmp 84)) (.tmp 82), some (81, false)⟩,
  ⟨some 86, .mov (.tmp 8), some (81, false)⟩,
  ⟨some 87, .call .std 146 [(.tmp 85), (.tmp 86)], some (81, false)⟩,
  ⟨some 88, .un .not (.tmp 87), some (81, false)⟩,
  ⟨some 89, .pick (.tmp 81) (.cst (.bool true)) (.tmp 88), none⟩] :: K) fr S := rfl
def law11_WalWhatever_r15 : List POper := [
  ⟨some 4, .mov (.cst (.bool false)), none⟩]
@[simp] theorem law11_WalWhatever_r15_go (T : Tbl) (K : List Kt) (fr : Fr) (S : St) : gval T (.ops law11_WalWhatever_r15 :: K) fr S = gval T (.ops [
  ⟨some 4, .mov (.cst (.bool false)), none⟩] :: K) fr S := rfl
def law11_WalWhatever_r16 : List POper := [
  ⟨some 91, .mov (.tmp 5), none⟩,
  ⟨some 92, .call .std 144 [(.tmp 91), (.cst (.str [108, 111, 103]))], none⟩,
  ⟨some 90, .mov (.tmp 92), none⟩,
  ⟨some 93, .extract 0 (.tmp 90), none⟩,
  ⟨some 94, .extract 1 (.tmp 90), none⟩,
  ⟨some 95, .extract 2 (.tmp 90), none⟩,
  ⟨some 14, .mov (.tmp 93), none⟩,
  ⟨some 15, .mov (.tmp 94), none⟩,
  ⟨some 16, .mov (.tmp 95), none⟩]
@[simp] theorem law11_WalWhatever_r16_go (T : Tbl) (K : List Kt) (fr : Fr) (S : St) : gval T (.ops law11_WalWhatever_r16 :: K) fr S = gval T (.ops [
  ⟨some 91, .mov (.tmp 5), none⟩,
  ⟨some 92, .call .std 144 [(.tmp 91), (.cst (.str [108, 111, 103]))], none⟩,
  ⟨some 90, .mov (.tmp 92), none⟩,
  ⟨some 93, .extract 0 (.tmp 90), none⟩,
  ⟨some 94, .extract 1 (.tmp 90), none⟩,
  ⟨some 95, .extract 2 (.tmp 90), none⟩,
  ⟨some 14, .mov (.tmp 93), none⟩,
  ⟨some 15, .mov (.tmp 94), none⟩,
  ⟨some 16, .mov (.tmp 95), none⟩] :: K) fr S := rfl
def law11_WalWhatever_r17 : List POper := [
  ⟨some 97, .mov (.tmp 5), none⟩,
  ⟨some 98, .call .std 81 [(.tmp 97), (.cst (.str [108, 111, 103]))], none⟩,
  ⟨some 96, .mov (.tmp 98), none⟩,
  ⟨some 99, .extract 0 (.tmp 96), none⟩,
  ⟨some 100, .extract 1 (.tmp 96), none⟩,
  ⟨some 17, .mov (.tmp 99), none⟩,
  ⟨some 18, .mov (.tmp 100), none⟩]
@[simp] theorem law11_WalWhatever_r17_go (T : Tbl) (K : List Kt) (fr : Fr) (S : St) : gval T (.ops law11_WalWhatever_r17 :: K) fr S = gval T (.ops [
  ⟨some 97, .mov (.tmp 5), none⟩,
  ⟨some 98, .call .std 81 [(.tmp 97), (.cst (.str [108, 111, 103]))], none⟩,
  ⟨some 96, .mov (.tmp 98), none⟩,
  ⟨some 99, .extract 0 (.tmp 96), none⟩,
  ⟨some 100, .extract 1 (.tmp 96), none⟩,
  ⟨some 17, .mov (.tmp 99), none⟩,
  ⟨some 18, .mov (.tmp 100), none⟩] :: K) fr S := rfl
def law11_WalWhatever_r18 : List POper := [
  ⟨some 101, .mov (.tmp 16), none⟩,
  ⟨some 102, .arith .eql (.tmp 101) (.cst (.int .i64 0)), none⟩,
  ⟨some 103, .mov (.tmp 102), none⟩,
  ⟨some 104, .mov (.tmp 14), some (103, true)⟩,
  ⟨some 105, .eqn true .p (.tmp 104), some (103, true)⟩,
  ⟨some 106, .pick (.tmp 103) (.tmp 105) (.cst (.bool false)), none⟩,
  ⟨some 107, .mov (.tmp 106), none⟩,
  ⟨some 108, .mov (.tmp 18), some (107, true)⟩,
  ⟨some 109, .arith .eql (.tmp 108) (.cst (.int .i64 0)), some (107, true)⟩,
  ⟨some 110, .pick (.tmp 107) (.tmp 109) (.cst (.bool false)), none⟩,
  ⟨some 111, .mov (.tmp 110), none⟩,
  ⟨some 112, .mov (.tmp 15), some (111, true)⟩,
  ⟨some 113, .mov (.tmp 12), some (111, true)⟩,
  ⟨some 114, .call .std 146 [(.tmp 112), (.tmp 113)], some (111, true)⟩,
  ⟨some 115, .pick (.tmp 111) (.tmp 114) (.cst (.bool false)), none⟩,
  ⟨some 116, .mov (.tmp 115), none⟩,
  ⟨some 117, .mov (.tmp 14), some (116, true)⟩,
  ⟨some 118, .call .std 61 [(.tmp 117)], some (116, true)⟩,
  ⟨some 119, .mov (.tmp 12), some (116, true)⟩,
  ⟨some 120, .len false (.tmp 119), some (116, true)⟩,
  ⟨some 121, .arith .eql (.tmp 118) (.tmp 120), some (116, true)⟩,
  ⟨some 122, .pick (.tmp 116) (.tmp 121) (.cst (.bool false)), none⟩,
  ⟨some 123, .mov (.tmp 122), none⟩,
  ⟨some 124, .mov (.tmp 17), some (123, true)⟩,
  ⟨some 125, .len false (.tmp 124), some (123, true)⟩,
  ⟨some 126, .mov (.tmp 14), some (123, true)⟩,
  ⟨some 127, .call .std 62 [(.tmp 126)], some (123, true)⟩,
  ⟨some 128, .arith .eql (.tmp 125) (.tmp 127), some (123, true)⟩,
  ⟨some 129, .pick (.tmp 123) (.tmp 128) (.cst (.bool false)), none⟩,
  ⟨some 130, .mov (.tmp 129), none⟩,
  ⟨some 131, .mov (.tmp 14), some (130, true)⟩,
  ⟨some 132, .call .std 62 [(.tmp 131)], some (130, true)⟩,
  ⟨some 133, .mov (.tmp 10), some (130, true)⟩,
  ⟨some 134, .arith .geq (.tmp 132) (.tmp 133), some (130, true)⟩,
  ⟨some 135, .pick (.tmp 130) (.tmp 134) (.cst (.bool false)), none⟩,
  ⟨some 136, .mov (.tmp 135), none⟩,
  ⟨some 137, .mov (.tmp 14), some (136, true)⟩,
  ⟨some 138, .call .std 62 [(.tmp 137)], some (136, true)⟩,
  ⟨some 139, .mov (.tmp 10), some (136, true)⟩,
  ⟨some 140, .mov (.tmp 1), some (136, true)⟩,
  ⟨some 141, .len false (.tmp 140), some (136, true)⟩,
  ⟨some 142, .arith .add (.tmp 139) (.tmp 141), some (136, true)⟩,
  ⟨some 143, .arith .leq (.tmp 138) (.tmp 142), some (136, true)⟩,
  ⟨some 144, .pick (.tmp 136) (.tmp 143) (.cst (.bool false)), none⟩,
  ⟨some 145, .mov (.tmp 144), none⟩,
  ⟨some 146, .call .pur 57 [], some (145, true)⟩,
  ⟨some 147, .pick (.tmp 145) (.tmp 146) (.cst (.bool false)), none⟩,
  ⟨some 4, .mov (.tmp 147), none⟩]
@[simp] theorem law11_WalWhatever_r18_go (T : Tbl) (K : List Kt) (fr : Fr) (S : St) : gval T (.ops law11_WalWhatever_r18 :: K) fr S = gval T (.ops [
  ⟨some 101, .mov (.tmp 16), none⟩,
  ⟨some 102, .arith .eql (.tmp 101) (.cst (.int .i64 0)), none⟩,
  ⟨some 103, .mov (.tmp 102), none⟩,
  ⟨some 104, .mov (.tmp 14), some (103, true)⟩,
  ⟨some 105, .eqn true .p (.tmp 104), some (103, true)⟩,
  ⟨some 106, .pick (.tmp 103) (.tmp 105) (.cst (.bool false)), none⟩,
  ⟨some 107, .mov (.tmp 106), none⟩,
  ⟨some 108, .mov (.tmp 18), some (107, true)⟩,
  ⟨some 109, .arith .eql (.tmp 108) (.cst (.int .i64 0)), some (107, true)⟩,
  ⟨some 110, .pick (.tmp 107) (.tmp 109) (.cst (.bool false)), none⟩,
  ⟨some 111, .mov (.tmp 110), none⟩,
  ⟨some 112, .mov (.tmp 15), some (111, true)⟩,
  ⟨some 113, .mov (.tmp 12), some (111, true)⟩,
  ⟨some 114, .call .std 146 [(.tmp 112), (.tmp 113)], some (111, true)⟩,
  ⟨some 115, .pick (.tmp 111) (.tmp 114) (.cst (.bool false)), none⟩,
  ⟨some 116, .mov (.tmp 115), none⟩,
  ⟨some 117, .mov (.tmp 14), some (116, true)⟩,
  ⟨some 118, .call .std 61 [(.tmp 117)], some (116, true)⟩,
  ⟨some 119, .mov (.tmp 12), some (116, true)⟩,
  ⟨some 120, .len false (.tmp 119), some (116, true)⟩,
  ⟨some 121, .arith .eql (.tmp 118) (.tmp 120), some (116, true)⟩,
  ⟨some 122, .pick (.tmp 116) (.tmp 121) (.cst (.bool false)), none⟩,
  ⟨some 123, .mov (.tmp 122), none⟩,
  ⟨some 124, .mov (.tmp 17), some (123, true)⟩,
  ⟨some 125, .len false (.tmp 124), some (123, true)⟩,
  ⟨some 126, .mov (.tmp 14), some (123, true)⟩,
  ⟨some 127, .call .std 62 [(.tmp 126)], some (123, true)⟩,
  ⟨some 128, .arith .eql (.tmp 125) (.tmp 127), some (123, true)⟩,
  ⟨some 129, .pick (.tmp 123) (.tmp 128) (.cst (.bool false)), none⟩,
  ⟨some 130, .mov (.tmp 129), none⟩,
  ⟨some 131, .mov (.tmp 14), some (130, true)⟩,
  ⟨some 132, .call .std 62 [(.tmp 131)], some (130, true)⟩,
  ⟨some 133, .mov (.tmp 10), some (130, true)⟩,
  ⟨some 134, .arith .geq (.tmp 132) (.tmp 133), some (130, true)⟩,
  ⟨some 135, .pick (.tmp 130) (.tmp 134) (.cst (.bool false)), none⟩,
  ⟨some 136, .mov (.tmp 135), none⟩,
  ⟨some 137, .mov (.tmp 14), some (136, true)⟩,
  ⟨some 138, .call .std 62 [(.tmp 137)], some (136, true)⟩,
  ⟨some 139, .mov (.tmp 10), some (136, true)⟩,
  ⟨some 140, .mov (.tmp 1), some (136, true)⟩,
  ⟨some 141, .len false (.tmp 140), some (136, true)⟩,
  ⟨some 142, .arith .add (.tmp 139) (.tmp 141), some (136, true)⟩,
  ⟨some 143, .arith .leq (.tmp 138) (.tmp 142), some (136, true)⟩,
  ⟨some 144, .pick (.tmp 136) (.tmp 143) (.cst (.bool false)), none⟩,
  ⟨some 145, .mov (.tmp 144), none⟩,
  ⟨some 146, .call .pur 57 [], some (145, true)⟩,
  ⟨some 147, .pick (.tmp 145) (.tmp 146) (.cst (.bool false)), none⟩,
  ⟨some 4, .mov (.tmp 147), none⟩] :: K) fr S := rfl
def law11_WalWhatever : PCodeFn :=
  ⟨2, [.tmp 4],
  (.seq (.region law11_WalWhatever_r0) (.seq (.clr [(19, 24)] (.region law11_WalWhatever_r1)) (.seq (.seq (.clr [(24, 30)] (.region law11_WalWhatever_r2)) (.cond (.tmp 30) (.seq (.clr [(31, 32)] (.region law11_WalWhatever_r3)) .ret) .skip)) (.seq (.region law11_WalWhatever_r4) (.seq (.seq (.region law11_WalWhatever_r5) (.block 0 (.loop law11_WalWhatever_l0))) (.seq (.clr [(56, 58)] (.region law11_WalWhatever_r10)) (.seq (.seq (.clr [(58, 61)] (.region law11_WalWhatever_r11)) (.cond (.tmp 61) (.seq (.region law11_WalWhatever_r12) .ret) .skip)) (.seq (.clr [(62, 68)] (.region law11_WalWhatever_r13)) (.seq (.seq (.clr [(68, 89)] (.region law11_WalWhatever_r14)) (.cond (.tmp 89) (.seq (.region law11_WalWhatever_r15) .ret) .skip)) (.seq (.clr [(90, 96)] (.region law11_WalWhatever_r16)) (.seq (.clr [(96, 101)] (.region law11_WalWhatever_r17)) (.seq (.clr [(101, 148)] (.region law11_WalWhatever_r18)) .ret)))))))))))), false⟩

/-! gauge/gaugelaw11.WalNil: 491 -/
def law11_WalNil_r0 : List POper := [
  ⟨some 3, .box true (.tmp 1), none⟩,
  ⟨some 4, .mov (.cst (.bool false)), none⟩]
@[simp] theorem law11_WalNil_r0_go (T : Tbl) (K : List Kt) (fr : Fr) (S : St) : gval T (.ops law11_WalNil_r0 :: K) fr S = gval T (.ops [
  ⟨some 3, .box true (.tmp 1), none⟩,
  ⟨some 4, .mov (.cst (.bool false)), none⟩] :: K) fr S := rfl
def law11_WalNil_r1 : List POper := [
  ⟨some 10, .mov (.tmp 0), none⟩,
  ⟨some 11, .call .std 144 [(.cst .nilp), (.tmp 10)], none⟩,
  ⟨some 9, .mov (.tmp 11), none⟩,
  ⟨some 12, .extract 0 (.tmp 9), none⟩,
  ⟨some 13, .extract 1 (.tmp 9), none⟩,
  ⟨some 14, .extract 2 (.tmp 9), none⟩,
  ⟨some 5, .mov (.tmp 12), none⟩,
  ⟨some 6, .mov (.tmp 13), none⟩,
  ⟨some 7, .mov (.tmp 14), none⟩]
@[simp] theorem law11_WalNil_r1_go (T : Tbl) (K : List Kt) (fr : Fr) (S : St) : gval T (.ops law11_WalNil_r1 :: K) fr S = gval T (.ops [
  ⟨some 10, .mov (.tmp 0), none⟩,
  ⟨some 11, .call .std 144 [(.cst .nilp), (.tmp 10)], none⟩,
  ⟨some 9, .mov (.tmp 11), none⟩,
  ⟨some 12, .extract 0 (.tmp 9), none⟩,
  ⟨some 13, .extract 1 (.tmp 9), none⟩,
  ⟨some 14, .extract 2 (.tmp 9), none⟩,
  ⟨some 5, .mov (.tmp 12), none⟩,
  ⟨some 6, .mov (.tmp 13), none⟩,
  ⟨some 7, .mov (.tmp 14), none⟩] :: K) fr S := rfl
def law11_WalNil_r2 : List POper := [
  ⟨some 8, .mov (.cst .nilp), none⟩]
@[simp] theorem law11_WalNil_r2_go (T : Tbl) (K : List Kt) (fr : Fr) (S : St) : gval T (.ops law11_WalNil_r2 :: K) fr S = gval T (.ops [
  ⟨some 8, .mov (.cst .nilp), none⟩] :: K) fr S := rfl
def law11_WalNil_r3 : List POper := [
  ⟨some 15, .mov (.tmp 5), none⟩,
  ⟨some 16, .eqn false .p (.tmp 15), none⟩,
  ⟨some 17, .mov (.tmp 16), none⟩,
  ⟨some 18, .mov (.tmp 6), some (17, true)⟩,
  ⟨some 19, .len false (.tmp 18), some (17, true)⟩,
  ⟨some 20, .arith .eql (.tmp 19) (.cst (.int .i64 0)), some (17, true)⟩,
  ⟨some 21, .pick (.tmp 17) (.tmp 20) (.cst (.bool false)), none⟩,
  ⟨some 22, .mov (.tmp 21), none⟩,
  ⟨some 23, .mov (.tmp 7), some (22, true)⟩,
  ⟨some 24, .arith .eql (.tmp 23) (.cst (.int .i64 1)), some (22, true)⟩,
  ⟨some 25, .pick (.tmp 22) (.tmp 24) (.cst (.bool false)), none⟩,
  ⟨some 26, .mov (.tmp 25), none⟩,
  ⟨some 27, .mov (.tmp 8), some (26, true)⟩,
  ⟨some 28, .load true 6 false (.tmp 3), some (26, true)⟩,
  ⟨some 29, .call .std 148 [(.tmp 27), (.tmp 28)], some (26, true)⟩,
  ⟨some 30, .arith .eql (.tmp 29) (.cst (.int .i64 1)), some (26, true)⟩,
  ⟨some 31, .pick (.tmp 26) (.tmp 30) (.cst (.bool false)), none⟩,
  ⟨some 32, .mov (.tmp 31), none⟩,
  ⟨some 33, .mov (.tmp 8), some (32, true)⟩,
  ⟨some 34, .call .std 150 [(.tmp 33)], some (32, true)⟩,
  ⟨some 35, .arith .eql (.tmp 34) (.cst (.int .i64 1)), some (32, true)⟩,
  ⟨some 36, .pick (.tmp 32) (.tmp 35) (.cst (.bool false)), none⟩,
  ⟨some 37, .mov (.tmp 36), none⟩,
  ⟨some 38, .mov (.tmp 8), some (37, true)⟩,
  ⟨some 39, .call .std 61 [(.tmp 38)], some (37, true)⟩,
  ⟨some 40, .arith .eql (.tmp 39) (.cst (.int .i64 0)), some (37, true)⟩,
  ⟨some 41, .pick (.tmp 37) (.tmp 40) (.cst (.bool false)), none⟩,
  ⟨some 42, .mov (.tmp 41), none⟩,
  ⟨some 43, .mov (.tmp 8), some (42, true)⟩,
  ⟨some 44, .call .std 62 [(.tmp 43)], some (42, true)⟩,
  ⟨some 45, .arith .eql (.tmp 44) (.cst (.int .i64 0)), some (42, true)⟩,
  ⟨some 46, .pick (.tmp 42) (.tmp 45) (.cst (.bool false)), none⟩,
  ⟨some 47, .mov (.tmp 46), none⟩,
  ⟨some 48, .call .pur 57 [], some (47, true)⟩,
  ⟨some 49, .pick (.tmp 47) (.tmp 48) (.cst (.bool false)), none⟩,
  ⟨some 4, .mov (.tmp 49), none⟩]
@[simp] theorem law11_WalNil_r3_go (T : Tbl) (K : List Kt) (fr : Fr) (S : St) : gval T (.ops law11_WalNil_r3 :: K) fr S = gval T (.ops [
  ⟨some 15, .mov (.tmp 5), none⟩,
  ⟨some 16, .eqn false .p (.tmp 15), none⟩,
  ⟨some 17, .mov (.tmp 16), none⟩,
  ⟨some 18, .mov (.tmp 6), some (17, true)⟩,
  ⟨some 19, .len false (.tmp 18), some (17, true)⟩,
  ⟨some 20, .arith .eql (.tmp 19) (.cst (.int .i64 0)), some (17, true)⟩,
  ⟨some 21, .pick (.tmp 17) (.tmp 20) (.cst (.bool false)), none⟩,
  ⟨some 22, .mov (.tmp 21), none⟩,
  ⟨some 23, .mov (.tmp 7), some (22, true)⟩,
  ⟨some 24, .arith .eql (.tmp 23) (.cst (.int .i64 1)), some (22, true)⟩,
  ⟨some 25, .pick (.tmp 22) (.tmp 24) (.cst (.bool false)), none⟩,
  ⟨some 26, .mov (.tmp 25), none⟩,
  ⟨some 27, .mov (.tmp 8), some (26, true)⟩,
  ⟨some 28, .load true 6 false (.tmp 3), some (26, true)⟩,
  ⟨some 29, .call .std 148 [(.tmp 27), (.tmp 28)], some (26, true)⟩,
  ⟨some 30, .arith .eql (.tmp 29) (.cst (.int .i64 1)), some (26, true)⟩,
  ⟨some 31, .pick (.tmp 26) (.tmp 30) (.cst (.bool false)), none⟩,
  ⟨some 32, .mov (.tmp 31), none⟩,
  ⟨some 33, .mov (.tmp 8), some (32, true)⟩,
  ⟨some 34, .call .std 150 [(.tmp 33)], some (32, true)⟩,
  ⟨some 35, .arith .eql (.tmp 34) (.cst (.int .i64 1)), some (32, true)⟩,
  ⟨some 36, .pick (.tmp 32) (.tmp 35) (.cst (.bool false)), none⟩,
  ⟨some 37, .mov (.tmp 36), none⟩,
  ⟨some 38, .mov (.tmp 8), some (37, true)⟩,
  ⟨some 39, .call .std 61 [(.tmp 38)], some (37, true)⟩,
  ⟨some 40, .arith .eql (.tmp 39) (.cst (.int .i64 0)), some (37, true)⟩,
  ⟨some 41, .pick (.tmp 37) (.tmp 40) (.cst (.bool false)), none⟩,
  ⟨some 42, .mov (.tmp 41), none⟩,
  ⟨some 43, .mov (.tmp 8), some (42, true)⟩,
  ⟨some 44, .call .std 62 [(.tmp 43)], some (42, true)⟩,
  ⟨some 45, .arith .eql (.tmp 44) (.cst (.int .i64 0)), some (42, true)⟩,
  ⟨some 46, .pick (.tmp 42) (.tmp 45) (.cst (.bool false)), none⟩,
  ⟨some 47, .mov (.tmp 46), none⟩,
  ⟨some 48, .call .pur 57 [], some (47, true)⟩,
  ⟨some 49, .pick (.tmp 47) (.tmp 48) (.cst (.bool false)), none⟩,
  ⟨some 4, .mov (.tmp 49), none⟩] :: K) fr S := rfl
def law11_WalNil : PCodeFn :=
  ⟨2, [.tmp 4],
  (.seq (.region law11_WalNil_r0) (.seq (.clr [(9, 15)] (.region law11_WalNil_r1)) (.seq (.region law11_WalNil_r2) (.seq (.clr [(15, 50)] (.region law11_WalNil_r3)) .ret)))), false⟩

/-! gauge/gaugelaw11.WalKeeps: 489 -/
def law11_WalKeeps_r0 : List POper := [
  ⟨some 2, .mov (.cst (.bool false)), none⟩]
@[simp] theorem law11_WalKeeps_r0_go (T : Tbl) (K : List Kt) (fr : Fr) (S : St) : gval T (.ops law11_WalKeeps_r0 :: K) fr S = gval T (.ops [
  ⟨some 2, .mov (.cst (.bool false)), none⟩] :: K) fr S := rfl
def law11_WalKeeps_r1 : List POper := [
  ⟨some 14, .call .std 490 [], none⟩,
  ⟨some 13, .mov (.tmp 14), none⟩,
  ⟨some 15, .extract 0 (.tmp 13), none⟩,
  ⟨some 16, .extract 1 (.tmp 13), none⟩,
  ⟨some 17, .extract 2 (.tmp 13), none⟩,
  ⟨some 3, .mov (.tmp 15), none⟩,
  ⟨some 4, .mov (.tmp 16), none⟩,
  ⟨some 5, .mov (.tmp 17), none⟩]
@[simp] theorem law11_WalKeeps_r1_go (T : Tbl) (K : List Kt) (fr : Fr) (S : St) : gval T (.ops law11_WalKeeps_r1 :: K) fr S = gval T (.ops [
  ⟨some 14, .call .std 490 [], none⟩,
  ⟨some 13, .mov (.tmp 14), none⟩,
  ⟨some 15, .extract 0 (.tmp 13), none⟩,
  ⟨some 16, .extract 1 (.tmp 13), none⟩,
  ⟨some 17, .extract 2 (.tmp 13), none⟩,
  ⟨some 3, .mov (.tmp 15), none⟩,
  ⟨some 4, .mov (.tmp 16), none⟩,
  ⟨some 5, .mov (.tmp 17), none⟩] :: K) fr S := rfl
def law11_WalKeeps_r2 : List POper := [
  ⟨some 18, .mov (.tmp 5), none⟩,
  ⟨some 19, .un .not (.tmp 18), none⟩]
@[simp] theorem law11_WalKeeps_r2_go (T : Tbl) (K : List Kt) (fr : Fr) (S : St) : gval T (.ops law11_WalKeeps_r2 :: K) fr S = gval T (.ops [
  ⟨some 18, .mov (.tmp 5), none⟩,
  ⟨some 19, .un .not (.tmp 18), none⟩] :: K) fr S := rfl
def law11_WalKeeps_r3 : List POper := [
  ⟨some 2, .mov (.cst (.bool false)), none⟩]
@[simp] theorem law11_WalKeeps_r3_go (T : Tbl) (K : List Kt) (fr : Fr) (S : St) : gval T (.ops law11_WalKeeps_r3 :: K) fr S = gval T (.ops [
  ⟨some 2, .mov (.cst (.bool false)), none⟩] :: K) fr S := rfl
def law11_WalKeeps_r4 : List POper := [
  ⟨some 6, .mov (.cst .nils), none⟩]
@[simp] theorem law11_WalKeeps_r4_go (T : Tbl) (K : List Kt) (fr : Fr) (S : St) : gval T (.ops law11_WalKeeps_r4 :: K) fr S = gval T (.ops [
  ⟨some 6, .mov (.cst .nils), none⟩] :: K) fr S := rfl
def law11_WalKeeps_r5 : List POper := [
  ⟨some 7, .mov (.cst (.int .i64 0)), none⟩]
@[simp] theorem law11_WalKeeps_r5_go (T : Tbl) (K : List Kt) (fr : Fr) (S : St) : gval T (.ops law11_WalKeeps_r5 :: K) fr S = gval T (.ops [
  ⟨some 7, .mov (.cst (.int .i64 0)), none⟩] :: K) fr S := rfl
def law11_WalKeeps_r6 : List POper := [
  ⟨some 8, .mov (.cst (.int .i64 0)), none⟩]
@[simp] theorem law11_WalKeeps_r6_go (T : Tbl) (K : List Kt) (fr : Fr) (S : St) : gval T (.ops law11_WalKeeps_r6 :: K) fr S = gval T (.ops [
  ⟨some 8, .mov (.cst (.int .i64 0)), none⟩] :: K) fr S := rfl
def law11_WalKeeps_r7 : List POper := [
  ⟨some 20, .mov (.tmp 8), none⟩,
  ⟨some 21, .mov (.tmp 0), none⟩,
  ⟨some 22, .len false (.tmp 21), none⟩,
  ⟨some 23, .arith .lss (.tmp 20) (.tmp 22), none⟩,
  ⟨some 24, .mov (.tmp 23), none⟩,
  ⟨some 25, .mov (.tmp 8), some (24, true)⟩,
  ⟨some 26, .arith .lss (.tmp 25) (.cst (.int .i64 40)), some (24, true)⟩,
  ⟨some 27, .pick (.tmp 24) (.tmp 26) (.cst (.bool false)), none⟩]
@[simp] theorem law11_WalKeeps_r7_go (T : Tbl) (K : List Kt) (fr : Fr) (S : St) : gval T (.ops law11_WalKeeps_r7 :: K) fr S = gval T (.ops [
  ⟨some 20, .mov (.tmp 8), none⟩,
  ⟨some 21, .mov (.tmp 0), none⟩,
  ⟨some 22, .len false (.tmp 21), none⟩,
  ⟨some 23, .arith .lss (.tmp 20) (.tmp 22), none⟩,
  ⟨some 24, .mov (.tmp 23), none⟩,
  ⟨some 25, .mov (.tmp 8), some (24, true)⟩,
  ⟨some 26, .arith .lss (.tmp 25) (.cst (.int .i64 40)), some (24, true)⟩,
  ⟨some 27, .pick (.tmp 24) (.tmp 26) (.cst (.bool false)), none⟩] :: K) fr S := rfl
def law11_WalKeeps_r9 : List POper := [
  ⟨some 30, .mov (.tmp 0), none⟩,
  ⟨some 31, .mov (.tmp 8), none⟩,
  ⟨some 32, .iaddr 10 (.tmp 30) (.tmp 31), none⟩,
  ⟨some 33, .load true 10 false (.tmp 32), none⟩,
  ⟨some 9, .alloc false [(.int .i64 0), (.int .i64 0), .nils, .nils, .nils, (.int .i64 0), (.int .i64 0), .nils, (.int .i64 0), .nils], none⟩,
  ⟨none, .store 10 (.tmp 9) (.tmp 33), none⟩]
@[simp] theorem law11_WalKeeps_r9_go (T : Tbl) (K : List Kt) (fr : Fr) (S : St) : gval T (.ops law11_WalKeeps_r9 :: K) fr S = gval T (.ops [
  ⟨some 30, .mov (.tmp 0), none⟩,
  ⟨some 31, .mov (.tmp 8), none⟩,
  ⟨some 32, .iaddr 10 (.tmp 30) (.tmp 31), none⟩,
  ⟨some 33, .load true 10 false (.tmp 32), none⟩,
  ⟨some 9, .alloc false [(.int .i64 0), (.int .i64 0), .nils, .nils, .nils, (.int .i64 0), (.int .i64 0), .nils, (.int .i64 0), .nils], none⟩,
  ⟨none, .store 10 (.tmp 9) (.tmp 33), none⟩] :: K) fr S := rfl
def law11_WalKeeps_r10 : List POper := [
  ⟨some 34, .faddr 0 (.tmp 9), none⟩,
  ⟨some 35, .load false 1 false (.tmp 34), none⟩]
@[simp] theorem law11_WalKeeps_r10_go (T : Tbl) (K : List Kt) (fr : Fr) (S : St) : gval T (.ops law11_WalKeeps_r10 :: K) fr S = gval T (.ops [
  ⟨some 34, .faddr 0 (.tmp 9), none⟩,
  ⟨some 35, .load false 1 false (.tmp 34), none⟩] :: K) fr S := rfl
def law11_WalKeeps_r11 : List POper := [
  ⟨some 37, .arith .eql (.tmp 35) (.cst (.int .i64 1)), none⟩,
  ⟨some 36, .mov (.tmp 37), none⟩]
@[simp] theorem law11_WalKeeps_r11_go (T : Tbl) (K : List Kt) (fr : Fr) (S : St) : gval T (.ops law11_WalKeeps_r11 :: K) fr S = gval T (.ops [
  ⟨some 37, .arith .eql (.tmp 35) (.cst (.int .i64 1)), none⟩,
  ⟨some 36, .mov (.tmp 37), none⟩] :: K) fr S := rfl
def law11_WalKeeps_r12 : List POper := [
  ⟨some 38, .mov (.tmp 4), none⟩,
  ⟨some 39, .faddr 1 (.tmp 9), none⟩,
  ⟨some 40, .load true 6 false (.tmp 39), none⟩,
  ⟨some 41, .call .std 149 [(.tmp 40)], none⟩,
  ⟨some 42, .call .std 148 [(.tmp 38), (.tmp 41)], none⟩,
  ⟨some 43, .arith .eql (.tmp 42) (.cst (.int .i64 0)), none⟩]
@[simp] theorem law11_WalKeeps_r12_go (T : Tbl) (K : List Kt) (fr : Fr) (S : St) : gval T (.ops law11_WalKeeps_r12 :: K) fr S = gval T (.ops [
  ⟨some 38, .mov (.tmp 4), none⟩,
  ⟨some 39, .faddr 1 (.tmp 9), none⟩,
  ⟨some 40, .load true 6 false (.tmp 39), none⟩,
  ⟨some 41, .call .std 149 [(.tmp 40)], none⟩,
  ⟨some 42, .call .std 148 [(.tmp 38), (.tmp 41)], none⟩,
  ⟨some 43, .arith .eql (.tmp 42) (.cst (.int .i64 0)), none⟩] :: K) fr S := rfl
def law11_WalKeeps_r13 : List POper := [
  ⟨some 44, .mov (.tmp 6), none⟩,
  ⟨some 45, .faddr 1 (.tmp 9), none⟩,
  ⟨some 46, .load true 6 false (.tmp 45), none⟩,
  ⟨some 47, .bsl false (.agg [(.int .i64 0), .nils, .nils, .nils, (.int .i64 0), (.int .i64 0)]) 1 [(0, (.tmp 46))], none⟩,
  ⟨some 48, .app 6 96 (.tmp 44) (.tmp 47), none⟩,
  ⟨some 6, .mov (.tmp 48), none⟩]
@[simp] theorem law11_WalKeeps_r13_go (T : Tbl) (K : List Kt) (fr : Fr) (S : St) : gval T (.ops law11_WalKeeps_r13 :: K) fr S = gval T (.ops [
  ⟨some 44, .mov (.tmp 6), none⟩,
  ⟨some 45, .faddr 1 (.tmp 9), none⟩,
  ⟨some 46, .load true 6 false (.tmp 45), none⟩,
  ⟨some 47, .bsl false (.agg [(.int .i64 0), .nils, .nils, .nils, (.int .i64 0), (.int .i64 0)]) 1 [(0, (.tmp 46))], none⟩,
  ⟨some 48, .app 6 96 (.tmp 44) (.tmp 47), none⟩,
  ⟨some 6, .mov (.tmp 48), none⟩] :: K) fr S := rfl
def law11_WalKeeps_r14 : List POper := [
  ⟨some 50, .arith .eql (.tmp 35) (.cst (.int .i64 2)), none⟩,
  ⟨some 49, .mov (.tmp 50), none⟩]
@[simp] theorem law11_WalKeeps_r14_go (T : Tbl) (K : List Kt) (fr : Fr) (S : St) : gval T (.ops law11_WalKeeps_r14 :: K) fr S = gval T (.ops [
  ⟨some 50, .arith .eql (.tmp 35) (.cst (.int .i64 2)), none⟩,
  ⟨some 49, .mov (.tmp 50), none⟩] :: K) fr S := rfl
def law11_WalKeeps_r15 : List POper := [
  ⟨some 51, .mov (.tmp 4), none⟩,
  ⟨some 52, .call .std 150 [(.tmp 51)], none⟩,
  ⟨some 53, .arith .eql (.tmp 52) (.cst (.int .i64 0)), none⟩]
@[simp] theorem law11_WalKeeps_r15_go (T : Tbl) (K : List Kt) (fr : Fr) (S : St) : gval T (.ops law11_WalKeeps_r15 :: K) fr S = gval T (.ops [
  ⟨some 51, .mov (.tmp 4), none⟩,
  ⟨some 52, .call .std 150 [(.tmp 51)], none⟩,
  ⟨some 53, .arith .eql (.tmp 52) (.cst (.int .i64 0)), none⟩] :: K) fr S := rfl
def law11_WalKeeps_r16 : List POper := [
  ⟨some 54, .mov (.tmp 6), none⟩,
  ⟨some 55, .len false (.tmp 54), none⟩,
  ⟨some 7, .mov (.tmp 55), none⟩]
@[simp] theorem law11_WalKeeps_r16_go (T : Tbl) (K : List Kt) (fr : Fr) (S : St) : gval T (.ops law11_WalKeeps_r16 :: K) fr S = gval T (.ops [
  ⟨some 54, .mov (.tmp 6), none⟩,
  ⟨some 55, .len false (.tmp 54), none⟩,
  ⟨some 7, .mov (.tmp 55), none⟩] :: K) fr S := rfl
def law11_WalKeeps_r17 : List POper := [
  ⟨some 57, .arith .eql (.tmp 35) (.cst (.int .i64 3)), none⟩,
  ⟨some 56, .mov (.tmp 57), none⟩]
@[simp] theorem law11_WalKeeps_r17_go (T : Tbl) (K : List Kt) (fr : Fr) (S : St) : gval T (.ops law11_WalKeeps_r17 :: K) fr S = gval T (.ops [
  ⟨some 57, .arith .eql (.tmp 35) (.cst (.int .i64 3)), none⟩,
  ⟨some 56, .mov (.tmp 57), none⟩] :: K) fr S := rfl
def law11_WalKeeps_r18 : List POper := [
  ⟨some 58, .mov (.tmp 3), none⟩,
  ⟨some 59, .faddr 8 (.tmp 9), none⟩,
  ⟨some 60, .load false 1 false (.tmp 59), none⟩,
  ⟨some 61, .faddr 9 (.tmp 9), none⟩,
  ⟨some 62, .load false 1 false (.tmp 61), none⟩,
  ⟨some 63, .call .std 80 [(.tmp 58), (.tmp 60), (.tmp 62)], none⟩,
  ⟨some 64, .arith .neq (.tmp 63) (.cst (.int .i64 0)), none⟩]
@[simp] theorem law11_WalKeeps_r18_go (T : Tbl) (K : List Kt) (fr : Fr) (S : St) : gval T (.ops law11_WalKeeps_r18 :: K) fr S = gval T (.ops [
  ⟨some 58, .mov (.tmp 3), none⟩,
  ⟨some 59, .faddr 8 (.tmp 9), none⟩,
  ⟨some 60, .load false 1 false (.tmp 59), none⟩,
  ⟨some 61, .faddr 9 (.tmp 9), none⟩,
  ⟨some 62, .load false 1 false (.tmp 61), none⟩,
  ⟨some 63, .call .std 80 [(.tmp 58), (.tmp 60), (.tmp 62)], none⟩,
  ⟨some 64, .arith .neq (.tmp 63) (.cst (.int .i64 0)), none⟩] :: K) fr S := rfl
def law11_WalKeeps_r19 : List POper := [
  ⟨some 2, .mov (.cst (.bool false)), none⟩]
@[simp] theorem law11_WalKeeps_r19_go (T : Tbl) (K : List Kt) (fr : Fr) (S : St) : gval T (.ops law11_WalKeeps_r19 :: K) fr S = gval T (.ops [
  ⟨some 2, .mov (.cst (.bool false)), none⟩] :: K) fr S := rfl
def law11_WalKeeps_r20 : List POper := [
  ⟨some 66, .mov (.tmp 3), none⟩,
  ⟨some 67, .call .std 144 [(.tmp 66), (.cst (.str [108, 111, 103]))], none⟩,
  ⟨some 65, .mov (.tmp 67), none⟩,
  ⟨some 68, .extract 0 (.tmp 65), none⟩,
  ⟨some 69, .extract 1 (.tmp 65), none⟩,
  ⟨some 70, .extract 2 (.tmp 65), none⟩,
  ⟨some 10, .mov (.tmp 68), none⟩,
  ⟨some 11, .mov (.tmp 69), none⟩,
  ⟨some 12, .mov (.tmp 70), none⟩]
@[simp] theorem law11_WalKeeps_r20_go (T : Tbl) (K : List Kt) (fr : Fr) (S : St) : gval T (.ops law11_WalKeeps_r20 :: K) fr S = gval T (.ops [
  ⟨some 66, .mov (.tmp 3), none⟩,
  ⟨some 67, .call .std 144 [(.tmp 66), (.cst (.str [108, 111, 103]))], none⟩,
  ⟨some 65, .mov (.tmp 67), none⟩,
  ⟨some 68, .extract 0 (.tmp 65), none⟩,
  ⟨some 69, .extract 1 (.tmp 65), none⟩,
  ⟨some 70, .extract 2 (.tmp 65), none⟩,
  ⟨some 10, .mov (.tmp 68), none⟩,
  ⟨some 11, .mov (.tmp 69), none⟩,
  ⟨some 12, .mov (.tmp 70), none⟩] :: K) fr S := rfl
def law11_WalKeeps_r21 : List POper := [
  ⟨some 71, .mov (.tmp 12), none⟩,
  ⟨some 72, .arith .neq (.tmp 71) (.cst (.int .i64 0)), none⟩,
  ⟨some 73, .mov (.tmp 72), none⟩,
  ⟨some 74, .mov (.tmp 10), some (73, false)⟩,
  ⟨some 75, .eqn false .p (.tmp 74), some (73, false)⟩,
  ⟨some 76, .pick (.tmp 73) (.cst (.bool true)) (.tmp 75), none⟩,
  ⟨some 77, .mov (.tmp 76), none⟩,
  ⟨some 78, .mov (.tmp 11), some (77, false)⟩,
  ⟨some 79, .len false (.tmp 78), some (77, false)⟩,
  ⟨some 80, .mov (.tmp 7), some (77, false)⟩,
  ⟨some 81, .arith .lss (.tmp 79) (.tmp 80), some (77, false)⟩,
  ⟨some 82, .pick (.tmp 77) (.cst (.bool true)) (.tmp 81), none⟩,
  ⟨some 83, .mov (.tmp 82), none⟩,
  ⟨some 84, .mov (.tmp 11), some (83, false)⟩,
  ⟨some 85, .len false (.tmp 84), some (83, false)⟩,
  ⟨some 86, .mov (.tmp 6), some (83, false)⟩,
  ⟨some 87, .len false (.tmp 86), some (83, false)⟩,
  ⟨some 88, .arith .gtr (.tmp 85) (.tmp 87), some (83, false)⟩,
  ⟨some 89, .pick (.tmp 83) (.cst (.bool true)) (.tmp 88), none⟩,
  ⟨some 90, .mov (.tmp 89), none⟩,
  ⟨some 91, .mov (.tmp 11), some (90, false)⟩,
  ⟨some 92, .mov (.tmp 6), some (90, false)⟩,
  ⟨some 93, .mov (.tmp 11), some (90, false)⟩,
  ⟨some 94, .len false (.tmp 93), some (90, false)⟩,
  ⟨some 95, .slc 6 none (some (.tmp 94)) (.tmp 92), some (90, false)⟩,
  ⟨some 96, .call .std 146 [(.tmp 91), (.tmp 95)], some (90, false)⟩,
  ⟨some 97, .un .not (.tmp 96), some (90, false)⟩,
  ⟨some 98, .pick (.tmp 90) (.cst (.bool true)) (.tmp 97), none⟩]
@[simp] theorem law11_WalKeeps_r21_go (T : Tbl) (K : List Kt) (fr : Fr) (S : St) : gval T (.ops law11_WalKeeps_r21 :: K) fr S = gval T (.ops [
  ⟨some 71, .mov (.tmp 12), none⟩,
  ⟨some 72, .arith .neq (.tmp 71) (.cst (.int .i64 0)), none⟩,
  ⟨some 73, .mov (.tmp 72), none⟩,
  ⟨some 74, .mov (.tmp 10), some (73, false)⟩,
  ⟨some 75, .eqn false .p (.tmp 74), some (73, false)⟩,
  ⟨some 76, .pick (.tmp 73) (.cst (.bool true)) (.tmp 75), none⟩,
  ⟨some 77, .mov (.tmp 76), none⟩,
  ⟨some 78, .mov (.tmp 11), some (77, false)⟩,
  ⟨some 79, .len false (.tmp 78), some (77, false)⟩,
  ⟨some 80, .mov (.tmp 7), some (77, false)⟩,
  ⟨some 81, .arith .lss (.tmp 79) (.tmp 80), some (77, false)⟩,
  ⟨some 82, .pick (.tmp 77) (.cst (.bool true)) (.tmp 81), none⟩,
  ⟨some 83, .mov (.tmp 82), none⟩,
  ⟨some 84, .mov (.tmp 11), some (83, false)⟩,
  ⟨some 85, .len false (.tmp 84), some (83, false)⟩,
  ⟨some 86, .mov (.tmp 6), some (83, false)⟩,
  ⟨some 87, .len false (.tmp 86), some (83, false)⟩,
  ⟨some 88, .arith .gtr (.tmp 85) (.tmp 87), some (83, false)⟩,
  ⟨some 89, .pick (.tmp 83) (.cst (.bool true)) (.tmp 88), none⟩,
  ⟨some 90, .mov (.tmp 89), none⟩,
  ⟨some 91, .mov (.tmp 11), some (90, false)⟩,
  ⟨some 92, .mov (.tmp 6), some (90, false)⟩,
  ⟨some 93, .mov (.tmp 11), some (90, false)⟩,
  ⟨some 94, .len false (.tmp 93), some (90, false)⟩,
  ⟨some 95, .slc 6 none (some (.tmp 94)) (.tmp 92), some (90, false)⟩,
  ⟨some 96, .call .std 146 [(.tmp 91), (.tmp 95)], some (90, false)⟩,
  ⟨some 97, .un .not (.tmp 96), some (90, false)⟩,
  ⟨some 98, .pick (.tmp 90) (.cst (.bool true)) (.tmp 97), none⟩] :: K) fr S := rfl
def law11_WalKeeps_r22 : List POper := [
  ⟨some 2, .mov (.cst (.bool false)), none⟩]
@[simp] theorem law11_WalKeeps_r22_go (T : Tbl) (K : List Kt) (fr : Fr) (S : St) : gval T (.ops law11_WalKeeps_r22 :: K) fr S = gval T (.ops [
  ⟨some 2, .mov (.cst (.bool false)), none⟩] :: K) fr S := rfl
def law11_WalKeeps_r23 : List POper := [
  ⟨some 99, .mov (.tmp 10), none⟩,
  ⟨some 100, .mov (.tmp 11), none⟩,
  ⟨some 101, .mov (.tmp 11), none⟩,
  ⟨some 102, .len false (.tmp 101), none⟩,
  ⟨some 4, .mov (.tmp 99), none⟩,
  ⟨some 6, .mov (.tmp 100), none⟩,
  ⟨some 7, .mov (.tmp 102), none⟩]
@[simp] theorem law11_WalKeeps_r23_go (T : Tbl) (K : List Kt) (fr : Fr) (S : St) : gval T (.ops law11_WalKeeps_r23 :: K) fr S = gval T (.ops [
  ⟨some 99, .mov (.tmp 10), none⟩,
  ⟨some 100, .mov (.tmp 11), none⟩,
  ⟨some 101, .mov (.tmp 11), none⟩,
  ⟨some 102, .len false (.tmp 101), none⟩,
  ⟨some 4, .mov (.tmp 99), none⟩,
  ⟨some 6, .mov (.tmp 100), none⟩,
  ⟨some 7, .mov (.tmp 102), none⟩] :: K) fr S := rfl
def law11_WalKeeps_r24 : List POper := [
  ⟨some 104, .arith .eql (.tmp 35) (.cst (.int .i64 4)), none⟩,
  ⟨some 103, .mov (.tmp 104), none⟩]
@[simp] theorem law11_WalKeeps_r24_go (T : Tbl) (K : List Kt) (fr : Fr) (S : St) : gval T (.ops law11_WalKeeps_r24 :: K) fr S = gval T (.ops [
  ⟨some 104, .arith .eql (.tmp 35) (.cst (.int .i64 4)), none⟩,
  ⟨some 103, .mov (.tmp 104), none⟩] :: K) fr S := rfl
def law11_WalKeeps_r25 : List POper := [
  ⟨some 105, .mov (.tmp 3), none⟩,
  ⟨some 106, .faddr 8 (.tmp 9), none⟩,
  ⟨some 107, .load false 1 false (.tmp 106), none⟩,
  ⟨some 108, .call .std 85 [(.tmp 105), (.tmp 107)], none⟩]
@[simp] theorem law11_WalKeeps_r25_go (T : Tbl) (K : List Kt) (fr : Fr) (S : St) : gval T (.ops law11_WalKeeps_r25 :: K) fr S = gval T (.ops [
  ⟨some 105, .mov (.tmp 3), none⟩,
  ⟨some 106, .faddr 8 (.tmp 9), none⟩,
  ⟨some 107, .load false 1 false (.tmp 106), none⟩,
  ⟨some 108, .call .std 85 [(.tmp 105), (.tmp 107)], none⟩] :: K) fr S := rfl
def law11_WalKeeps_r8 : List POper := [
  ⟨some 28, .mov (.tmp 8), none⟩,
  ⟨some 29, .arith .add (.tmp 28) (.cst (.int .i64 1)), none⟩,
  ⟨some 8, .mov (.tmp 29), none⟩]
@[simp] theorem law11_WalKeeps_r8_go (T : Tbl) (K : List Kt) (fr : Fr) (S : St) : gval T (.ops law11_WalKeeps_r8 :: K) fr S = gval T (.ops [
  ⟨some 28, .mov (.tmp 8), none⟩,
  ⟨some 29, .arith .add (.tmp 28) (.cst (.int .i64 1)), none⟩,
  ⟨some 8, .mov (.tmp 29), none⟩] :: K) fr S := rfl
def law11_WalKeeps_l0 : PCode :=
  (.seq (.seq (.clr [(20, 27)] (.region law11_WalKeeps_r7)) (.cond (.tmp 27) .skip (.exit 0))) (.seq (.block 1 (.seq (.clr [(30, 34)] (.region law11_WalKeeps_r9)) (.seq (.clr [(34, 35)] (.region law11_WalKeeps_r10)) (.block 2 (.seq (.clr [(37, 38)] (.region law11_WalKeeps_r11)) (.cond (.tmp 36) (.seq (.clr [(38, 43)] (.region law11_WalKeeps_r12)) (.cond (.tmp 43) (.clr [(44, 49)] (.region law11_WalKeeps_r13)) .skip)) (.seq (.clr [(50, 51)] (.region law11_WalKeeps_r14)) (.cond (.tmp 49) (.seq (.clr [(51, 53)] (.region law11_WalKeeps_r15)) (.cond (.tmp 53) (.clr [(54, 56)] (.region law11_WalKeeps_r16)) .skip)) (.seq (.clr [(57, 58)] (.region law11_WalKeeps_r17)) (.cond (.tmp 56) (.seq (.seq (.clr [(58, 64)] (.region law11_WalKeeps_r18)) (.cond (.tmp 64) (.seq (.region law11_WalKeeps_r19) .ret) .skip)) (.seq (.clr [(65, 71)] (.region law11_WalKeeps_r20)) (.seq (.seq (.clr [(71, 98)] (.region law11_WalKeeps_r21)) (.cond (.tmp 98) (.seq (.region law11_WalKeeps_r22) .ret) .skip)) (.clr [(99, 103)] (.region law11_WalKeeps_r23))))) (.seq (.clr [(104, 105)] (.region law11_WalKeeps_r24)) (.cond (.tmp 103) (.clr [(105, 109)] (.region law11_WalKeeps_r25)) .skip)))))))))))) (.clr [(28, 30)] (.region law11_WalKeeps_r8))))
@[simp] theorem law11_WalKeeps_l0_go (T : Tbl) (K : List Kt) (fr : Fr) (S : St) : gval T (.code law11_WalKeeps_l0 :: K) fr S = gval T (.code (.seq (.seq (.clr [(20, 27)] (.region law11_WalKeeps_r7)) (.cond (.tmp 27) .skip (.exit 0))) (.seq (.block 1 (.seq (.clr [(30, 34)] (.region law11_WalKeeps_r9)) (.seq (.clr [(34, 35)] (.region law11_WalKeeps_r10)) (.block 2 (.seq (.clr [(37, 38)] (.region law11_WalKeeps_r11)) (.cond (.tmp 36) (.seq (.clr [(38, 43)] (.region law11_WalKeeps_r12)) (.cond (.tmp 43) (.clr [(44, 49)] (.region law11_WalKeeps_r13)) .skip)) (.seq (.clr [(50, 51)] (.region law11_WalKeeps_r14)) (.cond (.tmp 49) (.seq (.clr [(51, 53)] (.region law11_WalKeeps_r15)) (.cond (.tmp 53) (.clr [(54, 56)] (.region law11_WalKeeps_r16)) .skip)) (.seq (.clr [(57, 58)] (.region law11_WalKeeps_r17)) (.cond (.tmp 56) (.seq (.seq (.clr [(58, 64)] (.region law11_WalKeeps_r18)) (.cond (.tmp 64) (.seq (.region law11_WalKeeps_r19) .ret) .skip)) (.seq (.clr [(65, 71)] (.region law11_WalKeeps_r20)) (.seq (.seq (.clr [(71, 98)] (.region law11_WalKeeps_r21)) (.cond (.tmp 98) (.seq (.region law11_WalKeeps_r22) .ret) .skip)) (.clr [(99, 103)] (.region law11_WalKeeps_r23))))) (.seq (.clr [(104, 105)] (.region law11_WalKeeps_r24)) (.cond (.tmp 103) (.clr [(105, 109)] (.region law11_WalKeeps_r25)) .skip)))))))))))) (.clr [(28, 30)] (.region law11_WalKeeps_r8)))) :: K) fr S := rfl
def law11_WalKeeps_r26 : List POper := [
  ⟨some 109, .mov (.tmp 4), none⟩,
  ⟨some 110, .call .std 61 [(.tmp 109)], none⟩,
  ⟨some 111, .mov (.tmp 6), none⟩,
  ⟨some 112, .len false (.tmp 111), none⟩,
  ⟨some 113, .arith .eql (.tmp 110) (.tmp 112), none⟩,
  ⟨some 114, .mov (.tmp 113), none⟩,
  ⟨some 115, .call .pur 57 [], some (114, true)⟩,
  ⟨some 116, .pick (.tmp 114) (.tmp 115) (.cst (.bool false)), none⟩,
  ⟨some 2, .mov (.tmp 116), none⟩]
@[simp] theorem law11_WalKeeps_r26_go (T : Tbl) (K : List Kt) (fr : Fr) (S : St) : gval T (.ops law11_WalKeeps_r26 :: K) fr S = gval T (.ops [
  ⟨some 109, .mov (.tmp 4), none⟩,
  ⟨some 110, .call .std 61 [(.tmp 109)], none⟩,
  ⟨some 111, .mov (.tmp 6), none⟩,
  ⟨some 112, .len false (.tmp 111), none⟩,
  ⟨some 113, .arith .eql (.tmp 110) (.tmp 112), none⟩,
  ⟨some 114, .mov (.tmp 113), none⟩,
  ⟨some 115, .call .pur 57 [], some (114, true)⟩,
  ⟨some 116, .pick (.tmp 114) (.tmp 115) (.cst (.bool false)), none⟩,
  ⟨some 2, .mov (.tmp 116), none⟩] :: K) fr S := rfl
def law11_WalKeeps : PCodeFn :=
  ⟨1, [.tmp 2],
  (.seq (.region law11_WalKeeps_r0) (.seq (.clr [(13, 18)] (.region law11_WalKeeps_r1)) (.seq (.seq (.clr [(18, 19)] (.region law11_WalKeeps_r2)) (.cond (.tmp 19) (.seq (.region law11_WalKeeps_r3) .ret) .skip)) (.seq (.region law11_WalKeeps_r4) (.seq (.region law11_WalKeeps_r5) (.seq (.seq (.region law11_WalKeeps_r6) (.block 0 (.loop law11_WalKeeps_l0))) (.seq (.clr [(109, 117)] (.region law11_WalKeeps_r26)) .ret))))))), false⟩

/-! gauge/gaugelaw11.own: 149 -/
def law11_own_r0 : List POper := [
  ⟨some 1, .box false (.tmp 0), none⟩,
  ⟨some 2, .alloc false [(.int .i64 0), .nils, .nils, .nils, (.int .i64 0), (.int .i64 0)], none⟩]
@[simp] theorem law11_own_r0_go (T : Tbl) (K : List Kt) (fr : Fr) (S : St) : gval T (.ops law11_own_r0 :: K) fr S = gval T (.ops [
  ⟨some 1, .box false (.tmp 0), none⟩,
  ⟨some 2, .alloc false [(.int .i64 0), .nils, .nils, .nils, (.int .i64 0), (.int .i64 0)], none⟩] :: K) fr S := rfl
def law11_own_r1 : List POper := [
  ⟨some 3, .bsl false (.agg [(.str []), (.str [])]) 0 [], none⟩,
  ⟨some 4, .faddr 1 (.tmp 1), none⟩,
  ⟨some 5, .load false 1 false (.tmp 4), none⟩,
  ⟨some 6, .app 2 32 (.tmp 3) (.tmp 5), none⟩,
  ⟨some 7, .faddr 1 (.tmp 1), none⟩,
  ⟨none, .store 1 (.tmp 7) (.tmp 6), none⟩]
@[simp] theorem law11_own_r1_go (T : Tbl) (K : List Kt) (fr : Fr) (S : St) : gval T (.ops law11_own_r1 :: K) fr S = gval T (.ops [
  ⟨some 3, .bsl false (.agg [(.str []), (.str [])]) 0 [], none⟩,
  ⟨some 4, .faddr 1 (.tmp 1), none⟩,
  ⟨some 5, .load false 1 false (.tmp 4), none⟩,
  ⟨some 6, .app 2 32 (.tmp 3) (.tmp 5), none⟩,
  ⟨some 7, .faddr 1 (.tmp 1), none⟩,
  ⟨none, .store 1 (.tmp 7) (.tmp 6), none⟩] :: K) fr S := rfl
def law11_own_r2 : List POper := [
  ⟨some 8, .bsl false (.agg [(.int .i64 0), (.int .i64 0), (.int .i64 0)]) 0 [], none⟩,
  ⟨some 9, .faddr 2 (.tmp 1), none⟩,
  ⟨some 10, .load false 1 false (.tmp 9), none⟩,
  ⟨some 11, .app 3 24 (.tmp 8) (.tmp 10), none⟩,
  ⟨some 12, .faddr 2 (.tmp 1), none⟩,
  ⟨none, .store 1 (.tmp 12) (.tmp 11), none⟩]
@[simp] theorem law11_own_r2_go (T : Tbl) (K : List Kt) (fr : Fr) (S : St) : gval T (.ops law11_own_r2 :: K) fr S = gval T (.ops [
  ⟨some 8, .bsl false (.agg [(.int .i64 0), (.int .i64 0), (.int .i64 0)]) 0 [], none⟩,
  ⟨some 9, .faddr 2 (.tmp 1), none⟩,
  ⟨some 10, .load false 1 false (.tmp 9), none⟩,
  ⟨some 11, .app 3 24 (.tmp 8) (.tmp 10), none⟩,
  ⟨some 12, .faddr 2 (.tmp 1), none⟩,
  ⟨none, .store 1 (.tmp 12) (.tmp 11), none⟩] :: K) fr S := rfl
def law11_own_r3 : List POper := [
  ⟨some 13, .bsl false (.int .i64 0) 0 [], none⟩,
  ⟨some 14, .faddr 3 (.tmp 1), none⟩,
  ⟨some 15, .load false 1 false (.tmp 14), none⟩,
  ⟨some 16, .app 1 8 (.tmp 13) (.tmp 15), none⟩,
  ⟨some 17, .faddr 3 (.tmp 1), none⟩,
  ⟨none, .store 1 (.tmp 17) (.tmp 16), none⟩]
@[simp] theorem law11_own_r3_go (T : Tbl) (K : List Kt) (fr : Fr) (S : St) : gval T (.ops law11_own_r3 :: K) fr S = gval T (.ops [
  ⟨some 13, .bsl false (.int .i64 0) 0 [], none⟩,
  ⟨some 14, .faddr 3 (.tmp 1), none⟩,
  ⟨some 15, .load false 1 false (.tmp 14), none⟩,
  ⟨some 16, .app 1 8 (.tmp 13) (.tmp 15), none⟩,
  ⟨some 17, .faddr 3 (.tmp 1), none⟩,
  ⟨none, .store 1 (.tmp 17) (.tmp 16), none⟩] :: K) fr S := rfl
def law11_own_r4 : List POper := [
  ⟨some 18, .load true 6 false (.tmp 1), none⟩,
  ⟨none, .store 6 (.tmp 2) (.tmp 18), none⟩]
@[simp] theorem law11_own_r4_go (T : Tbl) (K : List Kt) (fr : Fr) (S : St) : gval T (.ops law11_own_r4 :: K) fr S = gval T (.ops [
  ⟨some 18, .load true 6 false (.tmp 1), none⟩,
  ⟨none, .store 6 (.tmp 2) (.tmp 18), none⟩] :: K) fr S := rfl
def law11_own : PCodeFn :=
  ⟨1, [.cell 2 true 6],
  (.seq (.region law11_own_r0) (.seq (.clr [(3, 8)] (.region law11_own_r1)) (.seq (.clr [(8, 13)] (.region law11_own_r2)) (.seq (.clr [(13, 18)] (.region law11_own_r3)) (.seq (.clr [(18, 19)] (.region law11_own_r4)) .ret))))), false⟩

/-! gauge/wal.Bytes: 142 -/
def wal_Bytes_r0 : List POper := [
  ⟨some 1, .box true (.tmp 0), none⟩,
  ⟨some 2, .mov (.cst .nils), none⟩,
  ⟨some 3, .mov (.cst (.int .i64 0)), none⟩]
@[simp] theorem wal_Bytes_r0_go (T : Tbl) (K : List Kt) (fr : Fr) (S : St) : gval T (.ops wal_Bytes_r0 :: K) fr S = gval T (.ops [
  ⟨some 1, .box true (.tmp 0), none⟩,
  ⟨some 2, .mov (.cst .nils), none⟩,
  ⟨some 3, .mov (.cst (.int .i64 0)), none⟩] :: K) fr S := rfl
def wal_Bytes_r1 : List POper := [
  ⟨some 10, .load true 6 false (.tmp 1), none⟩,
  ⟨some 11, .call .std 179 [(.tmp 10)], none⟩,
  ⟨some 4, .mov (.tmp 11), none⟩]
@[simp] theorem wal_Bytes_r1_go (T : Tbl) (K : List Kt) (fr : Fr) (S : St) : gval T (.ops wal_Bytes_r1 :: K) fr S = gval T (.ops [
  ⟨some 10, .load true 6 false (.tmp 1), none⟩,
  ⟨some 11, .call .std 179 [(.tmp 10)], none⟩,
  ⟨some 4, .mov (.tmp 11), none⟩] :: K) fr S := rfl
def wal_Bytes_r2 : List POper := [
  ⟨some 12, .mov (.tmp 4), none⟩,
  ⟨some 13, .arith .neq (.tmp 12) (.cst (.int .i64 0)), none⟩]
@[simp] theorem wal_Bytes_r2_go (T : Tbl) (K : List Kt) (fr : Fr) (S : St) : gval T (.ops wal_Bytes_r2 :: K) fr S = gval T (.ops [
  ⟨some 12, .mov (.tmp 4), none⟩,
  ⟨some 13, .arith .neq (.tmp 12) (.cst (.int .i64 0)), none⟩] :: K) fr S := rfl
def wal_Bytes_r3 : List POper := [
  ⟨some 14, .mov (.tmp 4), none⟩,
  ⟨some 2, .mov (.cst .nils), none⟩,
  ⟨some 3, .mov (.tmp 14), none⟩]
@[simp] theorem wal_Bytes_r3_go (T : Tbl) (K : List Kt) (fr : Fr) (S : St) : gval T (.ops wal_Bytes_r3 :: K) fr S = gval T (.ops [
  ⟨some 14, .mov (.tmp 4), none⟩,
  ⟨some 2, .mov (.cst .nils), none⟩,
  ⟨some 3, .mov (.tmp 14), none⟩] :: K) fr S := rfl
def wal_Bytes_r4 : List POper := [
  ⟨some 16, .faddr 0 (.tmp 1), none⟩,
  ⟨some 17, .load false 1 false (.tmp 16), none⟩,
  ⟨some 18, .call .std 107 [(.cst .nils), (.tmp 17)], none⟩,
  ⟨some 15, .mov (.tmp 18), none⟩,
  ⟨some 19, .extract 0 (.tmp 15), none⟩,
  ⟨some 20, .extract 1 (.tmp 15), none⟩,
  ⟨some 5, .alloc false [.nils], none⟩,
  ⟨none, .store 1 (.tmp 5) (.tmp 19), none⟩,
  ⟨some 6, .mov (.tmp 20), none⟩]
@[simp] theorem wal_Bytes_r4_go (T : Tbl) (K : List Kt) (fr : Fr) (S : St) : gval T (.ops wal_Bytes_r4 :: K) fr S = gval T (.ops [
  ⟨some 16, .faddr 0 (.tmp 1), none⟩,
  ⟨some 17, .load false 1 false (.tmp 16), none⟩,
  ⟨some 18, .call .std 107 [(.cst .nils), (.tmp 17)], none⟩,
  ⟨some 15, .mov (.tmp 18), none⟩,
  ⟨some 19, .extract 0 (.tmp 15), none⟩,
  ⟨some 20, .extract 1 (.tmp 15), none⟩,
  ⟨some 5, .alloc false [.nils], none⟩,
  ⟨none, .store 1 (.tmp 5) (.tmp 19), none⟩,
  ⟨some 6, .mov (.tmp 20), none⟩] :: K) fr S := rfl
def wal_Bytes_r5 : List POper := [
  ⟨some 21, .mkfn 240 [(.tmp 5)], none⟩,
  ⟨some 7, .mov (.tmp 21), none⟩]
@[simp] theorem wal_Bytes_r5_go (T : Tbl) (K : List Kt) (fr : Fr) (S : St) : gval T (.ops wal_Bytes_r5 :: K) fr S = gval T (.ops [
  ⟨some 21, .mkfn 240 [(.tmp 5)], none⟩,
  ⟨some 7, .mov (.tmp 21), none⟩] :: K) fr S := rfl
def wal_Bytes_r6 : List POper := [
  ⟨some 22, .faddr 0 (.tmp 1), none⟩,
  ⟨some 23, .load false 1 false (.tmp 22), none⟩]
@[simp] theorem wal_Bytes_r6_go (T : Tbl) (K : List Kt) (fr : Fr) (S : St) : gval T (.ops wal_Bytes_r6 :: K) fr S = gval T (.ops [
  ⟨some 22, .faddr 0 (.tmp 1), none⟩,
  ⟨some 23, .load false 1 false (.tmp 22), none⟩] :: K) fr S := rfl
def wal_Bytes_r9 : List POper := [
  ⟨some 39, .arith .eql (.tmp 23) (.cst (.int .i64 1)), none⟩,
  ⟨some 38, .mov (.tmp 39), none⟩]
@[simp] theorem wal_Bytes_r9_go (T : Tbl) (K : List Kt) (fr : Fr) (S : St) : gval T (.ops wal_Bytes_r9 :: K) fr S = gval T (.ops [
  ⟨some 39, .arith .eql (.tmp 23) (.cst (.int .i64 1)), none⟩,
  ⟨some 38, .mov (.tmp 39), none⟩] :: K) fr S := rfl
def wal_Bytes_r10 : List POper := [
  ⟨some 41, .load false 1 false (.tmp 5), none⟩,
  ⟨some 42, .faddr 1 (.tmp 1), none⟩,
  ⟨some 43, .load false 1 false (.tmp 42), none⟩,
  ⟨some 44, .call .std 29 [(.tmp 41), (.tmp 43)], none⟩,
  ⟨some 40, .mov (.tmp 44), none⟩,
  ⟨some 45, .extract 0 (.tmp 40), none⟩,
  ⟨some 46, .extract 1 (.tmp 40), none⟩,
  ⟨none, .store 1 (.tmp 5) (.tmp 45), none⟩]
@[simp] theorem wal_Bytes_r10_go (T : Tbl) (K : List Kt) (fr : Fr) (S : St) : gval T (.ops wal_Bytes_r10 :: K) fr S = gval T (.ops [
  ⟨some 41, .load false 1 false (.tmp 5), none⟩,
  ⟨some 42, .faddr 1 (.tmp 1), none⟩,
  ⟨some 43, .load false 1 false (.tmp 42), none⟩,
  ⟨some 44, .call .std 29 [(.tmp 41), (.tmp 43)], none⟩,
  ⟨some 40, .mov (.tmp 44), none⟩,
  ⟨some 45, .extract 0 (.tmp 40), none⟩,
  ⟨some 46, .extract 1 (.tmp 40), none⟩,
  ⟨none, .store 1 (.tmp 5) (.tmp 45), none⟩] :: K) fr S := rfl
def wal_Bytes_r11 : List POper := [
  ⟨some 48, .arith .eql (.tmp 23) (.cst (.int .i64 2)), none⟩,
  ⟨some 47, .mov (.tmp 48), none⟩]
@[simp] theorem wal_Bytes_r11_go (T : Tbl) (K : List Kt) (fr : Fr) (S : St) : gval T (.ops wal_Bytes_r11 :: K) fr S = gval T (.ops [
  ⟨some 48, .arith .eql (.tmp 23) (.cst (.int .i64 2)), none⟩,
  ⟨some 47, .mov (.tmp 48), none⟩] :: K) fr S := rfl
def wal_Bytes_r12 : List POper := [
  ⟨some 49, .mov (.tmp 7), none⟩,
  ⟨some 50, .faddr 2 (.tmp 1), none⟩,
  ⟨some 51, .load false 1 false (.tmp 50), none⟩,
  ⟨some 52, .len false (.tmp 51), none⟩,
  ⟨some 53, .bsl false (.int .i64 0) 1 [(0, (.tmp 52))], none⟩,
  ⟨some 54, .callv .std (.tmp 49) [(.tmp 53)], none⟩]
@[simp] theorem wal_Bytes_r12_go (T : Tbl) (K : List Kt) (fr : Fr) (S : St) : gval T (.ops wal_Bytes_r12 :: K) fr S = gval T (.ops [
  ⟨some 49, .mov (.tmp 7), none⟩,
  ⟨some 50, .faddr 2 (.tmp 1), none⟩,
  ⟨some 51, .load false 1 false (.tmp 50), none⟩,
  ⟨some 52, .len false (.tmp 51), none⟩,
  ⟨some 53, .bsl false (.int .i64 0) 1 [(0, (.tmp 52))], none⟩,
  ⟨some 54, .callv .std (.tmp 49) [(.tmp 53)], none⟩] :: K) fr S := rfl
def wal_Bytes_r13 : List POper := [
  ⟨some 55, .faddr 2 (.tmp 1), none⟩,
  ⟨some 56, .load false 1 false (.tmp 55), none⟩,
  ⟨some 57, .len false (.tmp 56), none⟩,
  ⟨some 58, .mov (.cst (.int .i64 0)), none⟩]
@[simp] theorem wal_Bytes_r13_go (T : Tbl) (K : List Kt) (fr : Fr) (S : St) : gval T (.ops wal_Bytes_r13 :: K) fr S = gval T (.ops [
  ⟨some 55, .faddr 2 (.tmp 1), none⟩,
  ⟨some 56, .load false 1 false (.tmp 55), none⟩,
  ⟨some 57, .len false (.tmp 56), none⟩,
  ⟨some 58, .mov (.cst (.int .i64 0)), none⟩] :: K) fr S := rfl
def wal_Bytes_r14 : List POper := [
  ⟨some 59, .arith .lss (.tmp 58) (.tmp 57), none⟩]
@[simp] theorem wal_Bytes_r14_go (T : Tbl) (K : List Kt) (fr : Fr) (S : St) : gval T (.ops wal_Bytes_r14 :: K) fr S = gval T (.ops [
  ⟨some 59, .arith .lss (.tmp 58) (.tmp 57), none⟩] :: K) fr S := rfl
def wal_Bytes_r15 : List POper := [
  ⟨some 60, .iaddr 3 (.tmp 56) (.tmp 58), none⟩,
  ⟨some 61, .load true 3 false (.tmp 60), none⟩,
  ⟨some 9, .alloc false [(.int .i64 0), (.int .i64 0), (.int .i64 0)], none⟩,
  ⟨none, .store 3 (.tmp 9) (.tmp 61), none⟩]
@[simp] theorem wal_Bytes_r15_go (T : Tbl) (K : List Kt) (fr : Fr) (S : St) : gval T (.ops wal_Bytes_r15 :: K) fr S = gval T (.ops [
  ⟨some 60, .iaddr 3 (.tmp 56) (.tmp 58), none⟩,
  ⟨some 61, .load true 3 false (.tmp 60), none⟩,
  ⟨some 9, .alloc false [(.int .i64 0), (.int .i64 0), (.int .i64 0)], none⟩,
  ⟨none, .store 3 (.tmp 9) (.tmp 61), none⟩] :: K) fr S := rfl
def wal_Bytes_r16 : List POper := [
  ⟨some 62, .mov (.tmp 7), none⟩,
  ⟨some 63, .faddr 0 (.tmp 9), none⟩,
  ⟨some 64, .load false 1 false (.tmp 63), none⟩,
  ⟨some 65, .faddr 1 (.tmp 9), none⟩,
  ⟨some 66, .faddr 0 (.tmp 65), none⟩,
  ⟨some 67, .load false 1 false (.tmp 66), none⟩,
  ⟨some 68, .faddr 1 (.tmp 9), none⟩,
  ⟨some 69, .faddr 1 (.tmp 68), none⟩,
  ⟨some 70, .load false 1 false (.tmp 69), none⟩,
  ⟨some 71, .call .pur 241 [(.tmp 70)], none⟩,
  ⟨some 72, .bsl false (.int .i64 0) 3 [(0, (.tmp 64)), (1, (.tmp 67)), (2, (.tmp 71))], none⟩,
  ⟨some 73, .callv .std (.tmp 62) [(.tmp 72)], none⟩]
@[simp] theorem wal_Bytes_r16_go (T : Tbl) (K : List Kt) (fr : Fr) (S : St) : gval T (.ops wal_Bytes_r16 :: K) fr S = gval T (.ops [
  ⟨some 62, .mov (.tmp 7), none⟩,
  ⟨some 63, .faddr 0 (.tmp 9), none⟩,
  ⟨some 64, .load false 1 false (.tmp 63), none⟩,
  ⟨some 65, .faddr 1 (.tmp 9), none⟩,
  ⟨some 66, .faddr 0 (.tmp 65), none⟩,
  ⟨some 67, .load false 1 false (.tmp 66), none⟩,
  ⟨some 68, .faddr 1 (.tmp 9), none⟩,
  ⟨some 69, .faddr 1 (.tmp 68), none⟩,
  ⟨some 70, .load false 1 false (.tmp 69), none⟩,
  ⟨some 71, .call .pur 241 [(.tmp 70)], none⟩,
  ⟨some 72, .bsl false (.int .i64 0) 3 [(0, (.tmp 64)), (1, (.tmp 67)), (2, (.tmp 71))], none⟩,
  ⟨some 73, .callv .std (.tmp 62) [(.tmp 72)], none⟩] :: K) fr S := rfl
def wal_Bytes_r17 : List POper := [
  ⟨some 74, .arith .add (.tmp 58) (.cst (.int .i64 1)), none⟩,
  ⟨some 58, .mov (.tmp 74), none⟩]
@[simp] theorem wal_Bytes_r17_go (T : Tbl) (K : List Kt) (fr : Fr) (S : St) : gval T (.ops wal_Bytes_r17 :: K) fr S = gval T (.ops [
  ⟨some 74, .arith .add (.tmp 58) (.cst (.int .i64 1)), none⟩,
  ⟨some 58, .mov (.tmp 74), none⟩] :: K) fr S := rfl
def wal_Bytes_l0 : PCode :=
  (.seq (.region wal_Bytes_r14) (.seq (.cond (.tmp 59) .skip (.exit 1)) (.seq (.block 2 (.seq (.clr [(60, 62)] (.region wal_Bytes_r15)) (.clr [(62, 74)] (.region wal_Bytes_r16)))) (.clr [(74, 75)] (.region wal_Bytes_r17)))))
@[simp] theorem wal_Bytes_l0_go (T : Tbl) (K : List Kt) (fr : Fr) (S : St) : gval T (.code wal_Bytes_l0 :: K) fr S = gval T (.code (.seq (.region wal_Bytes_r14) (.seq (.cond (.tmp 59) .skip (.exit 1)) (.seq (.block 2 (.seq (.clr [(60, 62)] (.region wal_Bytes_r15)) (.clr [(62, 74)] (.region wal_Bytes_r16)))) (.clr [(74, 75)] (.region wal_Bytes_r17))))) :: K) fr S := rfl
def wal_Bytes_r7 : List POper := [
  ⟨some 25, .load false 1 false (.tmp 5), none⟩,
  ⟨some 26, .faddr 3 (.tmp 1), none⟩,
  ⟨some 27, .load false 1 false (.tmp 26), none⟩,
  ⟨some 28, .call .std 242 [(.tmp 25), (.tmp 27)], none⟩,
  ⟨some 24, .mov (.tmp 28), none⟩,
  ⟨some 29, .extract 0 (.tmp 24), none⟩,
  ⟨some 30, .extract 1 (.tmp 24), none⟩,
  ⟨none, .store 1 (.tmp 5) (.tmp 29), none⟩]
@[simp] theorem wal_Bytes_r7_go (T : Tbl) (K : List Kt) (fr : Fr) (S : St) : gval T (.ops wal_Bytes_r7 :: K) fr S = gval T (.ops [
  ⟨some 25, .load false 1 false (.tmp 5), none⟩,
  ⟨some 26, .faddr 3 (.tmp 1), none⟩,
  ⟨some 27, .load false 1 false (.tmp 26), none⟩,
  ⟨some 28, .call .std 242 [(.tmp 25), (.tmp 27)], none⟩,
  ⟨some 24, .mov (.tmp 28), none⟩,
  ⟨some 29, .extract 0 (.tmp 24), none⟩,
  ⟨some 30, .extract 1 (.tmp 24), none⟩,
  ⟨none, .store 1 (.tmp 5) (.tmp 29), none⟩] :: K) fr S := rfl
def wal_Bytes_r8 : List POper := [
  ⟨some 31, .mov (.tmp 7), none⟩,
  ⟨some 32, .faddr 4 (.tmp 1), none⟩,
  ⟨some 33, .load false 1 false (.tmp 32), none⟩,
  ⟨some 34, .faddr 5 (.tmp 1), none⟩,
  ⟨some 35, .load false 1 false (.tmp 34), none⟩,
  ⟨some 36, .bsl false (.int .i64 0) 2 [(0, (.tmp 33)), (1, (.tmp 35))], none⟩,
  ⟨some 37, .callv .std (.tmp 31) [(.tmp 36)], none⟩]
@[simp] theorem wal_Bytes_r8_go (T : Tbl) (K : List Kt) (fr : Fr) (S : St) : gval T (.ops wal_Bytes_r8 :: K) fr S = gval T (.ops [
  ⟨some 31, .mov (.tmp 7), none⟩,
  ⟨some 32, .faddr 4 (.tmp 1), none⟩,
  ⟨some 33, .load false 1 false (.tmp 32), none⟩,
  ⟨some 34, .faddr 5 (.tmp 1), none⟩,
  ⟨some 35, .load false 1 false (.tmp 34), none⟩,
  ⟨some 36, .bsl false (.int .i64 0) 2 [(0, (.tmp 33)), (1, (.tmp 35))], none⟩,
  ⟨some 37, .callv .std (.tmp 31) [(.tmp 36)], none⟩] :: K) fr S := rfl
def wal_Bytes_r18 : List POper := [
  ⟨some 75, .load false 1 false (.tmp 5), none⟩,
  ⟨some 2, .mov (.tmp 75), none⟩,
  ⟨some 3, .mov (.cst (.int .i64 0)), none⟩]
@[simp] theorem wal_Bytes_r18_go (T : Tbl) (K : List Kt) (fr : Fr) (S : St) : gval T (.ops wal_Bytes_r18 :: K) fr S = gval T (.ops [
  ⟨some 75, .load false 1 false (.tmp 5), none⟩,
  ⟨some 2, .mov (.tmp 75), none⟩,
  ⟨some 3, .mov (.cst (.int .i64 0)), none⟩] :: K) fr S := rfl
def wal_Bytes : PCodeFn :=
  ⟨1, [.tmp 2, .tmp 3],
  (.seq (.region wal_Bytes_r0) (.seq (.seq (.clr [(10, 12)] (.region wal_Bytes_r1)) (.seq (.clr [(12, 13)] (.region wal_Bytes_r2)) (.cond (.tmp 13) (.seq (.clr [(14, 15)] (.region wal_Bytes_r3)) .ret) .skip))) (.seq (.clr [(6, 7), (15, 21)] (.region wal_Bytes_r4)) (.seq (.clr [(21, 22)] (.region wal_Bytes_r5)) (.seq (.seq (.clr [(22, 23)] (.region wal_Bytes_r6)) (.block 0 (.seq (.clr [(39, 40)] (.region wal_Bytes_r9)) (.cond (.tmp 38) (.clr [(40, 47)] (.region wal_Bytes_r10)) (.seq (.clr [(48, 49)] (.region wal_Bytes_r11)) (.cond (.tmp 47) (.seq (.clr [(49, 55)] (.region wal_Bytes_r12)) (.seq (.clr [(55, 56)] (.region wal_Bytes_r13)) (.block 1 (.loop wal_Bytes_l0)))) (.seq (.clr [(24, 31)] (.region wal_Bytes_r7)) (.clr [(31, 38)] (.region wal_Bytes_r8))))))))) (.seq (.clr [(75, 76)] (.region wal_Bytes_r18)) .ret)))))), false⟩

/-! gauge/gaugeref11.Bytes: 254 -/
def ref11_Bytes_r0 : List POper := [
  ⟨some 1, .box true (.tmp 0), none⟩,
  ⟨some 2, .mov (.cst .nils), none⟩,
  ⟨some 3, .mov (.cst (.int .i64 0)), none⟩]
@[simp] theorem ref11_Bytes_r0_go (T : Tbl) (K : List Kt) (fr : Fr) (S : St) : gval T (.ops ref11_Bytes_r0 :: K) fr S = gval T (.ops [
  ⟨some 1, .box true (.tmp 0), none⟩,
  ⟨some 2, .mov (.cst .nils), none⟩,
  ⟨some 3, .mov (.cst (.int .i64 0)), none⟩] :: K) fr S := rfl
def ref11_Bytes_r1 : List POper := [
  ⟨some 7, .load true 6 false (.tmp 1), none⟩,
  ⟨some 8, .call .std 183 [(.tmp 7)], none⟩,
  ⟨some 4, .mov (.tmp 8), none⟩]
@[simp] theorem ref11_Bytes_r1_go (T : Tbl) (K : List Kt) (fr : Fr) (S : St) : gval T (.ops ref11_Bytes_r1 :: K) fr S = gval T (.ops [
  ⟨some 7, .load true 6 false (.tmp 1), none⟩,
  ⟨some 8, .call .std 183 [(.tmp 7)], none⟩,
  ⟨some 4, .mov (.tmp 8), none⟩] :: K) fr S := rfl
def ref11_Bytes_r2 : List POper := [
  ⟨some 9, .mov (.tmp 4), none⟩,
  ⟨some 10, .arith .neq (.tmp 9) (.cst (.int .i64 0)), none⟩]
@[simp] theorem ref11_Bytes_r2_go (T : Tbl) (K : List Kt) (fr : Fr) (S : St) : gval T (.ops ref11_Bytes_r2 :: K) fr S = gval T (.ops [
  ⟨some 9, .mov (.tmp 4), none⟩,
  ⟨some 10, .arith .neq (.tmp 9) (.cst (.int .i64 0)), none⟩] :: K) fr S := rfl
def ref11_Bytes_r3 : List POper := [
  ⟨some 11, .mov (.tmp 4), none⟩,
  ⟨some 2, .mov (.cst .nils), none⟩,
  ⟨some 3, .mov (.tmp 11), none⟩]
@[simp] theorem ref11_Bytes_r3_go (T : Tbl) (K : List Kt) (fr : Fr) (S : St) : gval T (.ops ref11_Bytes_r3 :: K) fr S = gval T (.ops [
  ⟨some 11, .mov (.tmp 4), none⟩,
  ⟨some 2, .mov (.cst .nils), none⟩,
  ⟨some 3, .mov (.tmp 11), none⟩] :: K) fr S := rfl
def ref11_Bytes_r4 : List POper := [
  ⟨some 12, .faddr 0 (.tmp 1), none⟩,
  ⟨some 13, .load false 1 false (.tmp 12), none⟩,
  ⟨some 14, .call .std 219 [(.tmp 13)], none⟩,
  ⟨some 5, .mov (.tmp 14), none⟩]
@[simp] theorem ref11_Bytes_r4_go (T : Tbl) (K : List Kt) (fr : Fr) (S : St) : gval T (.ops ref11_Bytes_r4 :: K) fr S = gval T (.ops [
  ⟨some 12, .faddr 0 (.tmp 1), none⟩,
  ⟨some 13, .load false 1 false (.tmp 12), none⟩,
  ⟨some 14, .call .std 219 [(.tmp 13)], none⟩,
  ⟨some 5, .mov (.tmp 14), none⟩] :: K) fr S := rfl
def ref11_Bytes_r5 : List POper := [
  ⟨some 15, .faddr 0 (.tmp 1), none⟩,
  ⟨some 16, .load false 1 false (.tmp 15), none⟩]
@[simp] theorem ref11_Bytes_r5_go (T : Tbl) (K : List Kt) (fr : Fr) (S : St) : gval T (.ops ref11_Bytes_r5 :: K) fr S = gval T (.ops [
  ⟨some 15, .faddr 0 (.tmp 1), none⟩,
  ⟨some 16, .load false 1 false (.tmp 15), none⟩] :: K) fr S := rfl
def ref11_Bytes_r6 : List POper := [
  ⟨some 18, .arith .eql (.tmp 16) (.cst (.int .i64 1)), none⟩,
  ⟨some 17, .mov (.tmp 18), none⟩]
@[simp] theorem ref11_Bytes_r6_go (T : Tbl) (K : List Kt) (fr : Fr) (S : St) : gval T (.ops ref11_Bytes_r6 :: K) fr S = gval T (.ops [
  ⟨some 18, .arith .eql (.tmp 16) (.cst (.int .i64 1)), none⟩,
  ⟨some 17, .mov (.tmp 18), none⟩] :: K) fr S := rfl
def ref11_Bytes_r7 : List POper := [
  ⟨some 19, .mov (.tmp 5), none⟩,
  ⟨some 20, .faddr 1 (.tmp 1), none⟩,
  ⟨some 21, .load false 1 false (.tmp 20), none⟩,
  ⟨some 22, .call .std 109 [(.tmp 21)], none⟩,
  ⟨some 23, .app 1 1 (.tmp 19) (.tmp 22), none⟩,
  ⟨some 2, .mov (.tmp 23), none⟩,
  ⟨some 3, .mov (.cst (.int .i64 0)), none⟩]
@[simp] theorem ref11_Bytes_r7_go (T : Tbl) (K : List Kt) (fr : Fr) (S : St) : gval T (.ops ref11_Bytes_r7 :: K) fr S = gval T (.ops [
  ⟨some 19, .mov (.tmp 5), none⟩,
  ⟨some 20, .faddr 1 (.tmp 1), none⟩,
  ⟨some 21, .load false 1 false (.tmp 20), none⟩,
  ⟨some 22, .call .std 109 [(.tmp 21)], none⟩,
  ⟨some 23, .app 1 1 (.tmp 19) (.tmp 22), none⟩,
  ⟨some 2, .mov (.tmp 23), none⟩,
  ⟨some 3, .mov (.cst (.int .i64 0)), none⟩] :: K) fr S := rfl
def ref11_Bytes_r8 : List POper := [
  ⟨some 25, .arith .eql (.tmp 16) (.cst (.int .i64 2)), none⟩,
  ⟨some 24, .mov (.tmp 25), none⟩]
@[simp] theorem ref11_Bytes_r8_go (T : Tbl) (K : List Kt) (fr : Fr) (S : St) : gval T (.ops ref11_Bytes_r8 :: K) fr S = gval T (.ops [
  ⟨some 25, .arith .eql (.tmp 16) (.cst (.int .i64 2)), none⟩,
  ⟨some 24, .mov (.tmp 25), none⟩] :: K) fr S := rfl
def ref11_Bytes_r9 : List POper := [
  ⟨some 26, .mov (.tmp 5), none⟩,
  ⟨some 27, .faddr 2 (.tmp 1), none⟩,
  ⟨some 28, .load false 1 false (.tmp 27), none⟩,
  ⟨some 29, .len false (.tmp 28), none⟩,
  ⟨some 30, .call .std 219 [(.tmp 29)], none⟩,
  ⟨some 31, .app 1 1 (.tmp 26) (.tmp 30), none⟩,
  ⟨some 5, .mov (.tmp 31), none⟩]
@[simp] theorem ref11_Bytes_r9_go (T : Tbl) (K : List Kt) (fr : Fr) (S : St) : gval T (.ops ref11_Bytes_r9 :: K) fr S = gval T (.ops [
  ⟨some 26, .mov (.tmp 5), none⟩,
  ⟨some 27, .faddr 2 (.tmp 1), none⟩,
  ⟨some 28, .load false 1 false (.tmp 27), none⟩,
  ⟨some 29, .len false (.tmp 28), none⟩,
  ⟨some 30, .call .std 219 [(.tmp 29)], none⟩,
  ⟨some 31, .app 1 1 (.tmp 26) (.tmp 30), none⟩,
  ⟨some 5, .mov (.tmp 31), none⟩] :: K) fr S := rfl
def ref11_Bytes_r10 : List POper := [
  ⟨some 6, .mov (.cst (.int .i64 0)), none⟩]
@[simp] theorem ref11_Bytes_r10_go (T : Tbl) (K : List Kt) (fr : Fr) (S : St) : gval T (.ops ref11_Bytes_r10 :: K) fr S = gval T (.ops [
  ⟨some 6, .mov (.cst (.int .i64 0)), none⟩] :: K) fr S := rfl
def ref11_Bytes_r11 : List POper := [
  ⟨some 32, .mov (.tmp 6), none⟩,
  ⟨some 33, .faddr 2 (.tmp 1), none⟩,
  ⟨some 34, .load false 1 false (.tmp 33), none⟩,
  ⟨some 35, .len false (.tmp 34), none⟩,
  ⟨some 36, .arith .lss (.tmp 32) (.tmp 35), none⟩]
@[simp] theorem ref11_Bytes_r11_go (T : Tbl) (K : List Kt) (fr : Fr) (S : St) : gval T (.ops ref11_Bytes_r11 :: K) fr S = gval T (.ops [
  ⟨some 32, .mov (.tmp 6), none⟩,
  ⟨some 33, .faddr 2 (.tmp 1), none⟩,
  ⟨some 34, .load false 1 false (.tmp 33), none⟩,
  ⟨some 35, .len false (.tmp 34), none⟩,
  ⟨some 36, .arith .lss (.tmp 32) (.tmp 35), none⟩] :: K) fr S := rfl
def ref11_Bytes_r13 : List POper := [
  ⟨some 39, .mov (.tmp 5), none⟩,
  ⟨some 40, .faddr 2 (.tmp 1), none⟩,
  ⟨some 41, .load false 1 true (.tmp 40), none⟩,
  ⟨some 42, .mov (.tmp 6), none⟩,
  ⟨some 43, .iaddr 3 (.tmp 41) (.tmp 42), none⟩,
  ⟨some 44, .faddr 0 (.tmp 43), none⟩,
  ⟨some 45, .load false 1 true (.tmp 44), none⟩,
  ⟨some 46, .call .std 219 [(.tmp 45)], none⟩,
  ⟨some 47, .app 1 1 (.tmp 39) (.tmp 46), none⟩,
  ⟨some 48, .faddr 2 (.tmp 1), none⟩,
  ⟨some 49, .load false 1 true (.tmp 48), none⟩,
  ⟨some 50, .mov (.tmp 6), none⟩,
  ⟨some 51, .iaddr 3 (.tmp 49) (.tmp 50), none⟩,
  ⟨some 52, .faddr 1 (.tmp 51), none⟩,
  ⟨some 53, .faddr 0 (.tmp 52), none⟩,
  ⟨some 54, .load false 1 true (.tmp 53), none⟩,
  ⟨some 55, .call .std 219 [(.tmp 54)], none⟩,
  ⟨some 56, .app 1 1 (.tmp 47) (.tmp 55), none⟩,
  ⟨some 57, .faddr 2 (.tmp 1), none⟩,
  ⟨some 58, .load false 1 true (.tmp 57), none⟩,
  ⟨some 59, .mov (.tmp 6), none⟩,
  ⟨some 60, .iaddr 3 (.tmp 58) (.tmp 59), none⟩,
  ⟨some 61, .faddr 1 (.tmp 60), none⟩,
  ⟨some 62, .faddr 1 (.tmp 61), none⟩,
  ⟨some 63, .load false 1 true (.tmp 62), none⟩,
  ⟨some 64, .call .pur 326 [(.tmp 63)], none⟩,
  ⟨some 65, .call .std 219 [(.tmp 64)], none⟩,
  ⟨some 66, .app 1 1 (.tmp 56) (.tmp 65), none⟩,
  ⟨some 5, .mov (.tmp 66), none⟩]
@[simp] theorem ref11_Bytes_r13_go (T : Tbl) (K : List Kt) (fr : Fr) (S : St) : gval T (.ops ref11_Bytes_r13 :: K) fr S = gval T (.ops [
  ⟨some 39, .mov (.tmp 5), none⟩,
  ⟨some 40, .faddr 2 (.tmp 1), none⟩,
  ⟨some 41, .load false 1 true (.tmp 40), none⟩,
  ⟨some 42, .mov (.tmp 6), none⟩,
  ⟨some 43, .iaddr 3 (.tmp 41) (.tmp 42), none⟩,
  ⟨some 44, .faddr 0 (.tmp 43), none⟩,
  ⟨some 45, .load false 1 true (.tmp 44), none⟩,
  ⟨some 46, .call .std 219 [(.tmp 45)], none⟩,
  ⟨some 47, .app 1 1 (.tmp 39) (.tmp 46), none⟩,
  ⟨some 48, .faddr 2 (.tmp 1), none⟩,
  ⟨some 49, .load false 1 true (.tmp 48), none⟩,
  ⟨some 50, .mov (.tmp 6), none⟩,
  ⟨some 51, .iaddr 3 (.tmp 49) (.tmp 50), none⟩,
  ⟨some 52, .faddr 1 (.tmp 51), none⟩,
  ⟨some 53, .faddr 0 (.tmp 52), none⟩,
  ⟨some 54, .load false 1 true (.tmp 53), none⟩,
  ⟨some 55, .call .std 219 [(.tmp 54)], none⟩,
  ⟨some 56, .app 1 1 (.tmp 47) (.tmp 55), none⟩,
  ⟨some 57, .faddr 2 (.tmp 1), none⟩,
  ⟨some 58, .load false 1 true (.tmp 57), none⟩,
  ⟨some 59, .mov (.tmp 6), none⟩,
  ⟨some 60, .iaddr 3 (.tmp 58) (.tmp 59), none⟩,
  ⟨some 61, .faddr 1 (.tmp 60), none⟩,
  ⟨some 62, .faddr 1 (.tmp 61), none⟩,
  ⟨some 63, .load false 1 true (.tmp 62), none⟩,
  ⟨some 64, .call .pur 326 [(.tmp 63)], none⟩,
  ⟨some 65, .call .std 219 [(.tmp 64)], none⟩,
  ⟨some 66, .app 1 1 (.tmp 56) (.tmp 65), none⟩,
  ⟨some 5, .mov (.tmp 66), none⟩] :: K) fr S := rfl
def ref11_Bytes_r12 : List POper := [
  ⟨some 37, .mov (.tmp 6), none⟩,
  ⟨some 38, .arith .add (.tmp 37) (.cst (.int .i64 1)), none⟩,
  ⟨some 6, .mov (.tmp 38), none⟩]
@[simp] theorem ref11_Bytes_r12_go (T : Tbl) (K : List Kt) (fr : Fr) (S : St) : gval T (.ops ref11_Bytes_r12 :: K) fr S = gval T (.ops [
  ⟨some 37, .mov (.tmp 6), none⟩,
  ⟨some 38, .arith .add (.tmp 37) (.cst (.int .i64 1)), none⟩,
  ⟨some 6, .mov (.tmp 38), none⟩] :: K) fr S := rfl
def ref11_Bytes_l0 : PCode :=
  (.seq (.seq (.clr [(32, 36)] (.region ref11_Bytes_r11)) (.cond (.tmp 36) .skip (.exit 1))) (.seq (.block 2 (.clr [(39, 67)] (.region ref11_Bytes_r13))) (.clr [(37, 39)] (.region ref11_Bytes_r12))))
@[simp] theorem ref11_Bytes_l0_go (T : Tbl) (K : List Kt) (fr : Fr) (S : St) : gval T (.code ref11_Bytes_l0 :: K) fr S = gval T (.code (.seq (.seq (.clr [(32, 36)] (.region ref11_Bytes_r11)) (.cond (.tmp 36) .skip (.exit 1))) (.seq (.block 2 (.clr [(39, 67)] (.region ref11_Bytes_r13))) (.clr [(37, 39)] (.region ref11_Bytes_r12)))) :: K) fr S := rfl
def ref11_Bytes_r14 : List POper := [
  ⟨some 67, .mov (.tmp 5), none⟩,
  ⟨some 2, .mov (.tmp 67), none⟩,
  ⟨some 3, .mov (.cst (.int .i64 0)), none⟩]
@[simp] theorem ref11_Bytes_r14_go (T : Tbl) (K : List Kt) (fr : Fr) (S : St) : gval T (.ops ref11_Bytes_r14 :: K) fr S = gval T (.ops [
  ⟨some 67, .mov (.tmp 5), none⟩,
  ⟨some 2, .mov (.tmp 67), none⟩,
  ⟨some 3, .mov (.cst (.int .i64 0)), none⟩] :: K) fr S := rfl
def ref11_Bytes_r15 : List POper := [
  ⟨some 68, .mov (.tmp 5), none⟩,
  ⟨some 69, .faddr 3 (.tmp 1), none⟩,
  ⟨some 70, .load false 1 true (.tmp 69), none⟩,
  ⟨some 71, .call .std 327 [(.tmp 70)], none⟩,
  ⟨some 72, .app 1 1 (.tmp 68) (.tmp 71), none⟩,
  ⟨some 73, .faddr 4 (.tmp 1), none⟩,
  ⟨some 74, .load false 1 true (.tmp 73), none⟩,
  ⟨some 75, .call .std 219 [(.tmp 74)], none⟩,
  ⟨some 76, .app 1 1 (.tmp 72) (.tmp 75), none⟩,
  ⟨some 77, .faddr 5 (.tmp 1), none⟩,
  ⟨some 78, .load false 1 true (.tmp 77), none⟩,
  ⟨some 79, .call .std 219 [(.tmp 78)], none⟩,
  ⟨some 80, .app 1 1 (.tmp 76) (.tmp 79), none⟩,
  ⟨some 2, .mov (.tmp 80), none⟩,
  ⟨some 3, .mov (.cst (.int .i64 0)), none⟩]
@[simp] theorem ref11_Bytes_r15_go (T : Tbl) (K : List Kt) (fr : Fr) (S : St) : gval T (.ops ref11_Bytes_r15 :: K) fr S = gval T (.ops [
  ⟨some 68, .mov (.tmp 5), none⟩,
  ⟨some 69, .faddr 3 (.tmp 1), none⟩,
  ⟨some 70, .load false 1 true (.tmp 69), none⟩,
  ⟨some 71, .call .std 327 [(.tmp 70)], none⟩,
  ⟨some 72, .app 1 1 (.tmp 68) (.tmp 71), none⟩,
  ⟨some 73, .faddr 4 (.tmp 1), none⟩,
  ⟨some 74, .load false 1 true (.tmp 73), none⟩,
  ⟨some 75, .call .std 219 [(.tmp 74)], none⟩,
  ⟨some 76, .app 1 1 (.tmp 72) (.tmp 75), none⟩,
  ⟨some 77, .faddr 5 (.tmp 1), none⟩,
  ⟨some 78, .load false 1 true (.tmp 77), none⟩,
  ⟨some 79, .call .std 219 [(.tmp 78)], none⟩,
  ⟨some 80, .app 1 1 (.tmp 76) (.tmp 79), none⟩,
  ⟨some 2, .mov (.tmp 80), none⟩,
  ⟨some 3, .mov (.cst (.int .i64 0)), none⟩] :: K) fr S := rfl
def ref11_Bytes : PCodeFn :=
  ⟨1, [.tmp 2, .tmp 3],
  (.seq (.region ref11_Bytes_r0) (.seq (.seq (.clr [(7, 9)] (.region ref11_Bytes_r1)) (.seq (.clr [(9, 10)] (.region ref11_Bytes_r2)) (.cond (.tmp 10) (.seq (.clr [(11, 12)] (.region ref11_Bytes_r3)) .ret) .skip))) (.seq (.clr [(12, 15)] (.region ref11_Bytes_r4)) (.seq (.seq (.clr [(15, 16)] (.region ref11_Bytes_r5)) (.block 0 (.seq (.clr [(18, 19)] (.region ref11_Bytes_r6)) (.cond (.tmp 17) (.seq (.clr [(19, 24)] (.region ref11_Bytes_r7)) .ret) (.seq (.clr [(25, 26)] (.region ref11_Bytes_r8)) (.cond (.tmp 24) (.seq (.clr [(26, 32)] (.region ref11_Bytes_r9)) (.seq (.seq (.region ref11_Bytes_r10) (.block 1 (.loop ref11_Bytes_l0))) (.seq (.clr [(67, 68)] (.region ref11_Bytes_r14)) .ret))) .skip)))))) (.seq (.clr [(68, 81)] (.region ref11_Bytes_r15)) .ret))))), false⟩

/-! gauge/wal.Check: 179 -/
def wal_Check_r0 : List POper := [
  ⟨some 1, .box true (.tmp 0), none⟩,
  ⟨some 2, .mov (.cst (.int .i64 0)), none⟩]
@[simp] theorem wal_Check_r0_go (T : Tbl) (K : List Kt) (fr : Fr) (S : St) : gval T (.ops wal_Check_r0 :: K) fr S = gval T (.ops [
  ⟨some 1, .box true (.tmp 0), none⟩,
  ⟨some 2, .mov (.cst (.int .i64 0)), none⟩] :: K) fr S := rfl
def wal_Check_r1 : List POper := [
  ⟨some 4, .faddr 1 (.tmp 1), none⟩,
  ⟨some 5, .load false 1 false (.tmp 4), none⟩,
  ⟨some 6, .len false (.tmp 5), none⟩,
  ⟨some 7, .faddr 2 (.tmp 1), none⟩,
  ⟨some 8, .load false 1 false (.tmp 7), none⟩,
  ⟨some 9, .len false (.tmp 8), none⟩,
  ⟨some 10, .faddr 3 (.tmp 1), none⟩,
  ⟨some 11, .load false 1 false (.tmp 10), none⟩,
  ⟨some 12, .len false (.tmp 11), none⟩,
  ⟨some 13, .faddr 4 (.tmp 1), none⟩,
  ⟨some 14, .load false 1 false (.tmp 13), none⟩,
  ⟨some 15, .faddr 5 (.tmp 1), none⟩,
  ⟨some 16, .load false 1 false (.tmp 15), none⟩,
  ⟨some 17, .build [(.int .i64 0), (.int .i64 0), (.int .i64 0), (.int .i64 0), (.int .i64 0)] [(0, 1, (.tmp 6)), (1, 1, (.tmp 9)), (2, 1, (.tmp 12)), (3, 1, (.tmp 14)), (4, 1, (.tmp 16))], none⟩,
  ⟨some 3, .alloc false [(.int .i64 0), (.int .i64 0), (.int .i64 0), (.int .i64 0), (.int .i64 0)], none⟩,
  ⟨none, .store 5 (.tmp 3) (.tmp 17), none⟩]
@[simp] theorem wal_Check_r1_go (T : Tbl) (K : List Kt) (fr : Fr) (S : St) : gval T (.ops wal_Check_r1 :: K) fr S = gval T (.ops [
  ⟨some 4, .faddr 1 (.tmp 1), none⟩,
  ⟨some 5, .load false 1 false (.tmp 4), none⟩,
  ⟨some 6, .len false (.tmp 5), none⟩,
  ⟨some 7, .faddr 2 (.tmp 1), none⟩,
  ⟨some 8, .load false 1 false (.tmp 7), none⟩,
  ⟨some 9, .len false (.tmp 8), none⟩,
  ⟨some 10, .faddr 3 (.tmp 1), none⟩,
  ⟨some 11, .load false 1 false (.tmp 10), none⟩,
  ⟨some 12, .len false (.tmp 11), none⟩,
  ⟨some 13, .faddr 4 (.tmp 1), none⟩,
  ⟨some 14, .load false 1 false (.tmp 13), none⟩,
  ⟨some 15, .faddr 5 (.tmp 1), none⟩,
  ⟨some 16, .load false 1 false (.tmp 15), none⟩,
  ⟨some 17, .build [(.int .i64 0), (.int .i64 0), (.int .i64 0), (.int .i64 0), (.int .i64 0)] [(0, 1, (.tmp 6)), (1, 1, (.tmp 9)), (2, 1, (.tmp 12)), (3, 1, (.tmp 14)), (4, 1, (.tmp 16))], none⟩,
  ⟨some 3, .alloc false [(.int .i64 0), (.int .i64 0), (.int .i64 0), (.int .i64 0), (.int .i64 0)], none⟩,
  ⟨none, .store 5 (.tmp 3) (.tmp 17), none⟩] :: K) fr S := rfl
def wal_Check_r2 : List POper := [
  ⟨some 19, .faddr 0 (.tmp 1), none⟩,
  ⟨some 20, .load false 1 false (.tmp 19), none⟩,
  ⟨some 21, .arith .eql (.tmp 20) (.cst (.int .i64 1)), none⟩,
  ⟨some 22, .mov (.tmp 21), none⟩,
  ⟨some 23, .load true 5 false (.tmp 3), some (22, true)⟩,
  ⟨some 24, .faddr 0 (.tmp 3), some (22, true)⟩,
  ⟨some 25, .load false 1 false (.tmp 24), some (22, true)⟩,
  ⟨some 26, .build [(.int .i64 0), (.int .i64 0), (.int .i64 0), (.int .i64 0), (.int .i64 0)] [(0, 1, (.tmp 25))], some (22, true)⟩,
  ⟨some 27, .eqs false 5 (.tmp 23) (.tmp 26), some (22, true)⟩,
  ⟨some 28, .pick (.tmp 22) (.tmp 27) (.cst (.bool false)), none⟩,
  ⟨some 18, .mov (.tmp 28), none⟩]
@[simp] theorem wal_Check_r2_go (T : Tbl) (K : List Kt) (fr : Fr) (S : St) : gval T (.ops wal_Check_r2 :: K) fr S = gval T (.ops [
  ⟨some 19, .faddr 0 (.tmp 1), none⟩,
  ⟨some 20, .load false 1 false (.tmp 19), none⟩,
  ⟨some 21, .arith .eql (.tmp 20) (.cst (.int .i64 1)), none⟩,
  ⟨some 22, .mov (.tmp 21), none⟩,
  ⟨some 23, .load true 5 false (.tmp 3), some (22, true)⟩,
  ⟨some 24, .faddr 0 (.tmp 3), some (22, true)⟩,
  ⟨some 25, .load false 1 false (.tmp 24), some (22, true)⟩,
  ⟨some 26, .build [(.int .i64 0), (.int .i64 0), (.int .i64 0), (.int .i64 0), (.int .i64 0)] [(0, 1, (.tmp 25))], some (22, true)⟩,
  ⟨some 27, .eqs false 5 (.tmp 23) (.tmp 26), some (22, true)⟩,
  ⟨some 28, .pick (.tmp 22) (.tmp 27) (.cst (.bool false)), none⟩,
  ⟨some 18, .mov (.tmp 28), none⟩] :: K) fr S := rfl
def wal_Check_r3 : List POper := [
  ⟨some 29, .faddr 1 (.tmp 1), none⟩,
  ⟨some 30, .load false 1 false (.tmp 29), none⟩,
  ⟨some 31, .call .std 40 [(.tmp 30)], none⟩,
  ⟨some 2, .mov (.tmp 31), none⟩]
@[simp] theorem wal_Check_r3_go (T : Tbl) (K : List Kt) (fr : Fr) (S : St) : gval T (.ops wal_Check_r3 :: K) fr S = gval T (.ops [
  ⟨some 29, .faddr 1 (.tmp 1), none⟩,
  ⟨some 30, .load false 1 false (.tmp 29), none⟩,
  ⟨some 31, .call .std 40 [(.tmp 30)], none⟩,
  ⟨some 2, .mov (.tmp 31), none⟩] :: K) fr S := rfl
def wal_Check_r4 : List POper := [
  ⟨some 33, .faddr 0 (.tmp 1), none⟩,
  ⟨some 34, .load false 1 false (.tmp 33), none⟩,
  ⟨some 35, .arith .eql (.tmp 34) (.cst (.int .i64 2)), none⟩,
  ⟨some 36, .mov (.tmp 35), none⟩,
  ⟨some 37, .load true 5 false (.tmp 3), some (36, true)⟩,
  ⟨some 38, .faddr 1 (.tmp 3), some (36, true)⟩,
  ⟨some 39, .load false 1 false (.tmp 38), some (36, true)⟩,
  ⟨some 40, .build [(.int .i64 0), (.int .i64 0), (.int .i64 0), (.int .i64 0), (.int .i64 0)] [(1, 1, (.tmp 39))], some (36, true)⟩,
  ⟨some 41, .eqs false 5 (.tmp 37) (.tmp 40), some (36, true)⟩,
  ⟨some 42, .pick (.tmp 36) (.tmp 41) (.cst (.bool false)), none⟩,
  ⟨some 32, .mov (.tmp 42), none⟩]
@[simp] theorem wal_Check_r4_go (T : Tbl) (K : List Kt) (fr : Fr) (S : St) : gval T (.ops wal_Check_r4 :: K) fr S = gval T (.ops [
  ⟨some 33, .faddr 0 (.tmp 1), none⟩,
  ⟨some 34, .load false 1 false (.tmp 33), none⟩,
  ⟨some 35, .arith .eql (.tmp 34) (.cst (.int .i64 2)), none⟩,
  ⟨some 36, .mov (.tmp 35), none⟩,
  ⟨some 37, .load true 5 false (.tmp 3), some (36, true)⟩,
  ⟨some 38, .faddr 1 (.tmp 3), some (36, true)⟩,
  ⟨some 39, .load false 1 false (.tmp 38), some (36, true)⟩,
  ⟨some 40, .build [(.int .i64 0), (.int .i64 0), (.int .i64 0), (.int .i64 0), (.int .i64 0)] [(1, 1, (.tmp 39))], some (36, true)⟩,
  ⟨some 41, .eqs false 5 (.tmp 37) (.tmp 40), some (36, true)⟩,
  ⟨some 42, .pick (.tmp 36) (.tmp 41) (.cst (.bool false)), none⟩,
  ⟨some 32, .mov (.tmp 42), none⟩] :: K) fr S := rfl
def wal_Check_r5 : List POper := [
  ⟨some 43, .faddr 2 (.tmp 1), none⟩,
  ⟨some 44, .load false 1 false (.tmp 43), none⟩,
  ⟨some 45, .call .std 275 [(.tmp 44)], none⟩,
  ⟨some 2, .mov (.tmp 45), none⟩]
@[simp] theorem wal_Check_r5_go (T : Tbl) (K : List Kt) (fr : Fr) (S : St) : gval T (.ops wal_Check_r5 :: K) fr S = gval T (.ops [
  ⟨some 43, .faddr 2 (.tmp 1), none⟩,
  ⟨some 44, .load false 1 false (.tmp 43), none⟩,
  ⟨some 45, .call .std 275 [(.tmp 44)], none⟩,
  ⟨some 2, .mov (.tmp 45), none⟩] :: K) fr S := rfl
def wal_Check_r6 : List POper := [
  ⟨some 47, .faddr 0 (.tmp 1), none⟩,
  ⟨some 48, .load false 1 false (.tmp 47), none⟩,
  ⟨some 49, .arith .eql (.tmp 48) (.cst (.int .i64 3)), none⟩,
  ⟨some 50, .mov (.tmp 49), none⟩,
  ⟨some 51, .load true 5 false (.tmp 3), some (50, true)⟩,
  ⟨some 52, .faddr 2 (.tmp 3), some (50, true)⟩,
  ⟨some 53, .load false 1 false (.tmp 52), some (50, true)⟩,
  ⟨some 54, .faddr 3 (.tmp 3), some (50, true)⟩,
  ⟨some 55, .load false 1 false (.tmp 54), some (50, true)⟩,
  ⟨some 56, .faddr 4 (.tmp 3), some (50, true)⟩,
  ⟨some 57, .load false 1 false (.tmp 56), some (50, true)⟩,
  ⟨some 58, .build [(.int .i64 0), (.int .i64 0), (.int .i64 0), (.int .i64 0), (.int .i64 0)] [(2, 1, (.tmp 53)), (3, 1, (.tmp 55)), (4, 1, (.tmp 57))], some (50, true)⟩,
  ⟨some 59, .eqs false 5 (.tmp 51) (.tmp 58), some (50, true)⟩,
  ⟨some 60, .pick (.tmp 50) (.tmp 59) (.cst (.bool false)), none⟩,
  ⟨some 46, .mov (.tmp 60), none⟩]
@[simp] theorem wal_Check_r6_go (T : Tbl) (K : List Kt) (fr : Fr) (S : St) : gval T (.ops wal_Check_r6 :: K) fr S = gval T (.ops [
  ⟨some 47, .faddr 0 (.tmp 1), none⟩,
  ⟨some 48, .load false 1 false (.tmp 47), none⟩,
  ⟨some 49, .arith .eql (.tmp 48) (.cst (.int .i64 3)), none⟩,
  ⟨some 50, .mov (.tmp 49), none⟩,
  ⟨some 51, .load true 5 false (.tmp 3), some (50, true)⟩,
  ⟨some 52, .faddr 2 (.tmp 3), some (50, true)⟩,
  ⟨some 53, .load false 1 false (.tmp 52), some (50, true)⟩,
  ⟨some 54, .faddr 3 (.tmp 3), some (50, true)⟩,
  ⟨some 55, .load false 1 false (.tmp 54), some (50, true)⟩,
  ⟨some 56, .faddr 4 (.tmp 3), some (50, true)⟩,
  ⟨some 57, .load false 1 false (.tmp 56), some (50, true)⟩,
  ⟨some 58, .build [(.int .i64 0), (.int .i64 0), (.int .i64 0), (.int .i64 0), (.int .i64 0)] [(2, 1, (.tmp 53)), (3, 1, (.tmp 55)), (4, 1, (.tmp 57))], some (50, true)⟩,
  ⟨some 59, .eqs false 5 (.tmp 51) (.tmp 58), some (50, true)⟩,
  ⟨some 60, .pick (.tmp 50) (.tmp 59) (.cst (.bool false)), none⟩,
  ⟨some 46, .mov (.tmp 60), none⟩] :: K) fr S := rfl
def wal_Check_r7 : List POper := [
  ⟨some 61, .load true 6 false (.tmp 1), none⟩,
  ⟨some 62, .call .std 276 [(.tmp 61)], none⟩,
  ⟨some 2, .mov (.tmp 62), none⟩]
@[simp] theorem wal_Check_r7_go (T : Tbl) (K : List Kt) (fr : Fr) (S : St) : gval T (.ops wal_Check_r7 :: K) fr S = gval T (.ops [
  ⟨some 61, .load true 6 false (.tmp 1), none⟩,
  ⟨some 62, .call .std 276 [(.tmp 61)], none⟩,
  ⟨some 2, .mov (.tmp 62), none⟩] :: K) fr S := rfl
def wal_Check_r8 : List POper := [
  ⟨some 2, .mov (.cst (.int .i64 2)), none⟩]
@[simp] theorem wal_Check_r8_go (T : Tbl) (K : List Kt) (fr : Fr) (S : St) : gval T (.ops wal_Check_r8 :: K) fr S = gval T (.ops [
  ⟨some 2, .mov (.cst (.int .i64 2)), none⟩] :: K) fr S := rfl
def wal_Check : PCodeFn :=
  ⟨1, [.tmp 2],
  (.seq (.region wal_Check_r0) (.seq (.clr [(4, 18)] (.region wal_Check_r1)) (.seq (.block 0 (.seq (.clr [(19, 29)] (.region wal_Check_r2)) (.cond (.tmp 18) (.seq (.clr [(29, 32)] (.region wal_Check_r3)) .ret) (.seq (.clr [(33, 43)] (.region wal_Check_r4)) (.cond (.tmp 32) (.seq (.clr [(43, 46)] (.region wal_Check_r5)) .ret) (.seq (.clr [(47, 61)] (.region wal_Check_r6)) (.cond (.tmp 46) (.seq (.clr [(61, 63)] (.region wal_Check_r7)) .ret) .skip))))))) (.seq (.region wal_Check_r8) .ret)))), false⟩

/-! gauge/gaugeref11.Check: 183 -/
def ref11_Check_r0 : List POper := [
  ⟨some 1, .box true (.tmp 0), none⟩,
  ⟨some 2, .mov (.cst (.int .i64 0)), none⟩]
@[simp] theorem ref11_Check_r0_go (T : Tbl) (K : List Kt) (fr : Fr) (S : St) : gval T (.ops ref11_Check_r0 :: K) fr S = gval T (.ops [
  ⟨some 1, .box true (.tmp 0), none⟩,
  ⟨some 2, .mov (.cst (.int .i64 0)), none⟩] :: K) fr S := rfl
def ref11_Check_r1 : List POper := [
  ⟨some 4, .faddr 0 (.tmp 1), none⟩,
  ⟨some 5, .load false 1 false (.tmp 4), none⟩,
  ⟨some 6, .arith .lss (.tmp 5) (.cst (.int .i64 1)), none⟩,
  ⟨some 7, .mov (.tmp 6), none⟩,
  ⟨some 8, .faddr 0 (.tmp 1), some (7, false)⟩,
  ⟨some 9, .load false 1 false (.tmp 8), some (7, false)⟩,
  ⟨some 10, .arith .gtr (.tmp 9) (.cst (.int .i64 3)), some (7, false)⟩,
  ⟨some 11, .pick (.tmp 7) (.cst (.bool true)) (.tmp 10), none⟩,
  ⟨some 12, .mov (.tmp 11), none⟩,
  ⟨some 13, .faddr 0 (.tmp 1), some (12, false)⟩,
  ⟨some 14, .load false 1 false (.tmp 13), some (12, false)⟩,
  ⟨some 15, .arith .neq (.tmp 14) (.cst (.int .i64 1)), some (12, false)⟩,
  ⟨some 16, .mov (.tmp 15), some (12, false)⟩,
  ⟨some 17, .faddr 1 (.tmp 1), some (16, true)⟩,
  ⟨some 18, .load false 1 false (.tmp 17), some (16, true)⟩,
  ⟨some 19, .len false (.tmp 18), some (16, true)⟩,
  ⟨some 20, .arith .gtr (.tmp 19) (.cst (.int .i64 0)), some (16, true)⟩,
  ⟨some 21, .pick (.tmp 16) (.tmp 20) (.cst (.bool false)), some (12, false)⟩,
  ⟨some 22, .pick (.tmp 12) (.cst (.bool true)) (.tmp 21), none⟩,
  ⟨some 23, .mov (.tmp 22), none⟩,
  ⟨some 24, .faddr 0 (.tmp 1), some (23, false)⟩,
  ⟨some 25, .load false 1 false (.tmp 24), some (23, false)⟩,
  ⟨some 26, .arith .neq (.tmp 25) (.cst (.int .i64 2)), some (23, false)⟩,
  ⟨some 27, .mov (.tmp 26), some (23, false)⟩,
  ⟨some 28, .faddr 2 (.tmp 1), some (27, true)⟩,
  ⟨some 29, .load false 1 false (.tmp 28), some (27, true)⟩,
  ⟨some 30, .len false (.tmp 29), some (27, true)⟩,
  ⟨some 31, .arith .gtr (.tmp 30) (.cst (.int .i64 0)), some (27, true)⟩,
  ⟨some 32, .pick (.tmp 27) (.tmp 31) (.cst (.bool false)), some (23, false)⟩,
  ⟨some 33, .pick (.tmp 23) (.cst (.bool true)) (.tmp 32), none⟩,
  ⟨some 34, .mov (.tmp 33), none⟩,
  ⟨some 35, .faddr 0 (.tmp 1), some (34, false)⟩,
  ⟨some 36, .load false 1 false (.tmp 35), some (34, false)⟩,
  ⟨some 37, .arith .neq (.tmp 36) (.cst (.int .i64 3)), some (34, false)⟩,
  ⟨some 38, .mov (.tmp 37), some (34, false)⟩,
  ⟨some 39, .faddr 3 (.tmp 1), some (38, true)⟩,
  ⟨some 40, .load false 1 false (.tmp 39), some (38, true)⟩,
  ⟨some 41, .len false (.tmp 40), some (38, true)⟩,
  ⟨some 42, .arith .gtr (.tmp 41) (.cst (.int .i64 0)), some (38, true)⟩,
  ⟨some 43, .mov (.tmp 42), some (38, true)⟩,
  ⟨some 44, .faddr 4 (.tmp 1), some (43, false)⟩,
  ⟨some 45, .load false 1 false (.tmp 44), some (43, false)⟩,
  ⟨some 46, .arith .neq (.tmp 45) (.cst (.int .i64 0)), some (43, false)⟩,
  ⟨some 47, .pick (.tmp 43) (.cst (.bool true)) (.tmp 46), some (38, true)⟩,
  ⟨some 48, .mov (.tmp 47), some (38, true)⟩,
  ⟨some 49, .faddr 5 (.tmp 1), some (48, false)⟩,
  ⟨some 50, .load false 1 false (.tmp 49), some (48, false)⟩,
  ⟨some 51, .arith .neq (.tmp 50) (.cst (.int .i64 0)), some (48, false)⟩,
  ⟨some 52, .pick (.tmp 48) (.cst (.bool true)) (.tmp 51), some (38, true)⟩,
  ⟨some 53, .pick (.tmp 38) (.tmp 52) (.cst (.bool false)), some (34, false)⟩,
  ⟨some 54, .pick (.tmp 34) (.cst (.bool true)) (.tmp 53), none⟩]
@[simp] theorem ref11_Check_r1_go (T : Tbl) (K : List Kt) (fr : Fr) (S : St) : gval T (.ops ref11_Check_r1 :: K) fr S = gval T (.ops [
  ⟨some 4, .faddr 0 (.tmp 1), none⟩,
  ⟨some 5, .load false 1 false (.tmp 4), none⟩,
  ⟨some 6, .arith .lss (.tmp 5) (.cst (.int .i64 1)), none⟩,
  ⟨some 7, .mov (.tmp 6), none⟩,
  ⟨some 8, .faddr 0 (.tmp 1), some (7, false)⟩,
  ⟨some 9, .load false 1 false (.tmp 8), some (7, false)⟩,
  ⟨some 10, .arith .gtr (.tmp 9) (.cst (.int .i64 3)), some (7, false)⟩,
  ⟨some 11, .pick (.tmp 7) (.cst (.bool true)) (.tmp 10), none⟩,
  ⟨some 12, .mov (.tmp 11), none⟩,
  ⟨some 13, .faddr 0 (.tmp 1), some (12, false)⟩,
  ⟨some 14, .load false 1 false (.tmp 13), some (12, false)⟩,
  ⟨some 15, .arith .neq (.tmp 14) (.cst (.int .i64 1)), some (12, false)⟩,
  ⟨some 16, .mov (.tmp 15), some (12, false)⟩,
  ⟨some 17, .faddr 1 (.tmp 1), some (16, true)⟩,
  ⟨some 18, .load false 1 false (.tmp 17), some (16, true)⟩,
  ⟨some 19, .len false (.tmp 18), some (16, true)⟩,
  ⟨some 20, .arith .gtr (.tmp 19) (.cst (.int .i64 0)), some (16, true)⟩,
  ⟨some 21, .pick (.tmp 16) (.tmp 20) (.cst (.bool false)), some (12, false)⟩,
  ⟨some 22, .pick (.tmp 12) (.cst (.bool true)) (.tmp 21), none⟩,
  ⟨some 23, .mov (.tmp 22), none⟩,
  ⟨some 24, .faddr 0 (.tmp 1), some (23, false)⟩,
  ⟨some 25, .load false 1 false (.tmp 24), some (23, false)⟩,
  ⟨some 26, .arith .neq (.tmp 25) (.cst (.int .i64 2)), some (23, false)⟩,
  ⟨some 27, .mov (.tmp 26), some (23, false)⟩,
  ⟨some 28, .faddr 2 (.tmp 1), some (27, true)⟩,
  ⟨some 29, .load false 1 false (.tmp 28), some (27, true)⟩,
  ⟨some 30, .len false (.tmp 29), some (27, true)⟩,
  ⟨some 31, .arith .gtr (.tmp 30) (.cst (.int .i64 0)), some (27, true)⟩,
  ⟨some 32, .pick (.tmp 27) (.tmp 31) (.cst (.bool false)), some (23, false)⟩,
  ⟨some 33, .pick (.tmp 23) (.cst (.bool true)) (.tmp 32), none⟩,
  ⟨some 34, .mov (.tmp 33), none⟩,
  ⟨some 35, .faddr 0 (.tmp 1), some (34, false)⟩,
  ⟨some 36, .load false 1 false (.tmp 35), some (34, false)⟩,
  ⟨some 37, .arith .neq (.tmp 36) (.cst (.int .i64 3)), some (34, false)⟩,
  ⟨some 38, .mov (.tmp 37), some (34, false)⟩,
  ⟨some 39, .faddr 3 (.tmp 1), some (38, true)⟩,
  ⟨some 40, .load false 1 false (.tmp 39), some (38, true)⟩,
  ⟨some 41, .len false (.tmp 40), some (38, true)⟩,
  ⟨some 42, .arith .gtr (.tmp 41) (.cst (.int .i64 0)), some (38, true)⟩,
  ⟨some 43, .mov (.tmp 42), some (38, true)⟩,
  ⟨some 44, .faddr 4 (.tmp 1), some (43, false)⟩,
  ⟨some 45, .load false 1 false (.tmp 44), some (43, false)⟩,
  ⟨some 46, .arith .neq (.tmp 45) (.cst (.int .i64 0)), some (43, false)⟩,
  ⟨some 47, .pick (.tmp 43) (.cst (.bool true)) (.tmp 46), some (38, true)⟩,
  ⟨some 48, .mov (.tmp 47), some (38, true)⟩,
  ⟨some 49, .faddr 5 (.tmp 1), some (48, false)⟩,
  ⟨some 50, .load false 1 false (.tmp 49), some (48, false)⟩,
  ⟨some 51, .arith .neq (.tmp 50) (.cst (.int .i64 0)), some (48, false)⟩,
  ⟨some 52, .pick (.tmp 48) (.cst (.bool true)) (.tmp 51), some (38, true)⟩,
  ⟨some 53, .pick (.tmp 38) (.tmp 52) (.cst (.bool false)), some (34, false)⟩,
  ⟨some 54, .pick (.tmp 34) (.cst (.bool true)) (.tmp 53), none⟩] :: K) fr S := rfl
def ref11_Check_r2 : List POper := [
  ⟨some 2, .mov (.cst (.int .i64 2)), none⟩]
@[simp] theorem ref11_Check_r2_go (T : Tbl) (K : List Kt) (fr : Fr) (S : St) : gval T (.ops ref11_Check_r2 :: K) fr S = gval T (.ops [
  ⟨some 2, .mov (.cst (.int .i64 2)), none⟩] :: K) fr S := rfl
def ref11_Check_r3 : List POper := [
  ⟨some 55, .faddr 0 (.tmp 1), none⟩,
  ⟨some 56, .load false 1 false (.tmp 55), none⟩]
@[simp] theorem ref11_Check_r3_go (T : Tbl) (K : List Kt) (fr : Fr) (S : St) : gval T (.ops ref11_Check_r3 :: K) fr S = gval T (.ops [
  ⟨some 55, .faddr 0 (.tmp 1), none⟩,
  ⟨some 56, .load false 1 false (.tmp 55), none⟩] :: K) fr S := rfl
def ref11_Check_r4 : List POper := [
  ⟨some 58, .arith .eql (.tmp 56) (.cst (.int .i64 1)), none⟩,
  ⟨some 57, .mov (.tmp 58), none⟩]
@[simp] theorem ref11_Check_r4_go (T : Tbl) (K : List Kt) (fr : Fr) (S : St) : gval T (.ops ref11_Check_r4 :: K) fr S = gval T (.ops [
  ⟨some 58, .arith .eql (.tmp 56) (.cst (.int .i64 1)), none⟩,
  ⟨some 57, .mov (.tmp 58), none⟩] :: K) fr S := rfl
def ref11_Check_r5 : List POper := [
  ⟨some 59, .faddr 1 (.tmp 1), none⟩,
  ⟨some 60, .load false 1 false (.tmp 59), none⟩,
  ⟨some 61, .call .std 98 [(.tmp 60)], none⟩,
  ⟨some 2, .mov (.tmp 61), none⟩]
@[simp] theorem ref11_Check_r5_go (T : Tbl) (K : List Kt) (fr : Fr) (S : St) : gval T (.ops ref11_Check_r5 :: K) fr S = gval T (.ops [
  ⟨some 59, .faddr 1 (.tmp 1), none⟩,
  ⟨some 60, .load false 1 false (.tmp 59), none⟩,
  ⟨some 61, .call .std 98 [(.tmp 60)], none⟩,
  ⟨some 2, .mov (.tmp 61), none⟩] :: K) fr S := rfl
def ref11_Check_r6 : List POper := [
  ⟨some 63, .arith .eql (.tmp 56) (.cst (.int .i64 2)), none⟩,
  ⟨some 62, .mov (.tmp 63), none⟩]
@[simp] theorem ref11_Check_r6_go (T : Tbl) (K : List Kt) (fr : Fr) (S : St) : gval T (.ops ref11_Check_r6 :: K) fr S = gval T (.ops [
  ⟨some 63, .arith .eql (.tmp 56) (.cst (.int .i64 2)), none⟩,
  ⟨some 62, .mov (.tmp 63), none⟩] :: K) fr S := rfl
def ref11_Check_r7 : List POper := [
  ⟨some 64, .faddr 2 (.tmp 1), none⟩,
  ⟨some 65, .load false 1 false (.tmp 64), none⟩,
  ⟨some 66, .call .std 281 [(.tmp 65)], none⟩,
  ⟨some 2, .mov (.tmp 66), none⟩]
@[simp] theorem ref11_Check_r7_go (T : Tbl) (K : List Kt) (fr : Fr) (S : St) : gval T (.ops ref11_Check_r7 :: K) fr S = gval T (.ops [
  ⟨some 64, .faddr 2 (.tmp 1), none⟩,
  ⟨some 65, .load false 1 false (.tmp 64), none⟩,
  ⟨some 66, .call .std 281 [(.tmp 65)], none⟩,
  ⟨some 2, .mov (.tmp 66), none⟩] :: K) fr S := rfl
def ref11_Check_r8 : List POper := [
  ⟨some 67, .faddr 3 (.tmp 1), none⟩,
  ⟨some 68, .load false 1 false (.tmp 67), none⟩,
  ⟨some 69, .call .std 282 [(.tmp 68)], none⟩,
  ⟨some 3, .mov (.tmp 69), none⟩]
@[simp] theorem ref11_Check_r8_go (T : Tbl) (K : List Kt) (fr : Fr) (S : St) : gval T (.ops ref11_Check_r8 :: K) fr S = gval T (.ops [
  ⟨some 67, .faddr 3 (.tmp 1), none⟩,
  ⟨some 68, .load false 1 false (.tmp 67), none⟩,
  ⟨some 69, .call .std 282 [(.tmp 68)], none⟩,
  ⟨some 3, .mov (.tmp 69), none⟩] :: K) fr S := rfl
def ref11_Check_r9 : List POper := [
  ⟨some 71, .mov (.tmp 3), none⟩,
  ⟨some 72, .arith .neq (.tmp 71) (.cst (.int .i64 0)), none⟩,
  ⟨some 70, .mov (.tmp 72), none⟩]
@[simp] theorem ref11_Check_r9_go (T : Tbl) (K : List Kt) (fr : Fr) (S : St) : gval T (.ops ref11_Check_r9 :: K) fr S = gval T (.ops [
  ⟨some 71, .mov (.tmp 3), none⟩,
  ⟨some 72, .arith .neq (.tmp 71) (.cst (.int .i64 0)), none⟩,
  ⟨some 70, .mov (.tmp 72), none⟩] :: K) fr S := rfl
def ref11_Check_r10 : List POper := [
  ⟨some 73, .mov (.tmp 3), none⟩,
  ⟨some 2, .mov (.tmp 73), none⟩]
@[simp] theorem ref11_Check_r10_go (T : Tbl) (K : List Kt) (fr : Fr) (S : St) : gval T (.ops ref11_Check_r10 :: K) fr S = gval T (.ops [
  ⟨some 73, .mov (.tmp 3), none⟩,
  ⟨some 2, .mov (.tmp 73), none⟩] :: K) fr S := rfl
def ref11_Check_r11 : List POper := [
  ⟨some 75, .faddr 3 (.tmp 1), none⟩,
  ⟨some 76, .load false 1 false (.tmp 75), none⟩,
  ⟨some 77, .len false (.tmp 76), none⟩,
  ⟨some 78, .arith .eql (.tmp 77) (.cst (.int .i64 0)), none⟩,
  ⟨some 74, .mov (.tmp 78), none⟩]
@[simp] theorem ref11_Check_r11_go (T : Tbl) (K : List Kt) (fr : Fr) (S : St) : gval T (.ops ref11_Check_r11 :: K) fr S = gval T (.ops [
  ⟨some 75, .faddr 3 (.tmp 1), none⟩,
  ⟨some 76, .load false 1 false (.tmp 75), none⟩,
  ⟨some 77, .len false (.tmp 76), none⟩,
  ⟨some 78, .arith .eql (.tmp 77) (.cst (.int .i64 0)), none⟩,
  ⟨some 74, .mov (.tmp 78), none⟩] :: K) fr S := rfl
def ref11_Check_r12 : List POper := [
  ⟨some 2, .mov (.cst (.int .i64 2)), none⟩]
@[simp] theorem ref11_Check_r12_go (T : Tbl) (K : List Kt) (fr : Fr) (S : St) : gval T (.ops ref11_Check_r12 :: K) fr S = gval T (.ops [
  ⟨some 2, .mov (.cst (.int .i64 2)), none⟩] :: K) fr S := rfl
def ref11_Check_r13 : List POper := [
  ⟨some 80, .faddr 4 (.tmp 1), none⟩,
  ⟨some 81, .load false 1 false (.tmp 80), none⟩,
  ⟨some 82, .arith .lss (.tmp 81) (.cst (.int .i64 0)), none⟩,
  ⟨some 83, .mov (.tmp 82), none⟩,
  ⟨some 84, .faddr 5 (.tmp 1), some (83, false)⟩,
  ⟨some 85, .load false 1 false (.tmp 84), some (83, false)⟩,
  ⟨some 86, .arith .gtr (.tmp 85) (.cst (.int .i64 1099511627776)), some (83, false)⟩,
  ⟨some 87, .pick (.tmp 83) (.cst (.bool true)) (.tmp 86), none⟩,
  ⟨some 79, .mov (.tmp 87), none⟩]
@[simp] theorem ref11_Check_r13_go (T : Tbl) (K : List Kt) (fr : Fr) (S : St) : gval T (.ops ref11_Check_r13 :: K) fr S = gval T (.ops [
  ⟨some 80, .faddr 4 (.tmp 1), none⟩,
  ⟨some 81, .load false 1 false (.tmp 80), none⟩,
  ⟨some 82, .arith .lss (.tmp 81) (.cst (.int .i64 0)), none⟩,
  ⟨some 83, .mov (.tmp 82), none⟩,
  ⟨some 84, .faddr 5 (.tmp 1), some (83, false)⟩,
  ⟨some 85, .load false 1 false (.tmp 84), some (83, false)⟩,
  ⟨some 86, .arith .gtr (.tmp 85) (.cst (.int .i64 1099511627776)), some (83, false)⟩,
  ⟨some 87, .pick (.tmp 83) (.cst (.bool true)) (.tmp 86), none⟩,
  ⟨some 79, .mov (.tmp 87), none⟩] :: K) fr S := rfl
def ref11_Check_r14 : List POper := [
  ⟨some 2, .mov (.cst (.int .i64 11)), none⟩]
@[simp] theorem ref11_Check_r14_go (T : Tbl) (K : List Kt) (fr : Fr) (S : St) : gval T (.ops ref11_Check_r14 :: K) fr S = gval T (.ops [
  ⟨some 2, .mov (.cst (.int .i64 11)), none⟩] :: K) fr S := rfl
def ref11_Check_r15 : List POper := [
  ⟨some 89, .faddr 4 (.tmp 1), none⟩,
  ⟨some 90, .load false 1 false (.tmp 89), none⟩,
  ⟨some 91, .faddr 5 (.tmp 1), none⟩,
  ⟨some 92, .load false 1 false (.tmp 91), none⟩,
  ⟨some 93, .arith .gtr (.tmp 90) (.tmp 92), none⟩,
  ⟨some 88, .mov (.tmp 93), none⟩]
@[simp] theorem ref11_Check_r15_go (T : Tbl) (K : List Kt) (fr : Fr) (S : St) : gval T (.ops ref11_Check_r15 :: K) fr S = gval T (.ops [
  ⟨some 89, .faddr 4 (.tmp 1), none⟩,
  ⟨some 90, .load false 1 false (.tmp 89), none⟩,
  ⟨some 91, .faddr 5 (.tmp 1), none⟩,
  ⟨some 92, .load false 1 false (.tmp 91), none⟩,
  ⟨some 93, .arith .gtr (.tmp 90) (.tmp 92), none⟩,
  ⟨some 88, .mov (.tmp 93), none⟩] :: K) fr S := rfl
def ref11_Check_r16 : List POper := [
  ⟨some 2, .mov (.cst (.int .i64 13)), none⟩]
@[simp] theorem ref11_Check_r16_go (T : Tbl) (K : List Kt) (fr : Fr) (S : St) : gval T (.ops ref11_Check_r16 :: K) fr S = gval T (.ops [
  ⟨some 2, .mov (.cst (.int .i64 13)), none⟩] :: K) fr S := rfl
def ref11_Check_r17 : List POper := [
  ⟨some 2, .mov (.cst (.int .i64 0)), none⟩]
@[simp] theorem ref11_Check_r17_go (T : Tbl) (K : List Kt) (fr : Fr) (S : St) : gval T (.ops ref11_Check_r17 :: K) fr S = gval T (.ops [
  ⟨some 2, .mov (.cst (.int .i64 0)), none⟩] :: K) fr S := rfl
def ref11_Check : PCodeFn :=
  ⟨1, [.tmp 2],
  (.seq (.region ref11_Check_r0) (.seq (.seq (.clr [(4, 54)] (.region ref11_Check_r1)) (.cond (.tmp 54) (.seq (.region ref11_Check_r2) .ret) .skip)) (.seq (.seq (.clr [(55, 56)] (.region ref11_Check_r3)) (.block 0 (.seq (.clr [(58, 59)] (.region ref11_Check_r4)) (.cond (.tmp 57) (.seq (.clr [(59, 62)] (.region ref11_Check_r5)) .ret) (.seq (.clr [(63, 64)] (.region ref11_Check_r6)) (.cond (.tmp 62) (.seq (.clr [(64, 67)] (.region ref11_Check_r7)) .ret) .skip)))))) (.seq (.clr [(67, 70)] (.region ref11_Check_r8)) (.seq (.block 1 (.seq (.clr [(71, 73)] (.region ref11_Check_r9)) (.cond (.tmp 70) (.seq (.clr [(73, 74)] (.region ref11_Check_r10)) .ret) (.seq (.clr [(75, 79)] (.region ref11_Check_r11)) (.cond (.tmp 74) (.seq (.region ref11_Check_r12) .ret) (.seq (.clr [(80, 88)] (.region ref11_Check_r13)) (.cond (.tmp 79) (.seq (.region ref11_Check_r14) .ret) (.seq (.clr [(89, 94)] (.region ref11_Check_r15)) (.cond (.tmp 88) (.seq (.region ref11_Check_r16) .ret) .skip))))))))) (.seq (.region ref11_Check_r17) .ret)))))), false⟩

/-! gauge/gaugeref11.Same: 253 -/
def ref11_Same_r0 : List POper := [
  ⟨some 2, .box true (.tmp 0), none⟩,
  ⟨some 3, .box true (.tmp 1), none⟩,
  ⟨some 4, .mov (.cst (.bool false)), none⟩]
@[simp] theorem ref11_Same_r0_go (T : Tbl) (K : List Kt) (fr : Fr) (S : St) : gval T (.ops ref11_Same_r0 :: K) fr S = gval T (.ops [
  ⟨some 2, .box true (.tmp 0), none⟩,
  ⟨some 3, .box true (.tmp 1), none⟩,
  ⟨some 4, .mov (.cst (.bool false)), none⟩] :: K) fr S := rfl
def ref11_Same_r1 : List POper := [
  ⟨some 6, .faddr 0 (.tmp 2), none⟩,
  ⟨some 7, .load false 1 false (.tmp 6), none⟩,
  ⟨some 8, .faddr 0 (.tmp 3), none⟩,
  ⟨some 9, .load false 1 false (.tmp 8), none⟩,
  ⟨some 10, .arith .neq (.tmp 7) (.tmp 9), none⟩,
  ⟨some 11, .mov (.tmp 10), none⟩,
  ⟨some 12, .faddr 4 (.tmp 2), some (11, false)⟩,
  ⟨some 13, .load false 1 false (.tmp 12), some (11, false)⟩,
  ⟨some 14, .faddr 4 (.tmp 3), some (11, false)⟩,
  ⟨some 15, .load false 1 false (.tmp 14), some (11, false)⟩,
  ⟨some 16, .arith .neq (.tmp 13) (.tmp 15), some (11, false)⟩,
  ⟨some 17, .pick (.tmp 11) (.cst (.bool true)) (.tmp 16), none⟩,
  ⟨some 18, .mov (.tmp 17), none⟩,
  ⟨some 19, .faddr 5 (.tmp 2), some (18, false)⟩,
  ⟨some 20, .load false 1 false (.tmp 19), some (18, false)⟩,
  ⟨some 21, .faddr 5 (.tmp 3), some (18, false)⟩,
  ⟨some 22, .load false 1 false (.tmp 21), some (18, false)⟩,
  ⟨some 23, .arith .neq (.tmp 20) (.tmp 22), some (18, false)⟩,
  ⟨some 24, .pick (.tmp 18) (.cst (.bool true)) (.tmp 23), none⟩,
  ⟨some 25, .mov (.tmp 24), none⟩,
  ⟨some 26, .faddr 3 (.tmp 2), some (25, false)⟩,
  ⟨some 27, .load false 1 false (.tmp 26), some (25, false)⟩,
  ⟨some 28, .faddr 3 (.tmp 3), some (25, false)⟩,
  ⟨some 29, .load false 1 false (.tmp 28), some (25, false)⟩,
  ⟨some 30, .call .std 175 [(.tmp 27), (.tmp 29)], some (25, false)⟩,
  ⟨some 31, .un .not (.tmp 30), some (25, false)⟩,
  ⟨some 32, .pick (.tmp 25) (.cst (.bool true)) (.tmp 31), none⟩,
  ⟨some 33, .mov (.tmp 32), none⟩,
  ⟨some 34, .faddr 1 (.tmp 2), some (33, false)⟩,
  ⟨some 35, .load false 1 false (.tmp 34), some (33, false)⟩,
  ⟨some 36, .faddr 1 (.tmp 3), some (33, false)⟩,
  ⟨some 37, .load false 1 false (.tmp 36), some (33, false)⟩,
  ⟨some 38, .call .std 26 [(.tmp 35), (.tmp 37)], some (33, false)⟩,
  ⟨some 39, .un .not (.tmp 38), some (33, false)⟩,
  ⟨some 40, .pick (.tmp 33) (.cst (.bool true)) (.tmp 39), none⟩,
  ⟨some 41, .mov (.tmp 40), none⟩,
  ⟨some 42, .faddr 1 (.tmp 2), some (41, false)⟩,
  ⟨some 43, .load false 1 false (.tmp 42), some (41, false)⟩,
  ⟨some 44, .len false (.tmp 43), some (41, false)⟩,
  ⟨some 45, .faddr 1 (.tmp 3), some (41, false)⟩,
  ⟨some 46, .load false 1 false (.tmp 45), some (41, false)⟩,
  ⟨some 47, .len false (.tmp 46), some (41, false)⟩,
  ⟨some 48, .arith .neq (.tmp 44) (.tmp 47), some (41, false)⟩,
  ⟨some 49, .pick (.tmp 41) (.cst (.bool true)) (.tmp 48), none⟩,
  ⟨some 50, .mov (.tmp 49), none⟩,
  ⟨some 51, .faddr 2 (.tmp 2), some (50, false)⟩,
  ⟨some 52, .load false 1 false (.tmp 51), some (50, false)⟩,
  ⟨some 53, .len false (.tmp 52), some (50, false)⟩,
  ⟨some 54, .faddr 2 (.tmp 3), some (50, false)⟩,
  ⟨some 55, .load false 1 false (.tmp 54), some (50, false)⟩,
  ⟨some 56, .len false (.tmp 55), some (50, false)⟩,
  ⟨some 57, .arith .neq (.tmp 53) (.tmp 56), some (50, false)⟩,
  ⟨some 58, .pick (.tmp 50) (.cst (.bool true)) (.tmp 57), none⟩]
@[simp] theorem ref11_Same_r1_go (T : Tbl) (K : List Kt) (fr : Fr) (S : St) : gval T (.ops ref11_Same_r1 :: K) fr S = gval T (.ops [
  ⟨some 6, .faddr 0 (.tmp 2), none⟩,
  ⟨some 7, .load false 1 false (.tmp 6), none⟩,
  ⟨some 8, .faddr 0 (.tmp 3), none⟩,
  ⟨some 9, .load false 1 false (.tmp 8), none⟩,
  ⟨some 10, .arith .neq (.tmp 7) (.tmp 9), none⟩,
  ⟨some 11, .mov (.tmp 10), none⟩,
  ⟨some 12, .faddr 4 (.tmp 2), some (11, false)⟩,
  ⟨some 13, .load false 1 false (.tmp 12), some (11, false)⟩,
  ⟨some 14, .faddr 4 (.tmp 3), some (11, false)⟩,
  ⟨some 15, .load false 1 false (.tmp 14), some (11, false)⟩,
  ⟨some 16, .arith .neq (.tmp 13) (.tmp 15), some (11, false)⟩,
  ⟨some 17, .pick (.tmp 11) (.cst (.bool true)) (.tmp 16), none⟩,
  ⟨some 18, .mov (.tmp 17), none⟩,
  ⟨some 19, .faddr 5 (.tmp 2), some (18, false)⟩,
  ⟨some 20, .load false 1 false (.tmp 19), some (18, false)⟩,
  ⟨some 21, .faddr 5 (.tmp 3), some (18, false)⟩,
  ⟨some 22, .load false 1 false (.tmp 21), some (18, false)⟩,
  ⟨some 23, .arith .neq (.tmp 20) (.tmp 22), some (18, false)⟩,
  ⟨some 24, .pick (.tmp 18) (.cst (.bool true)) (.tmp 23), none⟩,
  ⟨some 25, .mov (.tmp 24), none⟩,
  ⟨some 26, .faddr 3 (.tmp 2), some (25, false)⟩,
  ⟨some 27, .load false 1 false (.tmp 26), some (25, false)⟩,
  ⟨some 28, .faddr 3 (.tmp 3), some (25, false)⟩,
  ⟨some 29, .load false 1 false (.tmp 28), some (25, false)⟩,
  ⟨some 30, .call .std 175 [(.tmp 27), (.tmp 29)], some (25, false)⟩,
  ⟨some 31, .un .not (.tmp 30), some (25, false)⟩,
  ⟨some 32, .pick (.tmp 25) (.cst (.bool true)) (.tmp 31), none⟩,
  ⟨some 33, .mov (.tmp 32), none⟩,
  ⟨some 34, .faddr 1 (.tmp 2), some (33, false)⟩,
  ⟨some 35, .load false 1 false (.tmp 34), some (33, false)⟩,
  ⟨some 36, .faddr 1 (.tmp 3), some (33, false)⟩,
  ⟨some 37, .load false 1 false (.tmp 36), some (33, false)⟩,
  ⟨some 38, .call .std 26 [(.tmp 35), (.tmp 37)], some (33, false)⟩,
  ⟨some 39, .un .not (.tmp 38), some (33, false)⟩,
  ⟨some 40, .pick (.tmp 33) (.cst (.bool true)) (.tmp 39), none⟩,
  ⟨some 41, .mov (.tmp 40), none⟩,
  ⟨some 42, .faddr 1 (.tmp 2), some (41, false)⟩,
  ⟨some 43, .load false 1 false (.tmp 42), some (41, false)⟩,
  ⟨some 44, .len false (.tmp 43), some (41, false)⟩,
  ⟨some 45, .faddr 1 (.tmp 3), some (41, false)⟩,
  ⟨some 46, .load false 1 false (.tmp 45), some (41, false)⟩,
  ⟨some 47, .len false (.tmp 46), some (41, false)⟩,
  ⟨some 48, .arith .neq (.tmp 44) (.tmp 47), some (41, false)⟩,
  ⟨some 49, .pick (.tmp 41) (.cst (.bool true)) (.tmp 48), none⟩,
  ⟨some 50, .mov (.tmp 49), none⟩,
  ⟨some 51, .faddr 2 (.tmp 2), some (50, false)⟩,
  ⟨some 52, .load false 1 false (.tmp 51), some (50, false)⟩,
  ⟨some 53, .len false (.tmp 52), some (50, false)⟩,
  ⟨some 54, .faddr 2 (.tmp 3), some (50, false)⟩,
  ⟨some 55, .load false 1 false (.tmp 54), some (50, false)⟩,
  ⟨some 56, .len false (.tmp 55), some (50, false)⟩,
  ⟨some 57, .arith .neq (.tmp 53) (.tmp 56), some (50, false)⟩,
  ⟨some 58, .pick (.tmp 50) (.cst (.bool true)) (.tmp 57), none⟩] :: K) fr S := rfl
def ref11_Same_r2 : List POper := [
  ⟨some 4, .mov (.cst (.bool false)), none⟩]
@[simp] theorem ref11_Same_r2_go (T : Tbl) (K : List Kt) (fr : Fr) (S : St) : gval T (.ops ref11_Same_r2 :: K) fr S = gval T (.ops [
  ⟨some 4, .mov (.cst (.bool false)), none⟩] :: K) fr S := rfl
def ref11_Same_r3 : List POper := [
  ⟨some 5, .mov (.cst (.int .i64 0)), none⟩]
@[simp] theorem ref11_Same_r3_go (T : Tbl) (K : List Kt) (fr : Fr) (S : St) : gval T (.ops ref11_Same_r3 :: K) fr S = gval T (.ops [
  ⟨some 5, .mov (.cst (.int .i64 0)), none⟩] :: K) fr S := rfl
def ref11_Same_r4 : List POper := [
  ⟨some 59, .mov (.tmp 5), none⟩,
  ⟨some 60, .faddr 2 (.tmp 2), none⟩,
  ⟨some 61, .load false 1 false (.tmp 60), none⟩,
  ⟨some 62, .len false (.tmp 61), none⟩,
  ⟨some 63, .arith .lss (.tmp 59) (.tmp 62), none⟩]
@[simp] theorem ref11_Same_r4_go (T : Tbl) (K : List Kt) (fr : Fr) (S : St) : gval T (.ops ref11_Same_r4 :: K) fr S = gval T (.ops [
  ⟨some 59, .mov (.tmp 5), none⟩,
  ⟨some 60, .faddr 2 (.tmp 2), none⟩,
  ⟨some 61, .load false 1 false (.tmp 60), none⟩,
  ⟨some 62, .len false (.tmp 61), none⟩,
  ⟨some 63, .arith .lss (.tmp 59) (.tmp 62), none⟩] :: K) fr S := rfl
def ref11_Same_r6 : List POper := [
  ⟨some 66, .faddr 2 (.tmp 2), none⟩,
  ⟨some 67, .load false 1 true (.tmp 66), none⟩,
  ⟨some 68, .mov (.tmp 5), none⟩,
  ⟨some 69, .iaddr 3 (.tmp 67) (.tmp 68), none⟩,
  ⟨some 70, .load true 3 true (.tmp 69), none⟩,
  ⟨some 71, .faddr 2 (.tmp 3), none⟩,
  ⟨some 72, .load false 1 true (.tmp 71), none⟩,
  ⟨some 73, .mov (.tmp 5), none⟩,
  ⟨some 74, .iaddr 3 (.tmp 72) (.tmp 73), none⟩,
  ⟨some 75, .load true 3 true (.tmp 74), none⟩,
  ⟨some 76, .eqs true 3 (.tmp 70) (.tmp 75), none⟩]
@[simp] theorem ref11_Same_r6_go (T : Tbl) (K : List Kt) (fr : Fr) (S : St) : gval T (.ops ref11_Same_r6 :: K) fr S = gval T (.ops [
  ⟨some 66, .faddr 2 (.tmp 2), none⟩,
  ⟨some 67, .load false 1 true (.tmp 66), none⟩,
  ⟨some 68, .mov (.tmp 5), none⟩,
  ⟨some 69, .iaddr 3 (.tmp 67) (.tmp 68), none⟩,
  ⟨some 70, .load true 3 true (.tmp 69), none⟩,
  ⟨some 71, .faddr 2 (.tmp 3), none⟩,
  ⟨some 72, .load false 1 true (.tmp 71), none⟩,
  ⟨some 73, .mov (.tmp 5), none⟩,
  ⟨some 74, .iaddr 3 (.tmp 72) (.tmp 73), none⟩,
  ⟨some 75, .load true 3 true (.tmp 74), none⟩,
  ⟨some 76, .eqs true 3 (.tmp 70) (.tmp 75), none⟩] :: K) fr S := rfl
def ref11_Same_r7 : List POper := [
  ⟨some 4, .mov (.cst (.bool false)), none⟩]
@[simp] theorem ref11_Same_r7_go (T : Tbl) (K : List Kt) (fr : Fr) (S : St) : gval T (.ops ref11_Same_r7 :: K) fr S = gval T (.ops [
  ⟨some 4, .mov (.cst (.bool false)), none⟩] :: K) fr S := rfl
def ref11_Same_r5 : List POper := [
  ⟨some 64, .mov (.tmp 5), none⟩,
  ⟨some 65, .arith .add (.tmp 64) (.cst (.int .i64 1)), none⟩,
  ⟨some 5, .mov (.tmp 65), none⟩]
@[simp] theorem ref11_Same_r5_go (T : Tbl) (K : List Kt) (fr : Fr) (S : St) : gval T (.ops ref11_Same_r5 :: K) fr S = gval T (.ops [
  ⟨some 64, .mov (.tmp 5), none⟩,
  ⟨some 65, .arith .add (.tmp 64) (.cst (.int .i64 1)), none⟩,
  ⟨some 5, .mov (.tmp 65), none⟩] :: K) fr S := rfl
def ref11_Same_l0 : PCode :=
  (.seq (.seq (.clr [(59, 63)] (.region ref11_Same_r4)) (.cond (.tmp 63) .skip (.exit 0))) (.seq (.block 1 (.seq (.clr [(66, 76)] (.region ref11_Same_r6)) (.cond (.tmp 76) (.seq (.region ref11_Same_r7) .ret) .skip))) (.clr [(64, 66)] (.region ref11_Same_r5))))
@[simp] theorem ref11_Same_l0_go (T : Tbl) (K : List Kt) (fr : Fr) (S : St) : gval T (.code ref11_Same_l0 :: K) fr S = gval T (.code (.seq (.seq (.clr [(59, 63)] (.region ref11_Same_r4)) (.cond (.tmp 63) .skip (.exit 0))) (.seq (.block 1 (.seq (.clr [(66, 76)] (.region ref11_Same_r6)) (.cond (.tmp 76) (.seq (.region ref11_Same_r7) .ret) .skip))) (.clr [(64, 66)] (.region ref11_Same_r5)))) :: K) fr S := rfl
def ref11_Same_r8 : List POper := [
  ⟨some 4, .mov (.cst (.bool true)), none⟩]
@[simp] theorem ref11_Same_r8_go (T : Tbl) (K : List Kt) (fr : Fr) (S : St) : gval T (.ops ref11_Same_r8 :: K) fr S = gval T (.ops [
  ⟨some 4, .mov (.cst (.bool true)), none⟩] :: K) fr S := rfl
def ref11_Same : PCodeFn :=
  ⟨2, [.tmp 4],
  (.seq (.region ref11_Same_r0) (.seq (.seq (.clr [(6, 58)] (.region ref11_Same_r1)) (.cond (.tmp 58) (.seq (.region ref11_Same_r2) .ret) .skip)) (.seq (.seq (.region ref11_Same_r3) (.block 0 (.loop ref11_Same_l0))) (.seq (.region ref11_Same_r8) .ret)))), false⟩

end Ps
