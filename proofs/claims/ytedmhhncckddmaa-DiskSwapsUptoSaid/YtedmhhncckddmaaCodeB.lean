/- The functions' code, as the pure semantics has it: printed by program. -/
import Derived.Test.YtedmhhncckddmaaCodeA
namespace Ps
open Go
set_option maxRecDepth 10000

/-! (*gauge/disk.Disk).Append: 78 -/
def disk_Disk_Append_r0 : List POper := [
  ⟨some 6, .mov (.cst (.int .i64 0)), none⟩]
@[simp] theorem disk_Disk_Append_r0_go (T : Tbl) (K : List Kt) (fr : Fr) (S : St) : gval T (.ops disk_Disk_Append_r0 :: K) fr S = gval T (.ops [
  ⟨some 6, .mov (.cst (.int .i64 0)), none⟩] :: K) fr S := rfl
def disk_Disk_Append_r1 : List POper := [
  ⟨some 14, .mov (.tmp 0), none⟩,
  ⟨some 15, .mov (.tmp 1), none⟩,
  ⟨some 16, .call .std 194 [(.tmp 14), (.tmp 15)], none⟩,
  ⟨some 13, .mov (.tmp 16), none⟩,
  ⟨some 17, .extract 0 (.tmp 13), none⟩,
  ⟨some 18, .extract 1 (.tmp 13), none⟩,
  ⟨some 7, .mov (.tmp 17), none⟩,
  ⟨some 8, .mov (.tmp 18), none⟩]
@[simp] theorem disk_Disk_Append_r1_go (T : Tbl) (K : List Kt) (fr : Fr) (S : St) : gval T (.ops disk_Disk_Append_r1 :: K) fr S = gval T (.ops [
  ⟨some 14, .mov (.tmp 0), none⟩,
  ⟨some 15, .mov (.tmp 1), none⟩,
  ⟨some 16, .call .std 194 [(.tmp 14), (.tmp 15)], none⟩,
  ⟨some 13, .mov (.tmp 16), none⟩,
  ⟨some 17, .extract 0 (.tmp 13), none⟩,
  ⟨some 18, .extract 1 (.tmp 13), none⟩,
  ⟨some 7, .mov (.tmp 17), none⟩,
  ⟨some 8, .mov (.tmp 18), none⟩] :: K) fr S := rfl
def disk_Disk_Append_r2 : List POper := [
  ⟨some 19, .mov (.tmp 8), none⟩,
  ⟨some 20, .arith .neq (.tmp 19) (.cst (.int .i64 0)), none⟩]
@[simp] theorem disk_Disk_Append_r2_go (T : Tbl) (K : List Kt) (fr : Fr) (S : St) : gval T (.ops disk_Disk_Append_r2 :: K) fr S = gval T (.ops [
  ⟨some 19, .mov (.tmp 8), none⟩,
  ⟨some 20, .arith .neq (.tmp 19) (.cst (.int .i64 0)), none⟩] :: K) fr S := rfl
def disk_Disk_Append_r3 : List POper := [
  ⟨some 21, .mov (.tmp 8), none⟩,
  ⟨some 6, .mov (.tmp 21), none⟩]
@[simp] theorem disk_Disk_Append_r3_go (T : Tbl) (K : List Kt) (fr : Fr) (S : St) : gval T (.ops disk_Disk_Append_r3 :: K) fr S = gval T (.ops [
  ⟨some 21, .mov (.tmp 8), none⟩,
  ⟨some 6, .mov (.tmp 21), none⟩] :: K) fr S := rfl
def disk_Disk_Append_r4 : List POper := [
  ⟨some 22, .mov (.tmp 0), none⟩,
  ⟨some 23, .nilck (.tmp 22), none⟩,
  ⟨some 24, .faddr 0 (.tmp 23), none⟩,
  ⟨some 25, .load false 1 false (.tmp 24), none⟩,
  ⟨some 9, .mov (.tmp 25), none⟩]
@[simp] theorem disk_Disk_Append_r4_go (T : Tbl) (K : List Kt) (fr : Fr) (S : St) : gval T (.ops disk_Disk_Append_r4 :: K) fr S = gval T (.ops [
  ⟨some 22, .mov (.tmp 0), none⟩,
  ⟨some 23, .nilck (.tmp 22), none⟩,
  ⟨some 24, .faddr 0 (.tmp 23), none⟩,
  ⟨some 25, .load false 1 false (.tmp 24), none⟩,
  ⟨some 9, .mov (.tmp 25), none⟩] :: K) fr S := rfl
def disk_Disk_Append_r5 : List POper := [
  ⟨some 26, .mov (.tmp 0), none⟩,
  ⟨some 27, .nilck (.tmp 26), none⟩,
  ⟨some 28, .faddr 2 (.tmp 27), none⟩,
  ⟨some 29, .load false 1 false (.tmp 28), none⟩]
@[simp] theorem disk_Disk_Append_r5_go (T : Tbl) (K : List Kt) (fr : Fr) (S : St) : gval T (.ops disk_Disk_Append_r5 :: K) fr S = gval T (.ops [
  ⟨some 26, .mov (.tmp 0), none⟩,
  ⟨some 27, .nilck (.tmp 26), none⟩,
  ⟨some 28, .faddr 2 (.tmp 27), none⟩,
  ⟨some 29, .load false 1 false (.tmp 28), none⟩] :: K) fr S := rfl
def disk_Disk_Append_r7 : List POper := [
  ⟨some 34, .extract 1 (.tmp 33), none⟩,
  ⟨some 11, .mov (.tmp 34), none⟩]
@[simp] theorem disk_Disk_Append_r7_go (T : Tbl) (K : List Kt) (fr : Fr) (S : St) : gval T (.ops disk_Disk_Append_r7 :: K) fr S = gval T (.ops [
  ⟨some 34, .extract 1 (.tmp 33), none⟩,
  ⟨some 11, .mov (.tmp 34), none⟩] :: K) fr S := rfl
def disk_Disk_Append_r8 : List POper := [
  ⟨some 35, .mov (.tmp 9), none⟩,
  ⟨some 36, .mov (.tmp 11), none⟩,
  ⟨some 37, .nilck (.tmp 36), none⟩,
  ⟨some 38, .faddr 0 (.tmp 37), none⟩,
  ⟨some 39, .load false 1 false (.tmp 38), none⟩,
  ⟨some 40, .len false (.tmp 39), none⟩,
  ⟨some 41, .arith .sub (.tmp 35) (.tmp 40), none⟩,
  ⟨some 9, .mov (.tmp 41), none⟩]
@[simp] theorem disk_Disk_Append_r8_go (T : Tbl) (K : List Kt) (fr : Fr) (S : St) : gval T (.ops disk_Disk_Append_r8 :: K) fr S = gval T (.ops [
  ⟨some 35, .mov (.tmp 9), none⟩,
  ⟨some 36, .mov (.tmp 11), none⟩,
  ⟨some 37, .nilck (.tmp 36), none⟩,
  ⟨some 38, .faddr 0 (.tmp 37), none⟩,
  ⟨some 39, .load false 1 false (.tmp 38), none⟩,
  ⟨some 40, .len false (.tmp 39), none⟩,
  ⟨some 41, .arith .sub (.tmp 35) (.tmp 40), none⟩,
  ⟨some 9, .mov (.tmp 41), none⟩] :: K) fr S := rfl
def disk_Disk_Append_r9 : List POper := [
  ⟨some 42, .mov (.tmp 2), none⟩,
  ⟨some 43, .len false (.tmp 42), none⟩,
  ⟨some 44, .mov (.tmp 9), none⟩,
  ⟨some 45, .arith .gtr (.tmp 43) (.tmp 44), none⟩]
@[simp] theorem disk_Disk_Append_r9_go (T : Tbl) (K : List Kt) (fr : Fr) (S : St) : gval T (.ops disk_Disk_Append_r9 :: K) fr S = gval T (.ops [
  ⟨some 42, .mov (.tmp 2), none⟩,
  ⟨some 43, .len false (.tmp 42), none⟩,
  ⟨some 44, .mov (.tmp 9), none⟩,
  ⟨some 45, .arith .gtr (.tmp 43) (.tmp 44), none⟩] :: K) fr S := rfl
def disk_Disk_Append_r10 : List POper := [
  ⟨some 6, .mov (.cst (.int .i64 7)), none⟩]
@[simp] theorem disk_Disk_Append_r10_go (T : Tbl) (K : List Kt) (fr : Fr) (S : St) : gval T (.ops disk_Disk_Append_r10 :: K) fr S = gval T (.ops [
  ⟨some 6, .mov (.cst (.int .i64 7)), none⟩] :: K) fr S := rfl
def disk_Disk_Append_r11 : List POper := [
  ⟨some 46, .mov (.tmp 0), none⟩,
  ⟨some 47, .call .std 196 [(.tmp 46)], none⟩,
  ⟨some 12, .mov (.tmp 47), none⟩]
@[simp] theorem disk_Disk_Append_r11_go (T : Tbl) (K : List Kt) (fr : Fr) (S : St) : gval T (.ops disk_Disk_Append_r11 :: K) fr S = gval T (.ops [
  ⟨some 46, .mov (.tmp 0), none⟩,
  ⟨some 47, .call .std 196 [(.tmp 46)], none⟩,
  ⟨some 12, .mov (.tmp 47), none⟩] :: K) fr S := rfl
def disk_Disk_Append_r12 : List POper := [
  ⟨some 48, .mov (.tmp 12), none⟩,
  ⟨some 49, .arith .neq (.tmp 48) (.cst (.int .i64 0)), none⟩]
@[simp] theorem disk_Disk_Append_r12_go (T : Tbl) (K : List Kt) (fr : Fr) (S : St) : gval T (.ops disk_Disk_Append_r12 :: K) fr S = gval T (.ops [
  ⟨some 48, .mov (.tmp 12), none⟩,
  ⟨some 49, .arith .neq (.tmp 48) (.cst (.int .i64 0)), none⟩] :: K) fr S := rfl
def disk_Disk_Append_r13 : List POper := [
  ⟨some 50, .mov (.tmp 12), none⟩,
  ⟨some 6, .mov (.tmp 50), none⟩]
@[simp] theorem disk_Disk_Append_r13_go (T : Tbl) (K : List Kt) (fr : Fr) (S : St) : gval T (.ops disk_Disk_Append_r13 :: K) fr S = gval T (.ops [
  ⟨some 50, .mov (.tmp 12), none⟩,
  ⟨some 6, .mov (.tmp 50), none⟩] :: K) fr S := rfl
def disk_Disk_Append_r14 : List POper := [
  ⟨some 51, .mov (.tmp 7), none⟩,
  ⟨some 52, .mov (.tmp 7), none⟩,
  ⟨some 53, .nilck (.tmp 52), none⟩,
  ⟨some 54, .faddr 0 (.tmp 53), none⟩,
  ⟨some 55, .load false 1 false (.tmp 54), none⟩,
  ⟨some 56, .mov (.tmp 2), none⟩,
  ⟨some 57, .app 1 1 (.tmp 55) (.tmp 56), none⟩,
  ⟨some 58, .nilck (.tmp 51), none⟩,
  ⟨some 59, .faddr 0 (.tmp 58), none⟩,
  ⟨none, .store 1 (.tmp 59) (.tmp 57), none⟩]
@[simp] theorem disk_Disk_Append_r14_go (T : Tbl) (K : List Kt) (fr : Fr) (S : St) : gval T (.ops disk_Disk_Append_r14 :: K) fr S = gval T (.ops [
  ⟨some 51, .mov (.tmp 7), none⟩,
  ⟨some 52, .mov (.tmp 7), none⟩,
  ⟨some 53, .nilck (.tmp 52), none⟩,
  ⟨some 54, .faddr 0 (.tmp 53), none⟩,
  ⟨some 55, .load false 1 false (.tmp 54), none⟩,
  ⟨some 56, .mov (.tmp 2), none⟩,
  ⟨some 57, .app 1 1 (.tmp 55) (.tmp 56), none⟩,
  ⟨some 58, .nilck (.tmp 51), none⟩,
  ⟨some 59, .faddr 0 (.tmp 58), none⟩,
  ⟨none, .store 1 (.tmp 59) (.tmp 57), none⟩] :: K) fr S := rfl
def disk_Disk_Append_r15 : List POper := [
  ⟨some 6, .mov (.cst (.int .i64 0)), none⟩]
@[simp] theorem disk_Disk_Append_r15_go (T : Tbl) (K : List Kt) (fr : Fr) (S : St) : gval T (.ops disk_Disk_Append_r15 :: K) fr S = gval T (.ops [
  ⟨some 6, .mov (.cst (.int .i64 0)), none⟩] :: K) fr S := rfl
def disk_Disk_Append : PCodeFn :=
  ⟨3, [.tmp 6],
  (.seq (.region disk_Disk_Append_r0) (.seq (.clr [(13, 19)] (.region disk_Disk_Append_r1)) (.seq (.seq (.clr [(19, 20)] (.region disk_Disk_Append_r2)) (.cond (.tmp 20) (.seq (.clr [(21, 22)] (.region disk_Disk_Append_r3)) .ret) .skip)) (.seq (.clr [(22, 26)] (.region disk_Disk_Append_r4)) (.seq (.rng disk_Disk_Append_r5 (.tmp 29) 33 disk_Disk_Append_r7 [(11, 12), (26, 42)] (.region disk_Disk_Append_r8)) (.seq (.seq (.clr [(42, 45)] (.region disk_Disk_Append_r9)) (.cond (.tmp 45) (.seq (.region disk_Disk_Append_r10) .ret) .skip)) (.seq (.seq (.clr [(46, 48)] (.region disk_Disk_Append_r11)) (.seq (.clr [(48, 49)] (.region disk_Disk_Append_r12)) (.cond (.tmp 49) (.seq (.clr [(50, 51)] (.region disk_Disk_Append_r13)) .ret) .skip))) (.seq (.clr [(51, 60)] (.region disk_Disk_Append_r14)) (.seq (.region disk_Disk_Append_r15) .ret))))))))), false⟩

/-! (*gauge/disk.Disk).Sync: 84 -/
def disk_Disk_Sync_r0 : List POper := [
  ⟨some 4, .mov (.cst (.int .i64 0)), none⟩]
@[simp] theorem disk_Disk_Sync_r0_go (T : Tbl) (K : List Kt) (fr : Fr) (S : St) : gval T (.ops disk_Disk_Sync_r0 :: K) fr S = gval T (.ops [
  ⟨some 4, .mov (.cst (.int .i64 0)), none⟩] :: K) fr S := rfl
def disk_Disk_Sync_r1 : List POper := [
  ⟨some 9, .mov (.tmp 0), none⟩,
  ⟨some 10, .mov (.tmp 1), none⟩,
  ⟨some 11, .call .std 194 [(.tmp 9), (.tmp 10)], none⟩,
  ⟨some 8, .mov (.tmp 11), none⟩,
  ⟨some 12, .extract 0 (.tmp 8), none⟩,
  ⟨some 13, .extract 1 (.tmp 8), none⟩,
  ⟨some 5, .mov (.tmp 12), none⟩,
  ⟨some 6, .mov (.tmp 13), none⟩]
@[simp] theorem disk_Disk_Sync_r1_go (T : Tbl) (K : List Kt) (fr : Fr) (S : St) : gval T (.ops disk_Disk_Sync_r1 :: K) fr S = gval T (.ops [
  ⟨some 9, .mov (.tmp 0), none⟩,
  ⟨some 10, .mov (.tmp 1), none⟩,
  ⟨some 11, .call .std 194 [(.tmp 9), (.tmp 10)], none⟩,
  ⟨some 8, .mov (.tmp 11), none⟩,
  ⟨some 12, .extract 0 (.tmp 8), none⟩,
  ⟨some 13, .extract 1 (.tmp 8), none⟩,
  ⟨some 5, .mov (.tmp 12), none⟩,
  ⟨some 6, .mov (.tmp 13), none⟩] :: K) fr S := rfl
def disk_Disk_Sync_r2 : List POper := [
  ⟨some 14, .mov (.tmp 6), none⟩,
  ⟨some 15, .arith .neq (.tmp 14) (.cst (.int .i64 0)), none⟩]
@[simp] theorem disk_Disk_Sync_r2_go (T : Tbl) (K : List Kt) (fr : Fr) (S : St) : gval T (.ops disk_Disk_Sync_r2 :: K) fr S = gval T (.ops [
  ⟨some 14, .mov (.tmp 6), none⟩,
  ⟨some 15, .arith .neq (.tmp 14) (.cst (.int .i64 0)), none⟩] :: K) fr S := rfl
def disk_Disk_Sync_r3 : List POper := [
  ⟨some 16, .mov (.tmp 6), none⟩,
  ⟨some 4, .mov (.tmp 16), none⟩]
@[simp] theorem disk_Disk_Sync_r3_go (T : Tbl) (K : List Kt) (fr : Fr) (S : St) : gval T (.ops disk_Disk_Sync_r3 :: K) fr S = gval T (.ops [
  ⟨some 16, .mov (.tmp 6), none⟩,
  ⟨some 4, .mov (.tmp 16), none⟩] :: K) fr S := rfl
def disk_Disk_Sync_r4 : List POper := [
  ⟨some 17, .mov (.tmp 0), none⟩,
  ⟨some 18, .call .std 196 [(.tmp 17)], none⟩,
  ⟨some 7, .mov (.tmp 18), none⟩]
@[simp] theorem disk_Disk_Sync_r4_go (T : Tbl) (K : List Kt) (fr : Fr) (S : St) : gval T (.ops disk_Disk_Sync_r4 :: K) fr S = gval T (.ops [
  ⟨some 17, .mov (.tmp 0), none⟩,
  ⟨some 18, .call .std 196 [(.tmp 17)], none⟩,
  ⟨some 7, .mov (.tmp 18), none⟩] :: K) fr S := rfl
def disk_Disk_Sync_r5 : List POper := [
  ⟨some 19, .mov (.tmp 7), none⟩,
  ⟨some 20, .arith .neq (.tmp 19) (.cst (.int .i64 0)), none⟩]
@[simp] theorem disk_Disk_Sync_r5_go (T : Tbl) (K : List Kt) (fr : Fr) (S : St) : gval T (.ops disk_Disk_Sync_r5 :: K) fr S = gval T (.ops [
  ⟨some 19, .mov (.tmp 7), none⟩,
  ⟨some 20, .arith .neq (.tmp 19) (.cst (.int .i64 0)), none⟩] :: K) fr S := rfl
def disk_Disk_Sync_r6 : List POper := [
  ⟨some 21, .mov (.tmp 7), none⟩,
  ⟨some 4, .mov (.tmp 21), none⟩]
@[simp] theorem disk_Disk_Sync_r6_go (T : Tbl) (K : List Kt) (fr : Fr) (S : St) : gval T (.ops disk_Disk_Sync_r6 :: K) fr S = gval T (.ops [
  ⟨some 21, .mov (.tmp 7), none⟩,
  ⟨some 4, .mov (.tmp 21), none⟩] :: K) fr S := rfl
def disk_Disk_Sync_r7 : List POper := [
  ⟨some 22, .mov (.tmp 5), none⟩,
  ⟨some 23, .mov (.tmp 5), none⟩,
  ⟨some 24, .nilck (.tmp 23), none⟩,
  ⟨some 25, .faddr 0 (.tmp 24), none⟩,
  ⟨some 26, .load false 1 false (.tmp 25), none⟩,
  ⟨some 27, .len false (.tmp 26), none⟩,
  ⟨some 28, .nilck (.tmp 22), none⟩,
  ⟨some 29, .faddr 1 (.tmp 28), none⟩,
  ⟨none, .store 1 (.tmp 29) (.tmp 27), none⟩]
@[simp] theorem disk_Disk_Sync_r7_go (T : Tbl) (K : List Kt) (fr : Fr) (S : St) : gval T (.ops disk_Disk_Sync_r7 :: K) fr S = gval T (.ops [
  ⟨some 22, .mov (.tmp 5), none⟩,
  ⟨some 23, .mov (.tmp 5), none⟩,
  ⟨some 24, .nilck (.tmp 23), none⟩,
  ⟨some 25, .faddr 0 (.tmp 24), none⟩,
  ⟨some 26, .load false 1 false (.tmp 25), none⟩,
  ⟨some 27, .len false (.tmp 26), none⟩,
  ⟨some 28, .nilck (.tmp 22), none⟩,
  ⟨some 29, .faddr 1 (.tmp 28), none⟩,
  ⟨none, .store 1 (.tmp 29) (.tmp 27), none⟩] :: K) fr S := rfl
def disk_Disk_Sync_r8 : List POper := [
  ⟨some 4, .mov (.cst (.int .i64 0)), none⟩]
@[simp] theorem disk_Disk_Sync_r8_go (T : Tbl) (K : List Kt) (fr : Fr) (S : St) : gval T (.ops disk_Disk_Sync_r8 :: K) fr S = gval T (.ops [
  ⟨some 4, .mov (.cst (.int .i64 0)), none⟩] :: K) fr S := rfl
def disk_Disk_Sync : PCodeFn :=
  ⟨2, [.tmp 4],
  (.seq (.region disk_Disk_Sync_r0) (.seq (.clr [(8, 14)] (.region disk_Disk_Sync_r1)) (.seq (.seq (.clr [(14, 15)] (.region disk_Disk_Sync_r2)) (.cond (.tmp 15) (.seq (.clr [(16, 17)] (.region disk_Disk_Sync_r3)) .ret) .skip)) (.seq (.seq (.clr [(17, 19)] (.region disk_Disk_Sync_r4)) (.seq (.clr [(19, 20)] (.region disk_Disk_Sync_r5)) (.cond (.tmp 20) (.seq (.clr [(21, 22)] (.region disk_Disk_Sync_r6)) .ret) .skip))) (.seq (.clr [(22, 30)] (.region disk_Disk_Sync_r7)) (.seq (.region disk_Disk_Sync_r8) .ret)))))), false⟩

/-! (*gauge/disk.Disk).SyncDir: 79 -/
def disk_Disk_SyncDir_r0 : List POper := [
  ⟨some 2, .mov (.cst (.int .i64 0)), none⟩]
@[simp] theorem disk_Disk_SyncDir_r0_go (T : Tbl) (K : List Kt) (fr : Fr) (S : St) : gval T (.ops disk_Disk_SyncDir_r0 :: K) fr S = gval T (.ops [
  ⟨some 2, .mov (.cst (.int .i64 0)), none⟩] :: K) fr S := rfl
def disk_Disk_SyncDir_r1 : List POper := [
  ⟨some 4, .mov (.tmp 0), none⟩,
  ⟨some 5, .eqn false .p (.tmp 4), none⟩,
  ⟨some 6, .mov (.tmp 5), none⟩,
  ⟨some 7, .mov (.tmp 0), some (6, false)⟩,
  ⟨some 8, .nilck (.tmp 7), some (6, false)⟩,
  ⟨some 9, .faddr 2 (.tmp 8), some (6, false)⟩,
  ⟨some 10, .load false 1 false (.tmp 9), some (6, false)⟩,
  ⟨some 11, .eqn false .m (.tmp 10), some (6, false)⟩,
  ⟨some 12, .pick (.tmp 6) (.cst (.bool true)) (.tmp 11), none⟩]
@[simp] theorem disk_Disk_SyncDir_r1_go (T : Tbl) (K : List Kt) (fr : Fr) (S : St) : gval T (.ops disk_Disk_SyncDir_r1 :: K) fr S = gval T (.ops [
  ⟨some 4, .mov (.tmp 0), none⟩,
  ⟨some 5, .eqn false .p (.tmp 4), none⟩,
  ⟨some 6, .mov (.tmp 5), none⟩,
  ⟨some 7, .mov (.tmp 0), some (6, false)⟩,
  ⟨some 8, .nilck (.tmp 7), some (6, false)⟩,
  ⟨some 9, .faddr 2 (.tmp 8), some (6, false)⟩,
  ⟨some 10, .load false 1 false (.tmp 9), some (6, false)⟩,
  ⟨some 11, .eqn false .m (.tmp 10), some (6, false)⟩,
  ⟨some 12, .pick (.tmp 6) (.cst (.bool true)) (.tmp 11), none⟩] :: K) fr S := rfl
def disk_Disk_SyncDir_r2 : List POper := [
  ⟨some 2, .mov (.cst (.int .i64 1)), none⟩]
@[simp] theorem disk_Disk_SyncDir_r2_go (T : Tbl) (K : List Kt) (fr : Fr) (S : St) : gval T (.ops disk_Disk_SyncDir_r2 :: K) fr S = gval T (.ops [
  ⟨some 2, .mov (.cst (.int .i64 1)), none⟩] :: K) fr S := rfl
def disk_Disk_SyncDir_r3 : List POper := [
  ⟨some 13, .mov (.tmp 0), none⟩,
  ⟨some 14, .call .std 196 [(.tmp 13)], none⟩,
  ⟨some 3, .mov (.tmp 14), none⟩]
@[simp] theorem disk_Disk_SyncDir_r3_go (T : Tbl) (K : List Kt) (fr : Fr) (S : St) : gval T (.ops disk_Disk_SyncDir_r3 :: K) fr S = gval T (.ops [
  ⟨some 13, .mov (.tmp 0), none⟩,
  ⟨some 14, .call .std 196 [(.tmp 13)], none⟩,
  ⟨some 3, .mov (.tmp 14), none⟩] :: K) fr S := rfl
def disk_Disk_SyncDir_r4 : List POper := [
  ⟨some 15, .mov (.tmp 3), none⟩,
  ⟨some 16, .arith .neq (.tmp 15) (.cst (.int .i64 0)), none⟩]
@[simp] theorem disk_Disk_SyncDir_r4_go (T : Tbl) (K : List Kt) (fr : Fr) (S : St) : gval T (.ops disk_Disk_SyncDir_r4 :: K) fr S = gval T (.ops [
  ⟨some 15, .mov (.tmp 3), none⟩,
  ⟨some 16, .arith .neq (.tmp 15) (.cst (.int .i64 0)), none⟩] :: K) fr S := rfl
def disk_Disk_SyncDir_r5 : List POper := [
  ⟨some 17, .mov (.tmp 3), none⟩,
  ⟨some 2, .mov (.tmp 17), none⟩]
@[simp] theorem disk_Disk_SyncDir_r5_go (T : Tbl) (K : List Kt) (fr : Fr) (S : St) : gval T (.ops disk_Disk_SyncDir_r5 :: K) fr S = gval T (.ops [
  ⟨some 17, .mov (.tmp 3), none⟩,
  ⟨some 2, .mov (.tmp 17), none⟩] :: K) fr S := rfl
def disk_Disk_SyncDir_r6 : List POper := [
  ⟨some 18, .mov (.tmp 0), none⟩,
  ⟨some 19, .mov (.tmp 0), none⟩,
  ⟨some 20, .mov (.tmp 0), none⟩,
  ⟨some 21, .nilck (.tmp 20), none⟩,
  ⟨some 22, .faddr 2 (.tmp 21), none⟩,
  ⟨some 23, .load false 1 false (.tmp 22), none⟩,
  ⟨some 24, .call .std 197 [(.tmp 23)], none⟩,
  ⟨some 25, .nilck (.tmp 18), none⟩,
  ⟨some 26, .faddr 1 (.tmp 25), none⟩,
  ⟨none, .store 1 (.tmp 26) (.tmp 24), none⟩,
  ⟨some 27, .nilck (.tmp 19), none⟩,
  ⟨some 28, .faddr 3 (.tmp 27), none⟩,
  ⟨none, .store 1 (.tmp 28) (.cst .nils), none⟩]
@[simp] theorem disk_Disk_SyncDir_r6_go (T : Tbl) (K : List Kt) (fr : Fr) (S : St) : gval T (.ops disk_Disk_SyncDir_r6 :: K) fr S = gval T (.ops [
  ⟨some 18, .mov (.tmp 0), none⟩,
  ⟨some 19, .mov (.tmp 0), none⟩,
  ⟨some 20, .mov (.tmp 0), none⟩,
  ⟨some 21, .nilck (.tmp 20), none⟩,
  ⟨some 22, .faddr 2 (.tmp 21), none⟩,
  ⟨some 23, .load false 1 false (.tmp 22), none⟩,
  ⟨some 24, .call .std 197 [(.tmp 23)], none⟩,
  ⟨some 25, .nilck (.tmp 18), none⟩,
  ⟨some 26, .faddr 1 (.tmp 25), none⟩,
  ⟨none, .store 1 (.tmp 26) (.tmp 24), none⟩,
  ⟨some 27, .nilck (.tmp 19), none⟩,
  ⟨some 28, .faddr 3 (.tmp 27), none⟩,
  ⟨none, .store 1 (.tmp 28) (.cst .nils), none⟩] :: K) fr S := rfl
def disk_Disk_SyncDir_r7 : List POper := [
  ⟨some 2, .mov (.cst (.int .i64 0)), none⟩]
@[simp] theorem disk_Disk_SyncDir_r7_go (T : Tbl) (K : List Kt) (fr : Fr) (S : St) : gval T (.ops disk_Disk_SyncDir_r7 :: K) fr S = gval T (.ops [
  ⟨some 2, .mov (.cst (.int .i64 0)), none⟩] :: K) fr S := rfl
def disk_Disk_SyncDir : PCodeFn :=
  ⟨1, [.tmp 2],
  (.seq (.region disk_Disk_SyncDir_r0) (.seq (.seq (.clr [(4, 12)] (.region disk_Disk_SyncDir_r1)) (.cond (.tmp 12) (.seq (.region disk_Disk_SyncDir_r2) .ret) .skip)) (.seq (.seq (.clr [(13, 15)] (.region disk_Disk_SyncDir_r3)) (.seq (.clr [(15, 16)] (.region disk_Disk_SyncDir_r4)) (.cond (.tmp 16) (.seq (.clr [(17, 18)] (.region disk_Disk_SyncDir_r5)) .ret) .skip))) (.seq (.clr [(18, 29)] (.region disk_Disk_SyncDir_r6)) (.seq (.region disk_Disk_SyncDir_r7) .ret))))), false⟩

/-! (*gauge/disk.Disk).Rename: 82 -/
def disk_Disk_Rename_r0 : List POper := [
  ⟨some 6, .mov (.cst (.int .i64 0)), none⟩]
@[simp] theorem disk_Disk_Rename_r0_go (T : Tbl) (K : List Kt) (fr : Fr) (S : St) : gval T (.ops disk_Disk_Rename_r0 :: K) fr S = gval T (.ops [
  ⟨some 6, .mov (.cst (.int .i64 0)), none⟩] :: K) fr S := rfl
def disk_Disk_Rename_r1 : List POper := [
  ⟨some 10, .mov (.tmp 0), none⟩,
  ⟨some 11, .mov (.tmp 1), none⟩,
  ⟨some 12, .call .std 194 [(.tmp 10), (.tmp 11)], none⟩,
  ⟨some 9, .mov (.tmp 12), none⟩,
  ⟨some 13, .extract 0 (.tmp 9), none⟩,
  ⟨some 14, .extract 1 (.tmp 9), none⟩,
  ⟨some 7, .mov (.tmp 13), none⟩,
  ⟨some 8, .mov (.tmp 14), none⟩]
@[simp] theorem disk_Disk_Rename_r1_go (T : Tbl) (K : List Kt) (fr : Fr) (S : St) : gval T (.ops disk_Disk_Rename_r1 :: K) fr S = gval T (.ops [
  ⟨some 10, .mov (.tmp 0), none⟩,
  ⟨some 11, .mov (.tmp 1), none⟩,
  ⟨some 12, .call .std 194 [(.tmp 10), (.tmp 11)], none⟩,
  ⟨some 9, .mov (.tmp 12), none⟩,
  ⟨some 13, .extract 0 (.tmp 9), none⟩,
  ⟨some 14, .extract 1 (.tmp 9), none⟩,
  ⟨some 7, .mov (.tmp 13), none⟩,
  ⟨some 8, .mov (.tmp 14), none⟩] :: K) fr S := rfl
def disk_Disk_Rename_r2 : List POper := [
  ⟨some 15, .mov (.tmp 8), none⟩,
  ⟨some 16, .arith .neq (.tmp 15) (.cst (.int .i64 0)), none⟩,
  ⟨some 17, .mov (.tmp 16), none⟩,
  ⟨some 18, .mov (.tmp 8), some (17, true)⟩,
  ⟨some 19, .arith .neq (.tmp 18) (.cst (.int .i64 9)), some (17, true)⟩,
  ⟨some 20, .pick (.tmp 17) (.tmp 19) (.cst (.bool false)), none⟩]
@[simp] theorem disk_Disk_Rename_r2_go (T : Tbl) (K : List Kt) (fr : Fr) (S : St) : gval T (.ops disk_Disk_Rename_r2 :: K) fr S = gval T (.ops [
  ⟨some 15, .mov (.tmp 8), none⟩,
  ⟨some 16, .arith .neq (.tmp 15) (.cst (.int .i64 0)), none⟩,
  ⟨some 17, .mov (.tmp 16), none⟩,
  ⟨some 18, .mov (.tmp 8), some (17, true)⟩,
  ⟨some 19, .arith .neq (.tmp 18) (.cst (.int .i64 9)), some (17, true)⟩,
  ⟨some 20, .pick (.tmp 17) (.tmp 19) (.cst (.bool false)), none⟩] :: K) fr S := rfl
def disk_Disk_Rename_r3 : List POper := [
  ⟨some 21, .mov (.tmp 8), none⟩,
  ⟨some 6, .mov (.tmp 21), none⟩]
@[simp] theorem disk_Disk_Rename_r3_go (T : Tbl) (K : List Kt) (fr : Fr) (S : St) : gval T (.ops disk_Disk_Rename_r3 :: K) fr S = gval T (.ops [
  ⟨some 21, .mov (.tmp 8), none⟩,
  ⟨some 6, .mov (.tmp 21), none⟩] :: K) fr S := rfl
def disk_Disk_Rename_r4 : List POper := [
  ⟨some 22, .mov (.tmp 2), none⟩,
  ⟨some 23, .call .pur 202 [(.tmp 22)], none⟩,
  ⟨some 24, .un .not (.tmp 23), none⟩]
@[simp] theorem disk_Disk_Rename_r4_go (T : Tbl) (K : List Kt) (fr : Fr) (S : St) : gval T (.ops disk_Disk_Rename_r4 :: K) fr S = gval T (.ops [
  ⟨some 22, .mov (.tmp 2), none⟩,
  ⟨some 23, .call .pur 202 [(.tmp 22)], none⟩,
  ⟨some 24, .un .not (.tmp 23), none⟩] :: K) fr S := rfl
def disk_Disk_Rename_r5 : List POper := [
  ⟨some 6, .mov (.cst (.int .i64 8)), none⟩]
@[simp] theorem disk_Disk_Rename_r5_go (T : Tbl) (K : List Kt) (fr : Fr) (S : St) : gval T (.ops disk_Disk_Rename_r5 :: K) fr S = gval T (.ops [
  ⟨some 6, .mov (.cst (.int .i64 8)), none⟩] :: K) fr S := rfl
def disk_Disk_Rename_r6 : List POper := [
  ⟨some 25, .mov (.tmp 8), none⟩,
  ⟨some 26, .arith .neq (.tmp 25) (.cst (.int .i64 0)), none⟩]
@[simp] theorem disk_Disk_Rename_r6_go (T : Tbl) (K : List Kt) (fr : Fr) (S : St) : gval T (.ops disk_Disk_Rename_r6 :: K) fr S = gval T (.ops [
  ⟨some 25, .mov (.tmp 8), none⟩,
  ⟨some 26, .arith .neq (.tmp 25) (.cst (.int .i64 0)), none⟩] :: K) fr S := rfl
def disk_Disk_Rename_r7 : List POper := [
  ⟨some 27, .mov (.tmp 8), none⟩,
  ⟨some 6, .mov (.tmp 27), none⟩]
@[simp] theorem disk_Disk_Rename_r7_go (T : Tbl) (K : List Kt) (fr : Fr) (S : St) : gval T (.ops disk_Disk_Rename_r7 :: K) fr S = gval T (.ops [
  ⟨some 27, .mov (.tmp 8), none⟩,
  ⟨some 6, .mov (.tmp 27), none⟩] :: K) fr S := rfl
def disk_Disk_Rename_r8 : List POper := [
  ⟨some 28, .mov (.tmp 0), none⟩,
  ⟨some 29, .mov (.tmp 1), none⟩,
  ⟨some 30, .mov (.tmp 2), none⟩,
  ⟨some 31, .build [(.str []), (.str []), .nilp] [(0, 1, (.tmp 29)), (1, 1, (.tmp 30))], none⟩,
  ⟨some 32, .call .std 195 [(.tmp 28), (.tmp 31)], none⟩,
  ⟨some 6, .mov (.tmp 32), none⟩]
@[simp] theorem disk_Disk_Rename_r8_go (T : Tbl) (K : List Kt) (fr : Fr) (S : St) : gval T (.ops disk_Disk_Rename_r8 :: K) fr S = gval T (.ops [
  ⟨some 28, .mov (.tmp 0), none⟩,
  ⟨some 29, .mov (.tmp 1), none⟩,
  ⟨some 30, .mov (.tmp 2), none⟩,
  ⟨some 31, .build [(.str []), (.str []), .nilp] [(0, 1, (.tmp 29)), (1, 1, (.tmp 30))], none⟩,
  ⟨some 32, .call .std 195 [(.tmp 28), (.tmp 31)], none⟩,
  ⟨some 6, .mov (.tmp 32), none⟩] :: K) fr S := rfl
def disk_Disk_Rename : PCodeFn :=
  ⟨3, [.tmp 6],
  (.seq (.region disk_Disk_Rename_r0) (.seq (.clr [(7, 8), (9, 15)] (.region disk_Disk_Rename_r1)) (.seq (.seq (.clr [(15, 20)] (.region disk_Disk_Rename_r2)) (.cond (.tmp 20) (.seq (.clr [(21, 22)] (.region disk_Disk_Rename_r3)) .ret) .skip)) (.seq (.seq (.clr [(22, 24)] (.region disk_Disk_Rename_r4)) (.cond (.tmp 24) (.seq (.region disk_Disk_Rename_r5) .ret) .skip)) (.seq (.seq (.clr [(25, 26)] (.region disk_Disk_Rename_r6)) (.cond (.tmp 26) (.seq (.clr [(27, 28)] (.region disk_Disk_Rename_r7)) .ret) .skip)) (.seq (.clr [(28, 33)] (.region disk_Disk_Rename_r8)) .ret)))))), false⟩

/-! (*gauge/disk.Disk).Crash: 80 -/
def disk_Disk_Crash_r0 : List POper := [
  ⟨some 6, .mov (.cst (.int .i64 0)), none⟩]
@[simp] theorem disk_Disk_Crash_r0_go (T : Tbl) (K : List Kt) (fr : Fr) (S : St) : gval T (.ops disk_Disk_Crash_r0 :: K) fr S = gval T (.ops [
  ⟨some 6, .mov (.cst (.int .i64 0)), none⟩] :: K) fr S := rfl
def disk_Disk_Crash_r1 : List POper := [
  ⟨some 13, .mov (.tmp 0), none⟩,
  ⟨some 14, .eqn false .p (.tmp 13), none⟩,
  ⟨some 15, .mov (.tmp 14), none⟩,
  ⟨some 16, .mov (.tmp 0), some (15, false)⟩,
  ⟨some 17, .nilck (.tmp 16), some (15, false)⟩,
  ⟨some 18, .faddr 2 (.tmp 17), some (15, false)⟩,
  ⟨some 19, .load false 1 false (.tmp 18), some (15, false)⟩,
  ⟨some 20, .eqn false .m (.tmp 19), some (15, false)⟩,
  ⟨some 21, .pick (.tmp 15) (.cst (.bool true)) (.tmp 20), none⟩]
@[simp] theorem disk_Disk_Crash_r1_go (T : Tbl) (K : List Kt) (fr : Fr) (S : St) : gval T (.ops disk_Disk_Crash_r1 :: K) fr S = gval T (.ops [
  ⟨some 13, .mov (.tmp 0), none⟩,
  ⟨some 14, .eqn false .p (.tmp 13), none⟩,
  ⟨some 15, .mov (.tmp 14), none⟩,
  ⟨some 16, .mov (.tmp 0), some (15, false)⟩,
  ⟨some 17, .nilck (.tmp 16), some (15, false)⟩,
  ⟨some 18, .faddr 2 (.tmp 17), some (15, false)⟩,
  ⟨some 19, .load false 1 false (.tmp 18), some (15, false)⟩,
  ⟨some 20, .eqn false .m (.tmp 19), some (15, false)⟩,
  ⟨some 21, .pick (.tmp 15) (.cst (.bool true)) (.tmp 20), none⟩] :: K) fr S := rfl
def disk_Disk_Crash_r2 : List POper := [
  ⟨some 6, .mov (.cst (.int .i64 1)), none⟩]
@[simp] theorem disk_Disk_Crash_r2_go (T : Tbl) (K : List Kt) (fr : Fr) (S : St) : gval T (.ops disk_Disk_Crash_r2 :: K) fr S = gval T (.ops [
  ⟨some 6, .mov (.cst (.int .i64 1)), none⟩] :: K) fr S := rfl
def disk_Disk_Crash_r3 : List POper := [
  ⟨some 22, .mov (.tmp 0), none⟩,
  ⟨some 23, .nilck (.tmp 22), none⟩,
  ⟨some 24, .faddr 3 (.tmp 23), none⟩,
  ⟨some 25, .load false 1 false (.tmp 24), none⟩,
  ⟨some 26, .mov (.tmp 1), none⟩,
  ⟨some 27, .toInt .u64 (.tmp 26), none⟩,
  ⟨some 28, .mov (.tmp 0), none⟩,
  ⟨some 29, .nilck (.tmp 28), none⟩,
  ⟨some 30, .faddr 3 (.tmp 29), none⟩,
  ⟨some 31, .load false 1 false (.tmp 30), none⟩,
  ⟨some 32, .len false (.tmp 31), none⟩,
  ⟨some 33, .arith .add (.tmp 32) (.cst (.int .i64 1)), none⟩,
  ⟨some 34, .toInt .u64 (.tmp 33), none⟩,
  ⟨some 35, .arith .rem (.tmp 27) (.tmp 34), none⟩,
  ⟨some 36, .slc 3 none (some (.tmp 35)) (.tmp 25), none⟩,
  ⟨some 37, .len false (.tmp 36), none⟩,
  ⟨some 38, .mov (.cst (.int .i64 0)), none⟩]
@[simp] theorem disk_Disk_Crash_r3_go (T : Tbl) (K : List Kt) (fr : Fr) (S : St) : gval T (.ops disk_Disk_Crash_r3 :: K) fr S = gval T (.ops [
  ⟨some 22, .mov (.tmp 0), none⟩,
  ⟨some 23, .nilck (.tmp 22), none⟩,
  ⟨some 24, .faddr 3 (.tmp 23), none⟩,
  ⟨some 25, .load false 1 false (.tmp 24), none⟩,
  ⟨some 26, .mov (.tmp 1), none⟩,
  ⟨some 27, .toInt .u64 (.tmp 26), none⟩,
  ⟨some 28, .mov (.tmp 0), none⟩,
  ⟨some 29, .nilck (.tmp 28), none⟩,
  ⟨some 30, .faddr 3 (.tmp 29), none⟩,
  ⟨some 31, .load false 1 false (.tmp 30), none⟩,
  ⟨some 32, .len false (.tmp 31), none⟩,
  ⟨some 33, .arith .add (.tmp 32) (.cst (.int .i64 1)), none⟩,
  ⟨some 34, .toInt .u64 (.tmp 33), none⟩,
  ⟨some 35, .arith .rem (.tmp 27) (.tmp 34), none⟩,
  ⟨some 36, .slc 3 none (some (.tmp 35)) (.tmp 25), none⟩,
  ⟨some 37, .len false (.tmp 36), none⟩,
  ⟨some 38, .mov (.cst (.int .i64 0)), none⟩] :: K) fr S := rfl
def disk_Disk_Crash_r4 : List POper := [
  ⟨some 39, .arith .lss (.tmp 38) (.tmp 37), none⟩]
@[simp] theorem disk_Disk_Crash_r4_go (T : Tbl) (K : List Kt) (fr : Fr) (S : St) : gval T (.ops disk_Disk_Crash_r4 :: K) fr S = gval T (.ops [
  ⟨some 39, .arith .lss (.tmp 38) (.tmp 37), none⟩] :: K) fr S := rfl
def disk_Disk_Crash_r5 : List POper := [
  ⟨some 40, .iaddr 3 (.tmp 36) (.tmp 38), none⟩,
  ⟨some 41, .load true 3 false (.tmp 40), none⟩,
  ⟨some 8, .alloc false [(.str []), (.str []), .nilp], none⟩,
  ⟨none, .store 3 (.tmp 8) (.tmp 41), none⟩]
@[simp] theorem disk_Disk_Crash_r5_go (T : Tbl) (K : List Kt) (fr : Fr) (S : St) : gval T (.ops disk_Disk_Crash_r5 :: K) fr S = gval T (.ops [
  ⟨some 40, .iaddr 3 (.tmp 36) (.tmp 38), none⟩,
  ⟨some 41, .load true 3 false (.tmp 40), none⟩,
  ⟨some 8, .alloc false [(.str []), (.str []), .nilp], none⟩,
  ⟨none, .store 3 (.tmp 8) (.tmp 41), none⟩] :: K) fr S := rfl
def disk_Disk_Crash_r6 : List POper := [
  ⟨some 42, .load true 3 false (.tmp 8), none⟩,
  ⟨some 43, .mov (.tmp 0), none⟩,
  ⟨some 44, .nilck (.tmp 43), none⟩,
  ⟨some 45, .faddr 1 (.tmp 44), none⟩,
  ⟨some 46, .load false 1 false (.tmp 45), none⟩,
  ⟨some 47, .call .std 198 [(.tmp 42), (.tmp 46)], none⟩]
@[simp] theorem disk_Disk_Crash_r6_go (T : Tbl) (K : List Kt) (fr : Fr) (S : St) : gval T (.ops disk_Disk_Crash_r6 :: K) fr S = gval T (.ops [
  ⟨some 42, .load true 3 false (.tmp 8), none⟩,
  ⟨some 43, .mov (.tmp 0), none⟩,
  ⟨some 44, .nilck (.tmp 43), none⟩,
  ⟨some 45, .faddr 1 (.tmp 44), none⟩,
  ⟨some 46, .load false 1 false (.tmp 45), none⟩,
  ⟨some 47, .call .std 198 [(.tmp 42), (.tmp 46)], none⟩] :: K) fr S := rfl
def disk_Disk_Crash_r7 : List POper := [
  ⟨some 48, .arith .add (.tmp 38) (.cst (.int .i64 1)), none⟩,
  ⟨some 38, .mov (.tmp 48), none⟩]
@[simp] theorem disk_Disk_Crash_r7_go (T : Tbl) (K : List Kt) (fr : Fr) (S : St) : gval T (.ops disk_Disk_Crash_r7 :: K) fr S = gval T (.ops [
  ⟨some 48, .arith .add (.tmp 38) (.cst (.int .i64 1)), none⟩,
  ⟨some 38, .mov (.tmp 48), none⟩] :: K) fr S := rfl
def disk_Disk_Crash_l0 : PCode :=
  (.seq (.region disk_Disk_Crash_r4) (.seq (.cond (.tmp 39) .skip (.exit 0)) (.seq (.block 1 (.seq (.clr [(40, 42)] (.region disk_Disk_Crash_r5)) (.clr [(42, 48)] (.region disk_Disk_Crash_r6)))) (.clr [(48, 49)] (.region disk_Disk_Crash_r7)))))
@[simp] theorem disk_Disk_Crash_l0_go (T : Tbl) (K : List Kt) (fr : Fr) (S : St) : gval T (.code disk_Disk_Crash_l0 :: K) fr S = gval T (.code (.seq (.region disk_Disk_Crash_r4) (.seq (.cond (.tmp 39) .skip (.exit 0)) (.seq (.block 1 (.seq (.clr [(40, 42)] (.region disk_Disk_Crash_r5)) (.clr [(42, 48)] (.region disk_Disk_Crash_r6)))) (.clr [(48, 49)] (.region disk_Disk_Crash_r7))))) :: K) fr S := rfl
def disk_Disk_Crash_r8 : List POper := [
  ⟨some 49, .mov (.tmp 0), none⟩,
  ⟨some 50, .nilck (.tmp 49), none⟩,
  ⟨some 51, .faddr 1 (.tmp 50), none⟩,
  ⟨some 52, .load false 1 false (.tmp 51), none⟩,
  ⟨some 53, .call .std 200 [(.tmp 52)], none⟩,
  ⟨some 54, .call .std 199 [(.tmp 53)], none⟩,
  ⟨some 55, .len false (.tmp 54), none⟩,
  ⟨some 56, .mov (.cst (.int .i64 0)), none⟩]
@[simp] theorem disk_Disk_Crash_r8_go (T : Tbl) (K : List Kt) (fr : Fr) (S : St) : gval T (.ops disk_Disk_Crash_r8 :: K) fr S = gval T (.ops [
  ⟨some 49, .mov (.tmp 0), none⟩,
  ⟨some 50, .nilck (.tmp 49), none⟩,
  ⟨some 51, .faddr 1 (.tmp 50), none⟩,
  ⟨some 52, .load false 1 false (.tmp 51), none⟩,
  ⟨some 53, .call .std 200 [(.tmp 52)], none⟩,
  ⟨some 54, .call .std 199 [(.tmp 53)], none⟩,
  ⟨some 55, .len false (.tmp 54), none⟩,
  ⟨some 56, .mov (.cst (.int .i64 0)), none⟩] :: K) fr S := rfl
def disk_Disk_Crash_r9 : List POper := [
  ⟨some 57, .arith .lss (.tmp 56) (.tmp 55), none⟩]
@[simp] theorem disk_Disk_Crash_r9_go (T : Tbl) (K : List Kt) (fr : Fr) (S : St) : gval T (.ops disk_Disk_Crash_r9 :: K) fr S = gval T (.ops [
  ⟨some 57, .arith .lss (.tmp 56) (.tmp 55), none⟩] :: K) fr S := rfl
def disk_Disk_Crash_r10 : List POper := [
  ⟨some 58, .mov (.tmp 56), none⟩,
  ⟨some 59, .iaddr 1 (.tmp 54) (.tmp 56), none⟩,
  ⟨some 60, .load false 1 false (.tmp 59), none⟩,
  ⟨some 9, .mov (.tmp 58), none⟩,
  ⟨some 10, .mov (.tmp 60), none⟩]
@[simp] theorem disk_Disk_Crash_r10_go (T : Tbl) (K : List Kt) (fr : Fr) (S : St) : gval T (.ops disk_Disk_Crash_r10 :: K) fr S = gval T (.ops [
  ⟨some 58, .mov (.tmp 56), none⟩,
  ⟨some 59, .iaddr 1 (.tmp 54) (.tmp 56), none⟩,
  ⟨some 60, .load false 1 false (.tmp 59), none⟩,
  ⟨some 9, .mov (.tmp 58), none⟩,
  ⟨some 10, .mov (.tmp 60), none⟩] :: K) fr S := rfl
def disk_Disk_Crash_r11 : List POper := [
  ⟨some 61, .mov (.tmp 0), none⟩,
  ⟨some 62, .nilck (.tmp 61), none⟩,
  ⟨some 63, .faddr 1 (.tmp 62), none⟩,
  ⟨some 64, .load false 1 false (.tmp 63), none⟩,
  ⟨some 65, .mov (.tmp 10), none⟩,
  ⟨some 66, .mlk true false .nilp (.tmp 64) (.tmp 65), none⟩,
  ⟨some 11, .mov (.tmp 66), none⟩]
@[simp] theorem disk_Disk_Crash_r11_go (T : Tbl) (K : List Kt) (fr : Fr) (S : St) : gval T (.ops disk_Disk_Crash_r11 :: K) fr S = gval T (.ops [
  ⟨some 61, .mov (.tmp 0), none⟩,
  ⟨some 62, .nilck (.tmp 61), none⟩,
  ⟨some 63, .faddr 1 (.tmp 62), none⟩,
  ⟨some 64, .load false 1 false (.tmp 63), none⟩,
  ⟨some 65, .mov (.tmp 10), none⟩,
  ⟨some 66, .mlk true false .nilp (.tmp 64) (.tmp 65), none⟩,
  ⟨some 11, .mov (.tmp 66), none⟩] :: K) fr S := rfl
def disk_Disk_Crash_r12 : List POper := [
  ⟨some 67, .mov (.tmp 11), none⟩,
  ⟨some 68, .nilck (.tmp 67), none⟩,
  ⟨some 69, .faddr 1 (.tmp 68), none⟩,
  ⟨some 70, .load false 1 false (.tmp 69), none⟩,
  ⟨some 12, .mov (.tmp 70), none⟩]
@[simp] theorem disk_Disk_Crash_r12_go (T : Tbl) (K : List Kt) (fr : Fr) (S : St) : gval T (.ops disk_Disk_Crash_r12 :: K) fr S = gval T (.ops [
  ⟨some 67, .mov (.tmp 11), none⟩,
  ⟨some 68, .nilck (.tmp 67), none⟩,
  ⟨some 69, .faddr 1 (.tmp 68), none⟩,
  ⟨some 70, .load false 1 false (.tmp 69), none⟩,
  ⟨some 12, .mov (.tmp 70), none⟩] :: K) fr S := rfl
def disk_Disk_Crash_r13 : List POper := [
  ⟨some 71, .mov (.tmp 9), none⟩,
  ⟨some 72, .mov (.tmp 2), none⟩,
  ⟨some 73, .len false (.tmp 72), none⟩,
  ⟨some 74, .arith .lss (.tmp 71) (.tmp 73), none⟩]
@[simp] theorem disk_Disk_Crash_r13_go (T : Tbl) (K : List Kt) (fr : Fr) (S : St) : gval T (.ops disk_Disk_Crash_r13 :: K) fr S = gval T (.ops [
  ⟨some 71, .mov (.tmp 9), none⟩,
  ⟨some 72, .mov (.tmp 2), none⟩,
  ⟨some 73, .len false (.tmp 72), none⟩,
  ⟨some 74, .arith .lss (.tmp 71) (.tmp 73), none⟩] :: K) fr S := rfl
def disk_Disk_Crash_r14 : List POper := [
  ⟨some 75, .mov (.tmp 12), none⟩,
  ⟨some 76, .mov (.tmp 2), none⟩,
  ⟨some 77, .mov (.tmp 9), none⟩,
  ⟨some 78, .iaddr 1 (.tmp 76) (.tmp 77), none⟩,
  ⟨some 79, .load false 1 true (.tmp 78), none⟩,
  ⟨some 80, .toInt .u64 (.tmp 79), none⟩,
  ⟨some 81, .mov (.tmp 11), none⟩,
  ⟨some 82, .nilck (.tmp 81), none⟩,
  ⟨some 83, .faddr 0 (.tmp 82), none⟩,
  ⟨some 84, .load false 1 false (.tmp 83), none⟩,
  ⟨some 85, .len false (.tmp 84), none⟩,
  ⟨some 86, .mov (.tmp 11), none⟩,
  ⟨some 87, .nilck (.tmp 86), none⟩,
  ⟨some 88, .faddr 1 (.tmp 87), none⟩,
  ⟨some 89, .load false 1 false (.tmp 88), none⟩,
  ⟨some 90, .arith .sub (.tmp 85) (.tmp 89), none⟩,
  ⟨some 91, .arith .add (.tmp 90) (.cst (.int .i64 1)), none⟩,
  ⟨some 92, .toInt .u64 (.tmp 91), none⟩,
  ⟨some 93, .arith .rem (.tmp 80) (.tmp 92), none⟩,
  ⟨some 94, .toInt .i64 (.tmp 93), none⟩,
  ⟨some 95, .arith .add (.tmp 75) (.tmp 94), none⟩,
  ⟨some 12, .mov (.tmp 95), none⟩]
@[simp] theorem disk_Disk_Crash_r14_go (T : Tbl) (K : List Kt) (fr : Fr) (S : St) : gval T (.ops disk_Disk_Crash_r14 :: K) fr S = gval T (.ops [
  ⟨some 75, .mov (.tmp 12), none⟩,
  ⟨some 76, .mov (.tmp 2), none⟩,
  ⟨some 77, .mov (.tmp 9), none⟩,
  ⟨some 78, .iaddr 1 (.tmp 76) (.tmp 77), none⟩,
  ⟨some 79, .load false 1 true (.tmp 78), none⟩,
  ⟨some 80, .toInt .u64 (.tmp 79), none⟩,
  ⟨some 81, .mov (.tmp 11), none⟩,
  ⟨some 82, .nilck (.tmp 81), none⟩,
  ⟨some 83, .faddr 0 (.tmp 82), none⟩,
  ⟨some 84, .load false 1 false (.tmp 83), none⟩,
  ⟨some 85, .len false (.tmp 84), none⟩,
  ⟨some 86, .mov (.tmp 11), none⟩,
  ⟨some 87, .nilck (.tmp 86), none⟩,
  ⟨some 88, .faddr 1 (.tmp 87), none⟩,
  ⟨some 89, .load false 1 false (.tmp 88), none⟩,
  ⟨some 90, .arith .sub (.tmp 85) (.tmp 89), none⟩,
  ⟨some 91, .arith .add (.tmp 90) (.cst (.int .i64 1)), none⟩,
  ⟨some 92, .toInt .u64 (.tmp 91), none⟩,
  ⟨some 93, .arith .rem (.tmp 80) (.tmp 92), none⟩,
  ⟨some 94, .toInt .i64 (.tmp 93), none⟩,
  ⟨some 95, .arith .add (.tmp 75) (.tmp 94), none⟩,
  ⟨some 12, .mov (.tmp 95), none⟩] :: K) fr S := rfl
def disk_Disk_Crash_r15 : List POper := [
  ⟨some 96, .mov (.tmp 11), none⟩,
  ⟨some 97, .mov (.tmp 11), none⟩,
  ⟨some 98, .mov (.tmp 11), none⟩,
  ⟨some 99, .nilck (.tmp 98), none⟩,
  ⟨some 100, .faddr 0 (.tmp 99), none⟩,
  ⟨some 101, .load false 1 false (.tmp 100), none⟩,
  ⟨some 102, .mov (.tmp 12), none⟩,
  ⟨some 103, .mov (.tmp 12), none⟩,
  ⟨some 104, .slc3 1 none (.tmp 102) (.tmp 103) (.tmp 101), none⟩,
  ⟨some 105, .mov (.tmp 12), none⟩,
  ⟨some 106, .nilck (.tmp 96), none⟩,
  ⟨some 107, .faddr 0 (.tmp 106), none⟩,
  ⟨none, .store 1 (.tmp 107) (.tmp 104), none⟩,
  ⟨some 108, .nilck (.tmp 97), none⟩,
  ⟨some 109, .faddr 1 (.tmp 108), none⟩,
  ⟨none, .store 1 (.tmp 109) (.tmp 105), none⟩]
@[simp] theorem disk_Disk_Crash_r15_go (T : Tbl) (K : List Kt) (fr : Fr) (S : St) : gval T (.ops disk_Disk_Crash_r15 :: K) fr S = gval T (.ops [
  ⟨some 96, .mov (.tmp 11), none⟩,
  ⟨some 97, .mov (.tmp 11), none⟩,
  ⟨some 98, .mov (.tmp 11), none⟩,
  ⟨some 99, .nilck (.tmp 98), none⟩,
  ⟨some 100, .faddr 0 (.tmp 99), none⟩,
  ⟨some 101, .load false 1 false (.tmp 100), none⟩,
  ⟨some 102, .mov (.tmp 12), none⟩,
  ⟨some 103, .mov (.tmp 12), none⟩,
  ⟨some 104, .slc3 1 none (.tmp 102) (.tmp 103) (.tmp 101), none⟩,
  ⟨some 105, .mov (.tmp 12), none⟩,
  ⟨some 106, .nilck (.tmp 96), none⟩,
  ⟨some 107, .faddr 0 (.tmp 106), none⟩,
  ⟨none, .store 1 (.tmp 107) (.tmp 104), none⟩,
  ⟨some 108, .nilck (.tmp 97), none⟩,
  ⟨some 109, .faddr 1 (.tmp 108), none⟩,
  ⟨none, .store 1 (.tmp 109) (.tmp 105), none⟩] :: K) fr S := rfl
def disk_Disk_Crash_r16 : List POper := [
  ⟨some 110, .arith .add (.tmp 56) (.cst (.int .i64 1)), none⟩,
  ⟨some 56, .mov (.tmp 110), none⟩]
@[simp] theorem disk_Disk_Crash_r16_go (T : Tbl) (K : List Kt) (fr : Fr) (S : St) : gval T (.ops disk_Disk_Crash_r16 :: K) fr S = gval T (.ops [
  ⟨some 110, .arith .add (.tmp 56) (.cst (.int .i64 1)), none⟩,
  ⟨some 56, .mov (.tmp 110), none⟩] :: K) fr S := rfl
def disk_Disk_Crash_l1 : PCode :=
  (.seq (.region disk_Disk_Crash_r9) (.seq (.cond (.tmp 57) .skip (.exit 2)) (.seq (.block 3 (.seq (.clr [(58, 61)] (.region disk_Disk_Crash_r10)) (.seq (.clr [(61, 67)] (.region disk_Disk_Crash_r11)) (.seq (.clr [(67, 71)] (.region disk_Disk_Crash_r12)) (.seq (.seq (.clr [(71, 74)] (.region disk_Disk_Crash_r13)) (.cond (.tmp 74) (.clr [(75, 96)] (.region disk_Disk_Crash_r14)) .skip)) (.clr [(96, 110)] (.region disk_Disk_Crash_r15))))))) (.clr [(110, 111)] (.region disk_Disk_Crash_r16)))))
@[simp] theorem disk_Disk_Crash_l1_go (T : Tbl) (K : List Kt) (fr : Fr) (S : St) : gval T (.code disk_Disk_Crash_l1 :: K) fr S = gval T (.code (.seq (.region disk_Disk_Crash_r9) (.seq (.cond (.tmp 57) .skip (.exit 2)) (.seq (.block 3 (.seq (.clr [(58, 61)] (.region disk_Disk_Crash_r10)) (.seq (.clr [(61, 67)] (.region disk_Disk_Crash_r11)) (.seq (.clr [(67, 71)] (.region disk_Disk_Crash_r12)) (.seq (.seq (.clr [(71, 74)] (.region disk_Disk_Crash_r13)) (.cond (.tmp 74) (.clr [(75, 96)] (.region disk_Disk_Crash_r14)) .skip)) (.clr [(96, 110)] (.region disk_Disk_Crash_r15))))))) (.clr [(110, 111)] (.region disk_Disk_Crash_r16))))) :: K) fr S := rfl
def disk_Disk_Crash_r17 : List POper := [
  ⟨some 111, .mov (.tmp 0), none⟩,
  ⟨some 112, .mov (.tmp 0), none⟩,
  ⟨some 113, .mov (.tmp 0), none⟩,
  ⟨some 114, .mov (.tmp 0), none⟩,
  ⟨some 115, .mov (.tmp 0), none⟩,
  ⟨some 116, .nilck (.tmp 115), none⟩,
  ⟨some 117, .faddr 1 (.tmp 116), none⟩,
  ⟨some 118, .load false 1 false (.tmp 117), none⟩,
  ⟨some 119, .call .std 197 [(.tmp 118)], none⟩,
  ⟨some 120, .nilck (.tmp 111), none⟩,
  ⟨some 121, .faddr 2 (.tmp 120), none⟩,
  ⟨none, .store 1 (.tmp 121) (.tmp 119), none⟩,
  ⟨some 122, .nilck (.tmp 112), none⟩,
  ⟨some 123, .faddr 3 (.tmp 122), none⟩,
  ⟨none, .store 1 (.tmp 123) (.cst .nils), none⟩,
  ⟨some 124, .nilck (.tmp 113), none⟩,
  ⟨some 125, .faddr 4 (.tmp 124), none⟩,
  ⟨none, .store 1 (.tmp 125) (.cst (.int .i64 (-1))), none⟩,
  ⟨some 126, .nilck (.tmp 114), none⟩,
  ⟨some 127, .faddr 6 (.tmp 126), none⟩,
  ⟨none, .store 1 (.tmp 127) (.cst (.bool false)), none⟩]
@[simp] theorem disk_Disk_Crash_r17_go (T : Tbl) (K : List Kt) (fr : Fr) (S : St) : gval T (.ops disk_Disk_Crash_r17 :: K) fr S = gval T (.ops [
  ⟨some 111, .mov (.tmp 0), none⟩,
  ⟨some 112, .mov (.tmp 0), none⟩,
  ⟨some 113, .mov (.tmp 0), none⟩,
  ⟨some 114, .mov (.tmp 0), none⟩,
  ⟨some 115, .mov (.tmp 0), none⟩,
  ⟨some 116, .nilck (.tmp 115), none⟩,
  ⟨some 117, .faddr 1 (.tmp 116), none⟩,
  ⟨some 118, .load false 1 false (.tmp 117), none⟩,
  ⟨some 119, .call .std 197 [(.tmp 118)], none⟩,
  ⟨some 120, .nilck (.tmp 111), none⟩,
  ⟨some 121, .faddr 2 (.tmp 120), none⟩,
  ⟨none, .store 1 (.tmp 121) (.tmp 119), none⟩,
  ⟨some 122, .nilck (.tmp 112), none⟩,
  ⟨some 123, .faddr 3 (.tmp 122), none⟩,
  ⟨none, .store 1 (.tmp 123) (.cst .nils), none⟩,
  ⟨some 124, .nilck (.tmp 113), none⟩,
  ⟨some 125, .faddr 4 (.tmp 124), none⟩,
  ⟨none, .store 1 (.tmp 125) (.cst (.int .i64 (-1))), none⟩,
  ⟨some 126, .nilck (.tmp 114), none⟩,
  ⟨some 127, .faddr 6 (.tmp 126), none⟩,
  ⟨none, .store 1 (.tmp 127) (.cst (.bool false)), none⟩] :: K) fr S := rfl
def disk_Disk_Crash_r18 : List POper := [
  ⟨some 6, .mov (.cst (.int .i64 0)), none⟩]
@[simp] theorem disk_Disk_Crash_r18_go (T : Tbl) (K : List Kt) (fr : Fr) (S : St) : gval T (.ops disk_Disk_Crash_r18 :: K) fr S = gval T (.ops [
  ⟨some 6, .mov (.cst (.int .i64 0)), none⟩] :: K) fr S := rfl
def disk_Disk_Crash : PCodeFn :=
  ⟨3, [.tmp 6],
  (.seq (.region disk_Disk_Crash_r0) (.seq (.seq (.clr [(13, 21)] (.region disk_Disk_Crash_r1)) (.cond (.tmp 21) (.seq (.region disk_Disk_Crash_r2) .ret) .skip)) (.seq (.seq (.clr [(22, 36)] (.region disk_Disk_Crash_r3)) (.block 0 (.loop disk_Disk_Crash_l0))) (.seq (.seq (.clr [(49, 54)] (.region disk_Disk_Crash_r8)) (.block 2 (.loop disk_Disk_Crash_l1))) (.seq (.clr [(111, 128)] (.region disk_Disk_Crash_r17)) (.seq (.region disk_Disk_Crash_r18) .ret)))))), false⟩

/-! (*gauge/disk.Disk).Read: 81 -/
def disk_Disk_Read_r0 : List POper := [
  ⟨some 4, .mov (.cst .nils), none⟩,
  ⟨some 5, .mov (.cst (.int .i64 0)), none⟩]
@[simp] theorem disk_Disk_Read_r0_go (T : Tbl) (K : List Kt) (fr : Fr) (S : St) : gval T (.ops disk_Disk_Read_r0 :: K) fr S = gval T (.ops [
  ⟨some 4, .mov (.cst .nils), none⟩,
  ⟨some 5, .mov (.cst (.int .i64 0)), none⟩] :: K) fr S := rfl
def disk_Disk_Read_r1 : List POper := [
  ⟨some 9, .mov (.tmp 0), none⟩,
  ⟨some 10, .mov (.tmp 1), none⟩,
  ⟨some 11, .call .std 194 [(.tmp 9), (.tmp 10)], none⟩,
  ⟨some 8, .mov (.tmp 11), none⟩,
  ⟨some 12, .extract 0 (.tmp 8), none⟩,
  ⟨some 13, .extract 1 (.tmp 8), none⟩,
  ⟨some 6, .mov (.tmp 12), none⟩,
  ⟨some 7, .mov (.tmp 13), none⟩]
@[simp] theorem disk_Disk_Read_r1_go (T : Tbl) (K : List Kt) (fr : Fr) (S : St) : gval T (.ops disk_Disk_Read_r1 :: K) fr S = gval T (.ops [
  ⟨some 9, .mov (.tmp 0), none⟩,
  ⟨some 10, .mov (.tmp 1), none⟩,
  ⟨some 11, .call .std 194 [(.tmp 9), (.tmp 10)], none⟩,
  ⟨some 8, .mov (.tmp 11), none⟩,
  ⟨some 12, .extract 0 (.tmp 8), none⟩,
  ⟨some 13, .extract 1 (.tmp 8), none⟩,
  ⟨some 6, .mov (.tmp 12), none⟩,
  ⟨some 7, .mov (.tmp 13), none⟩] :: K) fr S := rfl
def disk_Disk_Read_r2 : List POper := [
  ⟨some 14, .mov (.tmp 7), none⟩,
  ⟨some 15, .arith .neq (.tmp 14) (.cst (.int .i64 0)), none⟩]
@[simp] theorem disk_Disk_Read_r2_go (T : Tbl) (K : List Kt) (fr : Fr) (S : St) : gval T (.ops disk_Disk_Read_r2 :: K) fr S = gval T (.ops [
  ⟨some 14, .mov (.tmp 7), none⟩,
  ⟨some 15, .arith .neq (.tmp 14) (.cst (.int .i64 0)), none⟩] :: K) fr S := rfl
def disk_Disk_Read_r3 : List POper := [
  ⟨some 16, .mov (.tmp 7), none⟩,
  ⟨some 4, .mov (.cst .nils), none⟩,
  ⟨some 5, .mov (.tmp 16), none⟩]
@[simp] theorem disk_Disk_Read_r3_go (T : Tbl) (K : List Kt) (fr : Fr) (S : St) : gval T (.ops disk_Disk_Read_r3 :: K) fr S = gval T (.ops [
  ⟨some 16, .mov (.tmp 7), none⟩,
  ⟨some 4, .mov (.cst .nils), none⟩,
  ⟨some 5, .mov (.tmp 16), none⟩] :: K) fr S := rfl
def disk_Disk_Read_r4 : List POper := [
  ⟨some 17, .mov (.tmp 0), none⟩,
  ⟨some 18, .nilck (.tmp 17), none⟩,
  ⟨some 19, .faddr 6 (.tmp 18), none⟩,
  ⟨some 20, .load false 1 false (.tmp 19), none⟩]
@[simp] theorem disk_Disk_Read_r4_go (T : Tbl) (K : List Kt) (fr : Fr) (S : St) : gval T (.ops disk_Disk_Read_r4 :: K) fr S = gval T (.ops [
  ⟨some 17, .mov (.tmp 0), none⟩,
  ⟨some 18, .nilck (.tmp 17), none⟩,
  ⟨some 19, .faddr 6 (.tmp 18), none⟩,
  ⟨some 20, .load false 1 false (.tmp 19), none⟩] :: K) fr S := rfl
def disk_Disk_Read_r5 : List POper := [
  ⟨some 4, .mov (.cst .nils), none⟩,
  ⟨some 5, .mov (.cst (.int .i64 6)), none⟩]
@[simp] theorem disk_Disk_Read_r5_go (T : Tbl) (K : List Kt) (fr : Fr) (S : St) : gval T (.ops disk_Disk_Read_r5 :: K) fr S = gval T (.ops [
  ⟨some 4, .mov (.cst .nils), none⟩,
  ⟨some 5, .mov (.cst (.int .i64 6)), none⟩] :: K) fr S := rfl
def disk_Disk_Read_r6 : List POper := [
  ⟨some 21, .mov (.tmp 6), none⟩,
  ⟨some 22, .nilck (.tmp 21), none⟩,
  ⟨some 23, .faddr 0 (.tmp 22), none⟩,
  ⟨some 24, .load false 1 false (.tmp 23), none⟩,
  ⟨some 25, .call .std 201 [(.tmp 24)], none⟩,
  ⟨some 4, .mov (.tmp 25), none⟩,
  ⟨some 5, .mov (.cst (.int .i64 0)), none⟩]
@[simp] theorem disk_Disk_Read_r6_go (T : Tbl) (K : List Kt) (fr : Fr) (S : St) : gval T (.ops disk_Disk_Read_r6 :: K) fr S = gval T (.ops [
  ⟨some 21, .mov (.tmp 6), none⟩,
  ⟨some 22, .nilck (.tmp 21), none⟩,
  ⟨some 23, .faddr 0 (.tmp 22), none⟩,
  ⟨some 24, .load false 1 false (.tmp 23), none⟩,
  ⟨some 25, .call .std 201 [(.tmp 24)], none⟩,
  ⟨some 4, .mov (.tmp 25), none⟩,
  ⟨some 5, .mov (.cst (.int .i64 0)), none⟩] :: K) fr S := rfl
def disk_Disk_Read : PCodeFn :=
  ⟨2, [.tmp 4, .tmp 5],
  (.seq (.region disk_Disk_Read_r0) (.seq (.clr [(8, 14)] (.region disk_Disk_Read_r1)) (.seq (.seq (.clr [(14, 15)] (.region disk_Disk_Read_r2)) (.cond (.tmp 15) (.seq (.clr [(16, 17)] (.region disk_Disk_Read_r3)) .ret) .skip)) (.seq (.seq (.clr [(17, 20)] (.region disk_Disk_Read_r4)) (.cond (.tmp 20) (.seq (.region disk_Disk_Read_r5) .ret) .skip)) (.seq (.clr [(21, 26)] (.region disk_Disk_Read_r6)) .ret))))), false⟩

/-! gauge/gaugelaw04.begun: 466 -/
def law04_begun_r0 : List POper := [
  ⟨some 4, .mov (.cst .nilp), none⟩]
@[simp] theorem law04_begun_r0_go (T : Tbl) (K : List Kt) (fr : Fr) (S : St) : gval T (.ops law04_begun_r0 :: K) fr S = gval T (.ops [
  ⟨some 4, .mov (.cst .nilp), none⟩] :: K) fr S := rfl
def law04_begun_r1 : List POper := [
  ⟨some 9, .mov (.tmp 0), none⟩,
  ⟨some 10, .call .std 16 [(.tmp 9)], none⟩,
  ⟨some 8, .mov (.tmp 10), none⟩,
  ⟨some 11, .extract 0 (.tmp 8), none⟩,
  ⟨some 12, .extract 1 (.tmp 8), none⟩,
  ⟨some 5, .mov (.tmp 11), none⟩,
  ⟨some 6, .mov (.tmp 12), none⟩]
@[simp] theorem law04_begun_r1_go (T : Tbl) (K : List Kt) (fr : Fr) (S : St) : gval T (.ops law04_begun_r1 :: K) fr S = gval T (.ops [
  ⟨some 9, .mov (.tmp 0), none⟩,
  ⟨some 10, .call .std 16 [(.tmp 9)], none⟩,
  ⟨some 8, .mov (.tmp 10), none⟩,
  ⟨some 11, .extract 0 (.tmp 8), none⟩,
  ⟨some 12, .extract 1 (.tmp 8), none⟩,
  ⟨some 5, .mov (.tmp 11), none⟩,
  ⟨some 6, .mov (.tmp 12), none⟩] :: K) fr S := rfl
def law04_begun_r2 : List POper := [
  ⟨some 7, .mov (.cst (.int .i64 0)), none⟩]
@[simp] theorem law04_begun_r2_go (T : Tbl) (K : List Kt) (fr : Fr) (S : St) : gval T (.ops law04_begun_r2 :: K) fr S = gval T (.ops [
  ⟨some 7, .mov (.cst (.int .i64 0)), none⟩] :: K) fr S := rfl
def law04_begun_r3 : List POper := [
  ⟨some 13, .mov (.tmp 7), none⟩,
  ⟨some 14, .mov (.tmp 1), none⟩,
  ⟨some 15, .len false (.tmp 14), none⟩,
  ⟨some 16, .arith .lss (.tmp 13) (.tmp 15), none⟩,
  ⟨some 17, .mov (.tmp 16), none⟩,
  ⟨some 18, .mov (.tmp 7), some (17, true)⟩,
  ⟨some 19, .arith .lss (.tmp 18) (.cst (.int .i64 40)), some (17, true)⟩,
  ⟨some 20, .pick (.tmp 17) (.tmp 19) (.cst (.bool false)), none⟩,
  ⟨some 21, .mov (.tmp 20), none⟩,
  ⟨some 22, .mov (.tmp 5), some (21, true)⟩,
  ⟨some 23, .eqn true .p (.tmp 22), some (21, true)⟩,
  ⟨some 24, .pick (.tmp 21) (.tmp 23) (.cst (.bool false)), none⟩]
@[simp] theorem law04_begun_r3_go (T : Tbl) (K : List Kt) (fr : Fr) (S : St) : gval T (.ops law04_begun_r3 :: K) fr S = gval T (.ops [
  ⟨some 13, .mov (.tmp 7), none⟩,
  ⟨some 14, .mov (.tmp 1), none⟩,
  ⟨some 15, .len false (.tmp 14), none⟩,
  ⟨some 16, .arith .lss (.tmp 13) (.tmp 15), none⟩,
  ⟨some 17, .mov (.tmp 16), none⟩,
  ⟨some 18, .mov (.tmp 7), some (17, true)⟩,
  ⟨some 19, .arith .lss (.tmp 18) (.cst (.int .i64 40)), some (17, true)⟩,
  ⟨some 20, .pick (.tmp 17) (.tmp 19) (.cst (.bool false)), none⟩,
  ⟨some 21, .mov (.tmp 20), none⟩,
  ⟨some 22, .mov (.tmp 5), some (21, true)⟩,
  ⟨some 23, .eqn true .p (.tmp 22), some (21, true)⟩,
  ⟨some 24, .pick (.tmp 21) (.tmp 23) (.cst (.bool false)), none⟩] :: K) fr S := rfl
def law04_begun_r5 : List POper := [
  ⟨some 27, .mov (.tmp 5), none⟩,
  ⟨some 28, .mov (.tmp 1), none⟩,
  ⟨some 29, .mov (.tmp 7), none⟩,
  ⟨some 30, .iaddr 6 (.tmp 28) (.tmp 29), none⟩,
  ⟨some 31, .load true 6 false (.tmp 30), none⟩,
  ⟨some 32, .call .std 19 [(.tmp 27), (.tmp 31)], none⟩]
@[simp] theorem law04_begun_r5_go (T : Tbl) (K : List Kt) (fr : Fr) (S : St) : gval T (.ops law04_begun_r5 :: K) fr S = gval T (.ops [
  ⟨some 27, .mov (.tmp 5), none⟩,
  ⟨some 28, .mov (.tmp 1), none⟩,
  ⟨some 29, .mov (.tmp 7), none⟩,
  ⟨some 30, .iaddr 6 (.tmp 28) (.tmp 29), none⟩,
  ⟨some 31, .load true 6 false (.tmp 30), none⟩,
  ⟨some 32, .call .std 19 [(.tmp 27), (.tmp 31)], none⟩] :: K) fr S := rfl
def law04_begun_r4 : List POper := [
  ⟨some 25, .mov (.tmp 7), none⟩,
  ⟨some 26, .arith .add (.tmp 25) (.cst (.int .i64 1)), none⟩,
  ⟨some 7, .mov (.tmp 26), none⟩]
@[simp] theorem law04_begun_r4_go (T : Tbl) (K : List Kt) (fr : Fr) (S : St) : gval T (.ops law04_begun_r4 :: K) fr S = gval T (.ops [
  ⟨some 25, .mov (.tmp 7), none⟩,
  ⟨some 26, .arith .add (.tmp 25) (.cst (.int .i64 1)), none⟩,
  ⟨some 7, .mov (.tmp 26), none⟩] :: K) fr S := rfl
def law04_begun_l0 : PCode :=
  (.seq (.seq (.clr [(13, 24)] (.region law04_begun_r3)) (.cond (.tmp 24) .skip (.exit 0))) (.seq (.block 1 (.clr [(27, 33)] (.region law04_begun_r5))) (.clr [(25, 27)] (.region law04_begun_r4))))
@[simp] theorem law04_begun_l0_go (T : Tbl) (K : List Kt) (fr : Fr) (S : St) : gval T (.code law04_begun_l0 :: K) fr S = gval T (.code (.seq (.seq (.clr [(13, 24)] (.region law04_begun_r3)) (.cond (.tmp 24) .skip (.exit 0))) (.seq (.block 1 (.clr [(27, 33)] (.region law04_begun_r5))) (.clr [(25, 27)] (.region law04_begun_r4)))) :: K) fr S := rfl
def law04_begun_r6 : List POper := [
  ⟨some 33, .mov (.tmp 5), none⟩,
  ⟨some 4, .mov (.tmp 33), none⟩]
@[simp] theorem law04_begun_r6_go (T : Tbl) (K : List Kt) (fr : Fr) (S : St) : gval T (.ops law04_begun_r6 :: K) fr S = gval T (.ops [
  ⟨some 33, .mov (.tmp 5), none⟩,
  ⟨some 4, .mov (.tmp 33), none⟩] :: K) fr S := rfl
def law04_begun : PCodeFn :=
  ⟨2, [.tmp 4],
  (.seq (.region law04_begun_r0) (.seq (.clr [(6, 7), (8, 13)] (.region law04_begun_r1)) (.seq (.seq (.region law04_begun_r2) (.block 0 (.loop law04_begun_l0))) (.seq (.clr [(33, 34)] (.region law04_begun_r6)) .ret)))), false⟩

/-! (*gauge/disk.Disk).Fuse: 85 -/
def disk_Disk_Fuse_r0 : List POper := [
  ⟨some 4, .mov (.tmp 0), none⟩,
  ⟨some 5, .eqn true .p (.tmp 4), none⟩,
  ⟨some 6, .mov (.tmp 5), none⟩,
  ⟨some 7, .mov (.tmp 0), some (6, true)⟩,
  ⟨some 8, .nilck (.tmp 7), some (6, true)⟩,
  ⟨some 9, .faddr 2 (.tmp 8), some (6, true)⟩,
  ⟨some 10, .load false 1 false (.tmp 9), some (6, true)⟩,
  ⟨some 11, .eqn true .m (.tmp 10), some (6, true)⟩,
  ⟨some 12, .pick (.tmp 6) (.tmp 11) (.cst (.bool false)), none⟩]
@[simp] theorem disk_Disk_Fuse_r0_go (T : Tbl) (K : List Kt) (fr : Fr) (S : St) : gval T (.ops disk_Disk_Fuse_r0 :: K) fr S = gval T (.ops [
  ⟨some 4, .mov (.tmp 0), none⟩,
  ⟨some 5, .eqn true .p (.tmp 4), none⟩,
  ⟨some 6, .mov (.tmp 5), none⟩,
  ⟨some 7, .mov (.tmp 0), some (6, true)⟩,
  ⟨some 8, .nilck (.tmp 7), some (6, true)⟩,
  ⟨some 9, .faddr 2 (.tmp 8), some (6, true)⟩,
  ⟨some 10, .load false 1 false (.tmp 9), some (6, true)⟩,
  ⟨some 11, .eqn true .m (.tmp 10), some (6, true)⟩,
  ⟨some 12, .pick (.tmp 6) (.tmp 11) (.cst (.bool false)), none⟩] :: K) fr S := rfl
def disk_Disk_Fuse_r1 : List POper := [
  ⟨some 13, .mov (.tmp 0), none⟩,
  ⟨some 14, .mov (.tmp 1), none⟩,
  ⟨some 15, .mnmx true (.tmp 14) (.cst (.int .i64 (-1))), none⟩,
  ⟨some 16, .nilck (.tmp 13), none⟩,
  ⟨some 17, .faddr 4 (.tmp 16), none⟩,
  ⟨none, .store 1 (.tmp 17) (.tmp 15), none⟩]
@[simp] theorem disk_Disk_Fuse_r1_go (T : Tbl) (K : List Kt) (fr : Fr) (S : St) : gval T (.ops disk_Disk_Fuse_r1 :: K) fr S = gval T (.ops [
  ⟨some 13, .mov (.tmp 0), none⟩,
  ⟨some 14, .mov (.tmp 1), none⟩,
  ⟨some 15, .mnmx true (.tmp 14) (.cst (.int .i64 (-1))), none⟩,
  ⟨some 16, .nilck (.tmp 13), none⟩,
  ⟨some 17, .faddr 4 (.tmp 16), none⟩,
  ⟨none, .store 1 (.tmp 17) (.tmp 15), none⟩] :: K) fr S := rfl
def disk_Disk_Fuse : PCodeFn :=
  ⟨2, [],
  (.seq (.clr [(4, 12)] (.region disk_Disk_Fuse_r0)) (.cond (.tmp 12) (.clr [(13, 18)] (.region disk_Disk_Fuse_r1)) .skip)), false⟩

/-! gauge/gaugelaw04.begins: 468 -/
def law04_begins_r0 : List POper := [
  ⟨some 4, .mov (.cst (.bool false)), none⟩]
@[simp] theorem law04_begins_r0_go (T : Tbl) (K : List Kt) (fr : Fr) (S : St) : gval T (.ops law04_begins_r0 :: K) fr S = gval T (.ops [
  ⟨some 4, .mov (.cst (.bool false)), none⟩] :: K) fr S := rfl
def law04_begins_r1 : List POper := [
  ⟨some 5, .mov (.tmp 0), none⟩,
  ⟨some 6, .len false (.tmp 5), none⟩,
  ⟨some 7, .mov (.tmp 1), none⟩,
  ⟨some 8, .len false (.tmp 7), none⟩,
  ⟨some 9, .arith .geq (.tmp 6) (.tmp 8), none⟩,
  ⟨some 10, .mov (.tmp 9), none⟩,
  ⟨some 11, .mov (.tmp 0), some (10, true)⟩,
  ⟨some 12, .mov (.tmp 1), some (10, true)⟩,
  ⟨some 13, .len false (.tmp 12), some (10, true)⟩,
  ⟨some 14, .slc 1 none (some (.tmp 13)) (.tmp 11), some (10, true)⟩,
  ⟨some 15, .toStr (.tmp 14), some (10, true)⟩,
  ⟨some 16, .mov (.tmp 1), some (10, true)⟩,
  ⟨some 17, .toStr (.tmp 16), some (10, true)⟩,
  ⟨some 18, .arith .eql (.tmp 15) (.tmp 17), some (10, true)⟩,
  ⟨some 19, .pick (.tmp 10) (.tmp 18) (.cst (.bool false)), none⟩,
  ⟨some 4, .mov (.tmp 19), none⟩]
@[simp] theorem law04_begins_r1_go (T : Tbl) (K : List Kt) (fr : Fr) (S : St) : gval T (.ops law04_begins_r1 :: K) fr S = gval T (.ops [
  ⟨some 5, .mov (.tmp 0), none⟩,
  ⟨some 6, .len false (.tmp 5), none⟩,
  ⟨some 7, .mov (.tmp 1), none⟩,
  ⟨some 8, .len false (.tmp 7), none⟩,
  ⟨some 9, .arith .geq (.tmp 6) (.tmp 8), none⟩,
  ⟨some 10, .mov (.tmp 9), none⟩,
  ⟨some 11, .mov (.tmp 0), some (10, true)⟩,
  ⟨some 12, .mov (.tmp 1), some (10, true)⟩,
  ⟨some 13, .len false (.tmp 12), some (10, true)⟩,
  ⟨some 14, .slc 1 none (some (.tmp 13)) (.tmp 11), some (10, true)⟩,
  ⟨some 15, .toStr (.tmp 14), some (10, true)⟩,
  ⟨some 16, .mov (.tmp 1), some (10, true)⟩,
  ⟨some 17, .toStr (.tmp 16), some (10, true)⟩,
  ⟨some 18, .arith .eql (.tmp 15) (.tmp 17), some (10, true)⟩,
  ⟨some 19, .pick (.tmp 10) (.tmp 18) (.cst (.bool false)), none⟩,
  ⟨some 4, .mov (.tmp 19), none⟩] :: K) fr S := rfl
def law04_begins : PCodeFn :=
  ⟨2, [.tmp 4],
  (.seq (.region law04_begins_r0) (.seq (.clr [(5, 20)] (.region law04_begins_r1)) .ret)), false⟩

/-! (*gauge/disk.Disk).List: 90 -/
def disk_Disk_List_r0 : List POper := [
  ⟨some 2, .mov (.cst .nils), none⟩]
@[simp] theorem disk_Disk_List_r0_go (T : Tbl) (K : List Kt) (fr : Fr) (S : St) : gval T (.ops disk_Disk_List_r0 :: K) fr S = gval T (.ops [
  ⟨some 2, .mov (.cst .nils), none⟩] :: K) fr S := rfl
def disk_Disk_List_r1 : List POper := [
  ⟨some 3, .mov (.tmp 0), none⟩,
  ⟨some 4, .eqn false .p (.tmp 3), none⟩,
  ⟨some 5, .mov (.tmp 4), none⟩,
  ⟨some 6, .mov (.tmp 0), some (5, false)⟩,
  ⟨some 7, .nilck (.tmp 6), some (5, false)⟩,
  ⟨some 8, .faddr 2 (.tmp 7), some (5, false)⟩,
  ⟨some 9, .load false 1 false (.tmp 8), some (5, false)⟩,
  ⟨some 10, .eqn false .m (.tmp 9), some (5, false)⟩,
  ⟨some 11, .pick (.tmp 5) (.cst (.bool true)) (.tmp 10), none⟩,
  ⟨some 12, .mov (.tmp 11), none⟩,
  ⟨some 13, .mov (.tmp 0), some (12, false)⟩,
  ⟨some 14, .nilck (.tmp 13), some (12, false)⟩,
  ⟨some 15, .faddr 6 (.tmp 14), some (12, false)⟩,
  ⟨some 16, .load false 1 false (.tmp 15), some (12, false)⟩,
  ⟨some 17, .pick (.tmp 12) (.cst (.bool true)) (.tmp 16), none⟩]
@[simp] theorem disk_Disk_List_r1_go (T : Tbl) (K : List Kt) (fr : Fr) (S : St) : gval T (.ops disk_Disk_List_r1 :: K) fr S = gval T (.ops [
  ⟨some 3, .mov (.tmp 0), none⟩,
  ⟨some 4, .eqn false .p (.tmp 3), none⟩,
  ⟨some 5, .mov (.tmp 4), none⟩,
  ⟨some 6, .mov (.tmp 0), some (5, false)⟩,
  ⟨some 7, .nilck (.tmp 6), some (5, false)⟩,
  ⟨some 8, .faddr 2 (.tmp 7), some (5, false)⟩,
  ⟨some 9, .load false 1 false (.tmp 8), some (5, false)⟩,
  ⟨some 10, .eqn false .m (.tmp 9), some (5, false)⟩,
  ⟨some 11, .pick (.tmp 5) (.cst (.bool true)) (.tmp 10), none⟩,
  ⟨some 12, .mov (.tmp 11), none⟩,
  ⟨some 13, .mov (.tmp 0), some (12, false)⟩,
  ⟨some 14, .nilck (.tmp 13), some (12, false)⟩,
  ⟨some 15, .faddr 6 (.tmp 14), some (12, false)⟩,
  ⟨some 16, .load false 1 false (.tmp 15), some (12, false)⟩,
  ⟨some 17, .pick (.tmp 12) (.cst (.bool true)) (.tmp 16), none⟩] :: K) fr S := rfl
def disk_Disk_List_r2 : List POper := [
  ⟨some 2, .mov (.cst .nils), none⟩]
@[simp] theorem disk_Disk_List_r2_go (T : Tbl) (K : List Kt) (fr : Fr) (S : St) : gval T (.ops disk_Disk_List_r2 :: K) fr S = gval T (.ops [
  ⟨some 2, .mov (.cst .nils), none⟩] :: K) fr S := rfl
def disk_Disk_List_r3 : List POper := [
  ⟨some 18, .mov (.tmp 0), none⟩,
  ⟨some 19, .nilck (.tmp 18), none⟩,
  ⟨some 20, .faddr 2 (.tmp 19), none⟩,
  ⟨some 21, .load false 1 false (.tmp 20), none⟩,
  ⟨some 22, .call .std 200 [(.tmp 21)], none⟩,
  ⟨some 23, .call .std 199 [(.tmp 22)], none⟩,
  ⟨some 2, .mov (.tmp 23), none⟩]
@[simp] theorem disk_Disk_List_r3_go (T : Tbl) (K : List Kt) (fr : Fr) (S : St) : gval T (.ops disk_Disk_List_r3 :: K) fr S = gval T (.ops [
  ⟨some 18, .mov (.tmp 0), none⟩,
  ⟨some 19, .nilck (.tmp 18), none⟩,
  ⟨some 20, .faddr 2 (.tmp 19), none⟩,
  ⟨some 21, .load false 1 false (.tmp 20), none⟩,
  ⟨some 22, .call .std 200 [(.tmp 21)], none⟩,
  ⟨some 23, .call .std 199 [(.tmp 22)], none⟩,
  ⟨some 2, .mov (.tmp 23), none⟩] :: K) fr S := rfl
def disk_Disk_List : PCodeFn :=
  ⟨1, [.tmp 2],
  (.seq (.region disk_Disk_List_r0) (.seq (.seq (.clr [(3, 17)] (.region disk_Disk_List_r1)) (.cond (.tmp 17) (.seq (.region disk_Disk_List_r2) .ret) .skip)) (.seq (.clr [(18, 24)] (.region disk_Disk_List_r3)) .ret))), false⟩

/-! gauge/gaugelaw04.do: 19 -/
def law04_do_r0 : List POper := [
  ⟨some 3, .box true (.tmp 1), none⟩,
  ⟨some 4, .mov (.cst (.int .i64 0)), none⟩,
  ⟨some 5, .mov (.cst .nils), none⟩]
@[simp] theorem law04_do_r0_go (T : Tbl) (K : List Kt) (fr : Fr) (S : St) : gval T (.ops law04_do_r0 :: K) fr S = gval T (.ops [
  ⟨some 3, .box true (.tmp 1), none⟩,
  ⟨some 4, .mov (.cst (.int .i64 0)), none⟩,
  ⟨some 5, .mov (.cst .nils), none⟩] :: K) fr S := rfl
def law04_do_r1 : List POper := [
  ⟨some 8, .faddr 0 (.tmp 3), none⟩,
  ⟨some 9, .load false 1 false (.tmp 8), none⟩]
@[simp] theorem law04_do_r1_go (T : Tbl) (K : List Kt) (fr : Fr) (S : St) : gval T (.ops law04_do_r1 :: K) fr S = gval T (.ops [
  ⟨some 8, .faddr 0 (.tmp 3), none⟩,
  ⟨some 9, .load false 1 false (.tmp 8), none⟩] :: K) fr S := rfl
def law04_do_r2 : List POper := [
  ⟨some 11, .arith .eql (.tmp 9) (.cst (.int .i64 1)), none⟩,
  ⟨some 10, .mov (.tmp 11), none⟩]
@[simp] theorem law04_do_r2_go (T : Tbl) (K : List Kt) (fr : Fr) (S : St) : gval T (.ops law04_do_r2 :: K) fr S = gval T (.ops [
  ⟨some 11, .arith .eql (.tmp 9) (.cst (.int .i64 1)), none⟩,
  ⟨some 10, .mov (.tmp 11), none⟩] :: K) fr S := rfl
def law04_do_r3 : List POper := [
  ⟨some 12, .mov (.tmp 0), none⟩,
  ⟨some 13, .faddr 1 (.tmp 3), none⟩,
  ⟨some 14, .load false 1 false (.tmp 13), none⟩,
  ⟨some 15, .call .std 77 [(.tmp 12), (.tmp 14)], none⟩,
  ⟨some 4, .mov (.tmp 15), none⟩,
  ⟨some 5, .mov (.cst .nils), none⟩]
@[simp] theorem law04_do_r3_go (T : Tbl) (K : List Kt) (fr : Fr) (S : St) : gval T (.ops law04_do_r3 :: K) fr S = gval T (.ops [
  ⟨some 12, .mov (.tmp 0), none⟩,
  ⟨some 13, .faddr 1 (.tmp 3), none⟩,
  ⟨some 14, .load false 1 false (.tmp 13), none⟩,
  ⟨some 15, .call .std 77 [(.tmp 12), (.tmp 14)], none⟩,
  ⟨some 4, .mov (.tmp 15), none⟩,
  ⟨some 5, .mov (.cst .nils), none⟩] :: K) fr S := rfl
def law04_do_r4 : List POper := [
  ⟨some 17, .arith .eql (.tmp 9) (.cst (.int .i64 2)), none⟩,
  ⟨some 16, .mov (.tmp 17), none⟩]
@[simp] theorem law04_do_r4_go (T : Tbl) (K : List Kt) (fr : Fr) (S : St) : gval T (.ops law04_do_r4 :: K) fr S = gval T (.ops [
  ⟨some 17, .arith .eql (.tmp 9) (.cst (.int .i64 2)), none⟩,
  ⟨some 16, .mov (.tmp 17), none⟩] :: K) fr S := rfl
def law04_do_r5 : List POper := [
  ⟨some 18, .mov (.tmp 0), none⟩,
  ⟨some 19, .faddr 1 (.tmp 3), none⟩,
  ⟨some 20, .load false 1 false (.tmp 19), none⟩,
  ⟨some 21, .faddr 3 (.tmp 3), none⟩,
  ⟨some 22, .load false 1 false (.tmp 21), none⟩,
  ⟨some 23, .call .std 78 [(.tmp 18), (.tmp 20), (.tmp 22)], none⟩,
  ⟨some 4, .mov (.tmp 23), none⟩,
  ⟨some 5, .mov (.cst .nils), none⟩]
@[simp] theorem law04_do_r5_go (T : Tbl) (K : List Kt) (fr : Fr) (S : St) : gval T (.ops law04_do_r5 :: K) fr S = gval T (.ops [
  ⟨some 18, .mov (.tmp 0), none⟩,
  ⟨some 19, .faddr 1 (.tmp 3), none⟩,
  ⟨some 20, .load false 1 false (.tmp 19), none⟩,
  ⟨some 21, .faddr 3 (.tmp 3), none⟩,
  ⟨some 22, .load false 1 false (.tmp 21), none⟩,
  ⟨some 23, .call .std 78 [(.tmp 18), (.tmp 20), (.tmp 22)], none⟩,
  ⟨some 4, .mov (.tmp 23), none⟩,
  ⟨some 5, .mov (.cst .nils), none⟩] :: K) fr S := rfl
def law04_do_r6 : List POper := [
  ⟨some 25, .arith .eql (.tmp 9) (.cst (.int .i64 3)), none⟩,
  ⟨some 24, .mov (.tmp 25), none⟩]
@[simp] theorem law04_do_r6_go (T : Tbl) (K : List Kt) (fr : Fr) (S : St) : gval T (.ops law04_do_r6 :: K) fr S = gval T (.ops [
  ⟨some 25, .arith .eql (.tmp 9) (.cst (.int .i64 3)), none⟩,
  ⟨some 24, .mov (.tmp 25), none⟩] :: K) fr S := rfl
def law04_do_r7 : List POper := [
  ⟨some 26, .mov (.tmp 0), none⟩,
  ⟨some 27, .faddr 1 (.tmp 3), none⟩,
  ⟨some 28, .load false 1 false (.tmp 27), none⟩,
  ⟨some 29, .faddr 2 (.tmp 3), none⟩,
  ⟨some 30, .load false 1 false (.tmp 29), none⟩,
  ⟨some 31, .call .std 82 [(.tmp 26), (.tmp 28), (.tmp 30)], none⟩,
  ⟨some 4, .mov (.tmp 31), none⟩,
  ⟨some 5, .mov (.cst .nils), none⟩]
@[simp] theorem law04_do_r7_go (T : Tbl) (K : List Kt) (fr : Fr) (S : St) : gval T (.ops law04_do_r7 :: K) fr S = gval T (.ops [
  ⟨some 26, .mov (.tmp 0), none⟩,
  ⟨some 27, .faddr 1 (.tmp 3), none⟩,
  ⟨some 28, .load false 1 false (.tmp 27), none⟩,
  ⟨some 29, .faddr 2 (.tmp 3), none⟩,
  ⟨some 30, .load false 1 false (.tmp 29), none⟩,
  ⟨some 31, .call .std 82 [(.tmp 26), (.tmp 28), (.tmp 30)], none⟩,
  ⟨some 4, .mov (.tmp 31), none⟩,
  ⟨some 5, .mov (.cst .nils), none⟩] :: K) fr S := rfl
def law04_do_r8 : List POper := [
  ⟨some 33, .arith .eql (.tmp 9) (.cst (.int .i64 4)), none⟩,
  ⟨some 32, .mov (.tmp 33), none⟩]
@[simp] theorem law04_do_r8_go (T : Tbl) (K : List Kt) (fr : Fr) (S : St) : gval T (.ops law04_do_r8 :: K) fr S = gval T (.ops [
  ⟨some 33, .arith .eql (.tmp 9) (.cst (.int .i64 4)), none⟩,
  ⟨some 32, .mov (.tmp 33), none⟩] :: K) fr S := rfl
def law04_do_r9 : List POper := [
  ⟨some 34, .mov (.tmp 0), none⟩,
  ⟨some 35, .faddr 1 (.tmp 3), none⟩,
  ⟨some 36, .load false 1 false (.tmp 35), none⟩,
  ⟨some 37, .call .std 83 [(.tmp 34), (.tmp 36)], none⟩,
  ⟨some 4, .mov (.tmp 37), none⟩,
  ⟨some 5, .mov (.cst .nils), none⟩]
@[simp] theorem law04_do_r9_go (T : Tbl) (K : List Kt) (fr : Fr) (S : St) : gval T (.ops law04_do_r9 :: K) fr S = gval T (.ops [
  ⟨some 34, .mov (.tmp 0), none⟩,
  ⟨some 35, .faddr 1 (.tmp 3), none⟩,
  ⟨some 36, .load false 1 false (.tmp 35), none⟩,
  ⟨some 37, .call .std 83 [(.tmp 34), (.tmp 36)], none⟩,
  ⟨some 4, .mov (.tmp 37), none⟩,
  ⟨some 5, .mov (.cst .nils), none⟩] :: K) fr S := rfl
def law04_do_r10 : List POper := [
  ⟨some 39, .arith .eql (.tmp 9) (.cst (.int .i64 5)), none⟩,
  ⟨some 38, .mov (.tmp 39), none⟩]
@[simp] theorem law04_do_r10_go (T : Tbl) (K : List Kt) (fr : Fr) (S : St) : gval T (.ops law04_do_r10 :: K) fr S = gval T (.ops [
  ⟨some 39, .arith .eql (.tmp 9) (.cst (.int .i64 5)), none⟩,
  ⟨some 38, .mov (.tmp 39), none⟩] :: K) fr S := rfl
def law04_do_r11 : List POper := [
  ⟨some 40, .mov (.tmp 0), none⟩,
  ⟨some 41, .faddr 1 (.tmp 3), none⟩,
  ⟨some 42, .load false 1 false (.tmp 41), none⟩,
  ⟨some 43, .call .std 84 [(.tmp 40), (.tmp 42)], none⟩,
  ⟨some 4, .mov (.tmp 43), none⟩,
  ⟨some 5, .mov (.cst .nils), none⟩]
@[simp] theorem law04_do_r11_go (T : Tbl) (K : List Kt) (fr : Fr) (S : St) : gval T (.ops law04_do_r11 :: K) fr S = gval T (.ops [
  ⟨some 40, .mov (.tmp 0), none⟩,
  ⟨some 41, .faddr 1 (.tmp 3), none⟩,
  ⟨some 42, .load false 1 false (.tmp 41), none⟩,
  ⟨some 43, .call .std 84 [(.tmp 40), (.tmp 42)], none⟩,
  ⟨some 4, .mov (.tmp 43), none⟩,
  ⟨some 5, .mov (.cst .nils), none⟩] :: K) fr S := rfl
def law04_do_r12 : List POper := [
  ⟨some 45, .arith .eql (.tmp 9) (.cst (.int .i64 6)), none⟩,
  ⟨some 44, .mov (.tmp 45), none⟩]
@[simp] theorem law04_do_r12_go (T : Tbl) (K : List Kt) (fr : Fr) (S : St) : gval T (.ops law04_do_r12 :: K) fr S = gval T (.ops [
  ⟨some 45, .arith .eql (.tmp 9) (.cst (.int .i64 6)), none⟩,
  ⟨some 44, .mov (.tmp 45), none⟩] :: K) fr S := rfl
def law04_do_r13 : List POper := [
  ⟨some 46, .mov (.tmp 0), none⟩,
  ⟨some 47, .call .std 79 [(.tmp 46)], none⟩,
  ⟨some 4, .mov (.tmp 47), none⟩,
  ⟨some 5, .mov (.cst .nils), none⟩]
@[simp] theorem law04_do_r13_go (T : Tbl) (K : List Kt) (fr : Fr) (S : St) : gval T (.ops law04_do_r13 :: K) fr S = gval T (.ops [
  ⟨some 46, .mov (.tmp 0), none⟩,
  ⟨some 47, .call .std 79 [(.tmp 46)], none⟩,
  ⟨some 4, .mov (.tmp 47), none⟩,
  ⟨some 5, .mov (.cst .nils), none⟩] :: K) fr S := rfl
def law04_do_r14 : List POper := [
  ⟨some 49, .arith .eql (.tmp 9) (.cst (.int .i64 7)), none⟩,
  ⟨some 48, .mov (.tmp 49), none⟩]
@[simp] theorem law04_do_r14_go (T : Tbl) (K : List Kt) (fr : Fr) (S : St) : gval T (.ops law04_do_r14 :: K) fr S = gval T (.ops [
  ⟨some 49, .arith .eql (.tmp 9) (.cst (.int .i64 7)), none⟩,
  ⟨some 48, .mov (.tmp 49), none⟩] :: K) fr S := rfl
def law04_do_r15 : List POper := [
  ⟨some 51, .mov (.tmp 0), none⟩,
  ⟨some 52, .faddr 1 (.tmp 3), none⟩,
  ⟨some 53, .load false 1 false (.tmp 52), none⟩,
  ⟨some 54, .call .std 81 [(.tmp 51), (.tmp 53)], none⟩,
  ⟨some 50, .mov (.tmp 54), none⟩,
  ⟨some 55, .extract 0 (.tmp 50), none⟩,
  ⟨some 56, .extract 1 (.tmp 50), none⟩,
  ⟨some 6, .mov (.tmp 55), none⟩,
  ⟨some 7, .mov (.tmp 56), none⟩]
@[simp] theorem law04_do_r15_go (T : Tbl) (K : List Kt) (fr : Fr) (S : St) : gval T (.ops law04_do_r15 :: K) fr S = gval T (.ops [
  ⟨some 51, .mov (.tmp 0), none⟩,
  ⟨some 52, .faddr 1 (.tmp 3), none⟩,
  ⟨some 53, .load false 1 false (.tmp 52), none⟩,
  ⟨some 54, .call .std 81 [(.tmp 51), (.tmp 53)], none⟩,
  ⟨some 50, .mov (.tmp 54), none⟩,
  ⟨some 55, .extract 0 (.tmp 50), none⟩,
  ⟨some 56, .extract 1 (.tmp 50), none⟩,
  ⟨some 6, .mov (.tmp 55), none⟩,
  ⟨some 7, .mov (.tmp 56), none⟩] :: K) fr S := rfl
def law04_do_r16 : List POper := [
  ⟨some 57, .mov (.tmp 7), none⟩,
  ⟨some 58, .mov (.tmp 6), none⟩,
  ⟨some 4, .mov (.tmp 57), none⟩,
  ⟨some 5, .mov (.tmp 58), none⟩]
@[simp] theorem law04_do_r16_go (T : Tbl) (K : List Kt) (fr : Fr) (S : St) : gval T (.ops law04_do_r16 :: K) fr S = gval T (.ops [
  ⟨some 57, .mov (.tmp 7), none⟩,
  ⟨some 58, .mov (.tmp 6), none⟩,
  ⟨some 4, .mov (.tmp 57), none⟩,
  ⟨some 5, .mov (.tmp 58), none⟩] :: K) fr S := rfl
def law04_do_r17 : List POper := [
  ⟨some 60, .arith .eql (.tmp 9) (.cst (.int .i64 8)), none⟩,
  ⟨some 59, .mov (.tmp 60), none⟩]
@[simp] theorem law04_do_r17_go (T : Tbl) (K : List Kt) (fr : Fr) (S : St) : gval T (.ops law04_do_r17 :: K) fr S = gval T (.ops [
  ⟨some 60, .arith .eql (.tmp 9) (.cst (.int .i64 8)), none⟩,
  ⟨some 59, .mov (.tmp 60), none⟩] :: K) fr S := rfl
def law04_do_r18 : List POper := [
  ⟨some 61, .mov (.tmp 0), none⟩,
  ⟨some 62, .faddr 4 (.tmp 3), none⟩,
  ⟨some 63, .load false 1 false (.tmp 62), none⟩,
  ⟨some 64, .call .std 85 [(.tmp 61), (.tmp 63)], none⟩]
@[simp] theorem law04_do_r18_go (T : Tbl) (K : List Kt) (fr : Fr) (S : St) : gval T (.ops law04_do_r18 :: K) fr S = gval T (.ops [
  ⟨some 61, .mov (.tmp 0), none⟩,
  ⟨some 62, .faddr 4 (.tmp 3), none⟩,
  ⟨some 63, .load false 1 false (.tmp 62), none⟩,
  ⟨some 64, .call .std 85 [(.tmp 61), (.tmp 63)], none⟩] :: K) fr S := rfl
def law04_do_r19 : List POper := [
  ⟨some 66, .arith .eql (.tmp 9) (.cst (.int .i64 9)), none⟩,
  ⟨some 65, .mov (.tmp 66), none⟩]
@[simp] theorem law04_do_r19_go (T : Tbl) (K : List Kt) (fr : Fr) (S : St) : gval T (.ops law04_do_r19 :: K) fr S = gval T (.ops [
  ⟨some 66, .arith .eql (.tmp 9) (.cst (.int .i64 9)), none⟩,
  ⟨some 65, .mov (.tmp 66), none⟩] :: K) fr S := rfl
def law04_do_r20 : List POper := [
  ⟨some 67, .mov (.tmp 0), none⟩,
  ⟨some 68, .faddr 4 (.tmp 3), none⟩,
  ⟨some 69, .load false 1 false (.tmp 68), none⟩,
  ⟨some 70, .faddr 5 (.tmp 3), none⟩,
  ⟨some 71, .load false 1 false (.tmp 70), none⟩,
  ⟨some 72, .call .std 80 [(.tmp 67), (.tmp 69), (.tmp 71)], none⟩,
  ⟨some 4, .mov (.tmp 72), none⟩,
  ⟨some 5, .mov (.cst .nils), none⟩]
@[simp] theorem law04_do_r20_go (T : Tbl) (K : List Kt) (fr : Fr) (S : St) : gval T (.ops law04_do_r20 :: K) fr S = gval T (.ops [
  ⟨some 67, .mov (.tmp 0), none⟩,
  ⟨some 68, .faddr 4 (.tmp 3), none⟩,
  ⟨some 69, .load false 1 false (.tmp 68), none⟩,
  ⟨some 70, .faddr 5 (.tmp 3), none⟩,
  ⟨some 71, .load false 1 false (.tmp 70), none⟩,
  ⟨some 72, .call .std 80 [(.tmp 67), (.tmp 69), (.tmp 71)], none⟩,
  ⟨some 4, .mov (.tmp 72), none⟩,
  ⟨some 5, .mov (.cst .nils), none⟩] :: K) fr S := rfl
def law04_do_r21 : List POper := [
  ⟨some 4, .mov (.cst (.int .i64 0)), none⟩,
  ⟨some 5, .mov (.cst .nils), none⟩]
@[simp] theorem law04_do_r21_go (T : Tbl) (K : List Kt) (fr : Fr) (S : St) : gval T (.ops law04_do_r21 :: K) fr S = gval T (.ops [
  ⟨some 4, .mov (.cst (.int .i64 0)), none⟩,
  ⟨some 5, .mov (.cst .nils), none⟩] :: K) fr S := rfl
def law04_do : PCodeFn :=
  ⟨2, [.tmp 4, .tmp 5],
  (.seq (.region law04_do_r0) (.seq (.seq (.clr [(8, 9)] (.region law04_do_r1)) (.block 0 (.seq (.clr [(11, 12)] (.region law04_do_r2)) (.cond (.tmp 10) (.seq (.clr [(12, 16)] (.region law04_do_r3)) .ret) (.seq (.clr [(17, 18)] (.region law04_do_r4)) (.cond (.tmp 16) (.seq (.clr [(18, 24)] (.region law04_do_r5)) .ret) (.seq (.clr [(25, 26)] (.region law04_do_r6)) (.cond (.tmp 24) (.seq (.clr [(26, 32)] (.region law04_do_r7)) .ret) (.seq (.clr [(33, 34)] (.region law04_do_r8)) (.cond (.tmp 32) (.seq (.clr [(34, 38)] (.region law04_do_r9)) .ret) (.seq (.clr [(39, 40)] (.region law04_do_r10)) (.cond (.tmp 38) (.seq (.clr [(40, 44)] (.region law04_do_r11)) .ret) (.seq (.clr [(45, 46)] (.region law04_do_r12)) (.cond (.tmp 44) (.seq (.clr [(46, 48)] (.region law04_do_r13)) .ret) (.seq (.clr [(49, 50)] (.region law04_do_r14)) (.cond (.tmp 48) (.seq (.clr [(50, 57)] (.region law04_do_r15)) (.seq (.clr [(57, 59)] (.region law04_do_r16)) .ret)) (.seq (.clr [(60, 61)] (.region law04_do_r17)) (.cond (.tmp 59) (.clr [(61, 65)] (.region law04_do_r18)) (.seq (.clr [(66, 67)] (.region law04_do_r19)) (.cond (.tmp 65) (.seq (.clr [(67, 73)] (.region law04_do_r20)) .ret) .skip)))))))))))))))))))) (.seq (.region law04_do_r21) .ret))), false⟩

/-! gauge/gaugelaw04.same: 91 -/
def law04_same_r0 : List POper := [
  ⟨some 4, .mov (.cst (.bool false)), none⟩]
@[simp] theorem law04_same_r0_go (T : Tbl) (K : List Kt) (fr : Fr) (S : St) : gval T (.ops law04_same_r0 :: K) fr S = gval T (.ops [
  ⟨some 4, .mov (.cst (.bool false)), none⟩] :: K) fr S := rfl
def law04_same_r1 : List POper := [
  ⟨some 6, .mov (.tmp 0), none⟩,
  ⟨some 7, .len false (.tmp 6), none⟩,
  ⟨some 8, .mov (.tmp 1), none⟩,
  ⟨some 9, .len false (.tmp 8), none⟩,
  ⟨some 10, .arith .neq (.tmp 7) (.tmp 9), none⟩]
@[simp] theorem law04_same_r1_go (T : Tbl) (K : List Kt) (fr : Fr) (S : St) : gval T (.ops law04_same_r1 :: K) fr S = gval T (.ops [
  ⟨some 6, .mov (.tmp 0), none⟩,
  ⟨some 7, .len false (.tmp 6), none⟩,
  ⟨some 8, .mov (.tmp 1), none⟩,
  ⟨some 9, .len false (.tmp 8), none⟩,
  ⟨some 10, .arith .neq (.tmp 7) (.tmp 9), none⟩] :: K) fr S := rfl
def law04_same_r2 : List POper := [
  ⟨some 4, .mov (.cst (.bool false)), none⟩]
@[simp] theorem law04_same_r2_go (T : Tbl) (K : List Kt) (fr : Fr) (S : St) : gval T (.ops law04_same_r2 :: K) fr S = gval T (.ops [
  ⟨some 4, .mov (.cst (.bool false)), none⟩] :: K) fr S := rfl
def law04_same_r3 : List POper := [
  ⟨some 5, .mov (.cst (.int .i64 0)), none⟩]
@[simp] theorem law04_same_r3_go (T : Tbl) (K : List Kt) (fr : Fr) (S : St) : gval T (.ops law04_same_r3 :: K) fr S = gval T (.ops [
  ⟨some 5, .mov (.cst (.int .i64 0)), none⟩] :: K) fr S := rfl
def law04_same_r4 : List POper := [
  ⟨some 11, .mov (.tmp 5), none⟩,
  ⟨some 12, .mov (.tmp 0), none⟩,
  ⟨some 13, .len false (.tmp 12), none⟩,
  ⟨some 14, .arith .lss (.tmp 11) (.tmp 13), none⟩]
@[simp] theorem law04_same_r4_go (T : Tbl) (K : List Kt) (fr : Fr) (S : St) : gval T (.ops law04_same_r4 :: K) fr S = gval T (.ops [
  ⟨some 11, .mov (.tmp 5), none⟩,
  ⟨some 12, .mov (.tmp 0), none⟩,
  ⟨some 13, .len false (.tmp 12), none⟩,
  ⟨some 14, .arith .lss (.tmp 11) (.tmp 13), none⟩] :: K) fr S := rfl
def law04_same_r6 : List POper := [
  ⟨some 17, .mov (.tmp 0), none⟩,
  ⟨some 18, .mov (.tmp 5), none⟩,
  ⟨some 19, .iaddr 1 (.tmp 17) (.tmp 18), none⟩,
  ⟨some 20, .load false 1 true (.tmp 19), none⟩,
  ⟨some 21, .mov (.tmp 1), none⟩,
  ⟨some 22, .mov (.tmp 5), none⟩,
  ⟨some 23, .iaddr 1 (.tmp 21) (.tmp 22), none⟩,
  ⟨some 24, .load false 1 true (.tmp 23), none⟩,
  ⟨some 25, .arith .neq (.tmp 20) (.tmp 24), none⟩]
@[simp] theorem law04_same_r6_go (T : Tbl) (K : List Kt) (fr : Fr) (S : St) : gval T (.ops law04_same_r6 :: K) fr S = gval T (.ops [
  ⟨some 17, .mov (.tmp 0), none⟩,
  ⟨some 18, .mov (.tmp 5), none⟩,
  ⟨some 19, .iaddr 1 (.tmp 17) (.tmp 18), none⟩,
  ⟨some 20, .load false 1 true (.tmp 19), none⟩,
  ⟨some 21, .mov (.tmp 1), none⟩,
  ⟨some 22, .mov (.tmp 5), none⟩,
  ⟨some 23, .iaddr 1 (.tmp 21) (.tmp 22), none⟩,
  ⟨some 24, .load false 1 true (.tmp 23), none⟩,
  ⟨some 25, .arith .neq (.tmp 20) (.tmp 24), none⟩] :: K) fr S := rfl
def law04_same_r7 : List POper := [
  ⟨some 4, .mov (.cst (.bool false)), none⟩]
@[simp] theorem law04_same_r7_go (T : Tbl) (K : List Kt) (fr : Fr) (S : St) : gval T (.ops law04_same_r7 :: K) fr S = gval T (.ops [
  ⟨some 4, .mov (.cst (.bool false)), none⟩] :: K) fr S := rfl
def law04_same_r5 : List POper := [
  ⟨some 15, .mov (.tmp 5), none⟩,
  ⟨some 16, .arith .add (.tmp 15) (.cst (.int .i64 1)), none⟩,
  ⟨some 5, .mov (.tmp 16), none⟩]
@[simp] theorem law04_same_r5_go (T : Tbl) (K : List Kt) (fr : Fr) (S : St) : gval T (.ops law04_same_r5 :: K) fr S = gval T (.ops [
  ⟨some 15, .mov (.tmp 5), none⟩,
  ⟨some 16, .arith .add (.tmp 15) (.cst (.int .i64 1)), none⟩,
  ⟨some 5, .mov (.tmp 16), none⟩] :: K) fr S := rfl
def law04_same_l0 : PCode :=
  (.seq (.seq (.clr [(11, 14)] (.region law04_same_r4)) (.cond (.tmp 14) .skip (.exit 0))) (.seq (.block 1 (.seq (.clr [(17, 25)] (.region law04_same_r6)) (.cond (.tmp 25) (.seq (.region law04_same_r7) .ret) .skip))) (.clr [(15, 17)] (.region law04_same_r5))))
@[simp] theorem law04_same_l0_go (T : Tbl) (K : List Kt) (fr : Fr) (S : St) : gval T (.code law04_same_l0 :: K) fr S = gval T (.code (.seq (.seq (.clr [(11, 14)] (.region law04_same_r4)) (.cond (.tmp 14) .skip (.exit 0))) (.seq (.block 1 (.seq (.clr [(17, 25)] (.region law04_same_r6)) (.cond (.tmp 25) (.seq (.region law04_same_r7) .ret) .skip))) (.clr [(15, 17)] (.region law04_same_r5)))) :: K) fr S := rfl
def law04_same_r8 : List POper := [
  ⟨some 4, .mov (.cst (.bool true)), none⟩]
@[simp] theorem law04_same_r8_go (T : Tbl) (K : List Kt) (fr : Fr) (S : St) : gval T (.ops law04_same_r8 :: K) fr S = gval T (.ops [
  ⟨some 4, .mov (.cst (.bool true)), none⟩] :: K) fr S := rfl
def law04_same : PCodeFn :=
  ⟨2, [.tmp 4],
  (.seq (.region law04_same_r0) (.seq (.seq (.clr [(6, 10)] (.region law04_same_r1)) (.cond (.tmp 10) (.seq (.region law04_same_r2) .ret) .skip)) (.seq (.seq (.region law04_same_r3) (.block 0 (.loop law04_same_l0))) (.seq (.region law04_same_r8) .ret)))), false⟩

/-! gauge/gaugeref04.New: 17 -/
def ref04_New_r0 : List POper := [
  ⟨some 2, .alloc false [(.int .i64 0), .nils, .nils, .nils, (.int .i64 0), (.bool false), (.int .i64 0)], none⟩,
  ⟨some 3, .mov (.cst (.int .i64 0)), none⟩]
@[simp] theorem ref04_New_r0_go (T : Tbl) (K : List Kt) (fr : Fr) (S : St) : gval T (.ops ref04_New_r0 :: K) fr S = gval T (.ops [
  ⟨some 2, .alloc false [(.int .i64 0), .nils, .nils, .nils, (.int .i64 0), (.bool false), (.int .i64 0)], none⟩,
  ⟨some 3, .mov (.cst (.int .i64 0)), none⟩] :: K) fr S := rfl
def ref04_New_r1 : List POper := [
  ⟨some 4, .mov (.tmp 0), none⟩,
  ⟨some 5, .arith .lss (.tmp 4) (.cst (.int .i64 1)), none⟩,
  ⟨some 6, .mov (.tmp 5), none⟩,
  ⟨some 7, .mov (.tmp 0), some (6, false)⟩,
  ⟨some 8, .arith .gtr (.tmp 7) (.cst (.int .i64 4194304)), some (6, false)⟩,
  ⟨some 9, .pick (.tmp 6) (.cst (.bool true)) (.tmp 8), none⟩]
@[simp] theorem ref04_New_r1_go (T : Tbl) (K : List Kt) (fr : Fr) (S : St) : gval T (.ops ref04_New_r1 :: K) fr S = gval T (.ops [
  ⟨some 4, .mov (.tmp 0), none⟩,
  ⟨some 5, .arith .lss (.tmp 4) (.cst (.int .i64 1)), none⟩,
  ⟨some 6, .mov (.tmp 5), none⟩,
  ⟨some 7, .mov (.tmp 0), some (6, false)⟩,
  ⟨some 8, .arith .gtr (.tmp 7) (.cst (.int .i64 4194304)), some (6, false)⟩,
  ⟨some 9, .pick (.tmp 6) (.cst (.bool true)) (.tmp 8), none⟩] :: K) fr S := rfl
def ref04_New_r2 : List POper := [
  ⟨some 10, .build [(.int .i64 0), .nils, .nils, .nils, (.int .i64 0), (.bool false), (.int .i64 0)] [], none⟩,
  ⟨none, .store 7 (.tmp 2) (.tmp 10), none⟩,
  ⟨some 3, .mov (.cst (.int .i64 2)), none⟩]
@[simp] theorem ref04_New_r2_go (T : Tbl) (K : List Kt) (fr : Fr) (S : St) : gval T (.ops ref04_New_r2 :: K) fr S = gval T (.ops [
  ⟨some 10, .build [(.int .i64 0), .nils, .nils, .nils, (.int .i64 0), (.bool false), (.int .i64 0)] [], none⟩,
  ⟨none, .store 7 (.tmp 2) (.tmp 10), none⟩,
  ⟨some 3, .mov (.cst (.int .i64 2)), none⟩] :: K) fr S := rfl
def ref04_New_r3 : List POper := [
  ⟨some 11, .mov (.tmp 0), none⟩,
  ⟨some 12, .build [(.int .i64 0), .nils, .nils, .nils, (.int .i64 0), (.bool false), (.int .i64 0)] [(0, 1, (.tmp 11)), (4, 1, (.cst (.int .i64 (-1))))], none⟩,
  ⟨none, .store 7 (.tmp 2) (.tmp 12), none⟩,
  ⟨some 3, .mov (.cst (.int .i64 0)), none⟩]
@[simp] theorem ref04_New_r3_go (T : Tbl) (K : List Kt) (fr : Fr) (S : St) : gval T (.ops ref04_New_r3 :: K) fr S = gval T (.ops [
  ⟨some 11, .mov (.tmp 0), none⟩,
  ⟨some 12, .build [(.int .i64 0), .nils, .nils, .nils, (.int .i64 0), (.bool false), (.int .i64 0)] [(0, 1, (.tmp 11)), (4, 1, (.cst (.int .i64 (-1))))], none⟩,
  ⟨none, .store 7 (.tmp 2) (.tmp 12), none⟩,
  ⟨some 3, .mov (.cst (.int .i64 0)), none⟩] :: K) fr S := rfl
def ref04_New : PCodeFn :=
  ⟨1, [.cell 2 true 7, .tmp 3],
  (.seq (.region ref04_New_r0) (.seq (.seq (.clr [(4, 9)] (.region ref04_New_r1)) (.cond (.tmp 9) (.seq (.clr [(10, 11)] (.region ref04_New_r2)) .ret) .skip)) (.seq (.clr [(11, 13)] (.region ref04_New_r3)) .ret))), false⟩

/-! gauge/gaugelaw04.done: 20 -/
def law04_done_r0 : List POper := [
  ⟨some 2, .box true (.tmp 0), none⟩,
  ⟨some 3, .box true (.tmp 1), none⟩,
  ⟨some 4, .alloc false [(.int .i64 0), .nils, .nils, .nils, (.int .i64 0), (.bool false), (.int .i64 0)], none⟩,
  ⟨some 5, .mov (.cst (.int .i64 0)), none⟩,
  ⟨some 6, .mov (.cst .nils), none⟩]
@[simp] theorem law04_done_r0_go (T : Tbl) (K : List Kt) (fr : Fr) (S : St) : gval T (.ops law04_done_r0 :: K) fr S = gval T (.ops [
  ⟨some 2, .box true (.tmp 0), none⟩,
  ⟨some 3, .box true (.tmp 1), none⟩,
  ⟨some 4, .alloc false [(.int .i64 0), .nils, .nils, .nils, (.int .i64 0), (.bool false), (.int .i64 0)], none⟩,
  ⟨some 5, .mov (.cst (.int .i64 0)), none⟩,
  ⟨some 6, .mov (.cst .nils), none⟩] :: K) fr S := rfl
def law04_done_r1 : List POper := [
  ⟨some 11, .faddr 0 (.tmp 3), none⟩,
  ⟨some 12, .load false 1 false (.tmp 11), none⟩,
  ⟨some 13, .arith .geq (.tmp 12) (.cst (.int .i64 1)), none⟩,
  ⟨some 14, .mov (.tmp 13), none⟩,
  ⟨some 15, .faddr 0 (.tmp 3), some (14, true)⟩,
  ⟨some 16, .load false 1 false (.tmp 15), some (14, true)⟩,
  ⟨some 17, .arith .leq (.tmp 16) (.cst (.int .i64 6)), some (14, true)⟩,
  ⟨some 18, .pick (.tmp 14) (.tmp 17) (.cst (.bool false)), none⟩]
@[simp] theorem law04_done_r1_go (T : Tbl) (K : List Kt) (fr : Fr) (S : St) : gval T (.ops law04_done_r1 :: K) fr S = gval T (.ops [
  ⟨some 11, .faddr 0 (.tmp 3), none⟩,
  ⟨some 12, .load false 1 false (.tmp 11), none⟩,
  ⟨some 13, .arith .geq (.tmp 12) (.cst (.int .i64 1)), none⟩,
  ⟨some 14, .mov (.tmp 13), none⟩,
  ⟨some 15, .faddr 0 (.tmp 3), some (14, true)⟩,
  ⟨some 16, .load false 1 false (.tmp 15), some (14, true)⟩,
  ⟨some 17, .arith .leq (.tmp 16) (.cst (.int .i64 6)), some (14, true)⟩,
  ⟨some 18, .pick (.tmp 14) (.tmp 17) (.cst (.bool false)), none⟩] :: K) fr S := rfl
def law04_done_r2 : List POper := [
  ⟨some 20, .load true 7 false (.tmp 2), none⟩,
  ⟨some 21, .faddr 0 (.tmp 3), none⟩,
  ⟨some 22, .load false 1 false (.tmp 21), none⟩,
  ⟨some 23, .faddr 1 (.tmp 3), none⟩,
  ⟨some 24, .load false 1 false (.tmp 23), none⟩,
  ⟨some 25, .faddr 2 (.tmp 3), none⟩,
  ⟨some 26, .load false 1 false (.tmp 25), none⟩,
  ⟨some 27, .faddr 3 (.tmp 3), none⟩,
  ⟨some 28, .load false 1 false (.tmp 27), none⟩,
  ⟨some 29, .call .std 86 [(.tmp 20), (.tmp 22), (.tmp 24), (.tmp 26), (.tmp 28)], none⟩,
  ⟨some 19, .mov (.tmp 29), none⟩,
  ⟨some 30, .extract 0 (.tmp 19), none⟩,
  ⟨some 31, .extract 1 (.tmp 19), none⟩,
  ⟨some 7, .alloc false [(.int .i64 0), .nils, .nils, .nils, (.int .i64 0), (.bool false), (.int .i64 0)], none⟩,
  ⟨none, .store 7 (.tmp 7) (.tmp 30), none⟩,
  ⟨some 8, .mov (.tmp 31), none⟩]
@[simp] theorem law04_done_r2_go (T : Tbl) (K : List Kt) (fr : Fr) (S : St) : gval T (.ops law04_done_r2 :: K) fr S = gval T (.ops [
  ⟨some 20, .load true 7 false (.tmp 2), none⟩,
  ⟨some 21, .faddr 0 (.tmp 3), none⟩,
  ⟨some 22, .load false 1 false (.tmp 21), none⟩,
  ⟨some 23, .faddr 1 (.tmp 3), none⟩,
  ⟨some 24, .load false 1 false (.tmp 23), none⟩,
  ⟨some 25, .faddr 2 (.tmp 3), none⟩,
  ⟨some 26, .load false 1 false (.tmp 25), none⟩,
  ⟨some 27, .faddr 3 (.tmp 3), none⟩,
  ⟨some 28, .load false 1 false (.tmp 27), none⟩,
  ⟨some 29, .call .std 86 [(.tmp 20), (.tmp 22), (.tmp 24), (.tmp 26), (.tmp 28)], none⟩,
  ⟨some 19, .mov (.tmp 29), none⟩,
  ⟨some 30, .extract 0 (.tmp 19), none⟩,
  ⟨some 31, .extract 1 (.tmp 19), none⟩,
  ⟨some 7, .alloc false [(.int .i64 0), .nils, .nils, .nils, (.int .i64 0), (.bool false), (.int .i64 0)], none⟩,
  ⟨none, .store 7 (.tmp 7) (.tmp 30), none⟩,
  ⟨some 8, .mov (.tmp 31), none⟩] :: K) fr S := rfl
def law04_done_r3 : List POper := [
  ⟨some 32, .load true 7 false (.tmp 7), none⟩,
  ⟨some 33, .mov (.tmp 8), none⟩,
  ⟨none, .store 7 (.tmp 4) (.tmp 32), none⟩,
  ⟨some 5, .mov (.tmp 33), none⟩,
  ⟨some 6, .mov (.cst .nils), none⟩]
@[simp] theorem law04_done_r3_go (T : Tbl) (K : List Kt) (fr : Fr) (S : St) : gval T (.ops law04_done_r3 :: K) fr S = gval T (.ops [
  ⟨some 32, .load true 7 false (.tmp 7), none⟩,
  ⟨some 33, .mov (.tmp 8), none⟩,
  ⟨none, .store 7 (.tmp 4) (.tmp 32), none⟩,
  ⟨some 5, .mov (.tmp 33), none⟩,
  ⟨some 6, .mov (.cst .nils), none⟩] :: K) fr S := rfl
def law04_done_r4 : List POper := [
  ⟨some 34, .faddr 0 (.tmp 3), none⟩,
  ⟨some 35, .load false 1 false (.tmp 34), none⟩]
@[simp] theorem law04_done_r4_go (T : Tbl) (K : List Kt) (fr : Fr) (S : St) : gval T (.ops law04_done_r4 :: K) fr S = gval T (.ops [
  ⟨some 34, .faddr 0 (.tmp 3), none⟩,
  ⟨some 35, .load false 1 false (.tmp 34), none⟩] :: K) fr S := rfl
def law04_done_r5 : List POper := [
  ⟨some 37, .arith .eql (.tmp 35) (.cst (.int .i64 7)), none⟩,
  ⟨some 36, .mov (.tmp 37), none⟩]
@[simp] theorem law04_done_r5_go (T : Tbl) (K : List Kt) (fr : Fr) (S : St) : gval T (.ops law04_done_r5 :: K) fr S = gval T (.ops [
  ⟨some 37, .arith .eql (.tmp 35) (.cst (.int .i64 7)), none⟩,
  ⟨some 36, .mov (.tmp 37), none⟩] :: K) fr S := rfl
def law04_done_r6 : List POper := [
  ⟨some 39, .load true 7 false (.tmp 2), none⟩,
  ⟨some 40, .faddr 1 (.tmp 3), none⟩,
  ⟨some 41, .load false 1 false (.tmp 40), none⟩,
  ⟨some 42, .call .std 87 [(.tmp 39), (.tmp 41)], none⟩,
  ⟨some 38, .mov (.tmp 42), none⟩,
  ⟨some 43, .extract 0 (.tmp 38), none⟩,
  ⟨some 44, .extract 1 (.tmp 38), none⟩,
  ⟨some 9, .mov (.tmp 43), none⟩,
  ⟨some 10, .mov (.tmp 44), none⟩]
@[simp] theorem law04_done_r6_go (T : Tbl) (K : List Kt) (fr : Fr) (S : St) : gval T (.ops law04_done_r6 :: K) fr S = gval T (.ops [
  ⟨some 39, .load true 7 false (.tmp 2), none⟩,
  ⟨some 40, .faddr 1 (.tmp 3), none⟩,
  ⟨some 41, .load false 1 false (.tmp 40), none⟩,
  ⟨some 42, .call .std 87 [(.tmp 39), (.tmp 41)], none⟩,
  ⟨some 38, .mov (.tmp 42), none⟩,
  ⟨some 43, .extract 0 (.tmp 38), none⟩,
  ⟨some 44, .extract 1 (.tmp 38), none⟩,
  ⟨some 9, .mov (.tmp 43), none⟩,
  ⟨some 10, .mov (.tmp 44), none⟩] :: K) fr S := rfl
def law04_done_r7 : List POper := [
  ⟨some 45, .load true 7 false (.tmp 2), none⟩,
  ⟨some 46, .mov (.tmp 10), none⟩,
  ⟨some 47, .mov (.tmp 9), none⟩,
  ⟨none, .store 7 (.tmp 4) (.tmp 45), none⟩,
  ⟨some 5, .mov (.tmp 46), none⟩,
  ⟨some 6, .mov (.tmp 47), none⟩]
@[simp] theorem law04_done_r7_go (T : Tbl) (K : List Kt) (fr : Fr) (S : St) : gval T (.ops law04_done_r7 :: K) fr S = gval T (.ops [
  ⟨some 45, .load true 7 false (.tmp 2), none⟩,
  ⟨some 46, .mov (.tmp 10), none⟩,
  ⟨some 47, .mov (.tmp 9), none⟩,
  ⟨none, .store 7 (.tmp 4) (.tmp 45), none⟩,
  ⟨some 5, .mov (.tmp 46), none⟩,
  ⟨some 6, .mov (.tmp 47), none⟩] :: K) fr S := rfl
def law04_done_r8 : List POper := [
  ⟨some 49, .arith .eql (.tmp 35) (.cst (.int .i64 8)), none⟩,
  ⟨some 48, .mov (.tmp 49), none⟩]
@[simp] theorem law04_done_r8_go (T : Tbl) (K : List Kt) (fr : Fr) (S : St) : gval T (.ops law04_done_r8 :: K) fr S = gval T (.ops [
  ⟨some 49, .arith .eql (.tmp 35) (.cst (.int .i64 8)), none⟩,
  ⟨some 48, .mov (.tmp 49), none⟩] :: K) fr S := rfl
def law04_done_r9 : List POper := [
  ⟨some 50, .load true 7 false (.tmp 2), none⟩,
  ⟨some 51, .faddr 4 (.tmp 3), none⟩,
  ⟨some 52, .load false 1 false (.tmp 51), none⟩,
  ⟨some 53, .call .std 88 [(.tmp 50), (.tmp 52)], none⟩,
  ⟨none, .store 7 (.tmp 4) (.tmp 53), none⟩,
  ⟨some 5, .mov (.cst (.int .i64 0)), none⟩,
  ⟨some 6, .mov (.cst .nils), none⟩]
@[simp] theorem law04_done_r9_go (T : Tbl) (K : List Kt) (fr : Fr) (S : St) : gval T (.ops law04_done_r9 :: K) fr S = gval T (.ops [
  ⟨some 50, .load true 7 false (.tmp 2), none⟩,
  ⟨some 51, .faddr 4 (.tmp 3), none⟩,
  ⟨some 52, .load false 1 false (.tmp 51), none⟩,
  ⟨some 53, .call .std 88 [(.tmp 50), (.tmp 52)], none⟩,
  ⟨none, .store 7 (.tmp 4) (.tmp 53), none⟩,
  ⟨some 5, .mov (.cst (.int .i64 0)), none⟩,
  ⟨some 6, .mov (.cst .nils), none⟩] :: K) fr S := rfl
def law04_done_r10 : List POper := [
  ⟨some 55, .arith .eql (.tmp 35) (.cst (.int .i64 9)), none⟩,
  ⟨some 54, .mov (.tmp 55), none⟩]
@[simp] theorem law04_done_r10_go (T : Tbl) (K : List Kt) (fr : Fr) (S : St) : gval T (.ops law04_done_r10 :: K) fr S = gval T (.ops [
  ⟨some 55, .arith .eql (.tmp 35) (.cst (.int .i64 9)), none⟩,
  ⟨some 54, .mov (.tmp 55), none⟩] :: K) fr S := rfl
def law04_done_r11 : List POper := [
  ⟨some 56, .load true 7 false (.tmp 2), none⟩,
  ⟨some 57, .faddr 4 (.tmp 3), none⟩,
  ⟨some 58, .load false 1 false (.tmp 57), none⟩,
  ⟨some 59, .faddr 5 (.tmp 3), none⟩,
  ⟨some 60, .load false 1 false (.tmp 59), none⟩,
  ⟨some 61, .call .std 89 [(.tmp 56), (.tmp 58), (.tmp 60)], none⟩,
  ⟨none, .store 7 (.tmp 4) (.tmp 61), none⟩,
  ⟨some 5, .mov (.cst (.int .i64 0)), none⟩,
  ⟨some 6, .mov (.cst .nils), none⟩]
@[simp] theorem law04_done_r11_go (T : Tbl) (K : List Kt) (fr : Fr) (S : St) : gval T (.ops law04_done_r11 :: K) fr S = gval T (.ops [
  ⟨some 56, .load true 7 false (.tmp 2), none⟩,
  ⟨some 57, .faddr 4 (.tmp 3), none⟩,
  ⟨some 58, .load false 1 false (.tmp 57), none⟩,
  ⟨some 59, .faddr 5 (.tmp 3), none⟩,
  ⟨some 60, .load false 1 false (.tmp 59), none⟩,
  ⟨some 61, .call .std 89 [(.tmp 56), (.tmp 58), (.tmp 60)], none⟩,
  ⟨none, .store 7 (.tmp 4) (.tmp 61), none⟩,
  ⟨some 5, .mov (.cst (.int .i64 0)), none⟩,
  ⟨some 6, .mov (.cst .nils), none⟩] :: K) fr S := rfl
def law04_done_r12 : List POper := [
  ⟨some 62, .load true 7 false (.tmp 2), none⟩,
  ⟨none, .store 7 (.tmp 4) (.tmp 62), none⟩,
  ⟨some 5, .mov (.cst (.int .i64 0)), none⟩,
  ⟨some 6, .mov (.cst .nils), none⟩]
@[simp] theorem law04_done_r12_go (T : Tbl) (K : List Kt) (fr : Fr) (S : St) : gval T (.ops law04_done_r12 :: K) fr S = gval T (.ops [
  ⟨some 62, .load true 7 false (.tmp 2), none⟩,
  ⟨none, .store 7 (.tmp 4) (.tmp 62), none⟩,
  ⟨some 5, .mov (.cst (.int .i64 0)), none⟩,
  ⟨some 6, .mov (.cst .nils), none⟩] :: K) fr S := rfl
def law04_done : PCodeFn :=
  ⟨2, [.cell 4 true 7, .tmp 5, .tmp 6],
  (.seq (.region law04_done_r0) (.seq (.seq (.clr [(11, 18)] (.region law04_done_r1)) (.cond (.tmp 18) (.seq (.clr [(19, 32)] (.region law04_done_r2)) (.seq (.clr [(32, 34)] (.region law04_done_r3)) .ret)) .skip)) (.seq (.seq (.clr [(34, 35)] (.region law04_done_r4)) (.block 0 (.seq (.clr [(37, 38)] (.region law04_done_r5)) (.cond (.tmp 36) (.seq (.clr [(38, 45)] (.region law04_done_r6)) (.seq (.clr [(45, 48)] (.region law04_done_r7)) .ret)) (.seq (.clr [(49, 50)] (.region law04_done_r8)) (.cond (.tmp 48) (.seq (.clr [(50, 54)] (.region law04_done_r9)) .ret) (.seq (.clr [(55, 56)] (.region law04_done_r10)) (.cond (.tmp 54) (.seq (.clr [(56, 62)] (.region law04_done_r11)) .ret) .skip)))))))) (.seq (.clr [(62, 63)] (.region law04_done_r12)) .ret)))), false⟩

/-! gauge/gaugelaw04.whole: 21 -/
def law04_whole_r0 : List POper := [
  ⟨some 3, .box true (.tmp 1), none⟩,
  ⟨some 4, .mov (.cst (.bool false)), none⟩]
@[simp] theorem law04_whole_r0_go (T : Tbl) (K : List Kt) (fr : Fr) (S : St) : gval T (.ops law04_whole_r0 :: K) fr S = gval T (.ops [
  ⟨some 3, .box true (.tmp 1), none⟩,
  ⟨some 4, .mov (.cst (.bool false)), none⟩] :: K) fr S := rfl
def law04_whole_r1 : List POper := [
  ⟨some 11, .mov (.tmp 0), none⟩,
  ⟨some 12, .call .std 90 [(.tmp 11)], none⟩,
  ⟨some 5, .mov (.tmp 12), none⟩]
@[simp] theorem law04_whole_r1_go (T : Tbl) (K : List Kt) (fr : Fr) (S : St) : gval T (.ops law04_whole_r1 :: K) fr S = gval T (.ops [
  ⟨some 11, .mov (.tmp 0), none⟩,
  ⟨some 12, .call .std 90 [(.tmp 11)], none⟩,
  ⟨some 5, .mov (.tmp 12), none⟩] :: K) fr S := rfl
def law04_whole_r2 : List POper := [
  ⟨some 13, .mov (.tmp 5), none⟩,
  ⟨some 14, .load true 7 true (.tmp 3), none⟩,
  ⟨some 15, .call .std 92 [(.tmp 14)], none⟩,
  ⟨some 16, .call .std 91 [(.tmp 13), (.tmp 15)], none⟩,
  ⟨some 17, .un .not (.tmp 16), none⟩,
  ⟨some 18, .mov (.tmp 17), none⟩,
  ⟨some 19, .mov (.tmp 0), some (18, false)⟩,
  ⟨some 20, .call .std 93 [(.tmp 19)], some (18, false)⟩,
  ⟨some 21, .faddr 6 (.tmp 3), some (18, false)⟩,
  ⟨some 22, .load false 1 true (.tmp 21), some (18, false)⟩,
  ⟨some 23, .arith .neq (.tmp 20) (.tmp 22), some (18, false)⟩,
  ⟨some 24, .pick (.tmp 18) (.cst (.bool true)) (.tmp 23), none⟩]
@[simp] theorem law04_whole_r2_go (T : Tbl) (K : List Kt) (fr : Fr) (S : St) : gval T (.ops law04_whole_r2 :: K) fr S = gval T (.ops [
  ⟨some 13, .mov (.tmp 5), none⟩,
  ⟨some 14, .load true 7 true (.tmp 3), none⟩,
  ⟨some 15, .call .std 92 [(.tmp 14)], none⟩,
  ⟨some 16, .call .std 91 [(.tmp 13), (.tmp 15)], none⟩,
  ⟨some 17, .un .not (.tmp 16), none⟩,
  ⟨some 18, .mov (.tmp 17), none⟩,
  ⟨some 19, .mov (.tmp 0), some (18, false)⟩,
  ⟨some 20, .call .std 93 [(.tmp 19)], some (18, false)⟩,
  ⟨some 21, .faddr 6 (.tmp 3), some (18, false)⟩,
  ⟨some 22, .load false 1 true (.tmp 21), some (18, false)⟩,
  ⟨some 23, .arith .neq (.tmp 20) (.tmp 22), some (18, false)⟩,
  ⟨some 24, .pick (.tmp 18) (.cst (.bool true)) (.tmp 23), none⟩] :: K) fr S := rfl
def law04_whole_r3 : List POper := [
  ⟨some 4, .mov (.cst (.bool false)), none⟩]
@[simp] theorem law04_whole_r3_go (T : Tbl) (K : List Kt) (fr : Fr) (S : St) : gval T (.ops law04_whole_r3 :: K) fr S = gval T (.ops [
  ⟨some 4, .mov (.cst (.bool false)), none⟩] :: K) fr S := rfl
def law04_whole_r4 : List POper := [
  ⟨some 6, .mov (.cst (.int .i64 0)), none⟩]
@[simp] theorem law04_whole_r4_go (T : Tbl) (K : List Kt) (fr : Fr) (S : St) : gval T (.ops law04_whole_r4 :: K) fr S = gval T (.ops [
  ⟨some 6, .mov (.cst (.int .i64 0)), none⟩] :: K) fr S := rfl
def law04_whole_r5 : List POper := [
  ⟨some 25, .mov (.tmp 6), none⟩,
  ⟨some 26, .mov (.tmp 5), none⟩,
  ⟨some 27, .len false (.tmp 26), none⟩,
  ⟨some 28, .arith .lss (.tmp 25) (.tmp 27), none⟩]
@[simp] theorem law04_whole_r5_go (T : Tbl) (K : List Kt) (fr : Fr) (S : St) : gval T (.ops law04_whole_r5 :: K) fr S = gval T (.ops [
  ⟨some 25, .mov (.tmp 6), none⟩,
  ⟨some 26, .mov (.tmp 5), none⟩,
  ⟨some 27, .len false (.tmp 26), none⟩,
  ⟨some 28, .arith .lss (.tmp 25) (.tmp 27), none⟩] :: K) fr S := rfl
def law04_whole_r7 : List POper := [
  ⟨some 32, .mov (.tmp 0), none⟩,
  ⟨some 33, .mov (.tmp 5), none⟩,
  ⟨some 34, .mov (.tmp 6), none⟩,
  ⟨some 35, .iaddr 1 (.tmp 33) (.tmp 34), none⟩,
  ⟨some 36, .load false 1 false (.tmp 35), none⟩,
  ⟨some 37, .call .std 81 [(.tmp 32), (.tmp 36)], none⟩,
  ⟨some 31, .mov (.tmp 37), none⟩,
  ⟨some 38, .extract 0 (.tmp 31), none⟩,
  ⟨some 39, .extract 1 (.tmp 31), none⟩,
  ⟨some 7, .mov (.tmp 38), none⟩,
  ⟨some 8, .mov (.tmp 39), none⟩]
@[simp] theorem law04_whole_r7_go (T : Tbl) (K : List Kt) (fr : Fr) (S : St) : gval T (.ops law04_whole_r7 :: K) fr S = gval T (.ops [
  ⟨some 32, .mov (.tmp 0), none⟩,
  ⟨some 33, .mov (.tmp 5), none⟩,
  ⟨some 34, .mov (.tmp 6), none⟩,
  ⟨some 35, .iaddr 1 (.tmp 33) (.tmp 34), none⟩,
  ⟨some 36, .load false 1 false (.tmp 35), none⟩,
  ⟨some 37, .call .std 81 [(.tmp 32), (.tmp 36)], none⟩,
  ⟨some 31, .mov (.tmp 37), none⟩,
  ⟨some 38, .extract 0 (.tmp 31), none⟩,
  ⟨some 39, .extract 1 (.tmp 31), none⟩,
  ⟨some 7, .mov (.tmp 38), none⟩,
  ⟨some 8, .mov (.tmp 39), none⟩] :: K) fr S := rfl
def law04_whole_r8 : List POper := [
  ⟨some 41, .load true 7 true (.tmp 3), none⟩,
  ⟨some 42, .mov (.tmp 5), none⟩,
  ⟨some 43, .mov (.tmp 6), none⟩,
  ⟨some 44, .iaddr 1 (.tmp 42) (.tmp 43), none⟩,
  ⟨some 45, .load false 1 true (.tmp 44), none⟩,
  ⟨some 46, .call .std 87 [(.tmp 41), (.tmp 45)], none⟩,
  ⟨some 40, .mov (.tmp 46), none⟩,
  ⟨some 47, .extract 0 (.tmp 40), none⟩,
  ⟨some 48, .extract 1 (.tmp 40), none⟩,
  ⟨some 9, .mov (.tmp 47), none⟩,
  ⟨some 10, .mov (.tmp 48), none⟩]
@[simp] theorem law04_whole_r8_go (T : Tbl) (K : List Kt) (fr : Fr) (S : St) : gval T (.ops law04_whole_r8 :: K) fr S = gval T (.ops [
  ⟨some 41, .load true 7 true (.tmp 3), none⟩,
  ⟨some 42, .mov (.tmp 5), none⟩,
  ⟨some 43, .mov (.tmp 6), none⟩,
  ⟨some 44, .iaddr 1 (.tmp 42) (.tmp 43), none⟩,
  ⟨some 45, .load false 1 true (.tmp 44), none⟩,
  ⟨some 46, .call .std 87 [(.tmp 41), (.tmp 45)], none⟩,
  ⟨some 40, .mov (.tmp 46), none⟩,
  ⟨some 47, .extract 0 (.tmp 40), none⟩,
  ⟨some 48, .extract 1 (.tmp 40), none⟩,
  ⟨some 9, .mov (.tmp 47), none⟩,
  ⟨some 10, .mov (.tmp 48), none⟩] :: K) fr S := rfl
def law04_whole_r9 : List POper := [
  ⟨some 49, .mov (.tmp 7), none⟩,
  ⟨some 50, .toStr (.tmp 49), none⟩,
  ⟨some 51, .mov (.tmp 9), none⟩,
  ⟨some 52, .toStr (.tmp 51), none⟩,
  ⟨some 53, .arith .neq (.tmp 50) (.tmp 52), none⟩,
  ⟨some 54, .mov (.tmp 53), none⟩,
  ⟨some 55, .mov (.tmp 8), some (54, false)⟩,
  ⟨some 56, .mov (.tmp 10), some (54, false)⟩,
  ⟨some 57, .arith .neq (.tmp 55) (.tmp 56), some (54, false)⟩,
  ⟨some 58, .pick (.tmp 54) (.cst (.bool true)) (.tmp 57), none⟩]
@[simp] theorem law04_whole_r9_go (T : Tbl) (K : List Kt) (fr : Fr) (S : St) : gval T (.ops law04_whole_r9 :: K) fr S = gval T (.ops [
  ⟨some 49, .mov (.tmp 7), none⟩,
  ⟨some 50, .toStr (.tmp 49), none⟩,
  ⟨some 51, .mov (.tmp 9), none⟩,
  ⟨some 52, .toStr (.tmp 51), none⟩,
  ⟨some 53, .arith .neq (.tmp 50) (.tmp 52), none⟩,
  ⟨some 54, .mov (.tmp 53), none⟩,
  ⟨some 55, .mov (.tmp 8), some (54, false)⟩,
  ⟨some 56, .mov (.tmp 10), some (54, false)⟩,
  ⟨some 57, .arith .neq (.tmp 55) (.tmp 56), some (54, false)⟩,
  ⟨some 58, .pick (.tmp 54) (.cst (.bool true)) (.tmp 57), none⟩] :: K) fr S := rfl
def law04_whole_r10 : List POper := [
  ⟨some 4, .mov (.cst (.bool false)), none⟩]
@[simp] theorem law04_whole_r10_go (T : Tbl) (K : List Kt) (fr : Fr) (S : St) : gval T (.ops law04_whole_r10 :: K) fr S = gval T (.ops [
  ⟨some 4, .mov (.cst (.bool false)), none⟩] :: K) fr S := rfl
def law04_whole_r6 : List POper := [
  ⟨some 29, .mov (.tmp 6), none⟩,
  ⟨some 30, .arith .add (.tmp 29) (.cst (.int .i64 1)), none⟩,
  ⟨some 6, .mov (.tmp 30), none⟩]
@[simp] theorem law04_whole_r6_go (T : Tbl) (K : List Kt) (fr : Fr) (S : St) : gval T (.ops law04_whole_r6 :: K) fr S = gval T (.ops [
  ⟨some 29, .mov (.tmp 6), none⟩,
  ⟨some 30, .arith .add (.tmp 29) (.cst (.int .i64 1)), none⟩,
  ⟨some 6, .mov (.tmp 30), none⟩] :: K) fr S := rfl
def law04_whole_l0 : PCode :=
  (.seq (.seq (.clr [(25, 28)] (.region law04_whole_r5)) (.cond (.tmp 28) .skip (.exit 0))) (.seq (.block 1 (.seq (.clr [(31, 40)] (.region law04_whole_r7)) (.seq (.clr [(40, 49)] (.region law04_whole_r8)) (.seq (.clr [(49, 58)] (.region law04_whole_r9)) (.cond (.tmp 58) (.seq (.region law04_whole_r10) .ret) .skip))))) (.clr [(29, 31)] (.region law04_whole_r6))))
@[simp] theorem law04_whole_l0_go (T : Tbl) (K : List Kt) (fr : Fr) (S : St) : gval T (.code law04_whole_l0 :: K) fr S = gval T (.code (.seq (.seq (.clr [(25, 28)] (.region law04_whole_r5)) (.cond (.tmp 28) .skip (.exit 0))) (.seq (.block 1 (.seq (.clr [(31, 40)] (.region law04_whole_r7)) (.seq (.clr [(40, 49)] (.region law04_whole_r8)) (.seq (.clr [(49, 58)] (.region law04_whole_r9)) (.cond (.tmp 58) (.seq (.region law04_whole_r10) .ret) .skip))))) (.clr [(29, 31)] (.region law04_whole_r6)))) :: K) fr S := rfl
def law04_whole_r11 : List POper := [
  ⟨some 4, .mov (.cst (.bool true)), none⟩]
@[simp] theorem law04_whole_r11_go (T : Tbl) (K : List Kt) (fr : Fr) (S : St) : gval T (.ops law04_whole_r11 :: K) fr S = gval T (.ops [
  ⟨some 4, .mov (.cst (.bool true)), none⟩] :: K) fr S := rfl
def law04_whole : PCodeFn :=
  ⟨2, [.tmp 4],
  (.seq (.region law04_whole_r0) (.seq (.clr [(11, 13)] (.region law04_whole_r1)) (.seq (.seq (.clr [(13, 24)] (.region law04_whole_r2)) (.cond (.tmp 24) (.seq (.region law04_whole_r3) .ret) .skip)) (.seq (.seq (.region law04_whole_r4) (.block 0 (.loop law04_whole_l0))) (.seq (.region law04_whole_r11) .ret))))), false⟩

/-! (*gauge/disk.Disk).Done: 93 -/
def disk_Disk_Done_r0 : List POper := [
  ⟨some 2, .mov (.cst (.int .i64 0)), none⟩]
@[simp] theorem disk_Disk_Done_r0_go (T : Tbl) (K : List Kt) (fr : Fr) (S : St) : gval T (.ops disk_Disk_Done_r0 :: K) fr S = gval T (.ops [
  ⟨some 2, .mov (.cst (.int .i64 0)), none⟩] :: K) fr S := rfl
def disk_Disk_Done_r1 : List POper := [
  ⟨some 3, .mov (.tmp 0), none⟩,
  ⟨some 4, .eqn false .p (.tmp 3), none⟩]
@[simp] theorem disk_Disk_Done_r1_go (T : Tbl) (K : List Kt) (fr : Fr) (S : St) : gval T (.ops disk_Disk_Done_r1 :: K) fr S = gval T (.ops [
  ⟨some 3, .mov (.tmp 0), none⟩,
  ⟨some 4, .eqn false .p (.tmp 3), none⟩] :: K) fr S := rfl
def disk_Disk_Done_r2 : List POper := [
  ⟨some 2, .mov (.cst (.int .i64 0)), none⟩]
@[simp] theorem disk_Disk_Done_r2_go (T : Tbl) (K : List Kt) (fr : Fr) (S : St) : gval T (.ops disk_Disk_Done_r2 :: K) fr S = gval T (.ops [
  ⟨some 2, .mov (.cst (.int .i64 0)), none⟩] :: K) fr S := rfl
def disk_Disk_Done_r3 : List POper := [
  ⟨some 5, .mov (.tmp 0), none⟩,
  ⟨some 6, .nilck (.tmp 5), none⟩,
  ⟨some 7, .faddr 5 (.tmp 6), none⟩,
  ⟨some 8, .load false 1 false (.tmp 7), none⟩,
  ⟨some 2, .mov (.tmp 8), none⟩]
@[simp] theorem disk_Disk_Done_r3_go (T : Tbl) (K : List Kt) (fr : Fr) (S : St) : gval T (.ops disk_Disk_Done_r3 :: K) fr S = gval T (.ops [
  ⟨some 5, .mov (.tmp 0), none⟩,
  ⟨some 6, .nilck (.tmp 5), none⟩,
  ⟨some 7, .faddr 5 (.tmp 6), none⟩,
  ⟨some 8, .load false 1 false (.tmp 7), none⟩,
  ⟨some 2, .mov (.tmp 8), none⟩] :: K) fr S := rfl
def disk_Disk_Done : PCodeFn :=
  ⟨1, [.tmp 2],
  (.seq (.region disk_Disk_Done_r0) (.seq (.seq (.clr [(3, 4)] (.region disk_Disk_Done_r1)) (.cond (.tmp 4) (.seq (.region disk_Disk_Done_r2) .ret) .skip)) (.seq (.clr [(5, 9)] (.region disk_Disk_Done_r3)) .ret))), false⟩

/-! (*gauge/disk.Disk).Copy: 462 -/
def disk_Disk_Copy_r0 : List POper := [
  ⟨some 2, .mov (.cst .nilp), none⟩]
@[simp] theorem disk_Disk_Copy_r0_go (T : Tbl) (K : List Kt) (fr : Fr) (S : St) : gval T (.ops disk_Disk_Copy_r0 :: K) fr S = gval T (.ops [
  ⟨some 2, .mov (.cst .nilp), none⟩] :: K) fr S := rfl
def disk_Disk_Copy_r1 : List POper := [
  ⟨some 9, .mov (.tmp 0), none⟩,
  ⟨some 10, .eqn false .p (.tmp 9), none⟩,
  ⟨some 11, .mov (.tmp 10), none⟩,
  ⟨some 12, .mov (.tmp 0), some (11, false)⟩,
  ⟨some 13, .nilck (.tmp 12), some (11, false)⟩,
  ⟨some 14, .faddr 2 (.tmp 13), some (11, false)⟩,
  ⟨some 15, .load false 1 false (.tmp 14), some (11, false)⟩,
  ⟨some 16, .eqn false .m (.tmp 15), some (11, false)⟩,
  ⟨some 17, .pick (.tmp 11) (.cst (.bool true)) (.tmp 16), none⟩]
@[simp] theorem disk_Disk_Copy_r1_go (T : Tbl) (K : List Kt) (fr : Fr) (S : St) : gval T (.ops disk_Disk_Copy_r1 :: K) fr S = gval T (.ops [
  ⟨some 9, .mov (.tmp 0), none⟩,
  ⟨some 10, .eqn false .p (.tmp 9), none⟩,
  ⟨some 11, .mov (.tmp 10), none⟩,
  ⟨some 12, .mov (.tmp 0), some (11, false)⟩,
  ⟨some 13, .nilck (.tmp 12), some (11, false)⟩,
  ⟨some 14, .faddr 2 (.tmp 13), some (11, false)⟩,
  ⟨some 15, .load false 1 false (.tmp 14), some (11, false)⟩,
  ⟨some 16, .eqn false .m (.tmp 15), some (11, false)⟩,
  ⟨some 17, .pick (.tmp 11) (.cst (.bool true)) (.tmp 16), none⟩] :: K) fr S := rfl
def disk_Disk_Copy_r2 : List POper := [
  ⟨some 2, .mov (.cst .nilp), none⟩]
@[simp] theorem disk_Disk_Copy_r2_go (T : Tbl) (K : List Kt) (fr : Fr) (S : St) : gval T (.ops disk_Disk_Copy_r2 :: K) fr S = gval T (.ops [
  ⟨some 2, .mov (.cst .nilp), none⟩] :: K) fr S := rfl
def disk_Disk_Copy_r3 : List POper := [
  ⟨some 18, .mkm, none⟩,
  ⟨some 3, .alloc false [.nilm], none⟩,
  ⟨none, .store 1 (.tmp 3) (.tmp 18), none⟩]
@[simp] theorem disk_Disk_Copy_r3_go (T : Tbl) (K : List Kt) (fr : Fr) (S : St) : gval T (.ops disk_Disk_Copy_r3 :: K) fr S = gval T (.ops [
  ⟨some 18, .mkm, none⟩,
  ⟨some 3, .alloc false [.nilm], none⟩,
  ⟨none, .store 1 (.tmp 3) (.tmp 18), none⟩] :: K) fr S := rfl
def disk_Disk_Copy_r4 : List POper := [
  ⟨some 19, .mkfn 463 [(.tmp 3)], none⟩,
  ⟨some 4, .alloc false [.nilf], none⟩,
  ⟨none, .store 1 (.tmp 4) (.tmp 19), none⟩]
@[simp] theorem disk_Disk_Copy_r4_go (T : Tbl) (K : List Kt) (fr : Fr) (S : St) : gval T (.ops disk_Disk_Copy_r4 :: K) fr S = gval T (.ops [
  ⟨some 19, .mkfn 463 [(.tmp 3)], none⟩,
  ⟨some 4, .alloc false [.nilf], none⟩,
  ⟨none, .store 1 (.tmp 4) (.tmp 19), none⟩] :: K) fr S := rfl
def disk_Disk_Copy_r5 : List POper := [
  ⟨some 20, .mkfn 464 [(.tmp 4)], none⟩,
  ⟨some 5, .mov (.tmp 20), none⟩]
@[simp] theorem disk_Disk_Copy_r5_go (T : Tbl) (K : List Kt) (fr : Fr) (S : St) : gval T (.ops disk_Disk_Copy_r5 :: K) fr S = gval T (.ops [
  ⟨some 20, .mkfn 464 [(.tmp 4)], none⟩,
  ⟨some 5, .mov (.tmp 20), none⟩] :: K) fr S := rfl
def disk_Disk_Copy_r6 : List POper := [
  ⟨some 21, .mov (.tmp 0), none⟩,
  ⟨some 22, .nilck (.tmp 21), none⟩,
  ⟨some 23, .load true 7 false (.tmp 22), none⟩,
  ⟨some 6, .alloc false [(.int .i64 0), .nilm, .nilm, .nils, (.int .i64 0), (.int .i64 0), (.bool false)], none⟩,
  ⟨none, .store 7 (.tmp 6) (.tmp 23), none⟩]
@[simp] theorem disk_Disk_Copy_r6_go (T : Tbl) (K : List Kt) (fr : Fr) (S : St) : gval T (.ops disk_Disk_Copy_r6 :: K) fr S = gval T (.ops [
  ⟨some 21, .mov (.tmp 0), none⟩,
  ⟨some 22, .nilck (.tmp 21), none⟩,
  ⟨some 23, .load true 7 false (.tmp 22), none⟩,
  ⟨some 6, .alloc false [(.int .i64 0), .nilm, .nilm, .nils, (.int .i64 0), (.int .i64 0), (.bool false)], none⟩,
  ⟨none, .store 7 (.tmp 6) (.tmp 23), none⟩] :: K) fr S := rfl
def disk_Disk_Copy_r7 : List POper := [
  ⟨some 24, .mov (.tmp 5), none⟩,
  ⟨some 25, .mov (.tmp 0), none⟩,
  ⟨some 26, .nilck (.tmp 25), none⟩,
  ⟨some 27, .faddr 1 (.tmp 26), none⟩,
  ⟨some 28, .load false 1 false (.tmp 27), none⟩,
  ⟨some 29, .callv .pur (.tmp 24) [(.tmp 28)], none⟩,
  ⟨some 30, .mov (.tmp 5), none⟩,
  ⟨some 31, .mov (.tmp 0), none⟩,
  ⟨some 32, .nilck (.tmp 31), none⟩,
  ⟨some 33, .faddr 2 (.tmp 32), none⟩,
  ⟨some 34, .load false 1 false (.tmp 33), none⟩,
  ⟨some 35, .callv .std (.tmp 30) [(.tmp 34)], none⟩,
  ⟨some 36, .faddr 1 (.tmp 6), none⟩,
  ⟨none, .store 1 (.tmp 36) (.tmp 29), none⟩,
  ⟨some 37, .faddr 2 (.tmp 6), none⟩,
  ⟨none, .store 1 (.tmp 37) (.tmp 35), none⟩,
  ⟨some 38, .faddr 3 (.tmp 6), none⟩,
  ⟨none, .store 1 (.tmp 38) (.cst .nils), none⟩]
@[simp] theorem disk_Disk_Copy_r7_go (T : Tbl) (K : List Kt) (fr : Fr) (S : St) : gval T (.ops disk_Disk_Copy_r7 :: K) fr S = gval T (.ops [
  ⟨some 24, .mov (.tmp 5), none⟩,
  ⟨some 25, .mov (.tmp 0), none⟩,
  ⟨some 26, .nilck (.tmp 25), none⟩,
  ⟨some 27, .faddr 1 (.tmp 26), none⟩,
  ⟨some 28, .load false 1 false (.tmp 27), none⟩,
  ⟨some 29, .callv .pur (.tmp 24) [(.tmp 28)], none⟩,
  ⟨some 30, .mov (.tmp 5), none⟩,
  ⟨some 31, .mov (.tmp 0), none⟩,
  ⟨some 32, .nilck (.tmp 31), none⟩,
  ⟨some 33, .faddr 2 (.tmp 32), none⟩,
  ⟨some 34, .load false 1 false (.tmp 33), none⟩,
  ⟨some 35, .callv .std (.tmp 30) [(.tmp 34)], none⟩,
  ⟨some 36, .faddr 1 (.tmp 6), none⟩,
  ⟨none, .store 1 (.tmp 36) (.tmp 29), none⟩,
  ⟨some 37, .faddr 2 (.tmp 6), none⟩,
  ⟨none, .store 1 (.tmp 37) (.tmp 35), none⟩,
  ⟨some 38, .faddr 3 (.tmp 6), none⟩,
  ⟨none, .store 1 (.tmp 38) (.cst .nils), none⟩] :: K) fr S := rfl
def disk_Disk_Copy_r8 : List POper := [
  ⟨some 39, .mov (.tmp 0), none⟩,
  ⟨some 40, .nilck (.tmp 39), none⟩,
  ⟨some 41, .faddr 3 (.tmp 40), none⟩,
  ⟨some 42, .load false 1 false (.tmp 41), none⟩,
  ⟨some 43, .len false (.tmp 42), none⟩,
  ⟨some 44, .mov (.cst (.int .i64 0)), none⟩]
@[simp] theorem disk_Disk_Copy_r8_go (T : Tbl) (K : List Kt) (fr : Fr) (S : St) : gval T (.ops disk_Disk_Copy_r8 :: K) fr S = gval T (.ops [
  ⟨some 39, .mov (.tmp 0), none⟩,
  ⟨some 40, .nilck (.tmp 39), none⟩,
  ⟨some 41, .faddr 3 (.tmp 40), none⟩,
  ⟨some 42, .load false 1 false (.tmp 41), none⟩,
  ⟨some 43, .len false (.tmp 42), none⟩,
  ⟨some 44, .mov (.cst (.int .i64 0)), none⟩] :: K) fr S := rfl
def disk_Disk_Copy_r9 : List POper := [
  ⟨some 45, .arith .lss (.tmp 44) (.tmp 43), none⟩]
@[simp] theorem disk_Disk_Copy_r9_go (T : Tbl) (K : List Kt) (fr : Fr) (S : St) : gval T (.ops disk_Disk_Copy_r9 :: K) fr S = gval T (.ops [
  ⟨some 45, .arith .lss (.tmp 44) (.tmp 43), none⟩] :: K) fr S := rfl
def disk_Disk_Copy_r10 : List POper := [
  ⟨some 46, .iaddr 3 (.tmp 42) (.tmp 44), none⟩,
  ⟨some 47, .load true 3 false (.tmp 46), none⟩,
  ⟨some 8, .alloc false [(.str []), (.str []), .nilp], none⟩,
  ⟨none, .store 3 (.tmp 8) (.tmp 47), none⟩]
@[simp] theorem disk_Disk_Copy_r10_go (T : Tbl) (K : List Kt) (fr : Fr) (S : St) : gval T (.ops disk_Disk_Copy_r10 :: K) fr S = gval T (.ops [
  ⟨some 46, .iaddr 3 (.tmp 42) (.tmp 44), none⟩,
  ⟨some 47, .load true 3 false (.tmp 46), none⟩,
  ⟨some 8, .alloc false [(.str []), (.str []), .nilp], none⟩,
  ⟨none, .store 3 (.tmp 8) (.tmp 47), none⟩] :: K) fr S := rfl
def disk_Disk_Copy_r11 : List POper := [
  ⟨some 48, .load false 1 false (.tmp 4), none⟩,
  ⟨some 49, .faddr 2 (.tmp 8), none⟩,
  ⟨some 50, .load false 1 false (.tmp 49), none⟩,
  ⟨some 51, .callv .std (.tmp 48) [(.tmp 50)], none⟩,
  ⟨some 52, .faddr 2 (.tmp 8), none⟩,
  ⟨none, .store 1 (.tmp 52) (.tmp 51), none⟩]
@[simp] theorem disk_Disk_Copy_r11_go (T : Tbl) (K : List Kt) (fr : Fr) (S : St) : gval T (.ops disk_Disk_Copy_r11 :: K) fr S = gval T (.ops [
  ⟨some 48, .load false 1 false (.tmp 4), none⟩,
  ⟨some 49, .faddr 2 (.tmp 8), none⟩,
  ⟨some 50, .load false 1 false (.tmp 49), none⟩,
  ⟨some 51, .callv .std (.tmp 48) [(.tmp 50)], none⟩,
  ⟨some 52, .faddr 2 (.tmp 8), none⟩,
  ⟨none, .store 1 (.tmp 52) (.tmp 51), none⟩] :: K) fr S := rfl
def disk_Disk_Copy_r12 : List POper := [
  ⟨some 53, .faddr 3 (.tmp 6), none⟩,
  ⟨some 54, .load false 1 false (.tmp 53), none⟩,
  ⟨some 55, .load true 3 false (.tmp 8), none⟩,
  ⟨some 56, .bsl false (.agg [(.str []), (.str []), .nilp]) 1 [(0, (.tmp 55))], none⟩,
  ⟨some 57, .app 3 40 (.tmp 54) (.tmp 56), none⟩,
  ⟨some 58, .faddr 3 (.tmp 6), none⟩,
  ⟨none, .store 1 (.tmp 58) (.tmp 57), none⟩]
@[simp] theorem disk_Disk_Copy_r12_go (T : Tbl) (K : List Kt) (fr : Fr) (S : St) : gval T (.ops disk_Disk_Copy_r12 :: K) fr S = gval T (.ops [
  ⟨some 53, .faddr 3 (.tmp 6), none⟩,
  ⟨some 54, .load false 1 false (.tmp 53), none⟩,
  ⟨some 55, .load true 3 false (.tmp 8), none⟩,
  ⟨some 56, .bsl false (.agg [(.str []), (.str []), .nilp]) 1 [(0, (.tmp 55))], none⟩,
  ⟨some 57, .app 3 40 (.tmp 54) (.tmp 56), none⟩,
  ⟨some 58, .faddr 3 (.tmp 6), none⟩,
  ⟨none, .store 1 (.tmp 58) (.tmp 57), none⟩] :: K) fr S := rfl
def disk_Disk_Copy_r13 : List POper := [
  ⟨some 59, .arith .add (.tmp 44) (.cst (.int .i64 1)), none⟩,
  ⟨some 44, .mov (.tmp 59), none⟩]
@[simp] theorem disk_Disk_Copy_r13_go (T : Tbl) (K : List Kt) (fr : Fr) (S : St) : gval T (.ops disk_Disk_Copy_r13 :: K) fr S = gval T (.ops [
  ⟨some 59, .arith .add (.tmp 44) (.cst (.int .i64 1)), none⟩,
  ⟨some 44, .mov (.tmp 59), none⟩] :: K) fr S := rfl
def disk_Disk_Copy_l0 : PCode :=
  (.seq (.region disk_Disk_Copy_r9) (.seq (.cond (.tmp 45) .skip (.exit 0)) (.seq (.block 1 (.seq (.clr [(46, 48)] (.region disk_Disk_Copy_r10)) (.seq (.clr [(48, 53)] (.region disk_Disk_Copy_r11)) (.clr [(53, 59)] (.region disk_Disk_Copy_r12))))) (.clr [(59, 60)] (.region disk_Disk_Copy_r13)))))
@[simp] theorem disk_Disk_Copy_l0_go (T : Tbl) (K : List Kt) (fr : Fr) (S : St) : gval T (.code disk_Disk_Copy_l0 :: K) fr S = gval T (.code (.seq (.region disk_Disk_Copy_r9) (.seq (.cond (.tmp 45) .skip (.exit 0)) (.seq (.block 1 (.seq (.clr [(46, 48)] (.region disk_Disk_Copy_r10)) (.seq (.clr [(48, 53)] (.region disk_Disk_Copy_r11)) (.clr [(53, 59)] (.region disk_Disk_Copy_r12))))) (.clr [(59, 60)] (.region disk_Disk_Copy_r13))))) :: K) fr S := rfl
def disk_Disk_Copy_r14 : List POper := [
  ⟨some 2, .mov (.tmp 6), none⟩]
@[simp] theorem disk_Disk_Copy_r14_go (T : Tbl) (K : List Kt) (fr : Fr) (S : St) : gval T (.ops disk_Disk_Copy_r14 :: K) fr S = gval T (.ops [
  ⟨some 2, .mov (.tmp 6), none⟩] :: K) fr S := rfl
def disk_Disk_Copy : PCodeFn :=
  ⟨1, [.tmp 2],
  (.seq (.region disk_Disk_Copy_r0) (.seq (.seq (.clr [(9, 17)] (.region disk_Disk_Copy_r1)) (.cond (.tmp 17) (.seq (.region disk_Disk_Copy_r2) .ret) .skip)) (.seq (.clr [(18, 19)] (.region disk_Disk_Copy_r3)) (.seq (.clr [(19, 20)] (.region disk_Disk_Copy_r4)) (.seq (.clr [(20, 21)] (.region disk_Disk_Copy_r5)) (.seq (.clr [(21, 24)] (.region disk_Disk_Copy_r6)) (.seq (.clr [(24, 39)] (.region disk_Disk_Copy_r7)) (.seq (.seq (.clr [(39, 42)] (.region disk_Disk_Copy_r8)) (.block 0 (.loop disk_Disk_Copy_l0))) (.seq (.region disk_Disk_Copy_r14) .ret))))))))), false⟩

/-! (*gauge/disk.Disk).find: 194 -/
def disk_Disk_find_r0 : List POper := [
  ⟨some 4, .mov (.cst .nilp), none⟩,
  ⟨some 5, .mov (.cst (.int .i64 0)), none⟩]
@[simp] theorem disk_Disk_find_r0_go (T : Tbl) (K : List Kt) (fr : Fr) (S : St) : gval T (.ops disk_Disk_find_r0 :: K) fr S = gval T (.ops [
  ⟨some 4, .mov (.cst .nilp), none⟩,
  ⟨some 5, .mov (.cst (.int .i64 0)), none⟩] :: K) fr S := rfl
def disk_Disk_find_r1 : List POper := [
  ⟨some 7, .mov (.tmp 0), none⟩,
  ⟨some 8, .eqn false .p (.tmp 7), none⟩,
  ⟨some 9, .mov (.tmp 8), none⟩,
  ⟨some 10, .mov (.tmp 0), some (9, false)⟩,
  ⟨some 11, .nilck (.tmp 10), some (9, false)⟩,
  ⟨some 12, .faddr 2 (.tmp 11), some (9, false)⟩,
  ⟨some 13, .load false 1 false (.tmp 12), some (9, false)⟩,
  ⟨some 14, .eqn false .m (.tmp 13), some (9, false)⟩,
  ⟨some 15, .pick (.tmp 9) (.cst (.bool true)) (.tmp 14), none⟩,
  ⟨some 6, .mov (.tmp 15), none⟩]
@[simp] theorem disk_Disk_find_r1_go (T : Tbl) (K : List Kt) (fr : Fr) (S : St) : gval T (.ops disk_Disk_find_r1 :: K) fr S = gval T (.ops [
  ⟨some 7, .mov (.tmp 0), none⟩,
  ⟨some 8, .eqn false .p (.tmp 7), none⟩,
  ⟨some 9, .mov (.tmp 8), none⟩,
  ⟨some 10, .mov (.tmp 0), some (9, false)⟩,
  ⟨some 11, .nilck (.tmp 10), some (9, false)⟩,
  ⟨some 12, .faddr 2 (.tmp 11), some (9, false)⟩,
  ⟨some 13, .load false 1 false (.tmp 12), some (9, false)⟩,
  ⟨some 14, .eqn false .m (.tmp 13), some (9, false)⟩,
  ⟨some 15, .pick (.tmp 9) (.cst (.bool true)) (.tmp 14), none⟩,
  ⟨some 6, .mov (.tmp 15), none⟩] :: K) fr S := rfl
def disk_Disk_find_r2 : List POper := [
  ⟨some 4, .mov (.cst .nilp), none⟩,
  ⟨some 5, .mov (.cst (.int .i64 1)), none⟩]
@[simp] theorem disk_Disk_find_r2_go (T : Tbl) (K : List Kt) (fr : Fr) (S : St) : gval T (.ops disk_Disk_find_r2 :: K) fr S = gval T (.ops [
  ⟨some 4, .mov (.cst .nilp), none⟩,
  ⟨some 5, .mov (.cst (.int .i64 1)), none⟩] :: K) fr S := rfl
def disk_Disk_find_r3 : List POper := [
  ⟨some 17, .mov (.tmp 1), none⟩,
  ⟨some 18, .call .pur 202 [(.tmp 17)], none⟩,
  ⟨some 19, .un .not (.tmp 18), none⟩,
  ⟨some 16, .mov (.tmp 19), none⟩]
@[simp] theorem disk_Disk_find_r3_go (T : Tbl) (K : List Kt) (fr : Fr) (S : St) : gval T (.ops disk_Disk_find_r3 :: K) fr S = gval T (.ops [
  ⟨some 17, .mov (.tmp 1), none⟩,
  ⟨some 18, .call .pur 202 [(.tmp 17)], none⟩,
  ⟨some 19, .un .not (.tmp 18), none⟩,
  ⟨some 16, .mov (.tmp 19), none⟩] :: K) fr S := rfl
def disk_Disk_find_r4 : List POper := [
  ⟨some 4, .mov (.cst .nilp), none⟩,
  ⟨some 5, .mov (.cst (.int .i64 8)), none⟩]
@[simp] theorem disk_Disk_find_r4_go (T : Tbl) (K : List Kt) (fr : Fr) (S : St) : gval T (.ops disk_Disk_find_r4 :: K) fr S = gval T (.ops [
  ⟨some 4, .mov (.cst .nilp), none⟩,
  ⟨some 5, .mov (.cst (.int .i64 8)), none⟩] :: K) fr S := rfl
def disk_Disk_find_r5 : List POper := [
  ⟨some 21, .mov (.tmp 0), none⟩,
  ⟨some 22, .nilck (.tmp 21), none⟩,
  ⟨some 23, .faddr 2 (.tmp 22), none⟩,
  ⟨some 24, .load false 1 false (.tmp 23), none⟩,
  ⟨some 25, .mov (.tmp 1), none⟩,
  ⟨some 26, .mlk true false .nilp (.tmp 24) (.tmp 25), none⟩,
  ⟨some 27, .eqn false .p (.tmp 26), none⟩,
  ⟨some 20, .mov (.tmp 27), none⟩]
@[simp] theorem disk_Disk_find_r5_go (T : Tbl) (K : List Kt) (fr : Fr) (S : St) : gval T (.ops disk_Disk_find_r5 :: K) fr S = gval T (.ops [
  ⟨some 21, .mov (.tmp 0), none⟩,
  ⟨some 22, .nilck (.tmp 21), none⟩,
  ⟨some 23, .faddr 2 (.tmp 22), none⟩,
  ⟨some 24, .load false 1 false (.tmp 23), none⟩,
  ⟨some 25, .mov (.tmp 1), none⟩,
  ⟨some 26, .mlk true false .nilp (.tmp 24) (.tmp 25), none⟩,
  ⟨some 27, .eqn false .p (.tmp 26), none⟩,
  ⟨some 20, .mov (.tmp 27), none⟩] :: K) fr S := rfl
def disk_Disk_find_r6 : List POper := [
  ⟨some 4, .mov (.cst .nilp), none⟩,
  ⟨some 5, .mov (.cst (.int .i64 9)), none⟩]
@[simp] theorem disk_Disk_find_r6_go (T : Tbl) (K : List Kt) (fr : Fr) (S : St) : gval T (.ops disk_Disk_find_r6 :: K) fr S = gval T (.ops [
  ⟨some 4, .mov (.cst .nilp), none⟩,
  ⟨some 5, .mov (.cst (.int .i64 9)), none⟩] :: K) fr S := rfl
def disk_Disk_find_r7 : List POper := [
  ⟨some 28, .mov (.tmp 0), none⟩,
  ⟨some 29, .nilck (.tmp 28), none⟩,
  ⟨some 30, .faddr 2 (.tmp 29), none⟩,
  ⟨some 31, .load false 1 false (.tmp 30), none⟩,
  ⟨some 32, .mov (.tmp 1), none⟩,
  ⟨some 33, .mlk true false .nilp (.tmp 31) (.tmp 32), none⟩,
  ⟨some 4, .mov (.tmp 33), none⟩,
  ⟨some 5, .mov (.cst (.int .i64 0)), none⟩]
@[simp] theorem disk_Disk_find_r7_go (T : Tbl) (K : List Kt) (fr : Fr) (S : St) : gval T (.ops disk_Disk_find_r7 :: K) fr S = gval T (.ops [
  ⟨some 28, .mov (.tmp 0), none⟩,
  ⟨some 29, .nilck (.tmp 28), none⟩,
  ⟨some 30, .faddr 2 (.tmp 29), none⟩,
  ⟨some 31, .load false 1 false (.tmp 30), none⟩,
  ⟨some 32, .mov (.tmp 1), none⟩,
  ⟨some 33, .mlk true false .nilp (.tmp 31) (.tmp 32), none⟩,
  ⟨some 4, .mov (.tmp 33), none⟩,
  ⟨some 5, .mov (.cst (.int .i64 0)), none⟩] :: K) fr S := rfl
def disk_Disk_find : PCodeFn :=
  ⟨2, [.tmp 4, .tmp 5],
  (.seq (.region disk_Disk_find_r0) (.seq (.block 0 (.seq (.clr [(7, 16)] (.region disk_Disk_find_r1)) (.cond (.tmp 6) (.seq (.region disk_Disk_find_r2) .ret) (.seq (.clr [(17, 20)] (.region disk_Disk_find_r3)) (.cond (.tmp 16) (.seq (.region disk_Disk_find_r4) .ret) (.seq (.clr [(21, 28)] (.region disk_Disk_find_r5)) (.cond (.tmp 20) (.seq (.region disk_Disk_find_r6) .ret) .skip))))))) (.seq (.clr [(28, 34)] (.region disk_Disk_find_r7)) .ret))), false⟩

/-! (*gauge/disk.Disk).enter: 195 -/
def disk_Disk_enter_r0 : List POper := [
  ⟨some 3, .box true (.tmp 1), none⟩,
  ⟨some 4, .mov (.cst (.int .i64 0)), none⟩]
@[simp] theorem disk_Disk_enter_r0_go (T : Tbl) (K : List Kt) (fr : Fr) (S : St) : gval T (.ops disk_Disk_enter_r0 :: K) fr S = gval T (.ops [
  ⟨some 3, .box true (.tmp 1), none⟩,
  ⟨some 4, .mov (.cst (.int .i64 0)), none⟩] :: K) fr S := rfl
def disk_Disk_enter_r1 : List POper := [
  ⟨some 6, .mov (.tmp 0), none⟩,
  ⟨some 7, .call .std 196 [(.tmp 6)], none⟩,
  ⟨some 5, .mov (.tmp 7), none⟩]
@[simp] theorem disk_Disk_enter_r1_go (T : Tbl) (K : List Kt) (fr : Fr) (S : St) : gval T (.ops disk_Disk_enter_r1 :: K) fr S = gval T (.ops [
  ⟨some 6, .mov (.tmp 0), none⟩,
  ⟨some 7, .call .std 196 [(.tmp 6)], none⟩,
  ⟨some 5, .mov (.tmp 7), none⟩] :: K) fr S := rfl
def disk_Disk_enter_r2 : List POper := [
  ⟨some 8, .mov (.tmp 5), none⟩,
  ⟨some 9, .arith .neq (.tmp 8) (.cst (.int .i64 0)), none⟩]
@[simp] theorem disk_Disk_enter_r2_go (T : Tbl) (K : List Kt) (fr : Fr) (S : St) : gval T (.ops disk_Disk_enter_r2 :: K) fr S = gval T (.ops [
  ⟨some 8, .mov (.tmp 5), none⟩,
  ⟨some 9, .arith .neq (.tmp 8) (.cst (.int .i64 0)), none⟩] :: K) fr S := rfl
def disk_Disk_enter_r3 : List POper := [
  ⟨some 10, .mov (.tmp 5), none⟩,
  ⟨some 4, .mov (.tmp 10), none⟩]
@[simp] theorem disk_Disk_enter_r3_go (T : Tbl) (K : List Kt) (fr : Fr) (S : St) : gval T (.ops disk_Disk_enter_r3 :: K) fr S = gval T (.ops [
  ⟨some 10, .mov (.tmp 5), none⟩,
  ⟨some 4, .mov (.tmp 10), none⟩] :: K) fr S := rfl
def disk_Disk_enter_r4 : List POper := [
  ⟨some 11, .load true 3 true (.tmp 3), none⟩,
  ⟨some 12, .mov (.tmp 0), none⟩,
  ⟨some 13, .nilck (.tmp 12), none⟩,
  ⟨some 14, .faddr 2 (.tmp 13), none⟩,
  ⟨some 15, .load false 1 false (.tmp 14), none⟩,
  ⟨some 16, .call .std 198 [(.tmp 11), (.tmp 15)], none⟩]
@[simp] theorem disk_Disk_enter_r4_go (T : Tbl) (K : List Kt) (fr : Fr) (S : St) : gval T (.ops disk_Disk_enter_r4 :: K) fr S = gval T (.ops [
  ⟨some 11, .load true 3 true (.tmp 3), none⟩,
  ⟨some 12, .mov (.tmp 0), none⟩,
  ⟨some 13, .nilck (.tmp 12), none⟩,
  ⟨some 14, .faddr 2 (.tmp 13), none⟩,
  ⟨some 15, .load false 1 false (.tmp 14), none⟩,
  ⟨some 16, .call .std 198 [(.tmp 11), (.tmp 15)], none⟩] :: K) fr S := rfl
def disk_Disk_enter_r5 : List POper := [
  ⟨some 17, .mov (.tmp 0), none⟩,
  ⟨some 18, .mov (.tmp 0), none⟩,
  ⟨some 19, .nilck (.tmp 18), none⟩,
  ⟨some 20, .faddr 3 (.tmp 19), none⟩,
  ⟨some 21, .load false 1 false (.tmp 20), none⟩,
  ⟨some 22, .load true 3 true (.tmp 3), none⟩,
  ⟨some 23, .bsl false (.agg [(.str []), (.str []), .nilp]) 1 [(0, (.tmp 22))], none⟩,
  ⟨some 24, .app 3 40 (.tmp 21) (.tmp 23), none⟩,
  ⟨some 25, .nilck (.tmp 17), none⟩,
  ⟨some 26, .faddr 3 (.tmp 25), none⟩,
  ⟨none, .store 1 (.tmp 26) (.tmp 24), none⟩]
@[simp] theorem disk_Disk_enter_r5_go (T : Tbl) (K : List Kt) (fr : Fr) (S : St) : gval T (.ops disk_Disk_enter_r5 :: K) fr S = gval T (.ops [
  ⟨some 17, .mov (.tmp 0), none⟩,
  ⟨some 18, .mov (.tmp 0), none⟩,
  ⟨some 19, .nilck (.tmp 18), none⟩,
  ⟨some 20, .faddr 3 (.tmp 19), none⟩,
  ⟨some 21, .load false 1 false (.tmp 20), none⟩,
  ⟨some 22, .load true 3 true (.tmp 3), none⟩,
  ⟨some 23, .bsl false (.agg [(.str []), (.str []), .nilp]) 1 [(0, (.tmp 22))], none⟩,
  ⟨some 24, .app 3 40 (.tmp 21) (.tmp 23), none⟩,
  ⟨some 25, .nilck (.tmp 17), none⟩,
  ⟨some 26, .faddr 3 (.tmp 25), none⟩,
  ⟨none, .store 1 (.tmp 26) (.tmp 24), none⟩] :: K) fr S := rfl
def disk_Disk_enter_r6 : List POper := [
  ⟨some 4, .mov (.cst (.int .i64 0)), none⟩]
@[simp] theorem disk_Disk_enter_r6_go (T : Tbl) (K : List Kt) (fr : Fr) (S : St) : gval T (.ops disk_Disk_enter_r6 :: K) fr S = gval T (.ops [
  ⟨some 4, .mov (.cst (.int .i64 0)), none⟩] :: K) fr S := rfl
def disk_Disk_enter : PCodeFn :=
  ⟨2, [.tmp 4],
  (.seq (.region disk_Disk_enter_r0) (.seq (.seq (.clr [(6, 8)] (.region disk_Disk_enter_r1)) (.seq (.clr [(8, 9)] (.region disk_Disk_enter_r2)) (.cond (.tmp 9) (.seq (.clr [(10, 11)] (.region disk_Disk_enter_r3)) .ret) .skip))) (.seq (.clr [(11, 17)] (.region disk_Disk_enter_r4)) (.seq (.clr [(17, 27)] (.region disk_Disk_enter_r5)) (.seq (.region disk_Disk_enter_r6) .ret))))), false⟩

/-! (*gauge/disk.Disk).step: 196 -/
def disk_Disk_step_r0 : List POper := [
  ⟨some 2, .mov (.cst (.int .i64 0)), none⟩]
@[simp] theorem disk_Disk_step_r0_go (T : Tbl) (K : List Kt) (fr : Fr) (S : St) : gval T (.ops disk_Disk_step_r0 :: K) fr S = gval T (.ops [
  ⟨some 2, .mov (.cst (.int .i64 0)), none⟩] :: K) fr S := rfl
def disk_Disk_step_r1 : List POper := [
  ⟨some 3, .mov (.tmp 0), none⟩,
  ⟨some 4, .nilck (.tmp 3), none⟩,
  ⟨some 5, .faddr 4 (.tmp 4), none⟩,
  ⟨some 6, .load false 1 false (.tmp 5), none⟩,
  ⟨some 7, .arith .eql (.tmp 6) (.cst (.int .i64 0)), none⟩]
@[simp] theorem disk_Disk_step_r1_go (T : Tbl) (K : List Kt) (fr : Fr) (S : St) : gval T (.ops disk_Disk_step_r1 :: K) fr S = gval T (.ops [
  ⟨some 3, .mov (.tmp 0), none⟩,
  ⟨some 4, .nilck (.tmp 3), none⟩,
  ⟨some 5, .faddr 4 (.tmp 4), none⟩,
  ⟨some 6, .load false 1 false (.tmp 5), none⟩,
  ⟨some 7, .arith .eql (.tmp 6) (.cst (.int .i64 0)), none⟩] :: K) fr S := rfl
def disk_Disk_step_r2 : List POper := [
  ⟨some 8, .mov (.tmp 0), none⟩,
  ⟨some 9, .nilck (.tmp 8), none⟩,
  ⟨some 10, .faddr 6 (.tmp 9), none⟩,
  ⟨none, .store 1 (.tmp 10) (.cst (.bool true)), none⟩]
@[simp] theorem disk_Disk_step_r2_go (T : Tbl) (K : List Kt) (fr : Fr) (S : St) : gval T (.ops disk_Disk_step_r2 :: K) fr S = gval T (.ops [
  ⟨some 8, .mov (.tmp 0), none⟩,
  ⟨some 9, .nilck (.tmp 8), none⟩,
  ⟨some 10, .faddr 6 (.tmp 9), none⟩,
  ⟨none, .store 1 (.tmp 10) (.cst (.bool true)), none⟩] :: K) fr S := rfl
def disk_Disk_step_r3 : List POper := [
  ⟨some 11, .mov (.tmp 0), none⟩,
  ⟨some 12, .nilck (.tmp 11), none⟩,
  ⟨some 13, .faddr 6 (.tmp 12), none⟩,
  ⟨some 14, .load false 1 false (.tmp 13), none⟩]
@[simp] theorem disk_Disk_step_r3_go (T : Tbl) (K : List Kt) (fr : Fr) (S : St) : gval T (.ops disk_Disk_step_r3 :: K) fr S = gval T (.ops [
  ⟨some 11, .mov (.tmp 0), none⟩,
  ⟨some 12, .nilck (.tmp 11), none⟩,
  ⟨some 13, .faddr 6 (.tmp 12), none⟩,
  ⟨some 14, .load false 1 false (.tmp 13), none⟩] :: K) fr S := rfl
def disk_Disk_step_r4 : List POper := [
  ⟨some 2, .mov (.cst (.int .i64 6)), none⟩]
@[simp] theorem disk_Disk_step_r4_go (T : Tbl) (K : List Kt) (fr : Fr) (S : St) : gval T (.ops disk_Disk_step_r4 :: K) fr S = gval T (.ops [
  ⟨some 2, .mov (.cst (.int .i64 6)), none⟩] :: K) fr S := rfl
def disk_Disk_step_r5 : List POper := [
  ⟨some 15, .mov (.tmp 0), none⟩,
  ⟨some 16, .nilck (.tmp 15), none⟩,
  ⟨some 17, .faddr 4 (.tmp 16), none⟩,
  ⟨some 18, .load false 1 false (.tmp 17), none⟩,
  ⟨some 19, .arith .gtr (.tmp 18) (.cst (.int .i64 0)), none⟩]
@[simp] theorem disk_Disk_step_r5_go (T : Tbl) (K : List Kt) (fr : Fr) (S : St) : gval T (.ops disk_Disk_step_r5 :: K) fr S = gval T (.ops [
  ⟨some 15, .mov (.tmp 0), none⟩,
  ⟨some 16, .nilck (.tmp 15), none⟩,
  ⟨some 17, .faddr 4 (.tmp 16), none⟩,
  ⟨some 18, .load false 1 false (.tmp 17), none⟩,
  ⟨some 19, .arith .gtr (.tmp 18) (.cst (.int .i64 0)), none⟩] :: K) fr S := rfl
def disk_Disk_step_r6 : List POper := [
  ⟨some 20, .mov (.tmp 0), none⟩,
  ⟨some 21, .nilck (.tmp 20), none⟩,
  ⟨some 22, .faddr 4 (.tmp 21), none⟩,
  ⟨some 23, .load false 1 false (.tmp 22), none⟩,
  ⟨some 24, .arith .sub (.tmp 23) (.cst (.int .i64 1)), none⟩,
  ⟨some 25, .nilck (.tmp 20), none⟩,
  ⟨some 26, .faddr 4 (.tmp 25), none⟩,
  ⟨none, .store 1 (.tmp 26) (.tmp 24), none⟩]
@[simp] theorem disk_Disk_step_r6_go (T : Tbl) (K : List Kt) (fr : Fr) (S : St) : gval T (.ops disk_Disk_step_r6 :: K) fr S = gval T (.ops [
  ⟨some 20, .mov (.tmp 0), none⟩,
  ⟨some 21, .nilck (.tmp 20), none⟩,
  ⟨some 22, .faddr 4 (.tmp 21), none⟩,
  ⟨some 23, .load false 1 false (.tmp 22), none⟩,
  ⟨some 24, .arith .sub (.tmp 23) (.cst (.int .i64 1)), none⟩,
  ⟨some 25, .nilck (.tmp 20), none⟩,
  ⟨some 26, .faddr 4 (.tmp 25), none⟩,
  ⟨none, .store 1 (.tmp 26) (.tmp 24), none⟩] :: K) fr S := rfl
def disk_Disk_step_r7 : List POper := [
  ⟨some 27, .mov (.tmp 0), none⟩,
  ⟨some 28, .nilck (.tmp 27), none⟩,
  ⟨some 29, .faddr 5 (.tmp 28), none⟩,
  ⟨some 30, .load false 1 false (.tmp 29), none⟩,
  ⟨some 31, .arith .add (.tmp 30) (.cst (.int .i64 1)), none⟩,
  ⟨some 32, .nilck (.tmp 27), none⟩,
  ⟨some 33, .faddr 5 (.tmp 32), none⟩,
  ⟨none, .store 1 (.tmp 33) (.tmp 31), none⟩]
@[simp] theorem disk_Disk_step_r7_go (T : Tbl) (K : List Kt) (fr : Fr) (S : St) : gval T (.ops disk_Disk_step_r7 :: K) fr S = gval T (.ops [
  ⟨some 27, .mov (.tmp 0), none⟩,
  ⟨some 28, .nilck (.tmp 27), none⟩,
  ⟨some 29, .faddr 5 (.tmp 28), none⟩,
  ⟨some 30, .load false 1 false (.tmp 29), none⟩,
  ⟨some 31, .arith .add (.tmp 30) (.cst (.int .i64 1)), none⟩,
  ⟨some 32, .nilck (.tmp 27), none⟩,
  ⟨some 33, .faddr 5 (.tmp 32), none⟩,
  ⟨none, .store 1 (.tmp 33) (.tmp 31), none⟩] :: K) fr S := rfl
def disk_Disk_step_r8 : List POper := [
  ⟨some 2, .mov (.cst (.int .i64 0)), none⟩]
@[simp] theorem disk_Disk_step_r8_go (T : Tbl) (K : List Kt) (fr : Fr) (S : St) : gval T (.ops disk_Disk_step_r8 :: K) fr S = gval T (.ops [
  ⟨some 2, .mov (.cst (.int .i64 0)), none⟩] :: K) fr S := rfl
def disk_Disk_step : PCodeFn :=
  ⟨1, [.tmp 2],
  (.seq (.region disk_Disk_step_r0) (.seq (.seq (.clr [(3, 7)] (.region disk_Disk_step_r1)) (.cond (.tmp 7) (.clr [(8, 11)] (.region disk_Disk_step_r2)) .skip)) (.seq (.seq (.clr [(11, 14)] (.region disk_Disk_step_r3)) (.cond (.tmp 14) (.seq (.region disk_Disk_step_r4) .ret) .skip)) (.seq (.seq (.clr [(15, 19)] (.region disk_Disk_step_r5)) (.cond (.tmp 19) (.clr [(20, 27)] (.region disk_Disk_step_r6)) .skip)) (.seq (.clr [(27, 34)] (.region disk_Disk_step_r7)) (.seq (.region disk_Disk_step_r8) .ret)))))), false⟩

/-! maps.Clone[gauge/disk.dir,string,*gauge/disk.file]: 197 -/
def maps_Clone_file_r0 : List POper := [
  ⟨some 2, .mov (.cst .nilm), none⟩]
@[simp] theorem maps_Clone_file_r0_go (T : Tbl) (K : List Kt) (fr : Fr) (S : St) : gval T (.ops maps_Clone_file_r0 :: K) fr S = gval T (.ops [
  ⟨some 2, .mov (.cst .nilm), none⟩] :: K) fr S := rfl
def maps_Clone_file_r1 : List POper := [
  ⟨some 3, .mov (.tmp 0), none⟩,
  ⟨some 4, .eqn false .m (.tmp 3), none⟩]
@[simp] theorem maps_Clone_file_r1_go (T : Tbl) (K : List Kt) (fr : Fr) (S : St) : gval T (.ops maps_Clone_file_r1 :: K) fr S = gval T (.ops [
  ⟨some 3, .mov (.tmp 0), none⟩,
  ⟨some 4, .eqn false .m (.tmp 3), none⟩] :: K) fr S := rfl
def maps_Clone_file_r2 : List POper := [
  ⟨some 2, .mov (.cst .nilm), none⟩]
@[simp] theorem maps_Clone_file_r2_go (T : Tbl) (K : List Kt) (fr : Fr) (S : St) : gval T (.ops maps_Clone_file_r2 :: K) fr S = gval T (.ops [
  ⟨some 2, .mov (.cst .nilm), none⟩] :: K) fr S := rfl
def maps_Clone_file_r3 : List POper := [
  ⟨some 5, .mov (.tmp 0), none⟩,
  ⟨some 6, .mkif 4 (.tmp 5), none⟩,
  ⟨some 7, .call .std 292 [(.tmp 6)], none⟩,
  ⟨some 8, .assert 4 false .nilm (.tmp 7), none⟩,
  ⟨some 2, .mov (.tmp 8), none⟩]
@[simp] theorem maps_Clone_file_r3_go (T : Tbl) (K : List Kt) (fr : Fr) (S : St) : gval T (.ops maps_Clone_file_r3 :: K) fr S = gval T (.ops [
  ⟨some 5, .mov (.tmp 0), none⟩,
  ⟨some 6, .mkif 4 (.tmp 5), none⟩,
  ⟨some 7, .call .std 292 [(.tmp 6)], none⟩,
  ⟨some 8, .assert 4 false .nilm (.tmp 7), none⟩,
  ⟨some 2, .mov (.tmp 8), none⟩] :: K) fr S := rfl
def maps_Clone_file : PCodeFn :=
  ⟨1, [.tmp 2],
  (.seq (.region maps_Clone_file_r0) (.seq (.seq (.clr [(3, 4)] (.region maps_Clone_file_r1)) (.cond (.tmp 4) (.seq (.region maps_Clone_file_r2) .ret) .skip)) (.seq (.clr [(5, 9)] (.region maps_Clone_file_r3)) .ret))), false⟩

/-! gauge/disk.named: 202 -/
def disk_named_r0 : List POper := [
  ⟨some 2, .mov (.cst (.bool false)), none⟩]
@[simp] theorem disk_named_r0_go (T : Tbl) (K : List Kt) (fr : Fr) (S : St) : gval T (.ops disk_named_r0 :: K) fr S = gval T (.ops [
  ⟨some 2, .mov (.cst (.bool false)), none⟩] :: K) fr S := rfl
def disk_named_r1 : List POper := [
  ⟨some 5, .mov (.tmp 0), none⟩,
  ⟨some 6, .len true (.tmp 5), none⟩,
  ⟨some 7, .mov (.cst (.int .i64 0)), none⟩]
@[simp] theorem disk_named_r1_go (T : Tbl) (K : List Kt) (fr : Fr) (S : St) : gval T (.ops disk_named_r1 :: K) fr S = gval T (.ops [
  ⟨some 5, .mov (.tmp 0), none⟩,
  ⟨some 6, .len true (.tmp 5), none⟩,
  ⟨some 7, .mov (.cst (.int .i64 0)), none⟩] :: K) fr S := rfl
def disk_named_r2 : List POper := [
  ⟨some 8, .arith .lss (.tmp 7) (.tmp 6), none⟩]
@[simp] theorem disk_named_r2_go (T : Tbl) (K : List Kt) (fr : Fr) (S : St) : gval T (.ops disk_named_r2 :: K) fr S = gval T (.ops [
  ⟨some 8, .arith .lss (.tmp 7) (.tmp 6), none⟩] :: K) fr S := rfl
def disk_named_r3 : List POper := [
  ⟨some 9, .mov (.tmp 7), none⟩,
  ⟨some 3, .mov (.tmp 9), none⟩]
@[simp] theorem disk_named_r3_go (T : Tbl) (K : List Kt) (fr : Fr) (S : St) : gval T (.ops disk_named_r3 :: K) fr S = gval T (.ops [
  ⟨some 9, .mov (.tmp 7), none⟩,
  ⟨some 3, .mov (.tmp 9), none⟩] :: K) fr S := rfl
def disk_named_r4 : List POper := [
  ⟨some 10, .mov (.tmp 0), none⟩,
  ⟨some 11, .mov (.tmp 3), none⟩,
  ⟨some 12, .idxs (.tmp 10) (.tmp 11), none⟩,
  ⟨some 4, .mov (.tmp 12), none⟩]
@[simp] theorem disk_named_r4_go (T : Tbl) (K : List Kt) (fr : Fr) (S : St) : gval T (.ops disk_named_r4 :: K) fr S = gval T (.ops [
  ⟨some 10, .mov (.tmp 0), none⟩,
  ⟨some 11, .mov (.tmp 3), none⟩,
  ⟨some 12, .idxs (.tmp 10) (.tmp 11), none⟩,
  ⟨some 4, .mov (.tmp 12), none⟩] :: K) fr S := rfl
def disk_named_r5 : List POper := [
  ⟨some 13, .mov (.tmp 4), none⟩,
  ⟨some 14, .arith .geq (.tmp 13) (.cst (.int .u8 97)), none⟩,
  ⟨some 15, .mov (.tmp 14), none⟩,
  ⟨some 16, .mov (.tmp 4), some (15, true)⟩,
  ⟨some 17, .arith .leq (.tmp 16) (.cst (.int .u8 122)), some (15, true)⟩,
  ⟨some 18, .pick (.tmp 15) (.tmp 17) (.cst (.bool false)), none⟩,
  ⟨some 19, .mov (.tmp 18), none⟩,
  ⟨some 20, .mov (.tmp 4), some (19, false)⟩,
  ⟨some 21, .arith .geq (.tmp 20) (.cst (.int .u8 48)), some (19, false)⟩,
  ⟨some 22, .mov (.tmp 21), some (19, false)⟩,
  ⟨some 23, .mov (.tmp 4), some (22, true)⟩,
  ⟨some 24, .arith .leq (.tmp 23) (.cst (.int .u8 57)), some (22, true)⟩,
  ⟨some 25, .pick (.tmp 22) (.tmp 24) (.cst (.bool false)), some (19, false)⟩,
  ⟨some 26, .pick (.tmp 19) (.cst (.bool true)) (.tmp 25), none⟩,
  ⟨some 27, .mov (.tmp 26), none⟩,
  ⟨some 28, .mov (.tmp 4), some (27, false)⟩,
  ⟨some 29, .arith .eql (.tmp 28) (.cst (.int .u8 46)), some (27, false)⟩,
  ⟨some 30, .pick (.tmp 27) (.cst (.bool true)) (.tmp 29), none⟩,
  ⟨some 31, .mov (.tmp 30), none⟩,
  ⟨some 32, .mov (.tmp 4), some (31, false)⟩,
  ⟨some 33, .arith .eql (.tmp 32) (.cst (.int .u8 45)), some (31, false)⟩,
  ⟨some 34, .pick (.tmp 31) (.cst (.bool true)) (.tmp 33), none⟩,
  ⟨some 35, .un .not (.tmp 34), none⟩]
@[simp] theorem disk_named_r5_go (T : Tbl) (K : List Kt) (fr : Fr) (S : St) : gval T (.ops disk_named_r5 :: K) fr S = gval T (.ops [
  ⟨some 13, .mov (.tmp 4), none⟩,
  ⟨some 14, .arith .geq (.tmp 13) (.cst (.int .u8 97)), none⟩,
  ⟨some 15, .mov (.tmp 14), none⟩,
  ⟨some 16, .mov (.tmp 4), some (15, true)⟩,
  ⟨some 17, .arith .leq (.tmp 16) (.cst (.int .u8 122)), some (15, true)⟩,
  ⟨some 18, .pick (.tmp 15) (.tmp 17) (.cst (.bool false)), none⟩,
  ⟨some 19, .mov (.tmp 18), none⟩,
  ⟨some 20, .mov (.tmp 4), some (19, false)⟩,
  ⟨some 21, .arith .geq (.tmp 20) (.cst (.int .u8 48)), some (19, false)⟩,
  ⟨some 22, .mov (.tmp 21), some (19, false)⟩,
  ⟨some 23, .mov (.tmp 4), some (22, true)⟩,
  ⟨some 24, .arith .leq (.tmp 23) (.cst (.int .u8 57)), some (22, true)⟩,
  ⟨some 25, .pick (.tmp 22) (.tmp 24) (.cst (.bool false)), some (19, false)⟩,
  ⟨some 26, .pick (.tmp 19) (.cst (.bool true)) (.tmp 25), none⟩,
  ⟨some 27, .mov (.tmp 26), none⟩,
  ⟨some 28, .mov (.tmp 4), some (27, false)⟩,
  ⟨some 29, .arith .eql (.tmp 28) (.cst (.int .u8 46)), some (27, false)⟩,
  ⟨some 30, .pick (.tmp 27) (.cst (.bool true)) (.tmp 29), none⟩,
  ⟨some 31, .mov (.tmp 30), none⟩,
  ⟨some 32, .mov (.tmp 4), some (31, false)⟩,
  ⟨some 33, .arith .eql (.tmp 32) (.cst (.int .u8 45)), some (31, false)⟩,
  ⟨some 34, .pick (.tmp 31) (.cst (.bool true)) (.tmp 33), none⟩,
  ⟨some 35, .un .not (.tmp 34), none⟩] :: K) fr S := rfl
def disk_named_r6 : List POper := [
  ⟨some 2, .mov (.cst (.bool false)), none⟩]
@[simp] theorem disk_named_r6_go (T : Tbl) (K : List Kt) (fr : Fr) (S : St) : gval T (.ops disk_named_r6 :: K) fr S = gval T (.ops [
  ⟨some 2, .mov (.cst (.bool false)), none⟩] :: K) fr S := rfl
def disk_named_r7 : List POper := [
  ⟨some 36, .arith .add (.tmp 7) (.cst (.int .i64 1)), none⟩,
  ⟨some 7, .mov (.tmp 36), none⟩]
@[simp] theorem disk_named_r7_go (T : Tbl) (K : List Kt) (fr : Fr) (S : St) : gval T (.ops disk_named_r7 :: K) fr S = gval T (.ops [
  ⟨some 36, .arith .add (.tmp 7) (.cst (.int .i64 1)), none⟩,
  ⟨some 7, .mov (.tmp 36), none⟩] :: K) fr S := rfl
def disk_named_l0 : PCode :=
  (.seq (.region disk_named_r2) (.seq (.cond (.tmp 8) .skip (.exit 0)) (.seq (.block 1 (.seq (.clr [(9, 10)] (.region disk_named_r3)) (.seq (.clr [(10, 13)] (.region disk_named_r4)) (.seq (.clr [(13, 35)] (.region disk_named_r5)) (.cond (.tmp 35) (.seq (.region disk_named_r6) .ret) .skip))))) (.clr [(36, 37)] (.region disk_named_r7)))))
@[simp] theorem disk_named_l0_go (T : Tbl) (K : List Kt) (fr : Fr) (S : St) : gval T (.code disk_named_l0 :: K) fr S = gval T (.code (.seq (.region disk_named_r2) (.seq (.cond (.tmp 8) .skip (.exit 0)) (.seq (.block 1 (.seq (.clr [(9, 10)] (.region disk_named_r3)) (.seq (.clr [(10, 13)] (.region disk_named_r4)) (.seq (.clr [(13, 35)] (.region disk_named_r5)) (.cond (.tmp 35) (.seq (.region disk_named_r6) .ret) .skip))))) (.clr [(36, 37)] (.region disk_named_r7))))) :: K) fr S := rfl
def disk_named_r8 : List POper := [
  ⟨some 37, .mov (.tmp 0), none⟩,
  ⟨some 38, .arith .neq (.tmp 37) (.cst (.str [])), none⟩,
  ⟨some 39, .mov (.tmp 38), none⟩,
  ⟨some 40, .mov (.tmp 0), some (39, true)⟩,
  ⟨some 41, .len true (.tmp 40), some (39, true)⟩,
  ⟨some 42, .arith .leq (.tmp 41) (.cst (.int .i64 24)), some (39, true)⟩,
  ⟨some 43, .pick (.tmp 39) (.tmp 42) (.cst (.bool false)), none⟩,
  ⟨some 2, .mov (.tmp 43), none⟩]
@[simp] theorem disk_named_r8_go (T : Tbl) (K : List Kt) (fr : Fr) (S : St) : gval T (.ops disk_named_r8 :: K) fr S = gval T (.ops [
  ⟨some 37, .mov (.tmp 0), none⟩,
  ⟨some 38, .arith .neq (.tmp 37) (.cst (.str [])), none⟩,
  ⟨some 39, .mov (.tmp 38), none⟩,
  ⟨some 40, .mov (.tmp 0), some (39, true)⟩,
  ⟨some 41, .len true (.tmp 40), some (39, true)⟩,
  ⟨some 42, .arith .leq (.tmp 41) (.cst (.int .i64 24)), some (39, true)⟩,
  ⟨some 43, .pick (.tmp 39) (.tmp 42) (.cst (.bool false)), none⟩,
  ⟨some 2, .mov (.tmp 43), none⟩] :: K) fr S := rfl
def disk_named : PCodeFn :=
  ⟨1, [.tmp 2],
  (.seq (.region disk_named_r0) (.seq (.seq (.clr [(5, 6)] (.region disk_named_r1)) (.block 0 (.loop disk_named_l0))) (.seq (.clr [(37, 44)] (.region disk_named_r8)) .ret))), false⟩

/-! (gauge/disk.entry).do: 198 -/
def disk_entry_do_r0 : List POper := [
  ⟨some 2, .box true (.tmp 0), none⟩]
@[simp] theorem disk_entry_do_r0_go (T : Tbl) (K : List Kt) (fr : Fr) (S : St) : gval T (.ops disk_entry_do_r0 :: K) fr S = gval T (.ops [
  ⟨some 2, .box true (.tmp 0), none⟩] :: K) fr S := rfl
def disk_entry_do_r1 : List POper := [
  ⟨some 5, .faddr 2 (.tmp 2), none⟩,
  ⟨some 6, .load false 1 false (.tmp 5), none⟩,
  ⟨some 4, .mov (.tmp 6), none⟩]
@[simp] theorem disk_entry_do_r1_go (T : Tbl) (K : List Kt) (fr : Fr) (S : St) : gval T (.ops disk_entry_do_r1 :: K) fr S = gval T (.ops [
  ⟨some 5, .faddr 2 (.tmp 2), none⟩,
  ⟨some 6, .load false 1 false (.tmp 5), none⟩,
  ⟨some 4, .mov (.tmp 6), none⟩] :: K) fr S := rfl
def disk_entry_do_r2 : List POper := [
  ⟨some 7, .mov (.tmp 4), none⟩,
  ⟨some 8, .eqn false .p (.tmp 7), none⟩]
@[simp] theorem disk_entry_do_r2_go (T : Tbl) (K : List Kt) (fr : Fr) (S : St) : gval T (.ops disk_entry_do_r2 :: K) fr S = gval T (.ops [
  ⟨some 7, .mov (.tmp 4), none⟩,
  ⟨some 8, .eqn false .p (.tmp 7), none⟩] :: K) fr S := rfl
def disk_entry_do_r3 : List POper := [
  ⟨some 9, .mov (.tmp 1), none⟩,
  ⟨some 10, .faddr 0 (.tmp 2), none⟩,
  ⟨some 11, .load false 1 false (.tmp 10), none⟩,
  ⟨some 12, .mlk true false .nilp (.tmp 9) (.tmp 11), none⟩,
  ⟨some 4, .mov (.tmp 12), none⟩]
@[simp] theorem disk_entry_do_r3_go (T : Tbl) (K : List Kt) (fr : Fr) (S : St) : gval T (.ops disk_entry_do_r3 :: K) fr S = gval T (.ops [
  ⟨some 9, .mov (.tmp 1), none⟩,
  ⟨some 10, .faddr 0 (.tmp 2), none⟩,
  ⟨some 11, .load false 1 false (.tmp 10), none⟩,
  ⟨some 12, .mlk true false .nilp (.tmp 9) (.tmp 11), none⟩,
  ⟨some 4, .mov (.tmp 12), none⟩] :: K) fr S := rfl
def disk_entry_do_r4 : List POper := [
  ⟨some 13, .mov (.tmp 1), none⟩,
  ⟨some 14, .faddr 0 (.tmp 2), none⟩,
  ⟨some 15, .load false 1 false (.tmp 14), none⟩,
  ⟨none, .mdel true (.tmp 13) (.tmp 15), none⟩]
@[simp] theorem disk_entry_do_r4_go (T : Tbl) (K : List Kt) (fr : Fr) (S : St) : gval T (.ops disk_entry_do_r4 :: K) fr S = gval T (.ops [
  ⟨some 13, .mov (.tmp 1), none⟩,
  ⟨some 14, .faddr 0 (.tmp 2), none⟩,
  ⟨some 15, .load false 1 false (.tmp 14), none⟩,
  ⟨none, .mdel true (.tmp 13) (.tmp 15), none⟩] :: K) fr S := rfl
def disk_entry_do_r5 : List POper := [
  ⟨some 16, .faddr 1 (.tmp 2), none⟩,
  ⟨some 17, .load false 1 false (.tmp 16), none⟩,
  ⟨some 18, .arith .neq (.tmp 17) (.cst (.str [])), none⟩]
@[simp] theorem disk_entry_do_r5_go (T : Tbl) (K : List Kt) (fr : Fr) (S : St) : gval T (.ops disk_entry_do_r5 :: K) fr S = gval T (.ops [
  ⟨some 16, .faddr 1 (.tmp 2), none⟩,
  ⟨some 17, .load false 1 false (.tmp 16), none⟩,
  ⟨some 18, .arith .neq (.tmp 17) (.cst (.str [])), none⟩] :: K) fr S := rfl
def disk_entry_do_r6 : List POper := [
  ⟨some 19, .mov (.tmp 1), none⟩,
  ⟨some 20, .faddr 1 (.tmp 2), none⟩,
  ⟨some 21, .load false 1 false (.tmp 20), none⟩,
  ⟨some 22, .mov (.tmp 4), none⟩,
  ⟨none, .mset true (.tmp 19) (.tmp 21) (.tmp 22), none⟩]
@[simp] theorem disk_entry_do_r6_go (T : Tbl) (K : List Kt) (fr : Fr) (S : St) : gval T (.ops disk_entry_do_r6 :: K) fr S = gval T (.ops [
  ⟨some 19, .mov (.tmp 1), none⟩,
  ⟨some 20, .faddr 1 (.tmp 2), none⟩,
  ⟨some 21, .load false 1 false (.tmp 20), none⟩,
  ⟨some 22, .mov (.tmp 4), none⟩,
  ⟨none, .mset true (.tmp 19) (.tmp 21) (.tmp 22), none⟩] :: K) fr S := rfl
def disk_entry_do : PCodeFn :=
  ⟨2, [],
  (.seq (.region disk_entry_do_r0) (.seq (.clr [(5, 7)] (.region disk_entry_do_r1)) (.seq (.seq (.clr [(7, 8)] (.region disk_entry_do_r2)) (.cond (.tmp 8) (.seq (.clr [(9, 13)] (.region disk_entry_do_r3)) (.clr [(13, 16)] (.region disk_entry_do_r4))) .skip)) (.seq (.clr [(16, 18)] (.region disk_entry_do_r5)) (.cond (.tmp 18) (.clr [(19, 23)] (.region disk_entry_do_r6)) .skip))))), false⟩

end Ps
