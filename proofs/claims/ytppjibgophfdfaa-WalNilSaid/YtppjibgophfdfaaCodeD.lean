/- The functions' code, as the pure semantics has it: printed by program. -/
import Derived.Test.YtppjibgophfdfaaCodeC
namespace Ps
open Go
set_option maxRecDepth 10000

/-! (*gauge/disk.Disk).Create: 77 -/
def disk_Disk_Create_r0 : List POper := [
  ⟨some 4, .mov (.cst (.int .i64 0)), none⟩]
@[simp] theorem disk_Disk_Create_r0_go (T : Tbl) (K : List Kt) (fr : Fr) (S : St) : gval T (.ops disk_Disk_Create_r0 :: K) fr S = gval T (.ops [
  ⟨some 4, .mov (.cst (.int .i64 0)), none⟩] :: K) fr S := rfl
def disk_Disk_Create_r1 : List POper := [
  ⟨some 8, .mov (.tmp 0), none⟩,
  ⟨some 9, .mov (.tmp 1), none⟩,
  ⟨some 10, .call .std 194 [(.tmp 8), (.tmp 9)], none⟩,
  ⟨some 7, .mov (.tmp 10), none⟩,
  ⟨some 11, .extract 0 (.tmp 7), none⟩,
  ⟨some 12, .extract 1 (.tmp 7), none⟩,
  ⟨some 5, .mov (.tmp 11), none⟩,
  ⟨some 6, .mov (.tmp 12), none⟩]
@[simp] theorem disk_Disk_Create_r1_go (T : Tbl) (K : List Kt) (fr : Fr) (S : St) : gval T (.ops disk_Disk_Create_r1 :: K) fr S = gval T (.ops [
  ⟨some 8, .mov (.tmp 0), none⟩,
  ⟨some 9, .mov (.tmp 1), none⟩,
  ⟨some 10, .call .std 194 [(.tmp 8), (.tmp 9)], none⟩,
  ⟨some 7, .mov (.tmp 10), none⟩,
  ⟨some 11, .extract 0 (.tmp 7), none⟩,
  ⟨some 12, .extract 1 (.tmp 7), none⟩,
  ⟨some 5, .mov (.tmp 11), none⟩,
  ⟨some 6, .mov (.tmp 12), none⟩] :: K) fr S := rfl
def disk_Disk_Create_r2 : List POper := [
  ⟨some 14, .mov (.tmp 6), none⟩,
  ⟨some 15, .arith .eql (.tmp 14) (.cst (.int .i64 0)), none⟩,
  ⟨some 13, .mov (.tmp 15), none⟩]
@[simp] theorem disk_Disk_Create_r2_go (T : Tbl) (K : List Kt) (fr : Fr) (S : St) : gval T (.ops disk_Disk_Create_r2 :: K) fr S = gval T (.ops [
  ⟨some 14, .mov (.tmp 6), none⟩,
  ⟨some 15, .arith .eql (.tmp 14) (.cst (.int .i64 0)), none⟩,
  ⟨some 13, .mov (.tmp 15), none⟩] :: K) fr S := rfl
def disk_Disk_Create_r3 : List POper := [
  ⟨some 4, .mov (.cst (.int .i64 10)), none⟩]
@[simp] theorem disk_Disk_Create_r3_go (T : Tbl) (K : List Kt) (fr : Fr) (S : St) : gval T (.ops disk_Disk_Create_r3 :: K) fr S = gval T (.ops [
  ⟨some 4, .mov (.cst (.int .i64 10)), none⟩] :: K) fr S := rfl
def disk_Disk_Create_r4 : List POper := [
  ⟨some 17, .mov (.tmp 6), none⟩,
  ⟨some 18, .arith .neq (.tmp 17) (.cst (.int .i64 9)), none⟩,
  ⟨some 16, .mov (.tmp 18), none⟩]
@[simp] theorem disk_Disk_Create_r4_go (T : Tbl) (K : List Kt) (fr : Fr) (S : St) : gval T (.ops disk_Disk_Create_r4 :: K) fr S = gval T (.ops [
  ⟨some 17, .mov (.tmp 6), none⟩,
  ⟨some 18, .arith .neq (.tmp 17) (.cst (.int .i64 9)), none⟩,
  ⟨some 16, .mov (.tmp 18), none⟩] :: K) fr S := rfl
def disk_Disk_Create_r5 : List POper := [
  ⟨some 19, .mov (.tmp 6), none⟩,
  ⟨some 4, .mov (.tmp 19), none⟩]
@[simp] theorem disk_Disk_Create_r5_go (T : Tbl) (K : List Kt) (fr : Fr) (S : St) : gval T (.ops disk_Disk_Create_r5 :: K) fr S = gval T (.ops [
  ⟨some 19, .mov (.tmp 6), none⟩,
  ⟨some 4, .mov (.tmp 19), none⟩] :: K) fr S := rfl
def disk_Disk_Create_r6 : List POper := [
  ⟨some 21, .mov (.tmp 0), none⟩,
  ⟨some 22, .nilck (.tmp 21), none⟩,
  ⟨some 23, .faddr 2 (.tmp 22), none⟩,
  ⟨some 24, .load false 1 false (.tmp 23), none⟩,
  ⟨some 25, .mlen (.tmp 24), none⟩,
  ⟨some 26, .arith .geq (.tmp 25) (.cst (.int .i64 64)), none⟩,
  ⟨some 20, .mov (.tmp 26), none⟩]
@[simp] theorem disk_Disk_Create_r6_go (T : Tbl) (K : List Kt) (fr : Fr) (S : St) : gval T (.ops disk_Disk_Create_r6 :: K) fr S = gval T (.ops [
  ⟨some 21, .mov (.tmp 0), none⟩,
  ⟨some 22, .nilck (.tmp 21), none⟩,
  ⟨some 23, .faddr 2 (.tmp 22), none⟩,
  ⟨some 24, .load false 1 false (.tmp 23), none⟩,
  ⟨some 25, .mlen (.tmp 24), none⟩,
  ⟨some 26, .arith .geq (.tmp 25) (.cst (.int .i64 64)), none⟩,
  ⟨some 20, .mov (.tmp 26), none⟩] :: K) fr S := rfl
def disk_Disk_Create_r7 : List POper := [
  ⟨some 4, .mov (.cst (.int .i64 7)), none⟩]
@[simp] theorem disk_Disk_Create_r7_go (T : Tbl) (K : List Kt) (fr : Fr) (S : St) : gval T (.ops disk_Disk_Create_r7 :: K) fr S = gval T (.ops [
  ⟨some 4, .mov (.cst (.int .i64 7)), none⟩] :: K) fr S := rfl
def disk_Disk_Create_r8 : List POper := [
  ⟨some 27, .mov (.tmp 0), none⟩,
  ⟨some 28, .mov (.tmp 1), none⟩,
  ⟨some 29, .build [.nils, (.int .i64 0)] [], none⟩,
  ⟨some 30, .box false (.tmp 29), none⟩,
  ⟨some 31, .build [(.str []), (.str []), .nilp] [(1, 1, (.tmp 28)), (2, 1, (.tmp 30))], none⟩,
  ⟨some 32, .call .std 195 [(.tmp 27), (.tmp 31)], none⟩,
  ⟨some 4, .mov (.tmp 32), none⟩]
@[simp] theorem disk_Disk_Create_r8_go (T : Tbl) (K : List Kt) (fr : Fr) (S : St) : gval T (.ops disk_Disk_Create_r8 :: K) fr S = gval T (.ops [
  ⟨some 27, .mov (.tmp 0), none⟩,
  ⟨some 28, .mov (.tmp 1), none⟩,
  ⟨some 29, .build [.nils, (.int .i64 0)] [], none⟩,
  ⟨some 30, .box false (.tmp 29), none⟩,
  ⟨some 31, .build [(.str []), (.str []), .nilp] [(1, 1, (.tmp 28)), (2, 1, (.tmp 30))], none⟩,
  ⟨some 32, .call .std 195 [(.tmp 27), (.tmp 31)], none⟩,
  ⟨some 4, .mov (.tmp 32), none⟩] :: K) fr S := rfl
def disk_Disk_Create : PCodeFn :=
  ⟨2, [.tmp 4],
  (.seq (.region disk_Disk_Create_r0) (.seq (.clr [(5, 6), (7, 13)] (.region disk_Disk_Create_r1)) (.seq (.block 0 (.seq (.clr [(14, 16)] (.region disk_Disk_Create_r2)) (.cond (.tmp 13) (.seq (.region disk_Disk_Create_r3) .ret) (.seq (.clr [(17, 19)] (.region disk_Disk_Create_r4)) (.cond (.tmp 16) (.seq (.clr [(19, 20)] (.region disk_Disk_Create_r5)) .ret) (.seq (.clr [(21, 27)] (.region disk_Disk_Create_r6)) (.cond (.tmp 20) (.seq (.region disk_Disk_Create_r7) .ret) .skip))))))) (.seq (.clr [(27, 33)] (.region disk_Disk_Create_r8)) .ret)))), false⟩

/-! (*gauge/disk.Disk).SyncDir: 79 -/
def disk_Disk_SyncDir_r0 : List POper := [
  ⟨some 2, .mov (.cst (.int .i64 0)), none⟩]
@[simp] theorem disk_Disk_SyncDir_r0_go (T : Tbl) (K : List Kt) (fr : Fr) (S : St) : gval T (.ops disk_Disk_SyncDir_r0 :: K) fr S = gval T (.ops [
  ⟨some 2, .mov (.cst (.int .i64 0)), none⟩] :: K) fr S := rfl
def disk_Disk_SyncDir_r1 : List POper := [
  ⟨some 4, .mov (.tmp 0), none⟩,
  ⟨some 5, .eqn false .p (.tmp 4), none⟩,
  ⟨some 6, .mov (.tmp 5), none⟩,
  ⟨some 7, .mov (.tmp 0), some (6, false)⟩,
  ⟨some 8, .nilck (.tmp 7), some (6, false)⟩,
  ⟨some 9, .faddr 2 (.tmp 8), some (6, false)⟩,
  ⟨some 10, .load false 1 false (.tmp 9), some (6, false)⟩,
  ⟨some 11, .eqn false .m (.tmp 10), some (6, false)⟩,
  ⟨some 12, .pick (.tmp 6) (.cst (.bool true)) (.tmp 11), none⟩]
@[simp] theorem disk_Disk_SyncDir_r1_go (T : Tbl) (K : List Kt) (fr : Fr) (S : St) : gval T (.ops disk_Disk_SyncDir_r1 :: K) fr S = gval T (.ops [
  ⟨some 4, .mov (.tmp 0), none⟩,
  ⟨some 5, .eqn false .p (.tmp 4), none⟩,
  ⟨some 6, .mov (.tmp 5), none⟩,
  ⟨some 7, .mov (.tmp 0), some (6, false)⟩,
  ⟨some 8, .nilck (.tmp 7), some (6, false)⟩,
  ⟨some 9, .faddr 2 (.tmp 8), some (6, false)⟩,
  ⟨some 10, .load false 1 false (.tmp 9), some (6, false)⟩,
  ⟨some 11, .eqn false .m (.tmp 10), some (6, false)⟩,
  ⟨some 12, .pick (.tmp 6) (.cst (.bool true)) (.tmp 11), none⟩] :: K) fr S := rfl
def disk_Disk_SyncDir_r2 : List POper := [
  ⟨some 2, .mov (.cst (.int .i64 1)), none⟩]
@[simp] theorem disk_Disk_SyncDir_r2_go (T : Tbl) (K : List Kt) (fr : Fr) (S : St) : gval T (.ops disk_Disk_SyncDir_r2 :: K) fr S = gval T (.ops [
  ⟨some 2, .mov (.cst (.int .i64 1)), none⟩] :: K) fr S := rfl
def disk_Disk_SyncDir_r3 : List POper := [
  ⟨some 13, .mov (.tmp 0), none⟩,
  ⟨some 14, .call .std 196 [(.tmp 13)], none⟩,
  ⟨some 3, .mov (.tmp 14), none⟩]
@[simp] theorem disk_Disk_SyncDir_r3_go (T : Tbl) (K : List Kt) (fr : Fr) (S : St) : gval T (.ops disk_Disk_SyncDir_r3 :: K) fr S = gval T (.ops [
  ⟨some 13, .mov (.tmp 0), none⟩,
  ⟨some 14, .call .std 196 [(.tmp 13)], none⟩,
  ⟨some 3, .mov (.tmp 14), none⟩] :: K) fr S := rfl
def disk_Disk_SyncDir_r4 : List POper := [
  ⟨some 15, .mov (.tmp 3), none⟩,
  ⟨some 16, .arith .neq (.tmp 15) (.cst (.int .i64 0)), none⟩]
@[simp] theorem disk_Disk_SyncDir_r4_go (T : Tbl) (K : List Kt) (fr : Fr) (S : St) : gval T (.ops disk_Disk_SyncDir_r4 :: K) fr S = gval T (.ops [
  ⟨some 15, .mov (.tmp 3), none⟩,
  ⟨some 16, .arith .neq (.tmp 15) (.cst (.int .i64 0)), none⟩] :: K) fr S := rfl
def disk_Disk_SyncDir_r5 : List POper := [
  ⟨some 17, .mov (.tmp 3), none⟩,
  ⟨some 2, .mov (.tmp 17), none⟩]
@[simp] theorem disk_Disk_SyncDir_r5_go (T : Tbl) (K : List Kt) (fr : Fr) (S : St) : gval T (.ops disk_Disk_SyncDir_r5 :: K) fr S = gval T (.ops [
  ⟨some 17, .mov (.tmp 3), none⟩,
  ⟨some 2, .mov (.tmp 17), none⟩] :: K) fr S := rfl
def disk_Disk_SyncDir_r6 : List POper := [
  ⟨some 18, .mov (.tmp 0), none⟩,
  ⟨some 19, .mov (.tmp 0), none⟩,
  ⟨some 20, .mov (.tmp 0), none⟩,
  ⟨some 21, .nilck (.tmp 20), none⟩,
  ⟨some 22, .faddr 2 (.tmp 21), none⟩,
  ⟨some 23, .load false 1 false (.tmp 22), none⟩,
  ⟨some 24, .call .std 197 [(.tmp 23)], none⟩,
  ⟨some 25, .nilck (.tmp 18), none⟩,
  ⟨some 26, .faddr 1 (.tmp 25), none⟩,
  ⟨none, .store 1 (.tmp 26) (.tmp 24), none⟩,
  ⟨some 27, .nilck (.tmp 19), none⟩,
  ⟨some 28, .faddr 3 (.tmp 27), none⟩,
  ⟨none, .store 1 (.tmp 28) (.cst .nils), none⟩]
@[simp] theorem disk_Disk_SyncDir_r6_go (T : Tbl) (K : List Kt) (fr : Fr) (S : St) : gval T (.ops disk_Disk_SyncDir_r6 :: K) fr S = gval T (.ops [
  ⟨some 18, .mov (.tmp 0), none⟩,
  ⟨some 19, .mov (.tmp 0), none⟩,
  ⟨some 20, .mov (.tmp 0), none⟩,
  ⟨some 21, .nilck (.tmp 20), none⟩,
  ⟨some 22, .faddr 2 (.tmp 21), none⟩,
  ⟨some 23, .load false 1 false (.tmp 22), none⟩,
  ⟨some 24, .call .std 197 [(.tmp 23)], none⟩,
  ⟨some 25, .nilck (.tmp 18), none⟩,
  ⟨some 26, .faddr 1 (.tmp 25), none⟩,
  ⟨none, .store 1 (.tmp 26) (.tmp 24), none⟩,
  ⟨some 27, .nilck (.tmp 19), none⟩,
  ⟨some 28, .faddr 3 (.tmp 27), none⟩,
  ⟨none, .store 1 (.tmp 28) (.cst .nils), none⟩] :: K) fr S := rfl
def disk_Disk_SyncDir_r7 : List POper := [
  ⟨some 2, .mov (.cst (.int .i64 0)), none⟩]
@[simp] theorem disk_Disk_SyncDir_r7_go (T : Tbl) (K : List Kt) (fr : Fr) (S : St) : gval T (.ops disk_Disk_SyncDir_r7 :: K) fr S = gval T (.ops [
  ⟨some 2, .mov (.cst (.int .i64 0)), none⟩] :: K) fr S := rfl
def disk_Disk_SyncDir : PCodeFn :=
  ⟨1, [.tmp 2],
  (.seq (.region disk_Disk_SyncDir_r0) (.seq (.seq (.clr [(4, 12)] (.region disk_Disk_SyncDir_r1)) (.cond (.tmp 12) (.seq (.region disk_Disk_SyncDir_r2) .ret) .skip)) (.seq (.seq (.clr [(13, 15)] (.region disk_Disk_SyncDir_r3)) (.seq (.clr [(15, 16)] (.region disk_Disk_SyncDir_r4)) (.cond (.tmp 16) (.seq (.clr [(17, 18)] (.region disk_Disk_SyncDir_r5)) .ret) .skip))) (.seq (.clr [(18, 29)] (.region disk_Disk_SyncDir_r6)) (.seq (.region disk_Disk_SyncDir_r7) .ret))))), false⟩

/-! gauge/wal.whole: 249 -/
def wal_whole_r0 : List POper := [
  ⟨some 2, .mov (.cst .nils), none⟩,
  ⟨some 3, .mov (.cst (.int .i64 0)), none⟩]
@[simp] theorem wal_whole_r0_go (T : Tbl) (K : List Kt) (fr : Fr) (S : St) : gval T (.ops wal_whole_r0 :: K) fr S = gval T (.ops [
  ⟨some 2, .mov (.cst .nils), none⟩,
  ⟨some 3, .mov (.cst (.int .i64 0)), none⟩] :: K) fr S := rfl
def wal_whole_r1 : List POper := [
  ⟨some 4, .mov (.cst .nils), none⟩]
@[simp] theorem wal_whole_r1_go (T : Tbl) (K : List Kt) (fr : Fr) (S : St) : gval T (.ops wal_whole_r1 :: K) fr S = gval T (.ops [
  ⟨some 4, .mov (.cst .nils), none⟩] :: K) fr S := rfl
def wal_whole_r2 : List POper := [
  ⟨some 5, .mov (.cst (.int .i64 0)), none⟩]
@[simp] theorem wal_whole_r2_go (T : Tbl) (K : List Kt) (fr : Fr) (S : St) : gval T (.ops wal_whole_r2 :: K) fr S = gval T (.ops [
  ⟨some 5, .mov (.cst (.int .i64 0)), none⟩] :: K) fr S := rfl
def wal_whole_r3 : List POper := [
  ⟨some 11, .mov (.tmp 0), none⟩,
  ⟨some 12, .mov (.tmp 5), none⟩,
  ⟨some 13, .call .std 319 [(.tmp 11), (.tmp 12)], none⟩,
  ⟨some 10, .mov (.tmp 13), none⟩,
  ⟨some 14, .extract 0 (.tmp 10), none⟩,
  ⟨some 15, .extract 1 (.tmp 10), none⟩,
  ⟨some 16, .extract 2 (.tmp 10), none⟩,
  ⟨some 6, .mov (.tmp 14), none⟩,
  ⟨some 7, .mov (.tmp 15), none⟩,
  ⟨some 8, .mov (.tmp 16), none⟩]
@[simp] theorem wal_whole_r3_go (T : Tbl) (K : List Kt) (fr : Fr) (S : St) : gval T (.ops wal_whole_r3 :: K) fr S = gval T (.ops [
  ⟨some 11, .mov (.tmp 0), none⟩,
  ⟨some 12, .mov (.tmp 5), none⟩,
  ⟨some 13, .call .std 319 [(.tmp 11), (.tmp 12)], none⟩,
  ⟨some 10, .mov (.tmp 13), none⟩,
  ⟨some 14, .extract 0 (.tmp 10), none⟩,
  ⟨some 15, .extract 1 (.tmp 10), none⟩,
  ⟨some 16, .extract 2 (.tmp 10), none⟩,
  ⟨some 6, .mov (.tmp 14), none⟩,
  ⟨some 7, .mov (.tmp 15), none⟩,
  ⟨some 8, .mov (.tmp 16), none⟩] :: K) fr S := rfl
def wal_whole_r4 : List POper := [
  ⟨some 17, .mov (.tmp 8), none⟩,
  ⟨some 18, .arith .neq (.tmp 17) (.cst (.int .i64 0)), none⟩]
@[simp] theorem wal_whole_r4_go (T : Tbl) (K : List Kt) (fr : Fr) (S : St) : gval T (.ops wal_whole_r4 :: K) fr S = gval T (.ops [
  ⟨some 17, .mov (.tmp 8), none⟩,
  ⟨some 18, .arith .neq (.tmp 17) (.cst (.int .i64 0)), none⟩] :: K) fr S := rfl
def wal_whole_r5 : List POper := [
  ⟨some 19, .mov (.tmp 4), none⟩,
  ⟨some 20, .mov (.tmp 5), none⟩,
  ⟨some 2, .mov (.tmp 19), none⟩,
  ⟨some 3, .mov (.tmp 20), none⟩]
@[simp] theorem wal_whole_r5_go (T : Tbl) (K : List Kt) (fr : Fr) (S : St) : gval T (.ops wal_whole_r5 :: K) fr S = gval T (.ops [
  ⟨some 19, .mov (.tmp 4), none⟩,
  ⟨some 20, .mov (.tmp 5), none⟩,
  ⟨some 2, .mov (.tmp 19), none⟩,
  ⟨some 3, .mov (.tmp 20), none⟩] :: K) fr S := rfl
def wal_whole_r6 : List POper := [
  ⟨some 22, .mov (.tmp 6), none⟩,
  ⟨some 23, .call .std 143 [(.tmp 22)], none⟩,
  ⟨some 21, .mov (.tmp 23), none⟩,
  ⟨some 24, .extract 0 (.tmp 21), none⟩,
  ⟨some 25, .extract 1 (.tmp 21), none⟩,
  ⟨some 9, .alloc false [(.int .i64 0), .nils, .nils, .nils, (.int .i64 0), (.int .i64 0)], none⟩,
  ⟨none, .store 6 (.tmp 9) (.tmp 24), none⟩,
  ⟨some 8, .mov (.tmp 25), none⟩]
@[simp] theorem wal_whole_r6_go (T : Tbl) (K : List Kt) (fr : Fr) (S : St) : gval T (.ops wal_whole_r6 :: K) fr S = gval T (.ops [
  ⟨some 22, .mov (.tmp 6), none⟩,
  ⟨some 23, .call .std 143 [(.tmp 22)], none⟩,
  ⟨some 21, .mov (.tmp 23), none⟩,
  ⟨some 24, .extract 0 (.tmp 21), none⟩,
  ⟨some 25, .extract 1 (.tmp 21), none⟩,
  ⟨some 9, .alloc false [(.int .i64 0), .nils, .nils, .nils, (.int .i64 0), (.int .i64 0)], none⟩,
  ⟨none, .store 6 (.tmp 9) (.tmp 24), none⟩,
  ⟨some 8, .mov (.tmp 25), none⟩] :: K) fr S := rfl
def wal_whole_r7 : List POper := [
  ⟨some 26, .mov (.tmp 8), none⟩,
  ⟨some 27, .arith .neq (.tmp 26) (.cst (.int .i64 0)), none⟩]
@[simp] theorem wal_whole_r7_go (T : Tbl) (K : List Kt) (fr : Fr) (S : St) : gval T (.ops wal_whole_r7 :: K) fr S = gval T (.ops [
  ⟨some 26, .mov (.tmp 8), none⟩,
  ⟨some 27, .arith .neq (.tmp 26) (.cst (.int .i64 0)), none⟩] :: K) fr S := rfl
def wal_whole_r8 : List POper := [
  ⟨some 28, .mov (.tmp 4), none⟩,
  ⟨some 29, .mov (.tmp 5), none⟩,
  ⟨some 2, .mov (.tmp 28), none⟩,
  ⟨some 3, .mov (.tmp 29), none⟩]
@[simp] theorem wal_whole_r8_go (T : Tbl) (K : List Kt) (fr : Fr) (S : St) : gval T (.ops wal_whole_r8 :: K) fr S = gval T (.ops [
  ⟨some 28, .mov (.tmp 4), none⟩,
  ⟨some 29, .mov (.tmp 5), none⟩,
  ⟨some 2, .mov (.tmp 28), none⟩,
  ⟨some 3, .mov (.tmp 29), none⟩] :: K) fr S := rfl
def wal_whole_r9 : List POper := [
  ⟨some 30, .mov (.tmp 4), none⟩,
  ⟨some 31, .load true 6 false (.tmp 9), none⟩,
  ⟨some 32, .bsl false (.agg [(.int .i64 0), .nils, .nils, .nils, (.int .i64 0), (.int .i64 0)]) 1 [(0, (.tmp 31))], none⟩,
  ⟨some 33, .app 6 96 (.tmp 30) (.tmp 32), none⟩,
  ⟨some 34, .mov (.tmp 7), none⟩,
  ⟨some 4, .mov (.tmp 33), none⟩,
  ⟨some 5, .mov (.tmp 34), none⟩]
@[simp] theorem wal_whole_r9_go (T : Tbl) (K : List Kt) (fr : Fr) (S : St) : gval T (.ops wal_whole_r9 :: K) fr S = gval T (.ops [
  ⟨some 30, .mov (.tmp 4), none⟩,
  ⟨some 31, .load true 6 false (.tmp 9), none⟩,
  ⟨some 32, .bsl false (.agg [(.int .i64 0), .nils, .nils, .nils, (.int .i64 0), (.int .i64 0)]) 1 [(0, (.tmp 31))], none⟩,
  ⟨some 33, .app 6 96 (.tmp 30) (.tmp 32), none⟩,
  ⟨some 34, .mov (.tmp 7), none⟩,
  ⟨some 4, .mov (.tmp 33), none⟩,
  ⟨some 5, .mov (.tmp 34), none⟩] :: K) fr S := rfl
def wal_whole_l0 : PCode :=
  (.block 1 (.seq (.clr [(10, 17)] (.region wal_whole_r3)) (.seq (.seq (.clr [(17, 18)] (.region wal_whole_r4)) (.cond (.tmp 18) (.seq (.clr [(19, 21)] (.region wal_whole_r5)) .ret) .skip)) (.seq (.clr [(21, 26)] (.region wal_whole_r6)) (.seq (.seq (.clr [(26, 27)] (.region wal_whole_r7)) (.cond (.tmp 27) (.seq (.clr [(28, 30)] (.region wal_whole_r8)) .ret) .skip)) (.clr [(30, 35)] (.region wal_whole_r9)))))))
@[simp] theorem wal_whole_l0_go (T : Tbl) (K : List Kt) (fr : Fr) (S : St) : gval T (.code wal_whole_l0 :: K) fr S = gval T (.code (.block 1 (.seq (.clr [(10, 17)] (.region wal_whole_r3)) (.seq (.seq (.clr [(17, 18)] (.region wal_whole_r4)) (.cond (.tmp 18) (.seq (.clr [(19, 21)] (.region wal_whole_r5)) .ret) .skip)) (.seq (.clr [(21, 26)] (.region wal_whole_r6)) (.seq (.seq (.clr [(26, 27)] (.region wal_whole_r7)) (.cond (.tmp 27) (.seq (.clr [(28, 30)] (.region wal_whole_r8)) .ret) .skip)) (.clr [(30, 35)] (.region wal_whole_r9))))))) :: K) fr S := rfl
def wal_whole : PCodeFn :=
  ⟨1, [.tmp 2, .tmp 3],
  (.seq (.region wal_whole_r0) (.seq (.region wal_whole_r1) (.seq (.region wal_whole_r2) (.block 0 (.loop wal_whole_l0))))), false⟩

/-! gauge/wal.anew: 250 -/
def wal_anew_r0 : List POper := [
  ⟨some 3, .box false (.tmp 0), none⟩,
  ⟨some 4, .box false (.tmp 1), none⟩,
  ⟨some 5, .box false (.tmp 2), none⟩,
  ⟨some 6, .mov (.cst (.int .i64 0)), none⟩]
@[simp] theorem wal_anew_r0_go (T : Tbl) (K : List Kt) (fr : Fr) (S : St) : gval T (.ops wal_anew_r0 :: K) fr S = gval T (.ops [
  ⟨some 3, .box false (.tmp 0), none⟩,
  ⟨some 4, .box false (.tmp 1), none⟩,
  ⟨some 5, .box false (.tmp 2), none⟩,
  ⟨some 6, .mov (.cst (.int .i64 0)), none⟩] :: K) fr S := rfl
def wal_anew_r1 : List POper := [
  ⟨some 8, .load false 1 false (.tmp 3), none⟩,
  ⟨some 9, .call .std 90 [(.tmp 8)], none⟩,
  ⟨some 10, .call .std 118 [(.tmp 9), (.cst (.str [116, 109, 112]))], none⟩]
@[simp] theorem wal_anew_r1_go (T : Tbl) (K : List Kt) (fr : Fr) (S : St) : gval T (.ops wal_anew_r1 :: K) fr S = gval T (.ops [
  ⟨some 8, .load false 1 false (.tmp 3), none⟩,
  ⟨some 9, .call .std 90 [(.tmp 8)], none⟩,
  ⟨some 10, .call .std 118 [(.tmp 9), (.cst (.str [116, 109, 112]))], none⟩] :: K) fr S := rfl
def wal_anew_r2 : List POper := [
  ⟨some 11, .load false 1 false (.tmp 3), none⟩,
  ⟨some 12, .call .std 83 [(.tmp 11), (.cst (.str [116, 109, 112]))], none⟩,
  ⟨some 7, .mov (.tmp 12), none⟩]
@[simp] theorem wal_anew_r2_go (T : Tbl) (K : List Kt) (fr : Fr) (S : St) : gval T (.ops wal_anew_r2 :: K) fr S = gval T (.ops [
  ⟨some 11, .load false 1 false (.tmp 3), none⟩,
  ⟨some 12, .call .std 83 [(.tmp 11), (.cst (.str [116, 109, 112]))], none⟩,
  ⟨some 7, .mov (.tmp 12), none⟩] :: K) fr S := rfl
def wal_anew_r3 : List POper := [
  ⟨some 13, .mov (.tmp 7), none⟩,
  ⟨some 14, .arith .neq (.tmp 13) (.cst (.int .i64 0)), none⟩]
@[simp] theorem wal_anew_r3_go (T : Tbl) (K : List Kt) (fr : Fr) (S : St) : gval T (.ops wal_anew_r3 :: K) fr S = gval T (.ops [
  ⟨some 13, .mov (.tmp 7), none⟩,
  ⟨some 14, .arith .neq (.tmp 13) (.cst (.int .i64 0)), none⟩] :: K) fr S := rfl
def wal_anew_r4 : List POper := [
  ⟨some 15, .mov (.tmp 7), none⟩,
  ⟨some 6, .mov (.tmp 15), none⟩]
@[simp] theorem wal_anew_r4_go (T : Tbl) (K : List Kt) (fr : Fr) (S : St) : gval T (.ops wal_anew_r4 :: K) fr S = gval T (.ops [
  ⟨some 15, .mov (.tmp 7), none⟩,
  ⟨some 6, .mov (.tmp 15), none⟩] :: K) fr S := rfl
def wal_anew_r5 : List POper := [
  ⟨some 16, .mkfn 320 [(.tmp 3)], none⟩,
  ⟨some 17, .mkfn 321 [(.tmp 3), (.tmp 5)], none⟩,
  ⟨some 18, .mkfn 322 [(.tmp 3)], none⟩,
  ⟨some 19, .mkfn 323 [(.tmp 3), (.tmp 4)], none⟩,
  ⟨some 20, .load false 1 false (.tmp 3), none⟩,
  ⟨some 21, .mkbfn 79 [(.tmp 20)], none⟩,
  ⟨some 22, .bsl false .nilf 5 [(0, (.tmp 16)), (1, (.tmp 17)), (2, (.tmp 18)), (3, (.tmp 19)), (4, (.tmp 21))], none⟩,
  ⟨some 23, .call .std 247 [(.tmp 22)], none⟩,
  ⟨some 6, .mov (.tmp 23), none⟩]
@[simp] theorem wal_anew_r5_go (T : Tbl) (K : List Kt) (fr : Fr) (S : St) : gval T (.ops wal_anew_r5 :: K) fr S = gval T (.ops [
  ⟨some 16, .mkfn 320 [(.tmp 3)], none⟩,
  ⟨some 17, .mkfn 321 [(.tmp 3), (.tmp 5)], none⟩,
  ⟨some 18, .mkfn 322 [(.tmp 3)], none⟩,
  ⟨some 19, .mkfn 323 [(.tmp 3), (.tmp 4)], none⟩,
  ⟨some 20, .load false 1 false (.tmp 3), none⟩,
  ⟨some 21, .mkbfn 79 [(.tmp 20)], none⟩,
  ⟨some 22, .bsl false .nilf 5 [(0, (.tmp 16)), (1, (.tmp 17)), (2, (.tmp 18)), (3, (.tmp 19)), (4, (.tmp 21))], none⟩,
  ⟨some 23, .call .std 247 [(.tmp 22)], none⟩,
  ⟨some 6, .mov (.tmp 23), none⟩] :: K) fr S := rfl
def wal_anew : PCodeFn :=
  ⟨3, [.tmp 6],
  (.seq (.region wal_anew_r0) (.seq (.seq (.clr [(8, 10)] (.region wal_anew_r1)) (.cond (.tmp 10) (.seq (.clr [(11, 13)] (.region wal_anew_r2)) (.seq (.clr [(13, 14)] (.region wal_anew_r3)) (.cond (.tmp 14) (.seq (.clr [(15, 16)] (.region wal_anew_r4)) .ret) .skip))) .skip)) (.seq (.clr [(16, 24)] (.region wal_anew_r5)) .ret))), false⟩

/-! slices.Clone[[]byte,byte]: 201 -/
def slices_Clone_byte_r0 : List POper := [
  ⟨some 2, .mov (.cst .nils), none⟩]
@[simp] theorem slices_Clone_byte_r0_go (T : Tbl) (K : List Kt) (fr : Fr) (S : St) : gval T (.ops slices_Clone_byte_r0 :: K) fr S = gval T (.ops [
  ⟨some 2, .mov (.cst .nils), none⟩] :: K) fr S := rfl
def slices_Clone_byte_r1 : List POper := [
  ⟨some 3, .mov (.tmp 0), none⟩,
  ⟨some 4, .eqn false .s (.tmp 3), none⟩]
@[simp] theorem slices_Clone_byte_r1_go (T : Tbl) (K : List Kt) (fr : Fr) (S : St) : gval T (.ops slices_Clone_byte_r1 :: K) fr S = gval T (.ops [
  ⟨some 3, .mov (.tmp 0), none⟩,
  ⟨some 4, .eqn false .s (.tmp 3), none⟩] :: K) fr S := rfl
def slices_Clone_byte_r2 : List POper := [
  ⟨some 2, .mov (.cst .nils), none⟩]
@[simp] theorem slices_Clone_byte_r2_go (T : Tbl) (K : List Kt) (fr : Fr) (S : St) : gval T (.ops slices_Clone_byte_r2 :: K) fr S = gval T (.ops [
  ⟨some 2, .mov (.cst .nils), none⟩] :: K) fr S := rfl
def slices_Clone_byte_r3 : List POper := [
  ⟨some 5, .bsl false (.int .u8 0) 0 [], none⟩,
  ⟨some 6, .mov (.tmp 0), none⟩,
  ⟨some 7, .app 1 1 (.tmp 5) (.tmp 6), none⟩,
  ⟨some 2, .mov (.tmp 7), none⟩]
@[simp] theorem slices_Clone_byte_r3_go (T : Tbl) (K : List Kt) (fr : Fr) (S : St) : gval T (.ops slices_Clone_byte_r3 :: K) fr S = gval T (.ops [
  ⟨some 5, .bsl false (.int .u8 0) 0 [], none⟩,
  ⟨some 6, .mov (.tmp 0), none⟩,
  ⟨some 7, .app 1 1 (.tmp 5) (.tmp 6), none⟩,
  ⟨some 2, .mov (.tmp 7), none⟩] :: K) fr S := rfl
def slices_Clone_byte : PCodeFn :=
  ⟨1, [.tmp 2],
  (.seq (.region slices_Clone_byte_r0) (.seq (.seq (.clr [(3, 4)] (.region slices_Clone_byte_r1)) (.cond (.tmp 4) (.seq (.region slices_Clone_byte_r2) .ret) .skip)) (.seq (.clr [(5, 8)] (.region slices_Clone_byte_r3)) .ret))), false⟩

/-! (*gauge/disk.Disk).Sync: 84 -/
def disk_Disk_Sync_r0 : List POper := [
  ⟨some 4, .mov (.cst (.int .i64 0)), none⟩]
@[simp] theorem disk_Disk_Sync_r0_go (T : Tbl) (K : List Kt) (fr : Fr) (S : St) : gval T (.ops disk_Disk_Sync_r0 :: K) fr S = gval T (.ops [
  ⟨some 4, .mov (.cst (.int .i64 0)), none⟩] :: K) fr S := rfl
def disk_Disk_Sync_r1 : List POper := [
  ⟨some 9, .mov (.tmp 0), none⟩,
  ⟨some 10, .mov (.tmp 1), none⟩,
  ⟨some 11, .call .std 194 [(.tmp 9), (.tmp 10)], none⟩,
  ⟨some 8, .mov (.tmp 11), none⟩,
  ⟨some 12, .extract 0 (.tmp 8), none⟩,
  ⟨some 13, .extract 1 (.tmp 8), none⟩,
  ⟨some 5, .mov (.tmp 12), none⟩,
  ⟨some 6, .mov (.tmp 13), none⟩]
@[simp] theorem disk_Disk_Sync_r1_go (T : Tbl) (K : List Kt) (fr : Fr) (S : St) : gval T (.ops disk_Disk_Sync_r1 :: K) fr S = gval T (.ops [
  ⟨some 9, .mov (.tmp 0), none⟩,
  ⟨some 10, .mov (.tmp 1), none⟩,
  ⟨some 11, .call .std 194 [(.tmp 9), (.tmp 10)], none⟩,
  ⟨some 8, .mov (.tmp 11), none⟩,
  ⟨some 12, .extract 0 (.tmp 8), none⟩,
  ⟨some 13, .extract 1 (.tmp 8), none⟩,
  ⟨some 5, .mov (.tmp 12), none⟩,
  ⟨some 6, .mov (.tmp 13), none⟩] :: K) fr S := rfl
def disk_Disk_Sync_r2 : List POper := [
  ⟨some 14, .mov (.tmp 6), none⟩,
  ⟨some 15, .arith .neq (.tmp 14) (.cst (.int .i64 0)), none⟩]
@[simp] theorem disk_Disk_Sync_r2_go (T : Tbl) (K : List Kt) (fr : Fr) (S : St) : gval T (.ops disk_Disk_Sync_r2 :: K) fr S = gval T (.ops [
  ⟨some 14, .mov (.tmp 6), none⟩,
  ⟨some 15, .arith .neq (.tmp 14) (.cst (.int .i64 0)), none⟩] :: K) fr S := rfl
def disk_Disk_Sync_r3 : List POper := [
  ⟨some 16, .mov (.tmp 6), none⟩,
  ⟨some 4, .mov (.tmp 16), none⟩]
@[simp] theorem disk_Disk_Sync_r3_go (T : Tbl) (K : List Kt) (fr : Fr) (S : St) : gval T (.ops disk_Disk_Sync_r3 :: K) fr S = gval T (.ops [
  ⟨some 16, .mov (.tmp 6), none⟩,
  ⟨some 4, .mov (.tmp 16), none⟩] :: K) fr S := rfl
def disk_Disk_Sync_r4 : List POper := [
  ⟨some 17, .mov (.tmp 0), none⟩,
  ⟨some 18, .call .std 196 [(.tmp 17)], none⟩,
  ⟨some 7, .mov (.tmp 18), none⟩]
@[simp] theorem disk_Disk_Sync_r4_go (T : Tbl) (K : List Kt) (fr : Fr) (S : St) : gval T (.ops disk_Disk_Sync_r4 :: K) fr S = gval T (.ops [
  ⟨some 17, .mov (.tmp 0), none⟩,
  ⟨some 18, .call .std 196 [(.tmp 17)], none⟩,
  ⟨some 7, .mov (.tmp 18), none⟩] :: K) fr S := rfl
def disk_Disk_Sync_r5 : List POper := [
  ⟨some 19, .mov (.tmp 7), none⟩,
  ⟨some 20, .arith .neq (.tmp 19) (.cst (.int .i64 0)), none⟩]
@[simp] theorem disk_Disk_Sync_r5_go (T : Tbl) (K : List Kt) (fr : Fr) (S : St) : gval T (.ops disk_Disk_Sync_r5 :: K) fr S = gval T (.ops [
  ⟨some 19, .mov (.tmp 7), none⟩,
  ⟨some 20, .arith .neq (.tmp 19) (.cst (.int .i64 0)), none⟩] :: K) fr S := rfl
def disk_Disk_Sync_r6 : List POper := [
  ⟨some 21, .mov (.tmp 7), none⟩,
  ⟨some 4, .mov (.tmp 21), none⟩]
@[simp] theorem disk_Disk_Sync_r6_go (T : Tbl) (K : List Kt) (fr : Fr) (S : St) : gval T (.ops disk_Disk_Sync_r6 :: K) fr S = gval T (.ops [
  ⟨some 21, .mov (.tmp 7), none⟩,
  ⟨some 4, .mov (.tmp 21), none⟩] :: K) fr S := rfl
def disk_Disk_Sync_r7 : List POper := [
  ⟨some 22, .mov (.tmp 5), none⟩,
  ⟨some 23, .mov (.tmp 5), none⟩,
  ⟨some 24, .nilck (.tmp 23), none⟩,
  ⟨some 25, .faddr 0 (.tmp 24), none⟩,
  ⟨some 26, .load false 1 false (.tmp 25), none⟩,
  ⟨some 27, .len false (.tmp 26), none⟩,
  ⟨some 28, .nilck (.tmp 22), none⟩,
  ⟨some 29, .faddr 1 (.tmp 28), none⟩,
  ⟨none, .store 1 (.tmp 29) (.tmp 27), none⟩]
@[simp] theorem disk_Disk_Sync_r7_go (T : Tbl) (K : List Kt) (fr : Fr) (S : St) : gval T (.ops disk_Disk_Sync_r7 :: K) fr S = gval T (.ops [
  ⟨some 22, .mov (.tmp 5), none⟩,
  ⟨some 23, .mov (.tmp 5), none⟩,
  ⟨some 24, .nilck (.tmp 23), none⟩,
  ⟨some 25, .faddr 0 (.tmp 24), none⟩,
  ⟨some 26, .load false 1 false (.tmp 25), none⟩,
  ⟨some 27, .len false (.tmp 26), none⟩,
  ⟨some 28, .nilck (.tmp 22), none⟩,
  ⟨some 29, .faddr 1 (.tmp 28), none⟩,
  ⟨none, .store 1 (.tmp 29) (.tmp 27), none⟩] :: K) fr S := rfl
def disk_Disk_Sync_r8 : List POper := [
  ⟨some 4, .mov (.cst (.int .i64 0)), none⟩]
@[simp] theorem disk_Disk_Sync_r8_go (T : Tbl) (K : List Kt) (fr : Fr) (S : St) : gval T (.ops disk_Disk_Sync_r8 :: K) fr S = gval T (.ops [
  ⟨some 4, .mov (.cst (.int .i64 0)), none⟩] :: K) fr S := rfl
def disk_Disk_Sync : PCodeFn :=
  ⟨2, [.tmp 4],
  (.seq (.region disk_Disk_Sync_r0) (.seq (.clr [(8, 14)] (.region disk_Disk_Sync_r1)) (.seq (.seq (.clr [(14, 15)] (.region disk_Disk_Sync_r2)) (.cond (.tmp 15) (.seq (.clr [(16, 17)] (.region disk_Disk_Sync_r3)) .ret) .skip)) (.seq (.seq (.clr [(17, 19)] (.region disk_Disk_Sync_r4)) (.seq (.clr [(19, 20)] (.region disk_Disk_Sync_r5)) (.cond (.tmp 20) (.seq (.clr [(21, 22)] (.region disk_Disk_Sync_r6)) .ret) .skip))) (.seq (.clr [(22, 30)] (.region disk_Disk_Sync_r7)) (.seq (.region disk_Disk_Sync_r8) .ret)))))), false⟩

/-! (gauge/disk.entry).do: 198 -/
def disk_entry_do_r0 : List POper := [
  ⟨some 2, .box true (.tmp 0), none⟩]
@[simp] theorem disk_entry_do_r0_go (T : Tbl) (K : List Kt) (fr : Fr) (S : St) : gval T (.ops disk_entry_do_r0 :: K) fr S = gval T (.ops [
  ⟨some 2, .box true (.tmp 0), none⟩] :: K) fr S := rfl
def disk_entry_do_r1 : List POper := [
  ⟨some 5, .faddr 2 (.tmp 2), none⟩,
  ⟨some 6, .load false 1 false (.tmp 5), none⟩,
  ⟨some 4, .mov (.tmp 6), none⟩]
@[simp] theorem disk_entry_do_r1_go (T : Tbl) (K : List Kt) (fr : Fr) (S : St) : gval T (.ops disk_entry_do_r1 :: K) fr S = gval T (.ops [
  ⟨some 5, .faddr 2 (.tmp 2), none⟩,
  ⟨some 6, .load false 1 false (.tmp 5), none⟩,
  ⟨some 4, .mov (.tmp 6), none⟩] :: K) fr S := rfl
def disk_entry_do_r2 : List POper := [
  ⟨some 7, .mov (.tmp 4), none⟩,
  ⟨some 8, .eqn false .p (.tmp 7), none⟩]
@[simp] theorem disk_entry_do_r2_go (T : Tbl) (K : List Kt) (fr : Fr) (S : St) : gval T (.ops disk_entry_do_r2 :: K) fr S = gval T (.ops [
  ⟨some 7, .mov (.tmp 4), none⟩,
  ⟨some 8, .eqn false .p (.tmp 7), none⟩] :: K) fr S := rfl
def disk_entry_do_r3 : List POper := [
  ⟨some 9, .mov (.tmp 1), none⟩,
  ⟨some 10, .faddr 0 (.tmp 2), none⟩,
  ⟨some 11, .load false 1 false (.tmp 10), none⟩,
  ⟨some 12, .mlk true false .nilp (.tmp 9) (.tmp 11), none⟩,
  ⟨some 4, .mov (.tmp 12), none⟩]
@[simp] theorem disk_entry_do_r3_go (T : Tbl) (K : List Kt) (fr : Fr) (S : St) : gval T (.ops disk_entry_do_r3 :: K) fr S = gval T (.ops [
  ⟨some 9, .mov (.tmp 1), none⟩,
  ⟨some 10, .faddr 0 (.tmp 2), none⟩,
  ⟨some 11, .load false 1 false (.tmp 10), none⟩,
  ⟨some 12, .mlk true false .nilp (.tmp 9) (.tmp 11), none⟩,
  ⟨some 4, .mov (.tmp 12), none⟩] :: K) fr S := rfl
def disk_entry_do_r4 : List POper := [
  ⟨some 13, .mov (.tmp 1), none⟩,
  ⟨some 14, .faddr 0 (.tmp 2), none⟩,
  ⟨some 15, .load false 1 false (.tmp 14), none⟩,
  ⟨none, .mdel true (.tmp 13) (.tmp 15), none⟩]
@[simp] theorem disk_entry_do_r4_go (T : Tbl) (K : List Kt) (fr : Fr) (S : St) : gval T (.ops disk_entry_do_r4 :: K) fr S = gval T (.ops [
  ⟨some 13, .mov (.tmp 1), none⟩,
  ⟨some 14, .faddr 0 (.tmp 2), none⟩,
  ⟨some 15, .load false 1 false (.tmp 14), none⟩,
  ⟨none, .mdel true (.tmp 13) (.tmp 15), none⟩] :: K) fr S := rfl
def disk_entry_do_r5 : List POper := [
  ⟨some 16, .faddr 1 (.tmp 2), none⟩,
  ⟨some 17, .load false 1 false (.tmp 16), none⟩,
  ⟨some 18, .arith .neq (.tmp 17) (.cst (.str [])), none⟩]
@[simp] theorem disk_entry_do_r5_go (T : Tbl) (K : List Kt) (fr : Fr) (S : St) : gval T (.ops disk_entry_do_r5 :: K) fr S = gval T (.ops [
  ⟨some 16, .faddr 1 (.tmp 2), none⟩,
  ⟨some 17, .load false 1 false (.tmp 16), none⟩,
  ⟨some 18, .arith .neq (.tmp 17) (.cst (.str [])), none⟩] :: K) fr S := rfl
def disk_entry_do_r6 : List POper := [
  ⟨some 19, .mov (.tmp 1), none⟩,
  ⟨some 20, .faddr 1 (.tmp 2), none⟩,
  ⟨some 21, .load false 1 false (.tmp 20), none⟩,
  ⟨some 22, .mov (.tmp 4), none⟩,
  ⟨none, .mset true (.tmp 19) (.tmp 21) (.tmp 22), none⟩]
@[simp] theorem disk_entry_do_r6_go (T : Tbl) (K : List Kt) (fr : Fr) (S : St) : gval T (.ops disk_entry_do_r6 :: K) fr S = gval T (.ops [
  ⟨some 19, .mov (.tmp 1), none⟩,
  ⟨some 20, .faddr 1 (.tmp 2), none⟩,
  ⟨some 21, .load false 1 false (.tmp 20), none⟩,
  ⟨some 22, .mov (.tmp 4), none⟩,
  ⟨none, .mset true (.tmp 19) (.tmp 21) (.tmp 22), none⟩] :: K) fr S := rfl
def disk_entry_do : PCodeFn :=
  ⟨2, [],
  (.seq (.region disk_entry_do_r0) (.seq (.clr [(5, 7)] (.region disk_entry_do_r1)) (.seq (.seq (.clr [(7, 8)] (.region disk_entry_do_r2)) (.cond (.tmp 8) (.seq (.clr [(9, 13)] (.region disk_entry_do_r3)) (.clr [(13, 16)] (.region disk_entry_do_r4))) .skip)) (.seq (.clr [(16, 18)] (.region disk_entry_do_r5)) (.cond (.tmp 18) (.clr [(19, 23)] (.region disk_entry_do_r6)) .skip))))), false⟩

/-! slices.Sorted[string]: 199 -/
def slices_Sorted_string_r0 : List POper := [
  ⟨some 2, .mov (.cst .nils), none⟩]
@[simp] theorem slices_Sorted_string_r0_go (T : Tbl) (K : List Kt) (fr : Fr) (S : St) : gval T (.ops slices_Sorted_string_r0 :: K) fr S = gval T (.ops [
  ⟨some 2, .mov (.cst .nils), none⟩] :: K) fr S := rfl
def slices_Sorted_string_r1 : List POper := [
  ⟨some 4, .mov (.tmp 0), none⟩,
  ⟨some 5, .call .std 293 [(.tmp 4)], none⟩,
  ⟨some 3, .mov (.tmp 5), none⟩]
@[simp] theorem slices_Sorted_string_r1_go (T : Tbl) (K : List Kt) (fr : Fr) (S : St) : gval T (.ops slices_Sorted_string_r1 :: K) fr S = gval T (.ops [
  ⟨some 4, .mov (.tmp 0), none⟩,
  ⟨some 5, .call .std 293 [(.tmp 4)], none⟩,
  ⟨some 3, .mov (.tmp 5), none⟩] :: K) fr S := rfl
def slices_Sorted_string_r2 : List POper := [
  ⟨some 6, .mov (.tmp 3), none⟩,
  ⟨some 7, .call .std 239 [(.tmp 6)], none⟩]
@[simp] theorem slices_Sorted_string_r2_go (T : Tbl) (K : List Kt) (fr : Fr) (S : St) : gval T (.ops slices_Sorted_string_r2 :: K) fr S = gval T (.ops [
  ⟨some 6, .mov (.tmp 3), none⟩,
  ⟨some 7, .call .std 239 [(.tmp 6)], none⟩] :: K) fr S := rfl
def slices_Sorted_string_r3 : List POper := [
  ⟨some 8, .mov (.tmp 3), none⟩,
  ⟨some 2, .mov (.tmp 8), none⟩]
@[simp] theorem slices_Sorted_string_r3_go (T : Tbl) (K : List Kt) (fr : Fr) (S : St) : gval T (.ops slices_Sorted_string_r3 :: K) fr S = gval T (.ops [
  ⟨some 8, .mov (.tmp 3), none⟩,
  ⟨some 2, .mov (.tmp 8), none⟩] :: K) fr S := rfl
def slices_Sorted_string : PCodeFn :=
  ⟨1, [.tmp 2],
  (.seq (.region slices_Sorted_string_r0) (.seq (.clr [(4, 6)] (.region slices_Sorted_string_r1)) (.seq (.clr [(6, 8)] (.region slices_Sorted_string_r2)) (.seq (.clr [(8, 9)] (.region slices_Sorted_string_r3)) .ret)))), false⟩

/-! maps.Keys[gauge/disk.dir,string,*gauge/disk.file]: 200 -/
def maps_Keys_file_r0 : List POper := [
  ⟨some 1, .box false (.tmp 0), none⟩,
  ⟨some 2, .mov (.cst .nilf), none⟩]
@[simp] theorem maps_Keys_file_r0_go (T : Tbl) (K : List Kt) (fr : Fr) (S : St) : gval T (.ops maps_Keys_file_r0 :: K) fr S = gval T (.ops [
  ⟨some 1, .box false (.tmp 0), none⟩,
  ⟨some 2, .mov (.cst .nilf), none⟩] :: K) fr S := rfl
def maps_Keys_file_r1 : List POper := [
  ⟨some 3, .mkfn 294 [(.tmp 1)], none⟩,
  ⟨some 2, .mov (.tmp 3), none⟩]
@[simp] theorem maps_Keys_file_r1_go (T : Tbl) (K : List Kt) (fr : Fr) (S : St) : gval T (.ops maps_Keys_file_r1 :: K) fr S = gval T (.ops [
  ⟨some 3, .mkfn 294 [(.tmp 1)], none⟩,
  ⟨some 2, .mov (.tmp 3), none⟩] :: K) fr S := rfl
def maps_Keys_file : PCodeFn :=
  ⟨1, [.tmp 2],
  (.seq (.region maps_Keys_file_r0) (.seq (.clr [(3, 4)] (.region maps_Keys_file_r1)) .ret)), false⟩

/-! maps.Clone[gauge/disk.dir,string,*gauge/disk.file]: 197 -/
def maps_Clone_file_r0 : List POper := [
  ⟨some 2, .mov (.cst .nilm), none⟩]
@[simp] theorem maps_Clone_file_r0_go (T : Tbl) (K : List Kt) (fr : Fr) (S : St) : gval T (.ops maps_Clone_file_r0 :: K) fr S = gval T (.ops [
  ⟨some 2, .mov (.cst .nilm), none⟩] :: K) fr S := rfl
def maps_Clone_file_r1 : List POper := [
  ⟨some 3, .mov (.tmp 0), none⟩,
  ⟨some 4, .eqn false .m (.tmp 3), none⟩]
@[simp] theorem maps_Clone_file_r1_go (T : Tbl) (K : List Kt) (fr : Fr) (S : St) : gval T (.ops maps_Clone_file_r1 :: K) fr S = gval T (.ops [
  ⟨some 3, .mov (.tmp 0), none⟩,
  ⟨some 4, .eqn false .m (.tmp 3), none⟩] :: K) fr S := rfl
def maps_Clone_file_r2 : List POper := [
  ⟨some 2, .mov (.cst .nilm), none⟩]
@[simp] theorem maps_Clone_file_r2_go (T : Tbl) (K : List Kt) (fr : Fr) (S : St) : gval T (.ops maps_Clone_file_r2 :: K) fr S = gval T (.ops [
  ⟨some 2, .mov (.cst .nilm), none⟩] :: K) fr S := rfl
def maps_Clone_file_r3 : List POper := [
  ⟨some 5, .mov (.tmp 0), none⟩,
  ⟨some 6, .mkif 4 (.tmp 5), none⟩,
  ⟨some 7, .call .std 292 [(.tmp 6)], none⟩,
  ⟨some 8, .assert 4 false .nilm (.tmp 7), none⟩,
  ⟨some 2, .mov (.tmp 8), none⟩]
@[simp] theorem maps_Clone_file_r3_go (T : Tbl) (K : List Kt) (fr : Fr) (S : St) : gval T (.ops maps_Clone_file_r3 :: K) fr S = gval T (.ops [
  ⟨some 5, .mov (.tmp 0), none⟩,
  ⟨some 6, .mkif 4 (.tmp 5), none⟩,
  ⟨some 7, .call .std 292 [(.tmp 6)], none⟩,
  ⟨some 8, .assert 4 false .nilm (.tmp 7), none⟩,
  ⟨some 2, .mov (.tmp 8), none⟩] :: K) fr S := rfl
def maps_Clone_file : PCodeFn :=
  ⟨1, [.tmp 2],
  (.seq (.region maps_Clone_file_r0) (.seq (.seq (.clr [(3, 4)] (.region maps_Clone_file_r1)) (.cond (.tmp 4) (.seq (.region maps_Clone_file_r2) .ret) .skip)) (.seq (.clr [(5, 9)] (.region maps_Clone_file_r3)) .ret))), false⟩

/-! gauge/frame.own: 218 -/
def frame_own_r0 : List POper := [
  ⟨some 4, .mov (.cst .nils), none⟩]
@[simp] theorem frame_own_r0_go (T : Tbl) (K : List Kt) (fr : Fr) (S : St) : gval T (.ops frame_own_r0 :: K) fr S = gval T (.ops [
  ⟨some 4, .mov (.cst .nils), none⟩] :: K) fr S := rfl
def frame_own_r1 : List POper := [
  ⟨some 5, .mov (.tmp 0), none⟩,
  ⟨some 6, .len false (.tmp 5), none⟩,
  ⟨some 7, .mov (.tmp 1), none⟩,
  ⟨some 8, .arith .add (.tmp 6) (.tmp 7), none⟩,
  ⟨some 9, .mks 1 1 (.tmp 8), none⟩,
  ⟨some 10, .mov (.tmp 0), none⟩,
  ⟨some 11, .app 1 1 (.tmp 9) (.tmp 10), none⟩,
  ⟨some 4, .mov (.tmp 11), none⟩]
@[simp] theorem frame_own_r1_go (T : Tbl) (K : List Kt) (fr : Fr) (S : St) : gval T (.ops frame_own_r1 :: K) fr S = gval T (.ops [
  ⟨some 5, .mov (.tmp 0), none⟩,
  ⟨some 6, .len false (.tmp 5), none⟩,
  ⟨some 7, .mov (.tmp 1), none⟩,
  ⟨some 8, .arith .add (.tmp 6) (.tmp 7), none⟩,
  ⟨some 9, .mks 1 1 (.tmp 8), none⟩,
  ⟨some 10, .mov (.tmp 0), none⟩,
  ⟨some 11, .app 1 1 (.tmp 9) (.tmp 10), none⟩,
  ⟨some 4, .mov (.tmp 11), none⟩] :: K) fr S := rfl
def frame_own : PCodeFn :=
  ⟨2, [.tmp 4],
  (.seq (.region frame_own_r0) (.seq (.clr [(5, 12)] (.region frame_own_r1)) .ret)), true⟩

/-! gauge/frame.PutText: 108 -/
def frame_PutText_r0 : List POper := [
  ⟨some 4, .mov (.cst .nils), none⟩,
  ⟨some 5, .mov (.cst (.int .i64 0)), none⟩]
@[simp] theorem frame_PutText_r0_go (T : Tbl) (K : List Kt) (fr : Fr) (S : St) : gval T (.ops frame_PutText_r0 :: K) fr S = gval T (.ops [
  ⟨some 4, .mov (.cst .nils), none⟩,
  ⟨some 5, .mov (.cst (.int .i64 0)), none⟩] :: K) fr S := rfl
def frame_PutText_r1 : List POper := [
  ⟨some 8, .mov (.tmp 1), none⟩,
  ⟨some 9, .len true (.tmp 8), none⟩,
  ⟨some 10, .arith .gtr (.tmp 9) (.cst (.int .i64 65535)), none⟩]
@[simp] theorem frame_PutText_r1_go (T : Tbl) (K : List Kt) (fr : Fr) (S : St) : gval T (.ops frame_PutText_r1 :: K) fr S = gval T (.ops [
  ⟨some 8, .mov (.tmp 1), none⟩,
  ⟨some 9, .len true (.tmp 8), none⟩,
  ⟨some 10, .arith .gtr (.tmp 9) (.cst (.int .i64 65535)), none⟩] :: K) fr S := rfl
def frame_PutText_r2 : List POper := [
  ⟨some 4, .mov (.cst .nils), none⟩,
  ⟨some 5, .mov (.cst (.int .i64 3)), none⟩]
@[simp] theorem frame_PutText_r2_go (T : Tbl) (K : List Kt) (fr : Fr) (S : St) : gval T (.ops frame_PutText_r2 :: K) fr S = gval T (.ops [
  ⟨some 4, .mov (.cst .nils), none⟩,
  ⟨some 5, .mov (.cst (.int .i64 3)), none⟩] :: K) fr S := rfl
def frame_PutText_r3 : List POper := [
  ⟨some 12, .mov (.tmp 0), none⟩,
  ⟨some 13, .mov (.tmp 1), none⟩,
  ⟨some 14, .len true (.tmp 13), none⟩,
  ⟨some 15, .call .std 107 [(.tmp 12), (.tmp 14)], none⟩,
  ⟨some 11, .mov (.tmp 15), none⟩,
  ⟨some 16, .extract 0 (.tmp 11), none⟩,
  ⟨some 17, .extract 1 (.tmp 11), none⟩,
  ⟨some 6, .mov (.tmp 16), none⟩,
  ⟨some 7, .mov (.tmp 17), none⟩]
@[simp] theorem frame_PutText_r3_go (T : Tbl) (K : List Kt) (fr : Fr) (S : St) : gval T (.ops frame_PutText_r3 :: K) fr S = gval T (.ops [
  ⟨some 12, .mov (.tmp 0), none⟩,
  ⟨some 13, .mov (.tmp 1), none⟩,
  ⟨some 14, .len true (.tmp 13), none⟩,
  ⟨some 15, .call .std 107 [(.tmp 12), (.tmp 14)], none⟩,
  ⟨some 11, .mov (.tmp 15), none⟩,
  ⟨some 16, .extract 0 (.tmp 11), none⟩,
  ⟨some 17, .extract 1 (.tmp 11), none⟩,
  ⟨some 6, .mov (.tmp 16), none⟩,
  ⟨some 7, .mov (.tmp 17), none⟩] :: K) fr S := rfl
def frame_PutText_r4 : List POper := [
  ⟨some 18, .mov (.tmp 6), none⟩,
  ⟨some 19, .mov (.tmp 1), none⟩,
  ⟨some 20, .app 1 1 (.tmp 18) (.tmp 19), none⟩,
  ⟨some 4, .mov (.tmp 20), none⟩,
  ⟨some 5, .mov (.cst (.int .i64 0)), none⟩]
@[simp] theorem frame_PutText_r4_go (T : Tbl) (K : List Kt) (fr : Fr) (S : St) : gval T (.ops frame_PutText_r4 :: K) fr S = gval T (.ops [
  ⟨some 18, .mov (.tmp 6), none⟩,
  ⟨some 19, .mov (.tmp 1), none⟩,
  ⟨some 20, .app 1 1 (.tmp 18) (.tmp 19), none⟩,
  ⟨some 4, .mov (.tmp 20), none⟩,
  ⟨some 5, .mov (.cst (.int .i64 0)), none⟩] :: K) fr S := rfl
def frame_PutText : PCodeFn :=
  ⟨2, [.tmp 4, .tmp 5],
  (.seq (.region frame_PutText_r0) (.seq (.seq (.clr [(8, 10)] (.region frame_PutText_r1)) (.cond (.tmp 10) (.seq (.region frame_PutText_r2) .ret) .skip)) (.seq (.clr [(7, 8), (11, 18)] (.region frame_PutText_r3)) (.seq (.clr [(18, 21)] (.region frame_PutText_r4)) .ret)))), true⟩

/-! gauge/posting.Check: 318 -/
def posting_Check_r0 : List POper := [
  ⟨some 2, .mov (.cst (.int .i64 0)), none⟩]
@[simp] theorem posting_Check_r0_go (T : Tbl) (K : List Kt) (fr : Fr) (S : St) : gval T (.ops posting_Check_r0 :: K) fr S = gval T (.ops [
  ⟨some 2, .mov (.cst (.int .i64 0)), none⟩] :: K) fr S := rfl
def posting_Check_r1 : List POper := [
  ⟨some 5, .mov (.tmp 0), none⟩,
  ⟨some 6, .len false (.tmp 5), none⟩,
  ⟨some 7, .arith .gtr (.tmp 6) (.cst (.int .i64 1024)), none⟩]
@[simp] theorem posting_Check_r1_go (T : Tbl) (K : List Kt) (fr : Fr) (S : St) : gval T (.ops posting_Check_r1 :: K) fr S = gval T (.ops [
  ⟨some 5, .mov (.tmp 0), none⟩,
  ⟨some 6, .len false (.tmp 5), none⟩,
  ⟨some 7, .arith .gtr (.tmp 6) (.cst (.int .i64 1024)), none⟩] :: K) fr S := rfl
def posting_Check_r2 : List POper := [
  ⟨some 2, .mov (.cst (.int .i64 3)), none⟩]
@[simp] theorem posting_Check_r2_go (T : Tbl) (K : List Kt) (fr : Fr) (S : St) : gval T (.ops posting_Check_r2 :: K) fr S = gval T (.ops [
  ⟨some 2, .mov (.cst (.int .i64 3)), none⟩] :: K) fr S := rfl
def posting_Check_r3 : List POper := [
  ⟨some 8, .mov (.tmp 0), none⟩,
  ⟨some 9, .len false (.tmp 8), none⟩,
  ⟨some 10, .mov (.cst (.int .i64 0)), none⟩]
@[simp] theorem posting_Check_r3_go (T : Tbl) (K : List Kt) (fr : Fr) (S : St) : gval T (.ops posting_Check_r3 :: K) fr S = gval T (.ops [
  ⟨some 8, .mov (.tmp 0), none⟩,
  ⟨some 9, .len false (.tmp 8), none⟩,
  ⟨some 10, .mov (.cst (.int .i64 0)), none⟩] :: K) fr S := rfl
def posting_Check_r4 : List POper := [
  ⟨some 11, .arith .lss (.tmp 10) (.tmp 9), none⟩]
@[simp] theorem posting_Check_r4_go (T : Tbl) (K : List Kt) (fr : Fr) (S : St) : gval T (.ops posting_Check_r4 :: K) fr S = gval T (.ops [
  ⟨some 11, .arith .lss (.tmp 10) (.tmp 9), none⟩] :: K) fr S := rfl
def posting_Check_r5 : List POper := [
  ⟨some 12, .mov (.tmp 10), none⟩,
  ⟨some 13, .iaddr 1 (.tmp 8) (.tmp 10), none⟩,
  ⟨some 14, .load false 1 false (.tmp 13), none⟩,
  ⟨some 3, .mov (.tmp 12), none⟩,
  ⟨some 4, .mov (.tmp 14), none⟩]
@[simp] theorem posting_Check_r5_go (T : Tbl) (K : List Kt) (fr : Fr) (S : St) : gval T (.ops posting_Check_r5 :: K) fr S = gval T (.ops [
  ⟨some 12, .mov (.tmp 10), none⟩,
  ⟨some 13, .iaddr 1 (.tmp 8) (.tmp 10), none⟩,
  ⟨some 14, .load false 1 false (.tmp 13), none⟩,
  ⟨some 3, .mov (.tmp 12), none⟩,
  ⟨some 4, .mov (.tmp 14), none⟩] :: K) fr S := rfl
def posting_Check_r6 : List POper := [
  ⟨some 16, .mov (.tmp 4), none⟩,
  ⟨some 17, .arith .lss (.tmp 16) (.cst (.int .i64 0)), none⟩,
  ⟨some 18, .mov (.tmp 17), none⟩,
  ⟨some 19, .mov (.tmp 4), some (18, false)⟩,
  ⟨some 20, .arith .gtr (.tmp 19) (.cst (.int .i64 1099511627776)), some (18, false)⟩,
  ⟨some 21, .pick (.tmp 18) (.cst (.bool true)) (.tmp 20), none⟩,
  ⟨some 15, .mov (.tmp 21), none⟩]
@[simp] theorem posting_Check_r6_go (T : Tbl) (K : List Kt) (fr : Fr) (S : St) : gval T (.ops posting_Check_r6 :: K) fr S = gval T (.ops [
  ⟨some 16, .mov (.tmp 4), none⟩,
  ⟨some 17, .arith .lss (.tmp 16) (.cst (.int .i64 0)), none⟩,
  ⟨some 18, .mov (.tmp 17), none⟩,
  ⟨some 19, .mov (.tmp 4), some (18, false)⟩,
  ⟨some 20, .arith .gtr (.tmp 19) (.cst (.int .i64 1099511627776)), some (18, false)⟩,
  ⟨some 21, .pick (.tmp 18) (.cst (.bool true)) (.tmp 20), none⟩,
  ⟨some 15, .mov (.tmp 21), none⟩] :: K) fr S := rfl
def posting_Check_r7 : List POper := [
  ⟨some 2, .mov (.cst (.int .i64 2)), none⟩]
@[simp] theorem posting_Check_r7_go (T : Tbl) (K : List Kt) (fr : Fr) (S : St) : gval T (.ops posting_Check_r7 :: K) fr S = gval T (.ops [
  ⟨some 2, .mov (.cst (.int .i64 2)), none⟩] :: K) fr S := rfl
def posting_Check_r8 : List POper := [
  ⟨some 23, .mov (.tmp 3), none⟩,
  ⟨some 24, .arith .gtr (.tmp 23) (.cst (.int .i64 0)), none⟩,
  ⟨some 25, .mov (.tmp 24), none⟩,
  ⟨some 26, .mov (.tmp 4), some (25, true)⟩,
  ⟨some 27, .mov (.tmp 0), some (25, true)⟩,
  ⟨some 28, .mov (.tmp 3), some (25, true)⟩,
  ⟨some 29, .arith .sub (.tmp 28) (.cst (.int .i64 1)), some (25, true)⟩,
  ⟨some 30, .iaddr 1 (.tmp 27) (.tmp 29), some (25, true)⟩,
  ⟨some 31, .load false 1 false (.tmp 30), some (25, true)⟩,
  ⟨some 32, .arith .leq (.tmp 26) (.tmp 31), some (25, true)⟩,
  ⟨some 33, .pick (.tmp 25) (.tmp 32) (.cst (.bool false)), none⟩,
  ⟨some 22, .mov (.tmp 33), none⟩]
@[simp] theorem posting_Check_r8_go (T : Tbl) (K : List Kt) (fr : Fr) (S : St) : gval T (.ops posting_Check_r8 :: K) fr S = gval T (.ops [
  ⟨some 23, .mov (.tmp 3), none⟩,
  ⟨some 24, .arith .gtr (.tmp 23) (.cst (.int .i64 0)), none⟩,
  ⟨some 25, .mov (.tmp 24), none⟩,
  ⟨some 26, .mov (.tmp 4), some (25, true)⟩,
  ⟨some 27, .mov (.tmp 0), some (25, true)⟩,
  ⟨some 28, .mov (.tmp 3), some (25, true)⟩,
  ⟨some 29, .arith .sub (.tmp 28) (.cst (.int .i64 1)), some (25, true)⟩,
  ⟨some 30, .iaddr 1 (.tmp 27) (.tmp 29), some (25, true)⟩,
  ⟨some 31, .load false 1 false (.tmp 30), some (25, true)⟩,
  ⟨some 32, .arith .leq (.tmp 26) (.tmp 31), some (25, true)⟩,
  ⟨some 33, .pick (.tmp 25) (.tmp 32) (.cst (.bool false)), none⟩,
  ⟨some 22, .mov (.tmp 33), none⟩] :: K) fr S := rfl
def posting_Check_r9 : List POper := [
  ⟨some 2, .mov (.cst (.int .i64 13)), none⟩]
@[simp] theorem posting_Check_r9_go (T : Tbl) (K : List Kt) (fr : Fr) (S : St) : gval T (.ops posting_Check_r9 :: K) fr S = gval T (.ops [
  ⟨some 2, .mov (.cst (.int .i64 13)), none⟩] :: K) fr S := rfl
def posting_Check_r10 : List POper := [
  ⟨some 34, .arith .add (.tmp 10) (.cst (.int .i64 1)), none⟩,
  ⟨some 10, .mov (.tmp 34), none⟩]
@[simp] theorem posting_Check_r10_go (T : Tbl) (K : List Kt) (fr : Fr) (S : St) : gval T (.ops posting_Check_r10 :: K) fr S = gval T (.ops [
  ⟨some 34, .arith .add (.tmp 10) (.cst (.int .i64 1)), none⟩,
  ⟨some 10, .mov (.tmp 34), none⟩] :: K) fr S := rfl
def posting_Check_l0 : PCode :=
  (.seq (.region posting_Check_r4) (.seq (.cond (.tmp 11) .skip (.exit 0)) (.seq (.block 1 (.seq (.clr [(12, 15)] (.region posting_Check_r5)) (.block 2 (.seq (.clr [(16, 22)] (.region posting_Check_r6)) (.cond (.tmp 15) (.seq (.region posting_Check_r7) .ret) (.seq (.clr [(23, 34)] (.region posting_Check_r8)) (.cond (.tmp 22) (.seq (.region posting_Check_r9) .ret) .skip))))))) (.clr [(34, 35)] (.region posting_Check_r10)))))
@[simp] theorem posting_Check_l0_go (T : Tbl) (K : List Kt) (fr : Fr) (S : St) : gval T (.code posting_Check_l0 :: K) fr S = gval T (.code (.seq (.region posting_Check_r4) (.seq (.cond (.tmp 11) .skip (.exit 0)) (.seq (.block 1 (.seq (.clr [(12, 15)] (.region posting_Check_r5)) (.block 2 (.seq (.clr [(16, 22)] (.region posting_Check_r6)) (.cond (.tmp 15) (.seq (.region posting_Check_r7) .ret) (.seq (.clr [(23, 34)] (.region posting_Check_r8)) (.cond (.tmp 22) (.seq (.region posting_Check_r9) .ret) .skip))))))) (.clr [(34, 35)] (.region posting_Check_r10))))) :: K) fr S := rfl
def posting_Check_r11 : List POper := [
  ⟨some 2, .mov (.cst (.int .i64 0)), none⟩]
@[simp] theorem posting_Check_r11_go (T : Tbl) (K : List Kt) (fr : Fr) (S : St) : gval T (.ops posting_Check_r11 :: K) fr S = gval T (.ops [
  ⟨some 2, .mov (.cst (.int .i64 0)), none⟩] :: K) fr S := rfl
def posting_Check : PCodeFn :=
  ⟨1, [.tmp 2],
  (.seq (.region posting_Check_r0) (.seq (.seq (.clr [(5, 7)] (.region posting_Check_r1)) (.cond (.tmp 7) (.seq (.region posting_Check_r2) .ret) .skip)) (.seq (.seq (.region posting_Check_r3) (.block 0 (.loop posting_Check_l0))) (.seq (.region posting_Check_r11) .ret)))), false⟩

/-! gauge/gaugeref02.Text: 220 -/
def ref02_Text_r0 : List POper := [
  ⟨some 2, .mov (.cst .nils), none⟩]
@[simp] theorem ref02_Text_r0_go (T : Tbl) (K : List Kt) (fr : Fr) (S : St) : gval T (.ops ref02_Text_r0 :: K) fr S = gval T (.ops [
  ⟨some 2, .mov (.cst .nils), none⟩] :: K) fr S := rfl
def ref02_Text_r1 : List POper := [
  ⟨some 3, .mov (.tmp 0), none⟩,
  ⟨some 4, .len true (.tmp 3), none⟩,
  ⟨some 5, .call .std 219 [(.tmp 4)], none⟩,
  ⟨some 6, .mov (.tmp 0), none⟩,
  ⟨some 7, .app 1 1 (.tmp 5) (.tmp 6), none⟩,
  ⟨some 2, .mov (.tmp 7), none⟩]
@[simp] theorem ref02_Text_r1_go (T : Tbl) (K : List Kt) (fr : Fr) (S : St) : gval T (.ops ref02_Text_r1 :: K) fr S = gval T (.ops [
  ⟨some 3, .mov (.tmp 0), none⟩,
  ⟨some 4, .len true (.tmp 3), none⟩,
  ⟨some 5, .call .std 219 [(.tmp 4)], none⟩,
  ⟨some 6, .mov (.tmp 0), none⟩,
  ⟨some 7, .app 1 1 (.tmp 5) (.tmp 6), none⟩,
  ⟨some 2, .mov (.tmp 7), none⟩] :: K) fr S := rfl
def ref02_Text : PCodeFn :=
  ⟨1, [.tmp 2],
  (.seq (.region ref02_Text_r0) (.seq (.clr [(3, 8)] (.region ref02_Text_r1)) .ret)), false⟩

/-! gauge/label.Name: 121 -/
def label_Name_r0 : List POper := [
  ⟨some 2, .mov (.cst (.bool false)), none⟩]
@[simp] theorem label_Name_r0_go (T : Tbl) (K : List Kt) (fr : Fr) (S : St) : gval T (.ops label_Name_r0 :: K) fr S = gval T (.ops [
  ⟨some 2, .mov (.cst (.bool false)), none⟩] :: K) fr S := rfl
def label_Name_r1 : List POper := [
  ⟨some 5, .mov (.tmp 0), none⟩,
  ⟨some 6, .len true (.tmp 5), none⟩,
  ⟨some 7, .mov (.cst (.int .i64 0)), none⟩]
@[simp] theorem label_Name_r1_go (T : Tbl) (K : List Kt) (fr : Fr) (S : St) : gval T (.ops label_Name_r1 :: K) fr S = gval T (.ops [
  ⟨some 5, .mov (.tmp 0), none⟩,
  ⟨some 6, .len true (.tmp 5), none⟩,
  ⟨some 7, .mov (.cst (.int .i64 0)), none⟩] :: K) fr S := rfl
def label_Name_r2 : List POper := [
  ⟨some 8, .arith .lss (.tmp 7) (.tmp 6), none⟩]
@[simp] theorem label_Name_r2_go (T : Tbl) (K : List Kt) (fr : Fr) (S : St) : gval T (.ops label_Name_r2 :: K) fr S = gval T (.ops [
  ⟨some 8, .arith .lss (.tmp 7) (.tmp 6), none⟩] :: K) fr S := rfl
def label_Name_r3 : List POper := [
  ⟨some 9, .mov (.tmp 7), none⟩,
  ⟨some 3, .mov (.tmp 9), none⟩]
@[simp] theorem label_Name_r3_go (T : Tbl) (K : List Kt) (fr : Fr) (S : St) : gval T (.ops label_Name_r3 :: K) fr S = gval T (.ops [
  ⟨some 9, .mov (.tmp 7), none⟩,
  ⟨some 3, .mov (.tmp 9), none⟩] :: K) fr S := rfl
def label_Name_r4 : List POper := [
  ⟨some 10, .mov (.tmp 0), none⟩,
  ⟨some 11, .mov (.tmp 3), none⟩,
  ⟨some 12, .idxs (.tmp 10) (.tmp 11), none⟩,
  ⟨some 4, .mov (.tmp 12), none⟩]
@[simp] theorem label_Name_r4_go (T : Tbl) (K : List Kt) (fr : Fr) (S : St) : gval T (.ops label_Name_r4 :: K) fr S = gval T (.ops [
  ⟨some 10, .mov (.tmp 0), none⟩,
  ⟨some 11, .mov (.tmp 3), none⟩,
  ⟨some 12, .idxs (.tmp 10) (.tmp 11), none⟩,
  ⟨some 4, .mov (.tmp 12), none⟩] :: K) fr S := rfl
def label_Name_r6 : List POper := [
  ⟨some 14, .mov (.tmp 4), none⟩,
  ⟨some 15, .arith .geq (.tmp 14) (.cst (.int .u8 97)), none⟩,
  ⟨some 16, .mov (.tmp 15), none⟩,
  ⟨some 17, .mov (.tmp 4), some (16, true)⟩,
  ⟨some 18, .arith .leq (.tmp 17) (.cst (.int .u8 122)), some (16, true)⟩,
  ⟨some 19, .pick (.tmp 16) (.tmp 18) (.cst (.bool false)), none⟩,
  ⟨some 13, .mov (.tmp 19), none⟩]
@[simp] theorem label_Name_r6_go (T : Tbl) (K : List Kt) (fr : Fr) (S : St) : gval T (.ops label_Name_r6 :: K) fr S = gval T (.ops [
  ⟨some 14, .mov (.tmp 4), none⟩,
  ⟨some 15, .arith .geq (.tmp 14) (.cst (.int .u8 97)), none⟩,
  ⟨some 16, .mov (.tmp 15), none⟩,
  ⟨some 17, .mov (.tmp 4), some (16, true)⟩,
  ⟨some 18, .arith .leq (.tmp 17) (.cst (.int .u8 122)), some (16, true)⟩,
  ⟨some 19, .pick (.tmp 16) (.tmp 18) (.cst (.bool false)), none⟩,
  ⟨some 13, .mov (.tmp 19), none⟩] :: K) fr S := rfl
def label_Name_r7 : List POper := [
  ⟨some 20, .mov (.tmp 4), none⟩,
  ⟨some 21, .arith .geq (.tmp 20) (.cst (.int .u8 65)), none⟩,
  ⟨some 22, .mov (.tmp 21), none⟩,
  ⟨some 23, .mov (.tmp 4), some (22, true)⟩,
  ⟨some 24, .arith .leq (.tmp 23) (.cst (.int .u8 90)), some (22, true)⟩,
  ⟨some 25, .pick (.tmp 22) (.tmp 24) (.cst (.bool false)), none⟩,
  ⟨some 13, .mov (.tmp 25), none⟩]
@[simp] theorem label_Name_r7_go (T : Tbl) (K : List Kt) (fr : Fr) (S : St) : gval T (.ops label_Name_r7 :: K) fr S = gval T (.ops [
  ⟨some 20, .mov (.tmp 4), none⟩,
  ⟨some 21, .arith .geq (.tmp 20) (.cst (.int .u8 65)), none⟩,
  ⟨some 22, .mov (.tmp 21), none⟩,
  ⟨some 23, .mov (.tmp 4), some (22, true)⟩,
  ⟨some 24, .arith .leq (.tmp 23) (.cst (.int .u8 90)), some (22, true)⟩,
  ⟨some 25, .pick (.tmp 22) (.tmp 24) (.cst (.bool false)), none⟩,
  ⟨some 13, .mov (.tmp 25), none⟩] :: K) fr S := rfl
def label_Name_r8 : List POper := [
  ⟨some 26, .mov (.tmp 4), none⟩,
  ⟨some 27, .arith .eql (.tmp 26) (.cst (.int .u8 95)), none⟩,
  ⟨some 13, .mov (.tmp 27), none⟩]
@[simp] theorem label_Name_r8_go (T : Tbl) (K : List Kt) (fr : Fr) (S : St) : gval T (.ops label_Name_r8 :: K) fr S = gval T (.ops [
  ⟨some 26, .mov (.tmp 4), none⟩,
  ⟨some 27, .arith .eql (.tmp 26) (.cst (.int .u8 95)), none⟩,
  ⟨some 13, .mov (.tmp 27), none⟩] :: K) fr S := rfl
def label_Name_r9 : List POper := [
  ⟨some 29, .mov (.tmp 3), none⟩,
  ⟨some 30, .arith .gtr (.tmp 29) (.cst (.int .i64 0)), none⟩,
  ⟨some 31, .mov (.tmp 30), none⟩,
  ⟨some 32, .mov (.tmp 4), some (31, true)⟩,
  ⟨some 33, .arith .geq (.tmp 32) (.cst (.int .u8 48)), some (31, true)⟩,
  ⟨some 34, .pick (.tmp 31) (.tmp 33) (.cst (.bool false)), none⟩,
  ⟨some 35, .mov (.tmp 34), none⟩,
  ⟨some 36, .mov (.tmp 4), some (35, true)⟩,
  ⟨some 37, .arith .leq (.tmp 36) (.cst (.int .u8 57)), some (35, true)⟩,
  ⟨some 38, .pick (.tmp 35) (.tmp 37) (.cst (.bool false)), none⟩,
  ⟨some 28, .mov (.tmp 38), none⟩]
@[simp] theorem label_Name_r9_go (T : Tbl) (K : List Kt) (fr : Fr) (S : St) : gval T (.ops label_Name_r9 :: K) fr S = gval T (.ops [
  ⟨some 29, .mov (.tmp 3), none⟩,
  ⟨some 30, .arith .gtr (.tmp 29) (.cst (.int .i64 0)), none⟩,
  ⟨some 31, .mov (.tmp 30), none⟩,
  ⟨some 32, .mov (.tmp 4), some (31, true)⟩,
  ⟨some 33, .arith .geq (.tmp 32) (.cst (.int .u8 48)), some (31, true)⟩,
  ⟨some 34, .pick (.tmp 31) (.tmp 33) (.cst (.bool false)), none⟩,
  ⟨some 35, .mov (.tmp 34), none⟩,
  ⟨some 36, .mov (.tmp 4), some (35, true)⟩,
  ⟨some 37, .arith .leq (.tmp 36) (.cst (.int .u8 57)), some (35, true)⟩,
  ⟨some 38, .pick (.tmp 35) (.tmp 37) (.cst (.bool false)), none⟩,
  ⟨some 28, .mov (.tmp 38), none⟩] :: K) fr S := rfl
def label_Name_r5 : List POper := [
  ⟨some 2, .mov (.cst (.bool false)), none⟩]
@[simp] theorem label_Name_r5_go (T : Tbl) (K : List Kt) (fr : Fr) (S : St) : gval T (.ops label_Name_r5 :: K) fr S = gval T (.ops [
  ⟨some 2, .mov (.cst (.bool false)), none⟩] :: K) fr S := rfl
def label_Name_r10 : List POper := [
  ⟨some 39, .arith .add (.tmp 7) (.cst (.int .i64 1)), none⟩,
  ⟨some 7, .mov (.tmp 39), none⟩]
@[simp] theorem label_Name_r10_go (T : Tbl) (K : List Kt) (fr : Fr) (S : St) : gval T (.ops label_Name_r10 :: K) fr S = gval T (.ops [
  ⟨some 39, .arith .add (.tmp 7) (.cst (.int .i64 1)), none⟩,
  ⟨some 7, .mov (.tmp 39), none⟩] :: K) fr S := rfl
def label_Name_l0 : PCode :=
  (.seq (.region label_Name_r2) (.seq (.cond (.tmp 8) .skip (.exit 0)) (.seq (.block 1 (.seq (.clr [(9, 10)] (.region label_Name_r3)) (.seq (.clr [(10, 13)] (.region label_Name_r4)) (.block 2 (.seq (.seq (.clr [(14, 20)] (.region label_Name_r6)) (.cond (.tmp 13) .skip (.seq (.clr [(20, 26)] (.region label_Name_r7)) (.cond (.tmp 13) .skip (.clr [(26, 28)] (.region label_Name_r8)))))) (.cond (.tmp 13) .skip (.seq (.clr [(29, 39)] (.region label_Name_r9)) (.cond (.tmp 28) .skip (.seq (.region label_Name_r5) .ret))))))))) (.clr [(39, 40)] (.region label_Name_r10)))))
@[simp] theorem label_Name_l0_go (T : Tbl) (K : List Kt) (fr : Fr) (S : St) : gval T (.code label_Name_l0 :: K) fr S = gval T (.code (.seq (.region label_Name_r2) (.seq (.cond (.tmp 8) .skip (.exit 0)) (.seq (.block 1 (.seq (.clr [(9, 10)] (.region label_Name_r3)) (.seq (.clr [(10, 13)] (.region label_Name_r4)) (.block 2 (.seq (.seq (.clr [(14, 20)] (.region label_Name_r6)) (.cond (.tmp 13) .skip (.seq (.clr [(20, 26)] (.region label_Name_r7)) (.cond (.tmp 13) .skip (.clr [(26, 28)] (.region label_Name_r8)))))) (.cond (.tmp 13) .skip (.seq (.clr [(29, 39)] (.region label_Name_r9)) (.cond (.tmp 28) .skip (.seq (.region label_Name_r5) .ret))))))))) (.clr [(39, 40)] (.region label_Name_r10))))) :: K) fr S := rfl
def label_Name_r11 : List POper := [
  ⟨some 40, .mov (.tmp 0), none⟩,
  ⟨some 41, .arith .neq (.tmp 40) (.cst (.str [])), none⟩,
  ⟨some 42, .mov (.tmp 41), none⟩,
  ⟨some 43, .mov (.tmp 0), some (42, true)⟩,
  ⟨some 44, .len true (.tmp 43), some (42, true)⟩,
  ⟨some 45, .arith .leq (.tmp 44) (.cst (.int .i64 32)), some (42, true)⟩,
  ⟨some 46, .pick (.tmp 42) (.tmp 45) (.cst (.bool false)), none⟩,
  ⟨some 2, .mov (.tmp 46), none⟩]
@[simp] theorem label_Name_r11_go (T : Tbl) (K : List Kt) (fr : Fr) (S : St) : gval T (.ops label_Name_r11 :: K) fr S = gval T (.ops [
  ⟨some 40, .mov (.tmp 0), none⟩,
  ⟨some 41, .arith .neq (.tmp 40) (.cst (.str [])), none⟩,
  ⟨some 42, .mov (.tmp 41), none⟩,
  ⟨some 43, .mov (.tmp 0), some (42, true)⟩,
  ⟨some 44, .len true (.tmp 43), some (42, true)⟩,
  ⟨some 45, .arith .leq (.tmp 44) (.cst (.int .i64 32)), some (42, true)⟩,
  ⟨some 46, .pick (.tmp 42) (.tmp 45) (.cst (.bool false)), none⟩,
  ⟨some 2, .mov (.tmp 46), none⟩] :: K) fr S := rfl
def label_Name : PCodeFn :=
  ⟨1, [.tmp 2],
  (.seq (.region label_Name_r0) (.seq (.seq (.clr [(5, 6)] (.region label_Name_r1)) (.block 0 (.loop label_Name_l0))) (.seq (.clr [(40, 47)] (.region label_Name_r11)) .ret))), false⟩

/-! gauge/chunk.Check: 154 -/
def chunk_Check_r0 : List POper := [
  ⟨some 2, .mov (.cst (.int .i64 0)), none⟩]
@[simp] theorem chunk_Check_r0_go (T : Tbl) (K : List Kt) (fr : Fr) (S : St) : gval T (.ops chunk_Check_r0 :: K) fr S = gval T (.ops [
  ⟨some 2, .mov (.cst (.int .i64 0)), none⟩] :: K) fr S := rfl
def chunk_Check_r1 : List POper := [
  ⟨some 5, .mov (.tmp 0), none⟩,
  ⟨some 6, .len false (.tmp 5), none⟩,
  ⟨some 7, .arith .eql (.tmp 6) (.cst (.int .i64 0)), none⟩,
  ⟨some 8, .mov (.tmp 7), none⟩,
  ⟨some 9, .mov (.tmp 0), some (8, false)⟩,
  ⟨some 10, .len false (.tmp 9), some (8, false)⟩,
  ⟨some 11, .arith .gtr (.tmp 10) (.cst (.int .i64 120)), some (8, false)⟩,
  ⟨some 12, .pick (.tmp 8) (.cst (.bool true)) (.tmp 11), none⟩]
@[simp] theorem chunk_Check_r1_go (T : Tbl) (K : List Kt) (fr : Fr) (S : St) : gval T (.ops chunk_Check_r1 :: K) fr S = gval T (.ops [
  ⟨some 5, .mov (.tmp 0), none⟩,
  ⟨some 6, .len false (.tmp 5), none⟩,
  ⟨some 7, .arith .eql (.tmp 6) (.cst (.int .i64 0)), none⟩,
  ⟨some 8, .mov (.tmp 7), none⟩,
  ⟨some 9, .mov (.tmp 0), some (8, false)⟩,
  ⟨some 10, .len false (.tmp 9), some (8, false)⟩,
  ⟨some 11, .arith .gtr (.tmp 10) (.cst (.int .i64 120)), some (8, false)⟩,
  ⟨some 12, .pick (.tmp 8) (.cst (.bool true)) (.tmp 11), none⟩] :: K) fr S := rfl
def chunk_Check_r2 : List POper := [
  ⟨some 2, .mov (.cst (.int .i64 2)), none⟩]
@[simp] theorem chunk_Check_r2_go (T : Tbl) (K : List Kt) (fr : Fr) (S : St) : gval T (.ops chunk_Check_r2 :: K) fr S = gval T (.ops [
  ⟨some 2, .mov (.cst (.int .i64 2)), none⟩] :: K) fr S := rfl
def chunk_Check_r3 : List POper := [
  ⟨some 13, .mov (.tmp 0), none⟩,
  ⟨some 14, .len false (.tmp 13), none⟩,
  ⟨some 15, .mov (.cst (.int .i64 0)), none⟩]
@[simp] theorem chunk_Check_r3_go (T : Tbl) (K : List Kt) (fr : Fr) (S : St) : gval T (.ops chunk_Check_r3 :: K) fr S = gval T (.ops [
  ⟨some 13, .mov (.tmp 0), none⟩,
  ⟨some 14, .len false (.tmp 13), none⟩,
  ⟨some 15, .mov (.cst (.int .i64 0)), none⟩] :: K) fr S := rfl
def chunk_Check_r4 : List POper := [
  ⟨some 16, .arith .lss (.tmp 15) (.tmp 14), none⟩]
@[simp] theorem chunk_Check_r4_go (T : Tbl) (K : List Kt) (fr : Fr) (S : St) : gval T (.ops chunk_Check_r4 :: K) fr S = gval T (.ops [
  ⟨some 16, .arith .lss (.tmp 15) (.tmp 14), none⟩] :: K) fr S := rfl
def chunk_Check_r5 : List POper := [
  ⟨some 17, .mov (.tmp 15), none⟩,
  ⟨some 18, .iaddr 2 (.tmp 13) (.tmp 15), none⟩,
  ⟨some 19, .load true 2 false (.tmp 18), none⟩,
  ⟨some 4, .alloc false [(.int .i64 0), (.int .i64 0)], none⟩,
  ⟨some 3, .mov (.tmp 17), none⟩,
  ⟨none, .store 2 (.tmp 4) (.tmp 19), none⟩]
@[simp] theorem chunk_Check_r5_go (T : Tbl) (K : List Kt) (fr : Fr) (S : St) : gval T (.ops chunk_Check_r5 :: K) fr S = gval T (.ops [
  ⟨some 17, .mov (.tmp 15), none⟩,
  ⟨some 18, .iaddr 2 (.tmp 13) (.tmp 15), none⟩,
  ⟨some 19, .load true 2 false (.tmp 18), none⟩,
  ⟨some 4, .alloc false [(.int .i64 0), (.int .i64 0)], none⟩,
  ⟨some 3, .mov (.tmp 17), none⟩,
  ⟨none, .store 2 (.tmp 4) (.tmp 19), none⟩] :: K) fr S := rfl
def chunk_Check_r6 : List POper := [
  ⟨some 21, .load true 2 false (.tmp 4), none⟩,
  ⟨some 22, .call .std 260 [(.tmp 21)], none⟩,
  ⟨some 23, .un .not (.tmp 22), none⟩,
  ⟨some 20, .mov (.tmp 23), none⟩]
@[simp] theorem chunk_Check_r6_go (T : Tbl) (K : List Kt) (fr : Fr) (S : St) : gval T (.ops chunk_Check_r6 :: K) fr S = gval T (.ops [
  ⟨some 21, .load true 2 false (.tmp 4), none⟩,
  ⟨some 22, .call .std 260 [(.tmp 21)], none⟩,
  ⟨some 23, .un .not (.tmp 22), none⟩,
  ⟨some 20, .mov (.tmp 23), none⟩] :: K) fr S := rfl
def chunk_Check_r7 : List POper := [
  ⟨some 2, .mov (.cst (.int .i64 11)), none⟩]
@[simp] theorem chunk_Check_r7_go (T : Tbl) (K : List Kt) (fr : Fr) (S : St) : gval T (.ops chunk_Check_r7 :: K) fr S = gval T (.ops [
  ⟨some 2, .mov (.cst (.int .i64 11)), none⟩] :: K) fr S := rfl
def chunk_Check_r8 : List POper := [
  ⟨some 25, .mov (.tmp 3), none⟩,
  ⟨some 26, .arith .gtr (.tmp 25) (.cst (.int .i64 0)), none⟩,
  ⟨some 27, .mov (.tmp 26), none⟩,
  ⟨some 28, .faddr 0 (.tmp 4), some (27, true)⟩,
  ⟨some 29, .load false 1 false (.tmp 28), some (27, true)⟩,
  ⟨some 30, .mov (.tmp 0), some (27, true)⟩,
  ⟨some 31, .mov (.tmp 3), some (27, true)⟩,
  ⟨some 32, .arith .sub (.tmp 31) (.cst (.int .i64 1)), some (27, true)⟩,
  ⟨some 33, .iaddr 2 (.tmp 30) (.tmp 32), some (27, true)⟩,
  ⟨some 34, .faddr 0 (.tmp 33), some (27, true)⟩,
  ⟨some 35, .load false 1 true (.tmp 34), some (27, true)⟩,
  ⟨some 36, .arith .leq (.tmp 29) (.tmp 35), some (27, true)⟩,
  ⟨some 37, .pick (.tmp 27) (.tmp 36) (.cst (.bool false)), none⟩,
  ⟨some 24, .mov (.tmp 37), none⟩]
@[simp] theorem chunk_Check_r8_go (T : Tbl) (K : List Kt) (fr : Fr) (S : St) : gval T (.ops chunk_Check_r8 :: K) fr S = gval T (.ops [
  ⟨some 25, .mov (.tmp 3), none⟩,
  ⟨some 26, .arith .gtr (.tmp 25) (.cst (.int .i64 0)), none⟩,
  ⟨some 27, .mov (.tmp 26), none⟩,
  ⟨some 28, .faddr 0 (.tmp 4), some (27, true)⟩,
  ⟨some 29, .load false 1 false (.tmp 28), some (27, true)⟩,
  ⟨some 30, .mov (.tmp 0), some (27, true)⟩,
  ⟨some 31, .mov (.tmp 3), some (27, true)⟩,
  ⟨some 32, .arith .sub (.tmp 31) (.cst (.int .i64 1)), some (27, true)⟩,
  ⟨some 33, .iaddr 2 (.tmp 30) (.tmp 32), some (27, true)⟩,
  ⟨some 34, .faddr 0 (.tmp 33), some (27, true)⟩,
  ⟨some 35, .load false 1 true (.tmp 34), some (27, true)⟩,
  ⟨some 36, .arith .leq (.tmp 29) (.tmp 35), some (27, true)⟩,
  ⟨some 37, .pick (.tmp 27) (.tmp 36) (.cst (.bool false)), none⟩,
  ⟨some 24, .mov (.tmp 37), none⟩] :: K) fr S := rfl
def chunk_Check_r9 : List POper := [
  ⟨some 2, .mov (.cst (.int .i64 13)), none⟩]
@[simp] theorem chunk_Check_r9_go (T : Tbl) (K : List Kt) (fr : Fr) (S : St) : gval T (.ops chunk_Check_r9 :: K) fr S = gval T (.ops [
  ⟨some 2, .mov (.cst (.int .i64 13)), none⟩] :: K) fr S := rfl
def chunk_Check_r10 : List POper := [
  ⟨some 38, .arith .add (.tmp 15) (.cst (.int .i64 1)), none⟩,
  ⟨some 15, .mov (.tmp 38), none⟩]
@[simp] theorem chunk_Check_r10_go (T : Tbl) (K : List Kt) (fr : Fr) (S : St) : gval T (.ops chunk_Check_r10 :: K) fr S = gval T (.ops [
  ⟨some 38, .arith .add (.tmp 15) (.cst (.int .i64 1)), none⟩,
  ⟨some 15, .mov (.tmp 38), none⟩] :: K) fr S := rfl
def chunk_Check_l0 : PCode :=
  (.seq (.region chunk_Check_r4) (.seq (.cond (.tmp 16) .skip (.exit 0)) (.seq (.block 1 (.seq (.clr [(17, 20)] (.region chunk_Check_r5)) (.block 2 (.seq (.clr [(21, 24)] (.region chunk_Check_r6)) (.cond (.tmp 20) (.seq (.region chunk_Check_r7) .ret) (.seq (.clr [(25, 38)] (.region chunk_Check_r8)) (.cond (.tmp 24) (.seq (.region chunk_Check_r9) .ret) .skip))))))) (.clr [(38, 39)] (.region chunk_Check_r10)))))
@[simp] theorem chunk_Check_l0_go (T : Tbl) (K : List Kt) (fr : Fr) (S : St) : gval T (.code chunk_Check_l0 :: K) fr S = gval T (.code (.seq (.region chunk_Check_r4) (.seq (.cond (.tmp 16) .skip (.exit 0)) (.seq (.block 1 (.seq (.clr [(17, 20)] (.region chunk_Check_r5)) (.block 2 (.seq (.clr [(21, 24)] (.region chunk_Check_r6)) (.cond (.tmp 20) (.seq (.region chunk_Check_r7) .ret) (.seq (.clr [(25, 38)] (.region chunk_Check_r8)) (.cond (.tmp 24) (.seq (.region chunk_Check_r9) .ret) .skip))))))) (.clr [(38, 39)] (.region chunk_Check_r10))))) :: K) fr S := rfl
def chunk_Check_r11 : List POper := [
  ⟨some 2, .mov (.cst (.int .i64 0)), none⟩]
@[simp] theorem chunk_Check_r11_go (T : Tbl) (K : List Kt) (fr : Fr) (S : St) : gval T (.ops chunk_Check_r11 :: K) fr S = gval T (.ops [
  ⟨some 2, .mov (.cst (.int .i64 0)), none⟩] :: K) fr S := rfl
def chunk_Check : PCodeFn :=
  ⟨1, [.tmp 2],
  (.seq (.region chunk_Check_r0) (.seq (.seq (.clr [(5, 12)] (.region chunk_Check_r1)) (.cond (.tmp 12) (.seq (.region chunk_Check_r2) .ret) .skip)) (.seq (.seq (.region chunk_Check_r3) (.block 0 (.loop chunk_Check_l0))) (.seq (.region chunk_Check_r11) .ret)))), false⟩

/-! gauge/gaugeref06.Name: 126 -/
def ref06_Name_r0 : List POper := [
  ⟨some 2, .mov (.cst (.bool false)), none⟩]
@[simp] theorem ref06_Name_r0_go (T : Tbl) (K : List Kt) (fr : Fr) (S : St) : gval T (.ops ref06_Name_r0 :: K) fr S = gval T (.ops [
  ⟨some 2, .mov (.cst (.bool false)), none⟩] :: K) fr S := rfl
def ref06_Name_r1 : List POper := [
  ⟨some 3, .mov (.cst (.int .i64 0)), none⟩]
@[simp] theorem ref06_Name_r1_go (T : Tbl) (K : List Kt) (fr : Fr) (S : St) : gval T (.ops ref06_Name_r1 :: K) fr S = gval T (.ops [
  ⟨some 3, .mov (.cst (.int .i64 0)), none⟩] :: K) fr S := rfl
def ref06_Name_r2 : List POper := [
  ⟨some 6, .mov (.tmp 3), none⟩,
  ⟨some 7, .mov (.tmp 0), none⟩,
  ⟨some 8, .len true (.tmp 7), none⟩,
  ⟨some 9, .arith .lss (.tmp 6) (.tmp 8), none⟩]
@[simp] theorem ref06_Name_r2_go (T : Tbl) (K : List Kt) (fr : Fr) (S : St) : gval T (.ops ref06_Name_r2 :: K) fr S = gval T (.ops [
  ⟨some 6, .mov (.tmp 3), none⟩,
  ⟨some 7, .mov (.tmp 0), none⟩,
  ⟨some 8, .len true (.tmp 7), none⟩,
  ⟨some 9, .arith .lss (.tmp 6) (.tmp 8), none⟩] :: K) fr S := rfl
def ref06_Name_r4 : List POper := [
  ⟨some 12, .mov (.tmp 0), none⟩,
  ⟨some 13, .mov (.tmp 3), none⟩,
  ⟨some 14, .idxs (.tmp 12) (.tmp 13), none⟩,
  ⟨some 4, .mov (.tmp 14), none⟩]
@[simp] theorem ref06_Name_r4_go (T : Tbl) (K : List Kt) (fr : Fr) (S : St) : gval T (.ops ref06_Name_r4 :: K) fr S = gval T (.ops [
  ⟨some 12, .mov (.tmp 0), none⟩,
  ⟨some 13, .mov (.tmp 3), none⟩,
  ⟨some 14, .idxs (.tmp 12) (.tmp 13), none⟩,
  ⟨some 4, .mov (.tmp 14), none⟩] :: K) fr S := rfl
def ref06_Name_r5 : List POper := [
  ⟨some 15, .mov (.tmp 4), none⟩,
  ⟨some 16, .arith .geq (.tmp 15) (.cst (.int .u8 97)), none⟩,
  ⟨some 17, .mov (.tmp 16), none⟩,
  ⟨some 18, .mov (.tmp 4), some (17, true)⟩,
  ⟨some 19, .arith .leq (.tmp 18) (.cst (.int .u8 122)), some (17, true)⟩,
  ⟨some 20, .pick (.tmp 17) (.tmp 19) (.cst (.bool false)), none⟩,
  ⟨some 21, .mov (.tmp 20), none⟩,
  ⟨some 22, .mov (.tmp 4), some (21, false)⟩,
  ⟨some 23, .arith .geq (.tmp 22) (.cst (.int .u8 65)), some (21, false)⟩,
  ⟨some 24, .mov (.tmp 23), some (21, false)⟩,
  ⟨some 25, .mov (.tmp 4), some (24, true)⟩,
  ⟨some 26, .arith .leq (.tmp 25) (.cst (.int .u8 90)), some (24, true)⟩,
  ⟨some 27, .pick (.tmp 24) (.tmp 26) (.cst (.bool false)), some (21, false)⟩,
  ⟨some 28, .pick (.tmp 21) (.cst (.bool true)) (.tmp 27), none⟩,
  ⟨some 29, .mov (.tmp 28), none⟩,
  ⟨some 30, .mov (.tmp 4), some (29, false)⟩,
  ⟨some 31, .arith .eql (.tmp 30) (.cst (.int .u8 95)), some (29, false)⟩,
  ⟨some 32, .pick (.tmp 29) (.cst (.bool true)) (.tmp 31), none⟩,
  ⟨some 5, .mov (.tmp 32), none⟩]
@[simp] theorem ref06_Name_r5_go (T : Tbl) (K : List Kt) (fr : Fr) (S : St) : gval T (.ops ref06_Name_r5 :: K) fr S = gval T (.ops [
  ⟨some 15, .mov (.tmp 4), none⟩,
  ⟨some 16, .arith .geq (.tmp 15) (.cst (.int .u8 97)), none⟩,
  ⟨some 17, .mov (.tmp 16), none⟩,
  ⟨some 18, .mov (.tmp 4), some (17, true)⟩,
  ⟨some 19, .arith .leq (.tmp 18) (.cst (.int .u8 122)), some (17, true)⟩,
  ⟨some 20, .pick (.tmp 17) (.tmp 19) (.cst (.bool false)), none⟩,
  ⟨some 21, .mov (.tmp 20), none⟩,
  ⟨some 22, .mov (.tmp 4), some (21, false)⟩,
  ⟨some 23, .arith .geq (.tmp 22) (.cst (.int .u8 65)), some (21, false)⟩,
  ⟨some 24, .mov (.tmp 23), some (21, false)⟩,
  ⟨some 25, .mov (.tmp 4), some (24, true)⟩,
  ⟨some 26, .arith .leq (.tmp 25) (.cst (.int .u8 90)), some (24, true)⟩,
  ⟨some 27, .pick (.tmp 24) (.tmp 26) (.cst (.bool false)), some (21, false)⟩,
  ⟨some 28, .pick (.tmp 21) (.cst (.bool true)) (.tmp 27), none⟩,
  ⟨some 29, .mov (.tmp 28), none⟩,
  ⟨some 30, .mov (.tmp 4), some (29, false)⟩,
  ⟨some 31, .arith .eql (.tmp 30) (.cst (.int .u8 95)), some (29, false)⟩,
  ⟨some 32, .pick (.tmp 29) (.cst (.bool true)) (.tmp 31), none⟩,
  ⟨some 5, .mov (.tmp 32), none⟩] :: K) fr S := rfl
def ref06_Name_r6 : List POper := [
  ⟨some 33, .mov (.tmp 5), none⟩,
  ⟨some 34, .un .not (.tmp 33), none⟩,
  ⟨some 35, .mov (.tmp 34), none⟩,
  ⟨some 36, .mov (.tmp 3), some (35, true)⟩,
  ⟨some 37, .arith .eql (.tmp 36) (.cst (.int .i64 0)), some (35, true)⟩,
  ⟨some 38, .mov (.tmp 37), some (35, true)⟩,
  ⟨some 39, .mov (.tmp 4), some (38, false)⟩,
  ⟨some 40, .arith .lss (.tmp 39) (.cst (.int .u8 48)), some (38, false)⟩,
  ⟨some 41, .pick (.tmp 38) (.cst (.bool true)) (.tmp 40), some (35, true)⟩,
  ⟨some 42, .mov (.tmp 41), some (35, true)⟩,
  ⟨some 43, .mov (.tmp 4), some (42, false)⟩,
  ⟨some 44, .arith .gtr (.tmp 43) (.cst (.int .u8 57)), some (42, false)⟩,
  ⟨some 45, .pick (.tmp 42) (.cst (.bool true)) (.tmp 44), some (35, true)⟩,
  ⟨some 46, .pick (.tmp 35) (.tmp 45) (.cst (.bool false)), none⟩]
@[simp] theorem ref06_Name_r6_go (T : Tbl) (K : List Kt) (fr : Fr) (S : St) : gval T (.ops ref06_Name_r6 :: K) fr S = gval T (.ops [
  ⟨some 33, .mov (.tmp 5), none⟩,
  ⟨some 34, .un .not (.tmp 33), none⟩,
  ⟨some 35, .mov (.tmp 34), none⟩,
  ⟨some 36, .mov (.tmp 3), some (35, true)⟩,
  ⟨some 37, .arith .eql (.tmp 36) (.cst (.int .i64 0)), some (35, true)⟩,
  ⟨some 38, .mov (.tmp 37), some (35, true)⟩,
  ⟨some 39, .mov (.tmp 4), some (38, false)⟩,
  ⟨some 40, .arith .lss (.tmp 39) (.cst (.int .u8 48)), some (38, false)⟩,
  ⟨some 41, .pick (.tmp 38) (.cst (.bool true)) (.tmp 40), some (35, true)⟩,
  ⟨some 42, .mov (.tmp 41), some (35, true)⟩,
  ⟨some 43, .mov (.tmp 4), some (42, false)⟩,
  ⟨some 44, .arith .gtr (.tmp 43) (.cst (.int .u8 57)), some (42, false)⟩,
  ⟨some 45, .pick (.tmp 42) (.cst (.bool true)) (.tmp 44), some (35, true)⟩,
  ⟨some 46, .pick (.tmp 35) (.tmp 45) (.cst (.bool false)), none⟩] :: K) fr S := rfl
def ref06_Name_r7 : List POper := [
  ⟨some 2, .mov (.cst (.bool false)), none⟩]
@[simp] theorem ref06_Name_r7_go (T : Tbl) (K : List Kt) (fr : Fr) (S : St) : gval T (.ops ref06_Name_r7 :: K) fr S = gval T (.ops [
  ⟨some 2, .mov (.cst (.bool false)), none⟩] :: K) fr S := rfl
def ref06_Name_r3 : List POper := [
  ⟨some 10, .mov (.tmp 3), none⟩,
  ⟨some 11, .arith .add (.tmp 10) (.cst (.int .i64 1)), none⟩,
  ⟨some 3, .mov (.tmp 11), none⟩]
@[simp] theorem ref06_Name_r3_go (T : Tbl) (K : List Kt) (fr : Fr) (S : St) : gval T (.ops ref06_Name_r3 :: K) fr S = gval T (.ops [
  ⟨some 10, .mov (.tmp 3), none⟩,
  ⟨some 11, .arith .add (.tmp 10) (.cst (.int .i64 1)), none⟩,
  ⟨some 3, .mov (.tmp 11), none⟩] :: K) fr S := rfl
def ref06_Name_l0 : PCode :=
  (.seq (.seq (.clr [(6, 9)] (.region ref06_Name_r2)) (.cond (.tmp 9) .skip (.exit 0))) (.seq (.block 1 (.seq (.clr [(12, 15)] (.region ref06_Name_r4)) (.seq (.clr [(15, 33)] (.region ref06_Name_r5)) (.seq (.clr [(33, 46)] (.region ref06_Name_r6)) (.cond (.tmp 46) (.seq (.region ref06_Name_r7) .ret) .skip))))) (.clr [(10, 12)] (.region ref06_Name_r3))))
@[simp] theorem ref06_Name_l0_go (T : Tbl) (K : List Kt) (fr : Fr) (S : St) : gval T (.code ref06_Name_l0 :: K) fr S = gval T (.code (.seq (.seq (.clr [(6, 9)] (.region ref06_Name_r2)) (.cond (.tmp 9) .skip (.exit 0))) (.seq (.block 1 (.seq (.clr [(12, 15)] (.region ref06_Name_r4)) (.seq (.clr [(15, 33)] (.region ref06_Name_r5)) (.seq (.clr [(33, 46)] (.region ref06_Name_r6)) (.cond (.tmp 46) (.seq (.region ref06_Name_r7) .ret) .skip))))) (.clr [(10, 12)] (.region ref06_Name_r3)))) :: K) fr S := rfl
def ref06_Name_r8 : List POper := [
  ⟨some 47, .mov (.tmp 0), none⟩,
  ⟨some 48, .arith .neq (.tmp 47) (.cst (.str [])), none⟩,
  ⟨some 49, .mov (.tmp 48), none⟩,
  ⟨some 50, .mov (.tmp 0), some (49, true)⟩,
  ⟨some 51, .len true (.tmp 50), some (49, true)⟩,
  ⟨some 52, .arith .leq (.tmp 51) (.cst (.int .i64 32)), some (49, true)⟩,
  ⟨some 53, .pick (.tmp 49) (.tmp 52) (.cst (.bool false)), none⟩,
  ⟨some 2, .mov (.tmp 53), none⟩]
@[simp] theorem ref06_Name_r8_go (T : Tbl) (K : List Kt) (fr : Fr) (S : St) : gval T (.ops ref06_Name_r8 :: K) fr S = gval T (.ops [
  ⟨some 47, .mov (.tmp 0), none⟩,
  ⟨some 48, .arith .neq (.tmp 47) (.cst (.str [])), none⟩,
  ⟨some 49, .mov (.tmp 48), none⟩,
  ⟨some 50, .mov (.tmp 0), some (49, true)⟩,
  ⟨some 51, .len true (.tmp 50), some (49, true)⟩,
  ⟨some 52, .arith .leq (.tmp 51) (.cst (.int .i64 32)), some (49, true)⟩,
  ⟨some 53, .pick (.tmp 49) (.tmp 52) (.cst (.bool false)), none⟩,
  ⟨some 2, .mov (.tmp 53), none⟩] :: K) fr S := rfl
def ref06_Name : PCodeFn :=
  ⟨1, [.tmp 2],
  (.seq (.region ref06_Name_r0) (.seq (.seq (.region ref06_Name_r1) (.block 0 (.loop ref06_Name_l0))) (.seq (.clr [(47, 54)] (.region ref06_Name_r8)) .ret))), false⟩

/-! gauge/gaugeref05.May: 329 -/
def ref05_May_r0 : List POper := [
  ⟨some 1, .box true (.tmp 0), none⟩,
  ⟨some 2, .mov (.cst (.bool false)), none⟩]
@[simp] theorem ref05_May_r0_go (T : Tbl) (K : List Kt) (fr : Fr) (S : St) : gval T (.ops ref05_May_r0 :: K) fr S = gval T (.ops [
  ⟨some 1, .box true (.tmp 0), none⟩,
  ⟨some 2, .mov (.cst (.bool false)), none⟩] :: K) fr S := rfl
def ref05_May_r1 : List POper := [
  ⟨some 3, .faddr 0 (.tmp 1), none⟩,
  ⟨some 4, .load false 1 false (.tmp 3), none⟩,
  ⟨some 5, .arith .geq (.tmp 4) (.cst (.int .i64 0)), none⟩,
  ⟨some 6, .mov (.tmp 5), none⟩,
  ⟨some 7, .faddr 0 (.tmp 1), some (6, true)⟩,
  ⟨some 8, .load false 1 false (.tmp 7), some (6, true)⟩,
  ⟨some 9, .arith .leq (.tmp 8) (.cst (.int .i64 1099511627776)), some (6, true)⟩,
  ⟨some 10, .pick (.tmp 6) (.tmp 9) (.cst (.bool false)), none⟩,
  ⟨some 11, .mov (.tmp 10), none⟩,
  ⟨some 12, .faddr 1 (.tmp 1), some (11, true)⟩,
  ⟨some 13, .load false 1 false (.tmp 12), some (11, true)⟩,
  ⟨some 14, .arith .geq (.tmp 13) (.cst (.int .i64 (-1152921504606846976))), some (11, true)⟩,
  ⟨some 15, .pick (.tmp 11) (.tmp 14) (.cst (.bool false)), none⟩,
  ⟨some 16, .mov (.tmp 15), none⟩,
  ⟨some 17, .faddr 1 (.tmp 1), some (16, true)⟩,
  ⟨some 18, .load false 1 false (.tmp 17), some (16, true)⟩,
  ⟨some 19, .arith .leq (.tmp 18) (.cst (.int .i64 1152921504606846976)), some (16, true)⟩,
  ⟨some 20, .pick (.tmp 16) (.tmp 19) (.cst (.bool false)), none⟩,
  ⟨some 2, .mov (.tmp 20), none⟩]
@[simp] theorem ref05_May_r1_go (T : Tbl) (K : List Kt) (fr : Fr) (S : St) : gval T (.ops ref05_May_r1 :: K) fr S = gval T (.ops [
  ⟨some 3, .faddr 0 (.tmp 1), none⟩,
  ⟨some 4, .load false 1 false (.tmp 3), none⟩,
  ⟨some 5, .arith .geq (.tmp 4) (.cst (.int .i64 0)), none⟩,
  ⟨some 6, .mov (.tmp 5), none⟩,
  ⟨some 7, .faddr 0 (.tmp 1), some (6, true)⟩,
  ⟨some 8, .load false 1 false (.tmp 7), some (6, true)⟩,
  ⟨some 9, .arith .leq (.tmp 8) (.cst (.int .i64 1099511627776)), some (6, true)⟩,
  ⟨some 10, .pick (.tmp 6) (.tmp 9) (.cst (.bool false)), none⟩,
  ⟨some 11, .mov (.tmp 10), none⟩,
  ⟨some 12, .faddr 1 (.tmp 1), some (11, true)⟩,
  ⟨some 13, .load false 1 false (.tmp 12), some (11, true)⟩,
  ⟨some 14, .arith .geq (.tmp 13) (.cst (.int .i64 (-1152921504606846976))), some (11, true)⟩,
  ⟨some 15, .pick (.tmp 11) (.tmp 14) (.cst (.bool false)), none⟩,
  ⟨some 16, .mov (.tmp 15), none⟩,
  ⟨some 17, .faddr 1 (.tmp 1), some (16, true)⟩,
  ⟨some 18, .load false 1 false (.tmp 17), some (16, true)⟩,
  ⟨some 19, .arith .leq (.tmp 18) (.cst (.int .i64 1152921504606846976)), some (16, true)⟩,
  ⟨some 20, .pick (.tmp 16) (.tmp 19) (.cst (.bool false)), none⟩,
  ⟨some 2, .mov (.tmp 20), none⟩] :: K) fr S := rfl
def ref05_May : PCodeFn :=
  ⟨1, [.tmp 2],
  (.seq (.region ref05_May_r0) (.seq (.clr [(3, 21)] (.region ref05_May_r1)) .ret)), false⟩

/-! gauge/gaugeref06.Compare: 102 -/
def ref06_Compare_r0 : List POper := [
  ⟨some 4, .mov (.cst (.int .i64 0)), none⟩]
@[simp] theorem ref06_Compare_r0_go (T : Tbl) (K : List Kt) (fr : Fr) (S : St) : gval T (.ops ref06_Compare_r0 :: K) fr S = gval T (.ops [
  ⟨some 4, .mov (.cst (.int .i64 0)), none⟩] :: K) fr S := rfl
def ref06_Compare_r1 : List POper := [
  ⟨some 5, .mov (.cst (.int .i64 0)), none⟩]
@[simp] theorem ref06_Compare_r1_go (T : Tbl) (K : List Kt) (fr : Fr) (S : St) : gval T (.ops ref06_Compare_r1 :: K) fr S = gval T (.ops [
  ⟨some 5, .mov (.cst (.int .i64 0)), none⟩] :: K) fr S := rfl
def ref06_Compare_r2 : List POper := [
  ⟨some 8, .mov (.tmp 5), none⟩,
  ⟨some 9, .mov (.tmp 0), none⟩,
  ⟨some 10, .len false (.tmp 9), none⟩,
  ⟨some 11, .arith .lss (.tmp 8) (.tmp 10), none⟩,
  ⟨some 12, .mov (.tmp 11), none⟩,
  ⟨some 13, .mov (.tmp 5), some (12, true)⟩,
  ⟨some 14, .mov (.tmp 1), some (12, true)⟩,
  ⟨some 15, .len false (.tmp 14), some (12, true)⟩,
  ⟨some 16, .arith .lss (.tmp 13) (.tmp 15), some (12, true)⟩,
  ⟨some 17, .pick (.tmp 12) (.tmp 16) (.cst (.bool false)), none⟩]
@[simp] theorem ref06_Compare_r2_go (T : Tbl) (K : List Kt) (fr : Fr) (S : St) : gval T (.ops ref06_Compare_r2 :: K) fr S = gval T (.ops [
  ⟨some 8, .mov (.tmp 5), none⟩,
  ⟨some 9, .mov (.tmp 0), none⟩,
  ⟨some 10, .len false (.tmp 9), none⟩,
  ⟨some 11, .arith .lss (.tmp 8) (.tmp 10), none⟩,
  ⟨some 12, .mov (.tmp 11), none⟩,
  ⟨some 13, .mov (.tmp 5), some (12, true)⟩,
  ⟨some 14, .mov (.tmp 1), some (12, true)⟩,
  ⟨some 15, .len false (.tmp 14), some (12, true)⟩,
  ⟨some 16, .arith .lss (.tmp 13) (.tmp 15), some (12, true)⟩,
  ⟨some 17, .pick (.tmp 12) (.tmp 16) (.cst (.bool false)), none⟩] :: K) fr S := rfl
def ref06_Compare_r4 : List POper := [
  ⟨some 20, .mov (.tmp 0), none⟩,
  ⟨some 21, .mov (.tmp 5), none⟩,
  ⟨some 22, .iaddr 2 (.tmp 20) (.tmp 21), none⟩,
  ⟨some 23, .faddr 0 (.tmp 22), none⟩,
  ⟨some 24, .load false 1 true (.tmp 23), none⟩,
  ⟨some 25, .mov (.tmp 1), none⟩,
  ⟨some 26, .mov (.tmp 5), none⟩,
  ⟨some 27, .iaddr 2 (.tmp 25) (.tmp 26), none⟩,
  ⟨some 28, .faddr 0 (.tmp 27), none⟩,
  ⟨some 29, .load false 1 true (.tmp 28), none⟩,
  ⟨some 30, .call .pur 216 [(.tmp 24), (.tmp 29)], none⟩,
  ⟨some 6, .mov (.tmp 30), none⟩]
@[simp] theorem ref06_Compare_r4_go (T : Tbl) (K : List Kt) (fr : Fr) (S : St) : gval T (.ops ref06_Compare_r4 :: K) fr S = gval T (.ops [
  ⟨some 20, .mov (.tmp 0), none⟩,
  ⟨some 21, .mov (.tmp 5), none⟩,
  ⟨some 22, .iaddr 2 (.tmp 20) (.tmp 21), none⟩,
  ⟨some 23, .faddr 0 (.tmp 22), none⟩,
  ⟨some 24, .load false 1 true (.tmp 23), none⟩,
  ⟨some 25, .mov (.tmp 1), none⟩,
  ⟨some 26, .mov (.tmp 5), none⟩,
  ⟨some 27, .iaddr 2 (.tmp 25) (.tmp 26), none⟩,
  ⟨some 28, .faddr 0 (.tmp 27), none⟩,
  ⟨some 29, .load false 1 true (.tmp 28), none⟩,
  ⟨some 30, .call .pur 216 [(.tmp 24), (.tmp 29)], none⟩,
  ⟨some 6, .mov (.tmp 30), none⟩] :: K) fr S := rfl
def ref06_Compare_r5 : List POper := [
  ⟨some 31, .mov (.tmp 6), none⟩,
  ⟨some 32, .arith .neq (.tmp 31) (.cst (.int .i64 0)), none⟩]
@[simp] theorem ref06_Compare_r5_go (T : Tbl) (K : List Kt) (fr : Fr) (S : St) : gval T (.ops ref06_Compare_r5 :: K) fr S = gval T (.ops [
  ⟨some 31, .mov (.tmp 6), none⟩,
  ⟨some 32, .arith .neq (.tmp 31) (.cst (.int .i64 0)), none⟩] :: K) fr S := rfl
def ref06_Compare_r6 : List POper := [
  ⟨some 33, .mov (.tmp 6), none⟩,
  ⟨some 4, .mov (.tmp 33), none⟩]
@[simp] theorem ref06_Compare_r6_go (T : Tbl) (K : List Kt) (fr : Fr) (S : St) : gval T (.ops ref06_Compare_r6 :: K) fr S = gval T (.ops [
  ⟨some 33, .mov (.tmp 6), none⟩,
  ⟨some 4, .mov (.tmp 33), none⟩] :: K) fr S := rfl
def ref06_Compare_r7 : List POper := [
  ⟨some 34, .mov (.tmp 0), none⟩,
  ⟨some 35, .mov (.tmp 5), none⟩,
  ⟨some 36, .iaddr 2 (.tmp 34) (.tmp 35), none⟩,
  ⟨some 37, .faddr 1 (.tmp 36), none⟩,
  ⟨some 38, .load false 1 true (.tmp 37), none⟩,
  ⟨some 39, .mov (.tmp 1), none⟩,
  ⟨some 40, .mov (.tmp 5), none⟩,
  ⟨some 41, .iaddr 2 (.tmp 39) (.tmp 40), none⟩,
  ⟨some 42, .faddr 1 (.tmp 41), none⟩,
  ⟨some 43, .load false 1 true (.tmp 42), none⟩,
  ⟨some 44, .call .pur 216 [(.tmp 38), (.tmp 43)], none⟩,
  ⟨some 7, .mov (.tmp 44), none⟩]
@[simp] theorem ref06_Compare_r7_go (T : Tbl) (K : List Kt) (fr : Fr) (S : St) : gval T (.ops ref06_Compare_r7 :: K) fr S = gval T (.ops [
  ⟨some 34, .mov (.tmp 0), none⟩,
  ⟨some 35, .mov (.tmp 5), none⟩,
  ⟨some 36, .iaddr 2 (.tmp 34) (.tmp 35), none⟩,
  ⟨some 37, .faddr 1 (.tmp 36), none⟩,
  ⟨some 38, .load false 1 true (.tmp 37), none⟩,
  ⟨some 39, .mov (.tmp 1), none⟩,
  ⟨some 40, .mov (.tmp 5), none⟩,
  ⟨some 41, .iaddr 2 (.tmp 39) (.tmp 40), none⟩,
  ⟨some 42, .faddr 1 (.tmp 41), none⟩,
  ⟨some 43, .load false 1 true (.tmp 42), none⟩,
  ⟨some 44, .call .pur 216 [(.tmp 38), (.tmp 43)], none⟩,
  ⟨some 7, .mov (.tmp 44), none⟩] :: K) fr S := rfl
def ref06_Compare_r8 : List POper := [
  ⟨some 45, .mov (.tmp 7), none⟩,
  ⟨some 46, .arith .neq (.tmp 45) (.cst (.int .i64 0)), none⟩]
@[simp] theorem ref06_Compare_r8_go (T : Tbl) (K : List Kt) (fr : Fr) (S : St) : gval T (.ops ref06_Compare_r8 :: K) fr S = gval T (.ops [
  ⟨some 45, .mov (.tmp 7), none⟩,
  ⟨some 46, .arith .neq (.tmp 45) (.cst (.int .i64 0)), none⟩] :: K) fr S := rfl
def ref06_Compare_r9 : List POper := [
  ⟨some 47, .mov (.tmp 7), none⟩,
  ⟨some 4, .mov (.tmp 47), none⟩]
@[simp] theorem ref06_Compare_r9_go (T : Tbl) (K : List Kt) (fr : Fr) (S : St) : gval T (.ops ref06_Compare_r9 :: K) fr S = gval T (.ops [
  ⟨some 47, .mov (.tmp 7), none⟩,
  ⟨some 4, .mov (.tmp 47), none⟩] :: K) fr S := rfl
def ref06_Compare_r3 : List POper := [
  ⟨some 18, .mov (.tmp 5), none⟩,
  ⟨some 19, .arith .add (.tmp 18) (.cst (.int .i64 1)), none⟩,
  ⟨some 5, .mov (.tmp 19), none⟩]
@[simp] theorem ref06_Compare_r3_go (T : Tbl) (K : List Kt) (fr : Fr) (S : St) : gval T (.ops ref06_Compare_r3 :: K) fr S = gval T (.ops [
  ⟨some 18, .mov (.tmp 5), none⟩,
  ⟨some 19, .arith .add (.tmp 18) (.cst (.int .i64 1)), none⟩,
  ⟨some 5, .mov (.tmp 19), none⟩] :: K) fr S := rfl
def ref06_Compare_l0 : PCode :=
  (.seq (.seq (.clr [(8, 17)] (.region ref06_Compare_r2)) (.cond (.tmp 17) .skip (.exit 0))) (.seq (.block 1 (.seq (.seq (.clr [(20, 31)] (.region ref06_Compare_r4)) (.seq (.clr [(31, 32)] (.region ref06_Compare_r5)) (.cond (.tmp 32) (.seq (.clr [(33, 34)] (.region ref06_Compare_r6)) .ret) .skip))) (.seq (.clr [(34, 45)] (.region ref06_Compare_r7)) (.seq (.clr [(45, 46)] (.region ref06_Compare_r8)) (.cond (.tmp 46) (.seq (.clr [(47, 48)] (.region ref06_Compare_r9)) .ret) .skip))))) (.clr [(18, 20)] (.region ref06_Compare_r3))))
@[simp] theorem ref06_Compare_l0_go (T : Tbl) (K : List Kt) (fr : Fr) (S : St) : gval T (.code ref06_Compare_l0 :: K) fr S = gval T (.code (.seq (.seq (.clr [(8, 17)] (.region ref06_Compare_r2)) (.cond (.tmp 17) .skip (.exit 0))) (.seq (.block 1 (.seq (.seq (.clr [(20, 31)] (.region ref06_Compare_r4)) (.seq (.clr [(31, 32)] (.region ref06_Compare_r5)) (.cond (.tmp 32) (.seq (.clr [(33, 34)] (.region ref06_Compare_r6)) .ret) .skip))) (.seq (.clr [(34, 45)] (.region ref06_Compare_r7)) (.seq (.clr [(45, 46)] (.region ref06_Compare_r8)) (.cond (.tmp 46) (.seq (.clr [(47, 48)] (.region ref06_Compare_r9)) .ret) .skip))))) (.clr [(18, 20)] (.region ref06_Compare_r3)))) :: K) fr S := rfl
def ref06_Compare_r10 : List POper := [
  ⟨some 48, .mov (.tmp 0), none⟩,
  ⟨some 49, .len false (.tmp 48), none⟩,
  ⟨some 50, .mov (.tmp 1), none⟩,
  ⟨some 51, .len false (.tmp 50), none⟩,
  ⟨some 52, .arith .lss (.tmp 49) (.tmp 51), none⟩]
@[simp] theorem ref06_Compare_r10_go (T : Tbl) (K : List Kt) (fr : Fr) (S : St) : gval T (.ops ref06_Compare_r10 :: K) fr S = gval T (.ops [
  ⟨some 48, .mov (.tmp 0), none⟩,
  ⟨some 49, .len false (.tmp 48), none⟩,
  ⟨some 50, .mov (.tmp 1), none⟩,
  ⟨some 51, .len false (.tmp 50), none⟩,
  ⟨some 52, .arith .lss (.tmp 49) (.tmp 51), none⟩] :: K) fr S := rfl
def ref06_Compare_r11 : List POper := [
  ⟨some 4, .mov (.cst (.int .i64 (-1))), none⟩]
@[simp] theorem ref06_Compare_r11_go (T : Tbl) (K : List Kt) (fr : Fr) (S : St) : gval T (.ops ref06_Compare_r11 :: K) fr S = gval T (.ops [
  ⟨some 4, .mov (.cst (.int .i64 (-1))), none⟩] :: K) fr S := rfl
def ref06_Compare_r12 : List POper := [
  ⟨some 53, .mov (.tmp 0), none⟩,
  ⟨some 54, .len false (.tmp 53), none⟩,
  ⟨some 55, .mov (.tmp 1), none⟩,
  ⟨some 56, .len false (.tmp 55), none⟩,
  ⟨some 57, .arith .gtr (.tmp 54) (.tmp 56), none⟩]
@[simp] theorem ref06_Compare_r12_go (T : Tbl) (K : List Kt) (fr : Fr) (S : St) : gval T (.ops ref06_Compare_r12 :: K) fr S = gval T (.ops [
  ⟨some 53, .mov (.tmp 0), none⟩,
  ⟨some 54, .len false (.tmp 53), none⟩,
  ⟨some 55, .mov (.tmp 1), none⟩,
  ⟨some 56, .len false (.tmp 55), none⟩,
  ⟨some 57, .arith .gtr (.tmp 54) (.tmp 56), none⟩] :: K) fr S := rfl
def ref06_Compare_r13 : List POper := [
  ⟨some 4, .mov (.cst (.int .i64 1)), none⟩]
@[simp] theorem ref06_Compare_r13_go (T : Tbl) (K : List Kt) (fr : Fr) (S : St) : gval T (.ops ref06_Compare_r13 :: K) fr S = gval T (.ops [
  ⟨some 4, .mov (.cst (.int .i64 1)), none⟩] :: K) fr S := rfl
def ref06_Compare_r14 : List POper := [
  ⟨some 4, .mov (.cst (.int .i64 0)), none⟩]
@[simp] theorem ref06_Compare_r14_go (T : Tbl) (K : List Kt) (fr : Fr) (S : St) : gval T (.ops ref06_Compare_r14 :: K) fr S = gval T (.ops [
  ⟨some 4, .mov (.cst (.int .i64 0)), none⟩] :: K) fr S := rfl
def ref06_Compare : PCodeFn :=
  ⟨2, [.tmp 4],
  (.seq (.region ref06_Compare_r0) (.seq (.seq (.region ref06_Compare_r1) (.block 0 (.loop ref06_Compare_l0))) (.seq (.seq (.clr [(48, 52)] (.region ref06_Compare_r10)) (.cond (.tmp 52) (.seq (.region ref06_Compare_r11) .ret) .skip)) (.seq (.seq (.clr [(53, 57)] (.region ref06_Compare_r12)) (.cond (.tmp 57) (.seq (.region ref06_Compare_r13) .ret) .skip)) (.seq (.region ref06_Compare_r14) .ret))))), false⟩

/-! gauge/frame.GetUint: 110 -/
def frame_GetUint_r0 : List POper := [
  ⟨some 4, .mov (.cst (.int .i64 0)), none⟩,
  ⟨some 5, .mov (.cst (.int .i64 0)), none⟩,
  ⟨some 6, .mov (.cst (.int .i64 0)), none⟩]
@[simp] theorem frame_GetUint_r0_go (T : Tbl) (K : List Kt) (fr : Fr) (S : St) : gval T (.ops frame_GetUint_r0 :: K) fr S = gval T (.ops [
  ⟨some 4, .mov (.cst (.int .i64 0)), none⟩,
  ⟨some 5, .mov (.cst (.int .i64 0)), none⟩,
  ⟨some 6, .mov (.cst (.int .i64 0)), none⟩] :: K) fr S := rfl
def frame_GetUint_r1 : List POper := [
  ⟨some 10, .mov (.tmp 1), none⟩,
  ⟨some 11, .arith .lss (.tmp 10) (.cst (.int .i64 0)), none⟩,
  ⟨some 12, .mov (.tmp 11), none⟩,
  ⟨some 13, .mov (.tmp 1), some (12, false)⟩,
  ⟨some 14, .mov (.tmp 0), some (12, false)⟩,
  ⟨some 15, .len false (.tmp 14), some (12, false)⟩,
  ⟨some 16, .arith .gtr (.tmp 13) (.tmp 15), some (12, false)⟩,
  ⟨some 17, .pick (.tmp 12) (.cst (.bool true)) (.tmp 16), none⟩]
@[simp] theorem frame_GetUint_r1_go (T : Tbl) (K : List Kt) (fr : Fr) (S : St) : gval T (.ops frame_GetUint_r1 :: K) fr S = gval T (.ops [
  ⟨some 10, .mov (.tmp 1), none⟩,
  ⟨some 11, .arith .lss (.tmp 10) (.cst (.int .i64 0)), none⟩,
  ⟨some 12, .mov (.tmp 11), none⟩,
  ⟨some 13, .mov (.tmp 1), some (12, false)⟩,
  ⟨some 14, .mov (.tmp 0), some (12, false)⟩,
  ⟨some 15, .len false (.tmp 14), some (12, false)⟩,
  ⟨some 16, .arith .gtr (.tmp 13) (.tmp 15), some (12, false)⟩,
  ⟨some 17, .pick (.tmp 12) (.cst (.bool true)) (.tmp 16), none⟩] :: K) fr S := rfl
def frame_GetUint_r2 : List POper := [
  ⟨some 4, .mov (.cst (.int .i64 0)), none⟩,
  ⟨some 5, .mov (.cst (.int .i64 0)), none⟩,
  ⟨some 6, .mov (.cst (.int .i64 2)), none⟩]
@[simp] theorem frame_GetUint_r2_go (T : Tbl) (K : List Kt) (fr : Fr) (S : St) : gval T (.ops frame_GetUint_r2 :: K) fr S = gval T (.ops [
  ⟨some 4, .mov (.cst (.int .i64 0)), none⟩,
  ⟨some 5, .mov (.cst (.int .i64 0)), none⟩,
  ⟨some 6, .mov (.cst (.int .i64 2)), none⟩] :: K) fr S := rfl
def frame_GetUint_r3 : List POper := [
  ⟨some 7, .mov (.cst (.int .u64 0)), none⟩]
@[simp] theorem frame_GetUint_r3_go (T : Tbl) (K : List Kt) (fr : Fr) (S : St) : gval T (.ops frame_GetUint_r3 :: K) fr S = gval T (.ops [
  ⟨some 7, .mov (.cst (.int .u64 0)), none⟩] :: K) fr S := rfl
def frame_GetUint_r4 : List POper := [
  ⟨some 18, .mov (.tmp 0), none⟩,
  ⟨some 19, .mov (.tmp 1), none⟩,
  ⟨some 20, .slc 1 (some (.tmp 19)) none (.tmp 18), none⟩,
  ⟨some 21, .len false (.tmp 20), none⟩,
  ⟨some 22, .mov (.cst (.int .i64 0)), none⟩]
@[simp] theorem frame_GetUint_r4_go (T : Tbl) (K : List Kt) (fr : Fr) (S : St) : gval T (.ops frame_GetUint_r4 :: K) fr S = gval T (.ops [
  ⟨some 18, .mov (.tmp 0), none⟩,
  ⟨some 19, .mov (.tmp 1), none⟩,
  ⟨some 20, .slc 1 (some (.tmp 19)) none (.tmp 18), none⟩,
  ⟨some 21, .len false (.tmp 20), none⟩,
  ⟨some 22, .mov (.cst (.int .i64 0)), none⟩] :: K) fr S := rfl
def frame_GetUint_r5 : List POper := [
  ⟨some 23, .arith .lss (.tmp 22) (.tmp 21), none⟩]
@[simp] theorem frame_GetUint_r5_go (T : Tbl) (K : List Kt) (fr : Fr) (S : St) : gval T (.ops frame_GetUint_r5 :: K) fr S = gval T (.ops [
  ⟨some 23, .arith .lss (.tmp 22) (.tmp 21), none⟩] :: K) fr S := rfl
def frame_GetUint_r6 : List POper := [
  ⟨some 24, .mov (.tmp 22), none⟩,
  ⟨some 25, .iaddr 1 (.tmp 20) (.tmp 22), none⟩,
  ⟨some 26, .load false 1 false (.tmp 25), none⟩,
  ⟨some 8, .mov (.tmp 24), none⟩,
  ⟨some 9, .mov (.tmp 26), none⟩]
@[simp] theorem frame_GetUint_r6_go (T : Tbl) (K : List Kt) (fr : Fr) (S : St) : gval T (.ops frame_GetUint_r6 :: K) fr S = gval T (.ops [
  ⟨some 24, .mov (.tmp 22), none⟩,
  ⟨some 25, .iaddr 1 (.tmp 20) (.tmp 22), none⟩,
  ⟨some 26, .load false 1 false (.tmp 25), none⟩,
  ⟨some 8, .mov (.tmp 24), none⟩,
  ⟨some 9, .mov (.tmp 26), none⟩] :: K) fr S := rfl
def frame_GetUint_r7 : List POper := [
  ⟨some 27, .mov (.tmp 8), none⟩,
  ⟨some 28, .arith .eql (.tmp 27) (.cst (.int .i64 8)), none⟩,
  ⟨some 29, .mov (.tmp 28), none⟩,
  ⟨some 30, .mov (.tmp 9), some (29, true)⟩,
  ⟨some 31, .arith .gtr (.tmp 30) (.cst (.int .u8 127)), some (29, true)⟩,
  ⟨some 32, .pick (.tmp 29) (.tmp 31) (.cst (.bool false)), none⟩,
  ⟨some 33, .mov (.tmp 32), none⟩,
  ⟨some 34, .mov (.tmp 8), some (33, false)⟩,
  ⟨some 35, .arith .gtr (.tmp 34) (.cst (.int .i64 0)), some (33, false)⟩,
  ⟨some 36, .mov (.tmp 35), some (33, false)⟩,
  ⟨some 37, .mov (.tmp 9), some (36, true)⟩,
  ⟨some 38, .arith .eql (.tmp 37) (.cst (.int .u8 0)), some (36, true)⟩,
  ⟨some 39, .pick (.tmp 36) (.tmp 38) (.cst (.bool false)), some (33, false)⟩,
  ⟨some 40, .pick (.tmp 33) (.cst (.bool true)) (.tmp 39), none⟩]
@[simp] theorem frame_GetUint_r7_go (T : Tbl) (K : List Kt) (fr : Fr) (S : St) : gval T (.ops frame_GetUint_r7 :: K) fr S = gval T (.ops [
  ⟨some 27, .mov (.tmp 8), none⟩,
  ⟨some 28, .arith .eql (.tmp 27) (.cst (.int .i64 8)), none⟩,
  ⟨some 29, .mov (.tmp 28), none⟩,
  ⟨some 30, .mov (.tmp 9), some (29, true)⟩,
  ⟨some 31, .arith .gtr (.tmp 30) (.cst (.int .u8 127)), some (29, true)⟩,
  ⟨some 32, .pick (.tmp 29) (.tmp 31) (.cst (.bool false)), none⟩,
  ⟨some 33, .mov (.tmp 32), none⟩,
  ⟨some 34, .mov (.tmp 8), some (33, false)⟩,
  ⟨some 35, .arith .gtr (.tmp 34) (.cst (.int .i64 0)), some (33, false)⟩,
  ⟨some 36, .mov (.tmp 35), some (33, false)⟩,
  ⟨some 37, .mov (.tmp 9), some (36, true)⟩,
  ⟨some 38, .arith .eql (.tmp 37) (.cst (.int .u8 0)), some (36, true)⟩,
  ⟨some 39, .pick (.tmp 36) (.tmp 38) (.cst (.bool false)), some (33, false)⟩,
  ⟨some 40, .pick (.tmp 33) (.cst (.bool true)) (.tmp 39), none⟩] :: K) fr S := rfl
def frame_GetUint_r8 : List POper := [
  ⟨some 4, .mov (.cst (.int .i64 0)), none⟩,
  ⟨some 5, .mov (.cst (.int .i64 0)), none⟩,
  ⟨some 6, .mov (.cst (.int .i64 5)), none⟩]
@[simp] theorem frame_GetUint_r8_go (T : Tbl) (K : List Kt) (fr : Fr) (S : St) : gval T (.ops frame_GetUint_r8 :: K) fr S = gval T (.ops [
  ⟨some 4, .mov (.cst (.int .i64 0)), none⟩,
  ⟨some 5, .mov (.cst (.int .i64 0)), none⟩,
  ⟨some 6, .mov (.cst (.int .i64 5)), none⟩] :: K) fr S := rfl
def frame_GetUint_r9 : List POper := [
  ⟨some 41, .mov (.tmp 7), none⟩,
  ⟨some 42, .mov (.tmp 9), none⟩,
  ⟨some 43, .arith .and (.tmp 42) (.cst (.int .u8 127)), none⟩,
  ⟨some 44, .toInt .u64 (.tmp 43), none⟩,
  ⟨some 45, .mov (.tmp 8), none⟩,
  ⟨some 46, .arith .mul (.cst (.int .i64 7)) (.tmp 45), none⟩,
  ⟨some 47, .arith .shl (.tmp 44) (.tmp 46), none⟩,
  ⟨some 48, .arith .or (.tmp 41) (.tmp 47), none⟩,
  ⟨some 7, .mov (.tmp 48), none⟩]
@[simp] theorem frame_GetUint_r9_go (T : Tbl) (K : List Kt) (fr : Fr) (S : St) : gval T (.ops frame_GetUint_r9 :: K) fr S = gval T (.ops [
  ⟨some 41, .mov (.tmp 7), none⟩,
  ⟨some 42, .mov (.tmp 9), none⟩,
  ⟨some 43, .arith .and (.tmp 42) (.cst (.int .u8 127)), none⟩,
  ⟨some 44, .toInt .u64 (.tmp 43), none⟩,
  ⟨some 45, .mov (.tmp 8), none⟩,
  ⟨some 46, .arith .mul (.cst (.int .i64 7)) (.tmp 45), none⟩,
  ⟨some 47, .arith .shl (.tmp 44) (.tmp 46), none⟩,
  ⟨some 48, .arith .or (.tmp 41) (.tmp 47), none⟩,
  ⟨some 7, .mov (.tmp 48), none⟩] :: K) fr S := rfl
def frame_GetUint_r10 : List POper := [
  ⟨some 49, .mov (.tmp 9), none⟩,
  ⟨some 50, .arith .lss (.tmp 49) (.cst (.int .u8 128)), none⟩]
@[simp] theorem frame_GetUint_r10_go (T : Tbl) (K : List Kt) (fr : Fr) (S : St) : gval T (.ops frame_GetUint_r10 :: K) fr S = gval T (.ops [
  ⟨some 49, .mov (.tmp 9), none⟩,
  ⟨some 50, .arith .lss (.tmp 49) (.cst (.int .u8 128)), none⟩] :: K) fr S := rfl
def frame_GetUint_r11 : List POper := [
  ⟨some 51, .mov (.tmp 7), none⟩,
  ⟨some 52, .toInt .i64 (.tmp 51), none⟩,
  ⟨some 53, .mov (.tmp 1), none⟩,
  ⟨some 54, .mov (.tmp 8), none⟩,
  ⟨some 55, .arith .add (.tmp 53) (.tmp 54), none⟩,
  ⟨some 56, .arith .add (.tmp 55) (.cst (.int .i64 1)), none⟩,
  ⟨some 4, .mov (.tmp 52), none⟩,
  ⟨some 5, .mov (.tmp 56), none⟩,
  ⟨some 6, .mov (.cst (.int .i64 0)), none⟩]
@[simp] theorem frame_GetUint_r11_go (T : Tbl) (K : List Kt) (fr : Fr) (S : St) : gval T (.ops frame_GetUint_r11 :: K) fr S = gval T (.ops [
  ⟨some 51, .mov (.tmp 7), none⟩,
  ⟨some 52, .toInt .i64 (.tmp 51), none⟩,
  ⟨some 53, .mov (.tmp 1), none⟩,
  ⟨some 54, .mov (.tmp 8), none⟩,
  ⟨some 55, .arith .add (.tmp 53) (.tmp 54), none⟩,
  ⟨some 56, .arith .add (.tmp 55) (.cst (.int .i64 1)), none⟩,
  ⟨some 4, .mov (.tmp 52), none⟩,
  ⟨some 5, .mov (.tmp 56), none⟩,
  ⟨some 6, .mov (.cst (.int .i64 0)), none⟩] :: K) fr S := rfl
def frame_GetUint_r12 : List POper := [
  ⟨some 57, .arith .add (.tmp 22) (.cst (.int .i64 1)), none⟩,
  ⟨some 22, .mov (.tmp 57), none⟩]
@[simp] theorem frame_GetUint_r12_go (T : Tbl) (K : List Kt) (fr : Fr) (S : St) : gval T (.ops frame_GetUint_r12 :: K) fr S = gval T (.ops [
  ⟨some 57, .arith .add (.tmp 22) (.cst (.int .i64 1)), none⟩,
  ⟨some 22, .mov (.tmp 57), none⟩] :: K) fr S := rfl
def frame_GetUint_l0 : PCode :=
  (.seq (.region frame_GetUint_r5) (.seq (.cond (.tmp 23) .skip (.exit 0)) (.seq (.block 1 (.seq (.clr [(24, 27)] (.region frame_GetUint_r6)) (.seq (.seq (.clr [(27, 40)] (.region frame_GetUint_r7)) (.cond (.tmp 40) (.seq (.region frame_GetUint_r8) .ret) .skip)) (.seq (.clr [(41, 49)] (.region frame_GetUint_r9)) (.seq (.clr [(49, 50)] (.region frame_GetUint_r10)) (.cond (.tmp 50) (.seq (.clr [(51, 57)] (.region frame_GetUint_r11)) .ret) .skip)))))) (.clr [(57, 58)] (.region frame_GetUint_r12)))))
@[simp] theorem frame_GetUint_l0_go (T : Tbl) (K : List Kt) (fr : Fr) (S : St) : gval T (.code frame_GetUint_l0 :: K) fr S = gval T (.code (.seq (.region frame_GetUint_r5) (.seq (.cond (.tmp 23) .skip (.exit 0)) (.seq (.block 1 (.seq (.clr [(24, 27)] (.region frame_GetUint_r6)) (.seq (.seq (.clr [(27, 40)] (.region frame_GetUint_r7)) (.cond (.tmp 40) (.seq (.region frame_GetUint_r8) .ret) .skip)) (.seq (.clr [(41, 49)] (.region frame_GetUint_r9)) (.seq (.clr [(49, 50)] (.region frame_GetUint_r10)) (.cond (.tmp 50) (.seq (.clr [(51, 57)] (.region frame_GetUint_r11)) .ret) .skip)))))) (.clr [(57, 58)] (.region frame_GetUint_r12))))) :: K) fr S := rfl
def frame_GetUint_r13 : List POper := [
  ⟨some 4, .mov (.cst (.int .i64 0)), none⟩,
  ⟨some 5, .mov (.cst (.int .i64 0)), none⟩,
  ⟨some 6, .mov (.cst (.int .i64 4)), none⟩]
@[simp] theorem frame_GetUint_r13_go (T : Tbl) (K : List Kt) (fr : Fr) (S : St) : gval T (.ops frame_GetUint_r13 :: K) fr S = gval T (.ops [
  ⟨some 4, .mov (.cst (.int .i64 0)), none⟩,
  ⟨some 5, .mov (.cst (.int .i64 0)), none⟩,
  ⟨some 6, .mov (.cst (.int .i64 4)), none⟩] :: K) fr S := rfl
def frame_GetUint : PCodeFn :=
  ⟨2, [.tmp 4, .tmp 5, .tmp 6],
  (.seq (.region frame_GetUint_r0) (.seq (.seq (.clr [(10, 17)] (.region frame_GetUint_r1)) (.cond (.tmp 17) (.seq (.region frame_GetUint_r2) .ret) .skip)) (.seq (.region frame_GetUint_r3) (.seq (.seq (.clr [(18, 20)] (.region frame_GetUint_r4)) (.block 0 (.loop frame_GetUint_l0))) (.seq (.region frame_GetUint_r13) .ret))))), false⟩

/-! gauge/frame.GetText: 111 -/
def frame_GetText_r0 : List POper := [
  ⟨some 4, .mov (.cst (.str [])), none⟩,
  ⟨some 5, .mov (.cst (.int .i64 0)), none⟩,
  ⟨some 6, .mov (.cst (.int .i64 0)), none⟩]
@[simp] theorem frame_GetText_r0_go (T : Tbl) (K : List Kt) (fr : Fr) (S : St) : gval T (.ops frame_GetText_r0 :: K) fr S = gval T (.ops [
  ⟨some 4, .mov (.cst (.str [])), none⟩,
  ⟨some 5, .mov (.cst (.int .i64 0)), none⟩,
  ⟨some 6, .mov (.cst (.int .i64 0)), none⟩] :: K) fr S := rfl
def frame_GetText_r1 : List POper := [
  ⟨some 11, .mov (.tmp 0), none⟩,
  ⟨some 12, .mov (.tmp 1), none⟩,
  ⟨some 13, .call .std 110 [(.tmp 11), (.tmp 12)], none⟩,
  ⟨some 10, .mov (.tmp 13), none⟩,
  ⟨some 14, .extract 0 (.tmp 10), none⟩,
  ⟨some 15, .extract 1 (.tmp 10), none⟩,
  ⟨some 16, .extract 2 (.tmp 10), none⟩,
  ⟨some 7, .mov (.tmp 14), none⟩,
  ⟨some 8, .mov (.tmp 15), none⟩,
  ⟨some 9, .mov (.tmp 16), none⟩]
@[simp] theorem frame_GetText_r1_go (T : Tbl) (K : List Kt) (fr : Fr) (S : St) : gval T (.ops frame_GetText_r1 :: K) fr S = gval T (.ops [
  ⟨some 11, .mov (.tmp 0), none⟩,
  ⟨some 12, .mov (.tmp 1), none⟩,
  ⟨some 13, .call .std 110 [(.tmp 11), (.tmp 12)], none⟩,
  ⟨some 10, .mov (.tmp 13), none⟩,
  ⟨some 14, .extract 0 (.tmp 10), none⟩,
  ⟨some 15, .extract 1 (.tmp 10), none⟩,
  ⟨some 16, .extract 2 (.tmp 10), none⟩,
  ⟨some 7, .mov (.tmp 14), none⟩,
  ⟨some 8, .mov (.tmp 15), none⟩,
  ⟨some 9, .mov (.tmp 16), none⟩] :: K) fr S := rfl
def frame_GetText_r2 : List POper := [
  ⟨some 18, .mov (.tmp 9), none⟩,
  ⟨some 19, .arith .neq (.tmp 18) (.cst (.int .i64 0)), none⟩,
  ⟨some 17, .mov (.tmp 19), none⟩]
@[simp] theorem frame_GetText_r2_go (T : Tbl) (K : List Kt) (fr : Fr) (S : St) : gval T (.ops frame_GetText_r2 :: K) fr S = gval T (.ops [
  ⟨some 18, .mov (.tmp 9), none⟩,
  ⟨some 19, .arith .neq (.tmp 18) (.cst (.int .i64 0)), none⟩,
  ⟨some 17, .mov (.tmp 19), none⟩] :: K) fr S := rfl
def frame_GetText_r3 : List POper := [
  ⟨some 20, .mov (.tmp 9), none⟩,
  ⟨some 4, .mov (.cst (.str [])), none⟩,
  ⟨some 5, .mov (.cst (.int .i64 0)), none⟩,
  ⟨some 6, .mov (.tmp 20), none⟩]
@[simp] theorem frame_GetText_r3_go (T : Tbl) (K : List Kt) (fr : Fr) (S : St) : gval T (.ops frame_GetText_r3 :: K) fr S = gval T (.ops [
  ⟨some 20, .mov (.tmp 9), none⟩,
  ⟨some 4, .mov (.cst (.str [])), none⟩,
  ⟨some 5, .mov (.cst (.int .i64 0)), none⟩,
  ⟨some 6, .mov (.tmp 20), none⟩] :: K) fr S := rfl
def frame_GetText_r4 : List POper := [
  ⟨some 22, .mov (.tmp 7), none⟩,
  ⟨some 23, .arith .gtr (.tmp 22) (.cst (.int .i64 65535)), none⟩,
  ⟨some 21, .mov (.tmp 23), none⟩]
@[simp] theorem frame_GetText_r4_go (T : Tbl) (K : List Kt) (fr : Fr) (S : St) : gval T (.ops frame_GetText_r4 :: K) fr S = gval T (.ops [
  ⟨some 22, .mov (.tmp 7), none⟩,
  ⟨some 23, .arith .gtr (.tmp 22) (.cst (.int .i64 65535)), none⟩,
  ⟨some 21, .mov (.tmp 23), none⟩] :: K) fr S := rfl
def frame_GetText_r5 : List POper := [
  ⟨some 4, .mov (.cst (.str [])), none⟩,
  ⟨some 5, .mov (.cst (.int .i64 0)), none⟩,
  ⟨some 6, .mov (.cst (.int .i64 3)), none⟩]
@[simp] theorem frame_GetText_r5_go (T : Tbl) (K : List Kt) (fr : Fr) (S : St) : gval T (.ops frame_GetText_r5 :: K) fr S = gval T (.ops [
  ⟨some 4, .mov (.cst (.str [])), none⟩,
  ⟨some 5, .mov (.cst (.int .i64 0)), none⟩,
  ⟨some 6, .mov (.cst (.int .i64 3)), none⟩] :: K) fr S := rfl
def frame_GetText_r6 : List POper := [
  ⟨some 25, .mov (.tmp 7), none⟩,
  ⟨some 26, .mov (.tmp 0), none⟩,
  ⟨some 27, .len false (.tmp 26), none⟩,
  ⟨some 28, .mov (.tmp 8), none⟩,
  ⟨some 29, .arith .sub (.tmp 27) (.tmp 28), none⟩,
  ⟨some 30, .arith .gtr (.tmp 25) (.tmp 29), none⟩,
  ⟨some 24, .mov (.tmp 30), none⟩]
@[simp] theorem frame_GetText_r6_go (T : Tbl) (K : List Kt) (fr : Fr) (S : St) : gval T (.ops frame_GetText_r6 :: K) fr S = gval T (.ops [
  ⟨some 25, .mov (.tmp 7), none⟩,
  ⟨some 26, .mov (.tmp 0), none⟩,
  ⟨some 27, .len false (.tmp 26), none⟩,
  ⟨some 28, .mov (.tmp 8), none⟩,
  ⟨some 29, .arith .sub (.tmp 27) (.tmp 28), none⟩,
  ⟨some 30, .arith .gtr (.tmp 25) (.tmp 29), none⟩,
  ⟨some 24, .mov (.tmp 30), none⟩] :: K) fr S := rfl
def frame_GetText_r7 : List POper := [
  ⟨some 4, .mov (.cst (.str [])), none⟩,
  ⟨some 5, .mov (.cst (.int .i64 0)), none⟩,
  ⟨some 6, .mov (.cst (.int .i64 4)), none⟩]
@[simp] theorem frame_GetText_r7_go (T : Tbl) (K : List Kt) (fr : Fr) (S : St) : gval T (.ops frame_GetText_r7 :: K) fr S = gval T (.ops [
  ⟨some 4, .mov (.cst (.str [])), none⟩,
  ⟨some 5, .mov (.cst (.int .i64 0)), none⟩,
  ⟨some 6, .mov (.cst (.int .i64 4)), none⟩] :: K) fr S := rfl
def frame_GetText_r8 : List POper := [
  ⟨some 31, .mov (.tmp 0), none⟩,
  ⟨some 32, .mov (.tmp 8), none⟩,
  ⟨some 33, .mov (.tmp 8), none⟩,
  ⟨some 34, .mov (.tmp 7), none⟩,
  ⟨some 35, .arith .add (.tmp 33) (.tmp 34), none⟩,
  ⟨some 36, .slc 1 (some (.tmp 32)) (some (.tmp 35)) (.tmp 31), none⟩,
  ⟨some 37, .toStr (.tmp 36), none⟩,
  ⟨some 38, .mov (.tmp 8), none⟩,
  ⟨some 39, .mov (.tmp 7), none⟩,
  ⟨some 40, .arith .add (.tmp 38) (.tmp 39), none⟩,
  ⟨some 4, .mov (.tmp 37), none⟩,
  ⟨some 5, .mov (.tmp 40), none⟩,
  ⟨some 6, .mov (.cst (.int .i64 0)), none⟩]
@[simp] theorem frame_GetText_r8_go (T : Tbl) (K : List Kt) (fr : Fr) (S : St) : gval T (.ops frame_GetText_r8 :: K) fr S = gval T (.ops [
  ⟨some 31, .mov (.tmp 0), none⟩,
  ⟨some 32, .mov (.tmp 8), none⟩,
  ⟨some 33, .mov (.tmp 8), none⟩,
  ⟨some 34, .mov (.tmp 7), none⟩,
  ⟨some 35, .arith .add (.tmp 33) (.tmp 34), none⟩,
  ⟨some 36, .slc 1 (some (.tmp 32)) (some (.tmp 35)) (.tmp 31), none⟩,
  ⟨some 37, .toStr (.tmp 36), none⟩,
  ⟨some 38, .mov (.tmp 8), none⟩,
  ⟨some 39, .mov (.tmp 7), none⟩,
  ⟨some 40, .arith .add (.tmp 38) (.tmp 39), none⟩,
  ⟨some 4, .mov (.tmp 37), none⟩,
  ⟨some 5, .mov (.tmp 40), none⟩,
  ⟨some 6, .mov (.cst (.int .i64 0)), none⟩] :: K) fr S := rfl
def frame_GetText : PCodeFn :=
  ⟨2, [.tmp 4, .tmp 5, .tmp 6],
  (.seq (.region frame_GetText_r0) (.seq (.clr [(10, 17)] (.region frame_GetText_r1)) (.seq (.block 0 (.seq (.clr [(18, 20)] (.region frame_GetText_r2)) (.cond (.tmp 17) (.seq (.clr [(20, 21)] (.region frame_GetText_r3)) .ret) (.seq (.clr [(22, 24)] (.region frame_GetText_r4)) (.cond (.tmp 21) (.seq (.region frame_GetText_r5) .ret) (.seq (.clr [(25, 31)] (.region frame_GetText_r6)) (.cond (.tmp 24) (.seq (.region frame_GetText_r7) .ret) .skip))))))) (.seq (.clr [(31, 41)] (.region frame_GetText_r8)) .ret)))), false⟩

/-! gauge/gaugeref11.numbers: 399 -/
def ref11_numbers_r0 : List POper := [
  ⟨some 6, .mov (.cst .nils), none⟩,
  ⟨some 7, .mov (.cst (.int .i64 0)), none⟩,
  ⟨some 8, .mov (.cst (.bool false)), none⟩]
@[simp] theorem ref11_numbers_r0_go (T : Tbl) (K : List Kt) (fr : Fr) (S : St) : gval T (.ops ref11_numbers_r0 :: K) fr S = gval T (.ops [
  ⟨some 6, .mov (.cst .nils), none⟩,
  ⟨some 7, .mov (.cst (.int .i64 0)), none⟩,
  ⟨some 8, .mov (.cst (.bool false)), none⟩] :: K) fr S := rfl
def ref11_numbers_r1 : List POper := [
  ⟨some 9, .mov (.cst .nils), none⟩]
@[simp] theorem ref11_numbers_r1_go (T : Tbl) (K : List Kt) (fr : Fr) (S : St) : gval T (.ops ref11_numbers_r1 :: K) fr S = gval T (.ops [
  ⟨some 9, .mov (.cst .nils), none⟩] :: K) fr S := rfl
def ref11_numbers_r2 : List POper := [
  ⟨some 10, .mov (.cst (.int .i64 0)), none⟩]
@[simp] theorem ref11_numbers_r2_go (T : Tbl) (K : List Kt) (fr : Fr) (S : St) : gval T (.ops ref11_numbers_r2 :: K) fr S = gval T (.ops [
  ⟨some 10, .mov (.cst (.int .i64 0)), none⟩] :: K) fr S := rfl
def ref11_numbers_r3 : List POper := [
  ⟨some 14, .mov (.tmp 10), none⟩,
  ⟨some 15, .mov (.tmp 2), none⟩,
  ⟨some 16, .arith .lss (.tmp 14) (.tmp 15), none⟩]
@[simp] theorem ref11_numbers_r3_go (T : Tbl) (K : List Kt) (fr : Fr) (S : St) : gval T (.ops ref11_numbers_r3 :: K) fr S = gval T (.ops [
  ⟨some 14, .mov (.tmp 10), none⟩,
  ⟨some 15, .mov (.tmp 2), none⟩,
  ⟨some 16, .arith .lss (.tmp 14) (.tmp 15), none⟩] :: K) fr S := rfl
def ref11_numbers_r5 : List POper := [
  ⟨some 20, .mov (.tmp 0), none⟩,
  ⟨some 21, .mov (.tmp 1), none⟩,
  ⟨some 22, .call .std 112 [(.tmp 20), (.tmp 21)], none⟩,
  ⟨some 19, .mov (.tmp 22), none⟩,
  ⟨some 23, .extract 0 (.tmp 19), none⟩,
  ⟨some 24, .extract 1 (.tmp 19), none⟩,
  ⟨some 25, .extract 2 (.tmp 19), none⟩,
  ⟨some 11, .mov (.tmp 23), none⟩,
  ⟨some 12, .mov (.tmp 24), none⟩,
  ⟨some 13, .mov (.tmp 25), none⟩]
@[simp] theorem ref11_numbers_r5_go (T : Tbl) (K : List Kt) (fr : Fr) (S : St) : gval T (.ops ref11_numbers_r5 :: K) fr S = gval T (.ops [
  ⟨some 20, .mov (.tmp 0), none⟩,
  ⟨some 21, .mov (.tmp 1), none⟩,
  ⟨some 22, .call .std 112 [(.tmp 20), (.tmp 21)], none⟩,
  ⟨some 19, .mov (.tmp 22), none⟩,
  ⟨some 23, .extract 0 (.tmp 19), none⟩,
  ⟨some 24, .extract 1 (.tmp 19), none⟩,
  ⟨some 25, .extract 2 (.tmp 19), none⟩,
  ⟨some 11, .mov (.tmp 23), none⟩,
  ⟨some 12, .mov (.tmp 24), none⟩,
  ⟨some 13, .mov (.tmp 25), none⟩] :: K) fr S := rfl
def ref11_numbers_r6 : List POper := [
  ⟨some 26, .mov (.tmp 13), none⟩,
  ⟨some 27, .arith .neq (.tmp 26) (.cst (.int .i64 0)), none⟩]
@[simp] theorem ref11_numbers_r6_go (T : Tbl) (K : List Kt) (fr : Fr) (S : St) : gval T (.ops ref11_numbers_r6 :: K) fr S = gval T (.ops [
  ⟨some 26, .mov (.tmp 13), none⟩,
  ⟨some 27, .arith .neq (.tmp 26) (.cst (.int .i64 0)), none⟩] :: K) fr S := rfl
def ref11_numbers_r7 : List POper := [
  ⟨some 6, .mov (.cst .nils), none⟩,
  ⟨some 7, .mov (.cst (.int .i64 0)), none⟩,
  ⟨some 8, .mov (.cst (.bool false)), none⟩]
@[simp] theorem ref11_numbers_r7_go (T : Tbl) (K : List Kt) (fr : Fr) (S : St) : gval T (.ops ref11_numbers_r7 :: K) fr S = gval T (.ops [
  ⟨some 6, .mov (.cst .nils), none⟩,
  ⟨some 7, .mov (.cst (.int .i64 0)), none⟩,
  ⟨some 8, .mov (.cst (.bool false)), none⟩] :: K) fr S := rfl
def ref11_numbers_r8 : List POper := [
  ⟨some 28, .mov (.tmp 9), none⟩,
  ⟨some 29, .mov (.tmp 11), none⟩,
  ⟨some 30, .bsl false (.int .i64 0) 1 [(0, (.tmp 29))], none⟩,
  ⟨some 31, .app 1 8 (.tmp 28) (.tmp 30), none⟩,
  ⟨some 9, .mov (.tmp 31), none⟩]
@[simp] theorem ref11_numbers_r8_go (T : Tbl) (K : List Kt) (fr : Fr) (S : St) : gval T (.ops ref11_numbers_r8 :: K) fr S = gval T (.ops [
  ⟨some 28, .mov (.tmp 9), none⟩,
  ⟨some 29, .mov (.tmp 11), none⟩,
  ⟨some 30, .bsl false (.int .i64 0) 1 [(0, (.tmp 29))], none⟩,
  ⟨some 31, .app 1 8 (.tmp 28) (.tmp 30), none⟩,
  ⟨some 9, .mov (.tmp 31), none⟩] :: K) fr S := rfl
def ref11_numbers_r9 : List POper := [
  ⟨some 32, .mov (.tmp 12), none⟩,
  ⟨some 1, .mov (.tmp 32), none⟩]
@[simp] theorem ref11_numbers_r9_go (T : Tbl) (K : List Kt) (fr : Fr) (S : St) : gval T (.ops ref11_numbers_r9 :: K) fr S = gval T (.ops [
  ⟨some 32, .mov (.tmp 12), none⟩,
  ⟨some 1, .mov (.tmp 32), none⟩] :: K) fr S := rfl
def ref11_numbers_r4 : List POper := [
  ⟨some 17, .mov (.tmp 10), none⟩,
  ⟨some 18, .arith .add (.tmp 17) (.cst (.int .i64 1)), none⟩,
  ⟨some 10, .mov (.tmp 18), none⟩]
@[simp] theorem ref11_numbers_r4_go (T : Tbl) (K : List Kt) (fr : Fr) (S : St) : gval T (.ops ref11_numbers_r4 :: K) fr S = gval T (.ops [
  ⟨some 17, .mov (.tmp 10), none⟩,
  ⟨some 18, .arith .add (.tmp 17) (.cst (.int .i64 1)), none⟩,
  ⟨some 10, .mov (.tmp 18), none⟩] :: K) fr S := rfl
def ref11_numbers_l0 : PCode :=
  (.seq (.seq (.clr [(14, 16)] (.region ref11_numbers_r3)) (.cond (.tmp 16) .skip (.exit 0))) (.seq (.block 1 (.seq (.clr [(19, 26)] (.region ref11_numbers_r5)) (.seq (.seq (.clr [(26, 27)] (.region ref11_numbers_r6)) (.cond (.tmp 27) (.seq (.region ref11_numbers_r7) .ret) .skip)) (.seq (.clr [(28, 32)] (.region ref11_numbers_r8)) (.clr [(32, 33)] (.region ref11_numbers_r9)))))) (.clr [(17, 19)] (.region ref11_numbers_r4))))
@[simp] theorem ref11_numbers_l0_go (T : Tbl) (K : List Kt) (fr : Fr) (S : St) : gval T (.code ref11_numbers_l0 :: K) fr S = gval T (.code (.seq (.seq (.clr [(14, 16)] (.region ref11_numbers_r3)) (.cond (.tmp 16) .skip (.exit 0))) (.seq (.block 1 (.seq (.clr [(19, 26)] (.region ref11_numbers_r5)) (.seq (.seq (.clr [(26, 27)] (.region ref11_numbers_r6)) (.cond (.tmp 27) (.seq (.region ref11_numbers_r7) .ret) .skip)) (.seq (.clr [(28, 32)] (.region ref11_numbers_r8)) (.clr [(32, 33)] (.region ref11_numbers_r9)))))) (.clr [(17, 19)] (.region ref11_numbers_r4)))) :: K) fr S := rfl
def ref11_numbers_r10 : List POper := [
  ⟨some 33, .mov (.tmp 9), none⟩,
  ⟨some 34, .mov (.tmp 1), none⟩,
  ⟨some 6, .mov (.tmp 33), none⟩,
  ⟨some 7, .mov (.tmp 34), none⟩,
  ⟨some 8, .mov (.cst (.bool true)), none⟩]
@[simp] theorem ref11_numbers_r10_go (T : Tbl) (K : List Kt) (fr : Fr) (S : St) : gval T (.ops ref11_numbers_r10 :: K) fr S = gval T (.ops [
  ⟨some 33, .mov (.tmp 9), none⟩,
  ⟨some 34, .mov (.tmp 1), none⟩,
  ⟨some 6, .mov (.tmp 33), none⟩,
  ⟨some 7, .mov (.tmp 34), none⟩,
  ⟨some 8, .mov (.cst (.bool true)), none⟩] :: K) fr S := rfl
def ref11_numbers : PCodeFn :=
  ⟨3, [.tmp 6, .tmp 7, .tmp 8],
  (.seq (.region ref11_numbers_r0) (.seq (.region ref11_numbers_r1) (.seq (.seq (.region ref11_numbers_r2) (.block 0 (.loop ref11_numbers_l0))) (.seq (.clr [(33, 35)] (.region ref11_numbers_r10)) .ret)))), false⟩

/-! gauge/gaugeref06.Read: 32 -/
def ref06_Read_r0 : List POper := [
  ⟨some 4, .mov (.cst .nils), none⟩,
  ⟨some 5, .mov (.cst (.int .i64 0)), none⟩,
  ⟨some 6, .mov (.cst (.int .i64 0)), none⟩]
@[simp] theorem ref06_Read_r0_go (T : Tbl) (K : List Kt) (fr : Fr) (S : St) : gval T (.ops ref06_Read_r0 :: K) fr S = gval T (.ops [
  ⟨some 4, .mov (.cst .nils), none⟩,
  ⟨some 5, .mov (.cst (.int .i64 0)), none⟩,
  ⟨some 6, .mov (.cst (.int .i64 0)), none⟩] :: K) fr S := rfl
def ref06_Read_r1 : List POper := [
  ⟨some 17, .mov (.tmp 0), none⟩,
  ⟨some 18, .mov (.tmp 1), none⟩,
  ⟨some 19, .call .std 112 [(.tmp 17), (.tmp 18)], none⟩,
  ⟨some 16, .mov (.tmp 19), none⟩,
  ⟨some 20, .extract 0 (.tmp 16), none⟩,
  ⟨some 21, .extract 1 (.tmp 16), none⟩,
  ⟨some 22, .extract 2 (.tmp 16), none⟩,
  ⟨some 7, .mov (.tmp 20), none⟩,
  ⟨some 1, .mov (.tmp 21), none⟩,
  ⟨some 8, .mov (.tmp 22), none⟩]
@[simp] theorem ref06_Read_r1_go (T : Tbl) (K : List Kt) (fr : Fr) (S : St) : gval T (.ops ref06_Read_r1 :: K) fr S = gval T (.ops [
  ⟨some 17, .mov (.tmp 0), none⟩,
  ⟨some 18, .mov (.tmp 1), none⟩,
  ⟨some 19, .call .std 112 [(.tmp 17), (.tmp 18)], none⟩,
  ⟨some 16, .mov (.tmp 19), none⟩,
  ⟨some 20, .extract 0 (.tmp 16), none⟩,
  ⟨some 21, .extract 1 (.tmp 16), none⟩,
  ⟨some 22, .extract 2 (.tmp 16), none⟩,
  ⟨some 7, .mov (.tmp 20), none⟩,
  ⟨some 1, .mov (.tmp 21), none⟩,
  ⟨some 8, .mov (.tmp 22), none⟩] :: K) fr S := rfl
def ref06_Read_r2 : List POper := [
  ⟨some 23, .mov (.tmp 8), none⟩,
  ⟨some 24, .arith .neq (.tmp 23) (.cst (.int .i64 0)), none⟩]
@[simp] theorem ref06_Read_r2_go (T : Tbl) (K : List Kt) (fr : Fr) (S : St) : gval T (.ops ref06_Read_r2 :: K) fr S = gval T (.ops [
  ⟨some 23, .mov (.tmp 8), none⟩,
  ⟨some 24, .arith .neq (.tmp 23) (.cst (.int .i64 0)), none⟩] :: K) fr S := rfl
def ref06_Read_r3 : List POper := [
  ⟨some 25, .mov (.tmp 8), none⟩,
  ⟨some 4, .mov (.cst .nils), none⟩,
  ⟨some 5, .mov (.cst (.int .i64 0)), none⟩,
  ⟨some 6, .mov (.tmp 25), none⟩]
@[simp] theorem ref06_Read_r3_go (T : Tbl) (K : List Kt) (fr : Fr) (S : St) : gval T (.ops ref06_Read_r3 :: K) fr S = gval T (.ops [
  ⟨some 25, .mov (.tmp 8), none⟩,
  ⟨some 4, .mov (.cst .nils), none⟩,
  ⟨some 5, .mov (.cst (.int .i64 0)), none⟩,
  ⟨some 6, .mov (.tmp 25), none⟩] :: K) fr S := rfl
def ref06_Read_r4 : List POper := [
  ⟨some 26, .mov (.tmp 7), none⟩,
  ⟨some 27, .arith .gtr (.tmp 26) (.cst (.int .i64 8)), none⟩]
@[simp] theorem ref06_Read_r4_go (T : Tbl) (K : List Kt) (fr : Fr) (S : St) : gval T (.ops ref06_Read_r4 :: K) fr S = gval T (.ops [
  ⟨some 26, .mov (.tmp 7), none⟩,
  ⟨some 27, .arith .gtr (.tmp 26) (.cst (.int .i64 8)), none⟩] :: K) fr S := rfl
def ref06_Read_r5 : List POper := [
  ⟨some 4, .mov (.cst .nils), none⟩,
  ⟨some 5, .mov (.cst (.int .i64 0)), none⟩,
  ⟨some 6, .mov (.cst (.int .i64 3)), none⟩]
@[simp] theorem ref06_Read_r5_go (T : Tbl) (K : List Kt) (fr : Fr) (S : St) : gval T (.ops ref06_Read_r5 :: K) fr S = gval T (.ops [
  ⟨some 4, .mov (.cst .nils), none⟩,
  ⟨some 5, .mov (.cst (.int .i64 0)), none⟩,
  ⟨some 6, .mov (.cst (.int .i64 3)), none⟩] :: K) fr S := rfl
def ref06_Read_r6 : List POper := [
  ⟨some 9, .mov (.cst .nils), none⟩]
@[simp] theorem ref06_Read_r6_go (T : Tbl) (K : List Kt) (fr : Fr) (S : St) : gval T (.ops ref06_Read_r6 :: K) fr S = gval T (.ops [
  ⟨some 9, .mov (.cst .nils), none⟩] :: K) fr S := rfl
def ref06_Read_r7 : List POper := [
  ⟨some 10, .mov (.cst (.int .i64 0)), none⟩]
@[simp] theorem ref06_Read_r7_go (T : Tbl) (K : List Kt) (fr : Fr) (S : St) : gval T (.ops ref06_Read_r7 :: K) fr S = gval T (.ops [
  ⟨some 10, .mov (.cst (.int .i64 0)), none⟩] :: K) fr S := rfl
def ref06_Read_r8 : List POper := [
  ⟨some 28, .mov (.tmp 10), none⟩,
  ⟨some 29, .mov (.tmp 7), none⟩,
  ⟨some 30, .arith .lss (.tmp 28) (.tmp 29), none⟩]
@[simp] theorem ref06_Read_r8_go (T : Tbl) (K : List Kt) (fr : Fr) (S : St) : gval T (.ops ref06_Read_r8 :: K) fr S = gval T (.ops [
  ⟨some 28, .mov (.tmp 10), none⟩,
  ⟨some 29, .mov (.tmp 7), none⟩,
  ⟨some 30, .arith .lss (.tmp 28) (.tmp 29), none⟩] :: K) fr S := rfl
def ref06_Read_r10 : List POper := [
  ⟨some 34, .mov (.tmp 0), none⟩,
  ⟨some 35, .mov (.tmp 1), none⟩,
  ⟨some 36, .call .std 113 [(.tmp 34), (.tmp 35)], none⟩,
  ⟨some 33, .mov (.tmp 36), none⟩,
  ⟨some 37, .extract 0 (.tmp 33), none⟩,
  ⟨some 38, .extract 1 (.tmp 33), none⟩,
  ⟨some 39, .extract 2 (.tmp 33), none⟩,
  ⟨some 11, .mov (.tmp 37), none⟩,
  ⟨some 12, .mov (.tmp 38), none⟩,
  ⟨some 13, .mov (.tmp 39), none⟩]
@[simp] theorem ref06_Read_r10_go (T : Tbl) (K : List Kt) (fr : Fr) (S : St) : gval T (.ops ref06_Read_r10 :: K) fr S = gval T (.ops [
  ⟨some 34, .mov (.tmp 0), none⟩,
  ⟨some 35, .mov (.tmp 1), none⟩,
  ⟨some 36, .call .std 113 [(.tmp 34), (.tmp 35)], none⟩,
  ⟨some 33, .mov (.tmp 36), none⟩,
  ⟨some 37, .extract 0 (.tmp 33), none⟩,
  ⟨some 38, .extract 1 (.tmp 33), none⟩,
  ⟨some 39, .extract 2 (.tmp 33), none⟩,
  ⟨some 11, .mov (.tmp 37), none⟩,
  ⟨some 12, .mov (.tmp 38), none⟩,
  ⟨some 13, .mov (.tmp 39), none⟩] :: K) fr S := rfl
def ref06_Read_r11 : List POper := [
  ⟨some 40, .mov (.tmp 13), none⟩,
  ⟨some 41, .arith .neq (.tmp 40) (.cst (.int .i64 0)), none⟩]
@[simp] theorem ref06_Read_r11_go (T : Tbl) (K : List Kt) (fr : Fr) (S : St) : gval T (.ops ref06_Read_r11 :: K) fr S = gval T (.ops [
  ⟨some 40, .mov (.tmp 13), none⟩,
  ⟨some 41, .arith .neq (.tmp 40) (.cst (.int .i64 0)), none⟩] :: K) fr S := rfl
def ref06_Read_r12 : List POper := [
  ⟨some 42, .mov (.tmp 13), none⟩,
  ⟨some 4, .mov (.cst .nils), none⟩,
  ⟨some 5, .mov (.cst (.int .i64 0)), none⟩,
  ⟨some 6, .mov (.tmp 42), none⟩]
@[simp] theorem ref06_Read_r12_go (T : Tbl) (K : List Kt) (fr : Fr) (S : St) : gval T (.ops ref06_Read_r12 :: K) fr S = gval T (.ops [
  ⟨some 42, .mov (.tmp 13), none⟩,
  ⟨some 4, .mov (.cst .nils), none⟩,
  ⟨some 5, .mov (.cst (.int .i64 0)), none⟩,
  ⟨some 6, .mov (.tmp 42), none⟩] :: K) fr S := rfl
def ref06_Read_r13 : List POper := [
  ⟨some 44, .mov (.tmp 0), none⟩,
  ⟨some 45, .mov (.tmp 12), none⟩,
  ⟨some 46, .call .std 113 [(.tmp 44), (.tmp 45)], none⟩,
  ⟨some 43, .mov (.tmp 46), none⟩,
  ⟨some 47, .extract 0 (.tmp 43), none⟩,
  ⟨some 48, .extract 1 (.tmp 43), none⟩,
  ⟨some 49, .extract 2 (.tmp 43), none⟩,
  ⟨some 14, .mov (.tmp 47), none⟩,
  ⟨some 15, .mov (.tmp 48), none⟩,
  ⟨some 13, .mov (.tmp 49), none⟩]
@[simp] theorem ref06_Read_r13_go (T : Tbl) (K : List Kt) (fr : Fr) (S : St) : gval T (.ops ref06_Read_r13 :: K) fr S = gval T (.ops [
  ⟨some 44, .mov (.tmp 0), none⟩,
  ⟨some 45, .mov (.tmp 12), none⟩,
  ⟨some 46, .call .std 113 [(.tmp 44), (.tmp 45)], none⟩,
  ⟨some 43, .mov (.tmp 46), none⟩,
  ⟨some 47, .extract 0 (.tmp 43), none⟩,
  ⟨some 48, .extract 1 (.tmp 43), none⟩,
  ⟨some 49, .extract 2 (.tmp 43), none⟩,
  ⟨some 14, .mov (.tmp 47), none⟩,
  ⟨some 15, .mov (.tmp 48), none⟩,
  ⟨some 13, .mov (.tmp 49), none⟩] :: K) fr S := rfl
def ref06_Read_r14 : List POper := [
  ⟨some 50, .mov (.tmp 13), none⟩,
  ⟨some 51, .arith .neq (.tmp 50) (.cst (.int .i64 0)), none⟩]
@[simp] theorem ref06_Read_r14_go (T : Tbl) (K : List Kt) (fr : Fr) (S : St) : gval T (.ops ref06_Read_r14 :: K) fr S = gval T (.ops [
  ⟨some 50, .mov (.tmp 13), none⟩,
  ⟨some 51, .arith .neq (.tmp 50) (.cst (.int .i64 0)), none⟩] :: K) fr S := rfl
def ref06_Read_r15 : List POper := [
  ⟨some 52, .mov (.tmp 13), none⟩,
  ⟨some 4, .mov (.cst .nils), none⟩,
  ⟨some 5, .mov (.cst (.int .i64 0)), none⟩,
  ⟨some 6, .mov (.tmp 52), none⟩]
@[simp] theorem ref06_Read_r15_go (T : Tbl) (K : List Kt) (fr : Fr) (S : St) : gval T (.ops ref06_Read_r15 :: K) fr S = gval T (.ops [
  ⟨some 52, .mov (.tmp 13), none⟩,
  ⟨some 4, .mov (.cst .nils), none⟩,
  ⟨some 5, .mov (.cst (.int .i64 0)), none⟩,
  ⟨some 6, .mov (.tmp 52), none⟩] :: K) fr S := rfl
def ref06_Read_r16 : List POper := [
  ⟨some 53, .mov (.tmp 9), none⟩,
  ⟨some 54, .mov (.tmp 11), none⟩,
  ⟨some 55, .mov (.tmp 14), none⟩,
  ⟨some 56, .build [(.str []), (.str [])] [(0, 1, (.tmp 54)), (1, 1, (.tmp 55))], none⟩,
  ⟨some 57, .bsl false (.agg [(.str []), (.str [])]) 1 [(0, (.tmp 56))], none⟩,
  ⟨some 58, .app 2 32 (.tmp 53) (.tmp 57), none⟩,
  ⟨some 9, .mov (.tmp 58), none⟩]
@[simp] theorem ref06_Read_r16_go (T : Tbl) (K : List Kt) (fr : Fr) (S : St) : gval T (.ops ref06_Read_r16 :: K) fr S = gval T (.ops [
  ⟨some 53, .mov (.tmp 9), none⟩,
  ⟨some 54, .mov (.tmp 11), none⟩,
  ⟨some 55, .mov (.tmp 14), none⟩,
  ⟨some 56, .build [(.str []), (.str [])] [(0, 1, (.tmp 54)), (1, 1, (.tmp 55))], none⟩,
  ⟨some 57, .bsl false (.agg [(.str []), (.str [])]) 1 [(0, (.tmp 56))], none⟩,
  ⟨some 58, .app 2 32 (.tmp 53) (.tmp 57), none⟩,
  ⟨some 9, .mov (.tmp 58), none⟩] :: K) fr S := rfl
def ref06_Read_r17 : List POper := [
  ⟨some 59, .mov (.tmp 15), none⟩,
  ⟨some 1, .mov (.tmp 59), none⟩]
@[simp] theorem ref06_Read_r17_go (T : Tbl) (K : List Kt) (fr : Fr) (S : St) : gval T (.ops ref06_Read_r17 :: K) fr S = gval T (.ops [
  ⟨some 59, .mov (.tmp 15), none⟩,
  ⟨some 1, .mov (.tmp 59), none⟩] :: K) fr S := rfl
def ref06_Read_r9 : List POper := [
  ⟨some 31, .mov (.tmp 10), none⟩,
  ⟨some 32, .arith .add (.tmp 31) (.cst (.int .i64 1)), none⟩,
  ⟨some 10, .mov (.tmp 32), none⟩]
@[simp] theorem ref06_Read_r9_go (T : Tbl) (K : List Kt) (fr : Fr) (S : St) : gval T (.ops ref06_Read_r9 :: K) fr S = gval T (.ops [
  ⟨some 31, .mov (.tmp 10), none⟩,
  ⟨some 32, .arith .add (.tmp 31) (.cst (.int .i64 1)), none⟩,
  ⟨some 10, .mov (.tmp 32), none⟩] :: K) fr S := rfl
def ref06_Read_l0 : PCode :=
  (.seq (.seq (.clr [(28, 30)] (.region ref06_Read_r8)) (.cond (.tmp 30) .skip (.exit 0))) (.seq (.block 1 (.seq (.clr [(33, 40)] (.region ref06_Read_r10)) (.seq (.seq (.clr [(40, 41)] (.region ref06_Read_r11)) (.cond (.tmp 41) (.seq (.clr [(42, 43)] (.region ref06_Read_r12)) .ret) .skip)) (.seq (.clr [(43, 50)] (.region ref06_Read_r13)) (.seq (.seq (.clr [(50, 51)] (.region ref06_Read_r14)) (.cond (.tmp 51) (.seq (.clr [(52, 53)] (.region ref06_Read_r15)) .ret) .skip)) (.seq (.clr [(53, 59)] (.region ref06_Read_r16)) (.clr [(59, 60)] (.region ref06_Read_r17)))))))) (.clr [(31, 33)] (.region ref06_Read_r9))))
@[simp] theorem ref06_Read_l0_go (T : Tbl) (K : List Kt) (fr : Fr) (S : St) : gval T (.code ref06_Read_l0 :: K) fr S = gval T (.code (.seq (.seq (.clr [(28, 30)] (.region ref06_Read_r8)) (.cond (.tmp 30) .skip (.exit 0))) (.seq (.block 1 (.seq (.clr [(33, 40)] (.region ref06_Read_r10)) (.seq (.seq (.clr [(40, 41)] (.region ref06_Read_r11)) (.cond (.tmp 41) (.seq (.clr [(42, 43)] (.region ref06_Read_r12)) .ret) .skip)) (.seq (.clr [(43, 50)] (.region ref06_Read_r13)) (.seq (.seq (.clr [(50, 51)] (.region ref06_Read_r14)) (.cond (.tmp 51) (.seq (.clr [(52, 53)] (.region ref06_Read_r15)) .ret) .skip)) (.seq (.clr [(53, 59)] (.region ref06_Read_r16)) (.clr [(59, 60)] (.region ref06_Read_r17)))))))) (.clr [(31, 33)] (.region ref06_Read_r9)))) :: K) fr S := rfl
def ref06_Read_r18 : List POper := [
  ⟨some 60, .mov (.tmp 9), none⟩,
  ⟨some 61, .call .std 98 [(.tmp 60)], none⟩,
  ⟨some 62, .arith .neq (.tmp 61) (.cst (.int .i64 0)), none⟩]
@[simp] theorem ref06_Read_r18_go (T : Tbl) (K : List Kt) (fr : Fr) (S : St) : gval T (.ops ref06_Read_r18 :: K) fr S = gval T (.ops [
  ⟨some 60, .mov (.tmp 9), none⟩,
  ⟨some 61, .call .std 98 [(.tmp 60)], none⟩,
  ⟨some 62, .arith .neq (.tmp 61) (.cst (.int .i64 0)), none⟩] :: K) fr S := rfl
def ref06_Read_r19 : List POper := [
  ⟨some 4, .mov (.cst .nils), none⟩,
  ⟨some 5, .mov (.cst (.int .i64 0)), none⟩,
  ⟨some 6, .mov (.cst (.int .i64 5)), none⟩]
@[simp] theorem ref06_Read_r19_go (T : Tbl) (K : List Kt) (fr : Fr) (S : St) : gval T (.ops ref06_Read_r19 :: K) fr S = gval T (.ops [
  ⟨some 4, .mov (.cst .nils), none⟩,
  ⟨some 5, .mov (.cst (.int .i64 0)), none⟩,
  ⟨some 6, .mov (.cst (.int .i64 5)), none⟩] :: K) fr S := rfl
def ref06_Read_r20 : List POper := [
  ⟨some 63, .mov (.tmp 9), none⟩,
  ⟨some 64, .mov (.tmp 1), none⟩,
  ⟨some 4, .mov (.tmp 63), none⟩,
  ⟨some 5, .mov (.tmp 64), none⟩,
  ⟨some 6, .mov (.cst (.int .i64 0)), none⟩]
@[simp] theorem ref06_Read_r20_go (T : Tbl) (K : List Kt) (fr : Fr) (S : St) : gval T (.ops ref06_Read_r20 :: K) fr S = gval T (.ops [
  ⟨some 63, .mov (.tmp 9), none⟩,
  ⟨some 64, .mov (.tmp 1), none⟩,
  ⟨some 4, .mov (.tmp 63), none⟩,
  ⟨some 5, .mov (.tmp 64), none⟩,
  ⟨some 6, .mov (.cst (.int .i64 0)), none⟩] :: K) fr S := rfl
def ref06_Read : PCodeFn :=
  ⟨2, [.tmp 4, .tmp 5, .tmp 6],
  (.seq (.region ref06_Read_r0) (.seq (.clr [(16, 23)] (.region ref06_Read_r1)) (.seq (.seq (.clr [(23, 24)] (.region ref06_Read_r2)) (.cond (.tmp 24) (.seq (.clr [(25, 26)] (.region ref06_Read_r3)) .ret) .skip)) (.seq (.seq (.clr [(26, 27)] (.region ref06_Read_r4)) (.cond (.tmp 27) (.seq (.region ref06_Read_r5) .ret) .skip)) (.seq (.region ref06_Read_r6) (.seq (.seq (.region ref06_Read_r7) (.block 0 (.loop ref06_Read_l0))) (.seq (.seq (.clr [(60, 62)] (.region ref06_Read_r18)) (.cond (.tmp 62) (.seq (.region ref06_Read_r19) .ret) .skip)) (.seq (.clr [(63, 65)] (.region ref06_Read_r20)) .ret)))))))), false⟩

/-! gauge/gaugeref09.Read: 400 -/
def ref09_Read_r0 : List POper := [
  ⟨some 4, .mov (.cst .nils), none⟩,
  ⟨some 5, .mov (.cst (.int .i64 0)), none⟩,
  ⟨some 6, .mov (.cst (.int .i64 0)), none⟩]
@[simp] theorem ref09_Read_r0_go (T : Tbl) (K : List Kt) (fr : Fr) (S : St) : gval T (.ops ref09_Read_r0 :: K) fr S = gval T (.ops [
  ⟨some 4, .mov (.cst .nils), none⟩,
  ⟨some 5, .mov (.cst (.int .i64 0)), none⟩,
  ⟨some 6, .mov (.cst (.int .i64 0)), none⟩] :: K) fr S := rfl
def ref09_Read_r1 : List POper := [
  ⟨some 16, .mov (.tmp 0), none⟩,
  ⟨some 17, .mov (.tmp 1), none⟩,
  ⟨some 18, .call .std 112 [(.tmp 16), (.tmp 17)], none⟩,
  ⟨some 15, .mov (.tmp 18), none⟩,
  ⟨some 19, .extract 0 (.tmp 15), none⟩,
  ⟨some 20, .extract 1 (.tmp 15), none⟩,
  ⟨some 21, .extract 2 (.tmp 15), none⟩,
  ⟨some 7, .mov (.tmp 19), none⟩,
  ⟨some 1, .mov (.tmp 20), none⟩,
  ⟨some 8, .mov (.tmp 21), none⟩]
@[simp] theorem ref09_Read_r1_go (T : Tbl) (K : List Kt) (fr : Fr) (S : St) : gval T (.ops ref09_Read_r1 :: K) fr S = gval T (.ops [
  ⟨some 16, .mov (.tmp 0), none⟩,
  ⟨some 17, .mov (.tmp 1), none⟩,
  ⟨some 18, .call .std 112 [(.tmp 16), (.tmp 17)], none⟩,
  ⟨some 15, .mov (.tmp 18), none⟩,
  ⟨some 19, .extract 0 (.tmp 15), none⟩,
  ⟨some 20, .extract 1 (.tmp 15), none⟩,
  ⟨some 21, .extract 2 (.tmp 15), none⟩,
  ⟨some 7, .mov (.tmp 19), none⟩,
  ⟨some 1, .mov (.tmp 20), none⟩,
  ⟨some 8, .mov (.tmp 21), none⟩] :: K) fr S := rfl
def ref09_Read_r2 : List POper := [
  ⟨some 22, .mov (.tmp 8), none⟩,
  ⟨some 23, .arith .neq (.tmp 22) (.cst (.int .i64 0)), none⟩]
@[simp] theorem ref09_Read_r2_go (T : Tbl) (K : List Kt) (fr : Fr) (S : St) : gval T (.ops ref09_Read_r2 :: K) fr S = gval T (.ops [
  ⟨some 22, .mov (.tmp 8), none⟩,
  ⟨some 23, .arith .neq (.tmp 22) (.cst (.int .i64 0)), none⟩] :: K) fr S := rfl
def ref09_Read_r3 : List POper := [
  ⟨some 24, .mov (.tmp 8), none⟩,
  ⟨some 4, .mov (.cst .nils), none⟩,
  ⟨some 5, .mov (.cst (.int .i64 0)), none⟩,
  ⟨some 6, .mov (.tmp 24), none⟩]
@[simp] theorem ref09_Read_r3_go (T : Tbl) (K : List Kt) (fr : Fr) (S : St) : gval T (.ops ref09_Read_r3 :: K) fr S = gval T (.ops [
  ⟨some 24, .mov (.tmp 8), none⟩,
  ⟨some 4, .mov (.cst .nils), none⟩,
  ⟨some 5, .mov (.cst (.int .i64 0)), none⟩,
  ⟨some 6, .mov (.tmp 24), none⟩] :: K) fr S := rfl
def ref09_Read_r4 : List POper := [
  ⟨some 25, .mov (.tmp 7), none⟩,
  ⟨some 26, .arith .gtr (.tmp 25) (.cst (.int .i64 1024)), none⟩]
@[simp] theorem ref09_Read_r4_go (T : Tbl) (K : List Kt) (fr : Fr) (S : St) : gval T (.ops ref09_Read_r4 :: K) fr S = gval T (.ops [
  ⟨some 25, .mov (.tmp 7), none⟩,
  ⟨some 26, .arith .gtr (.tmp 25) (.cst (.int .i64 1024)), none⟩] :: K) fr S := rfl
def ref09_Read_r5 : List POper := [
  ⟨some 4, .mov (.cst .nils), none⟩,
  ⟨some 5, .mov (.cst (.int .i64 0)), none⟩,
  ⟨some 6, .mov (.cst (.int .i64 3)), none⟩]
@[simp] theorem ref09_Read_r5_go (T : Tbl) (K : List Kt) (fr : Fr) (S : St) : gval T (.ops ref09_Read_r5 :: K) fr S = gval T (.ops [
  ⟨some 4, .mov (.cst .nils), none⟩,
  ⟨some 5, .mov (.cst (.int .i64 0)), none⟩,
  ⟨some 6, .mov (.cst (.int .i64 3)), none⟩] :: K) fr S := rfl
def ref09_Read_r6 : List POper := [
  ⟨some 9, .mov (.cst .nils), none⟩]
@[simp] theorem ref09_Read_r6_go (T : Tbl) (K : List Kt) (fr : Fr) (S : St) : gval T (.ops ref09_Read_r6 :: K) fr S = gval T (.ops [
  ⟨some 9, .mov (.cst .nils), none⟩] :: K) fr S := rfl
def ref09_Read_r7 : List POper := [
  ⟨some 10, .mov (.cst (.int .i64 0)), none⟩]
@[simp] theorem ref09_Read_r7_go (T : Tbl) (K : List Kt) (fr : Fr) (S : St) : gval T (.ops ref09_Read_r7 :: K) fr S = gval T (.ops [
  ⟨some 10, .mov (.cst (.int .i64 0)), none⟩] :: K) fr S := rfl
def ref09_Read_r8 : List POper := [
  ⟨some 11, .mov (.cst (.int .i64 0)), none⟩]
@[simp] theorem ref09_Read_r8_go (T : Tbl) (K : List Kt) (fr : Fr) (S : St) : gval T (.ops ref09_Read_r8 :: K) fr S = gval T (.ops [
  ⟨some 11, .mov (.cst (.int .i64 0)), none⟩] :: K) fr S := rfl
def ref09_Read_r9 : List POper := [
  ⟨some 27, .mov (.tmp 11), none⟩,
  ⟨some 28, .mov (.tmp 7), none⟩,
  ⟨some 29, .arith .lss (.tmp 27) (.tmp 28), none⟩]
@[simp] theorem ref09_Read_r9_go (T : Tbl) (K : List Kt) (fr : Fr) (S : St) : gval T (.ops ref09_Read_r9 :: K) fr S = gval T (.ops [
  ⟨some 27, .mov (.tmp 11), none⟩,
  ⟨some 28, .mov (.tmp 7), none⟩,
  ⟨some 29, .arith .lss (.tmp 27) (.tmp 28), none⟩] :: K) fr S := rfl
def ref09_Read_r11 : List POper := [
  ⟨some 33, .mov (.tmp 0), none⟩,
  ⟨some 34, .mov (.tmp 1), none⟩,
  ⟨some 35, .call .std 112 [(.tmp 33), (.tmp 34)], none⟩,
  ⟨some 32, .mov (.tmp 35), none⟩,
  ⟨some 36, .extract 0 (.tmp 32), none⟩,
  ⟨some 37, .extract 1 (.tmp 32), none⟩,
  ⟨some 38, .extract 2 (.tmp 32), none⟩,
  ⟨some 12, .mov (.tmp 36), none⟩,
  ⟨some 13, .mov (.tmp 37), none⟩,
  ⟨some 14, .mov (.tmp 38), none⟩]
@[simp] theorem ref09_Read_r11_go (T : Tbl) (K : List Kt) (fr : Fr) (S : St) : gval T (.ops ref09_Read_r11 :: K) fr S = gval T (.ops [
  ⟨some 33, .mov (.tmp 0), none⟩,
  ⟨some 34, .mov (.tmp 1), none⟩,
  ⟨some 35, .call .std 112 [(.tmp 33), (.tmp 34)], none⟩,
  ⟨some 32, .mov (.tmp 35), none⟩,
  ⟨some 36, .extract 0 (.tmp 32), none⟩,
  ⟨some 37, .extract 1 (.tmp 32), none⟩,
  ⟨some 38, .extract 2 (.tmp 32), none⟩,
  ⟨some 12, .mov (.tmp 36), none⟩,
  ⟨some 13, .mov (.tmp 37), none⟩,
  ⟨some 14, .mov (.tmp 38), none⟩] :: K) fr S := rfl
def ref09_Read_r12 : List POper := [
  ⟨some 39, .mov (.tmp 14), none⟩,
  ⟨some 40, .arith .neq (.tmp 39) (.cst (.int .i64 0)), none⟩]
@[simp] theorem ref09_Read_r12_go (T : Tbl) (K : List Kt) (fr : Fr) (S : St) : gval T (.ops ref09_Read_r12 :: K) fr S = gval T (.ops [
  ⟨some 39, .mov (.tmp 14), none⟩,
  ⟨some 40, .arith .neq (.tmp 39) (.cst (.int .i64 0)), none⟩] :: K) fr S := rfl
def ref09_Read_r13 : List POper := [
  ⟨some 41, .mov (.tmp 14), none⟩,
  ⟨some 4, .mov (.cst .nils), none⟩,
  ⟨some 5, .mov (.cst (.int .i64 0)), none⟩,
  ⟨some 6, .mov (.tmp 41), none⟩]
@[simp] theorem ref09_Read_r13_go (T : Tbl) (K : List Kt) (fr : Fr) (S : St) : gval T (.ops ref09_Read_r13 :: K) fr S = gval T (.ops [
  ⟨some 41, .mov (.tmp 14), none⟩,
  ⟨some 4, .mov (.cst .nils), none⟩,
  ⟨some 5, .mov (.cst (.int .i64 0)), none⟩,
  ⟨some 6, .mov (.tmp 41), none⟩] :: K) fr S := rfl
def ref09_Read_r14 : List POper := [
  ⟨some 42, .mov (.tmp 12), none⟩,
  ⟨some 43, .mov (.tmp 10), none⟩,
  ⟨some 44, .arith .sub (.cst (.int .i64 1099511627776)) (.tmp 43), none⟩,
  ⟨some 45, .arith .gtr (.tmp 42) (.tmp 44), none⟩,
  ⟨some 46, .mov (.tmp 45), none⟩,
  ⟨some 47, .mov (.tmp 11), some (46, false)⟩,
  ⟨some 48, .arith .gtr (.tmp 47) (.cst (.int .i64 0)), some (46, false)⟩,
  ⟨some 49, .mov (.tmp 48), some (46, false)⟩,
  ⟨some 50, .mov (.tmp 12), some (49, true)⟩,
  ⟨some 51, .arith .eql (.tmp 50) (.cst (.int .i64 0)), some (49, true)⟩,
  ⟨some 52, .pick (.tmp 49) (.tmp 51) (.cst (.bool false)), some (46, false)⟩,
  ⟨some 53, .pick (.tmp 46) (.cst (.bool true)) (.tmp 52), none⟩]
@[simp] theorem ref09_Read_r14_go (T : Tbl) (K : List Kt) (fr : Fr) (S : St) : gval T (.ops ref09_Read_r14 :: K) fr S = gval T (.ops [
  ⟨some 42, .mov (.tmp 12), none⟩,
  ⟨some 43, .mov (.tmp 10), none⟩,
  ⟨some 44, .arith .sub (.cst (.int .i64 1099511627776)) (.tmp 43), none⟩,
  ⟨some 45, .arith .gtr (.tmp 42) (.tmp 44), none⟩,
  ⟨some 46, .mov (.tmp 45), none⟩,
  ⟨some 47, .mov (.tmp 11), some (46, false)⟩,
  ⟨some 48, .arith .gtr (.tmp 47) (.cst (.int .i64 0)), some (46, false)⟩,
  ⟨some 49, .mov (.tmp 48), some (46, false)⟩,
  ⟨some 50, .mov (.tmp 12), some (49, true)⟩,
  ⟨some 51, .arith .eql (.tmp 50) (.cst (.int .i64 0)), some (49, true)⟩,
  ⟨some 52, .pick (.tmp 49) (.tmp 51) (.cst (.bool false)), some (46, false)⟩,
  ⟨some 53, .pick (.tmp 46) (.cst (.bool true)) (.tmp 52), none⟩] :: K) fr S := rfl
def ref09_Read_r15 : List POper := [
  ⟨some 4, .mov (.cst .nils), none⟩,
  ⟨some 5, .mov (.cst (.int .i64 0)), none⟩,
  ⟨some 6, .mov (.cst (.int .i64 5)), none⟩]
@[simp] theorem ref09_Read_r15_go (T : Tbl) (K : List Kt) (fr : Fr) (S : St) : gval T (.ops ref09_Read_r15 :: K) fr S = gval T (.ops [
  ⟨some 4, .mov (.cst .nils), none⟩,
  ⟨some 5, .mov (.cst (.int .i64 0)), none⟩,
  ⟨some 6, .mov (.cst (.int .i64 5)), none⟩] :: K) fr S := rfl
def ref09_Read_r16 : List POper := [
  ⟨some 54, .mov (.tmp 10), none⟩,
  ⟨some 55, .mov (.tmp 12), none⟩,
  ⟨some 56, .arith .add (.tmp 54) (.tmp 55), none⟩,
  ⟨some 10, .mov (.tmp 56), none⟩]
@[simp] theorem ref09_Read_r16_go (T : Tbl) (K : List Kt) (fr : Fr) (S : St) : gval T (.ops ref09_Read_r16 :: K) fr S = gval T (.ops [
  ⟨some 54, .mov (.tmp 10), none⟩,
  ⟨some 55, .mov (.tmp 12), none⟩,
  ⟨some 56, .arith .add (.tmp 54) (.tmp 55), none⟩,
  ⟨some 10, .mov (.tmp 56), none⟩] :: K) fr S := rfl
def ref09_Read_r17 : List POper := [
  ⟨some 57, .mov (.tmp 9), none⟩,
  ⟨some 58, .mov (.tmp 10), none⟩,
  ⟨some 59, .bsl false (.int .i64 0) 1 [(0, (.tmp 58))], none⟩,
  ⟨some 60, .app 1 8 (.tmp 57) (.tmp 59), none⟩,
  ⟨some 9, .mov (.tmp 60), none⟩]
@[simp] theorem ref09_Read_r17_go (T : Tbl) (K : List Kt) (fr : Fr) (S : St) : gval T (.ops ref09_Read_r17 :: K) fr S = gval T (.ops [
  ⟨some 57, .mov (.tmp 9), none⟩,
  ⟨some 58, .mov (.tmp 10), none⟩,
  ⟨some 59, .bsl false (.int .i64 0) 1 [(0, (.tmp 58))], none⟩,
  ⟨some 60, .app 1 8 (.tmp 57) (.tmp 59), none⟩,
  ⟨some 9, .mov (.tmp 60), none⟩] :: K) fr S := rfl
def ref09_Read_r18 : List POper := [
  ⟨some 61, .mov (.tmp 13), none⟩,
  ⟨some 1, .mov (.tmp 61), none⟩]
@[simp] theorem ref09_Read_r18_go (T : Tbl) (K : List Kt) (fr : Fr) (S : St) : gval T (.ops ref09_Read_r18 :: K) fr S = gval T (.ops [
  ⟨some 61, .mov (.tmp 13), none⟩,
  ⟨some 1, .mov (.tmp 61), none⟩] :: K) fr S := rfl
def ref09_Read_r10 : List POper := [
  ⟨some 30, .mov (.tmp 11), none⟩,
  ⟨some 31, .arith .add (.tmp 30) (.cst (.int .i64 1)), none⟩,
  ⟨some 11, .mov (.tmp 31), none⟩]
@[simp] theorem ref09_Read_r10_go (T : Tbl) (K : List Kt) (fr : Fr) (S : St) : gval T (.ops ref09_Read_r10 :: K) fr S = gval T (.ops [
  ⟨some 30, .mov (.tmp 11), none⟩,
  ⟨some 31, .arith .add (.tmp 30) (.cst (.int .i64 1)), none⟩,
  ⟨some 11, .mov (.tmp 31), none⟩] :: K) fr S := rfl
def ref09_Read_l0 : PCode :=
  (.seq (.seq (.clr [(27, 29)] (.region ref09_Read_r9)) (.cond (.tmp 29) .skip (.exit 0))) (.seq (.block 1 (.seq (.clr [(32, 39)] (.region ref09_Read_r11)) (.seq (.seq (.clr [(39, 40)] (.region ref09_Read_r12)) (.cond (.tmp 40) (.seq (.clr [(41, 42)] (.region ref09_Read_r13)) .ret) .skip)) (.seq (.seq (.clr [(42, 53)] (.region ref09_Read_r14)) (.cond (.tmp 53) (.seq (.region ref09_Read_r15) .ret) .skip)) (.seq (.clr [(54, 57)] (.region ref09_Read_r16)) (.seq (.clr [(57, 61)] (.region ref09_Read_r17)) (.clr [(61, 62)] (.region ref09_Read_r18)))))))) (.clr [(30, 32)] (.region ref09_Read_r10))))
@[simp] theorem ref09_Read_l0_go (T : Tbl) (K : List Kt) (fr : Fr) (S : St) : gval T (.code ref09_Read_l0 :: K) fr S = gval T (.code (.seq (.seq (.clr [(27, 29)] (.region ref09_Read_r9)) (.cond (.tmp 29) .skip (.exit 0))) (.seq (.block 1 (.seq (.clr [(32, 39)] (.region ref09_Read_r11)) (.seq (.seq (.clr [(39, 40)] (.region ref09_Read_r12)) (.cond (.tmp 40) (.seq (.clr [(41, 42)] (.region ref09_Read_r13)) .ret) .skip)) (.seq (.seq (.clr [(42, 53)] (.region ref09_Read_r14)) (.cond (.tmp 53) (.seq (.region ref09_Read_r15) .ret) .skip)) (.seq (.clr [(54, 57)] (.region ref09_Read_r16)) (.seq (.clr [(57, 61)] (.region ref09_Read_r17)) (.clr [(61, 62)] (.region ref09_Read_r18)))))))) (.clr [(30, 32)] (.region ref09_Read_r10)))) :: K) fr S := rfl
def ref09_Read_r19 : List POper := [
  ⟨some 62, .mov (.tmp 9), none⟩,
  ⟨some 63, .mov (.tmp 1), none⟩,
  ⟨some 4, .mov (.tmp 62), none⟩,
  ⟨some 5, .mov (.tmp 63), none⟩,
  ⟨some 6, .mov (.cst (.int .i64 0)), none⟩]
@[simp] theorem ref09_Read_r19_go (T : Tbl) (K : List Kt) (fr : Fr) (S : St) : gval T (.ops ref09_Read_r19 :: K) fr S = gval T (.ops [
  ⟨some 62, .mov (.tmp 9), none⟩,
  ⟨some 63, .mov (.tmp 1), none⟩,
  ⟨some 4, .mov (.tmp 62), none⟩,
  ⟨some 5, .mov (.tmp 63), none⟩,
  ⟨some 6, .mov (.cst (.int .i64 0)), none⟩] :: K) fr S := rfl
def ref09_Read : PCodeFn :=
  ⟨2, [.tmp 4, .tmp 5, .tmp 6],
  (.seq (.region ref09_Read_r0) (.seq (.clr [(15, 22)] (.region ref09_Read_r1)) (.seq (.seq (.clr [(22, 23)] (.region ref09_Read_r2)) (.cond (.tmp 23) (.seq (.clr [(24, 25)] (.region ref09_Read_r3)) .ret) .skip)) (.seq (.seq (.clr [(25, 26)] (.region ref09_Read_r4)) (.cond (.tmp 26) (.seq (.region ref09_Read_r5) .ret) .skip)) (.seq (.region ref09_Read_r6) (.seq (.region ref09_Read_r7) (.seq (.seq (.region ref09_Read_r8) (.block 0 (.loop ref09_Read_l0))) (.seq (.clr [(62, 64)] (.region ref09_Read_r19)) .ret)))))))), false⟩

/-! gauge/frame.sealed: 328 -/
def frame_sealed_r0 : List POper := [
  ⟨some 4, .mov (.cst .nils), none⟩]
@[simp] theorem frame_sealed_r0_go (T : Tbl) (K : List Kt) (fr : Fr) (S : St) : gval T (.ops frame_sealed_r0 :: K) fr S = gval T (.ops [
  ⟨some 4, .mov (.cst .nils), none⟩] :: K) fr S := rfl
def frame_sealed_r1 : List POper := [
  ⟨some 7, .mov (.tmp 1), none⟩,
  ⟨some 8, .call .std 270 [(.tmp 7)], none⟩,
  ⟨some 5, .mov (.tmp 8), none⟩]
@[simp] theorem frame_sealed_r1_go (T : Tbl) (K : List Kt) (fr : Fr) (S : St) : gval T (.ops frame_sealed_r1 :: K) fr S = gval T (.ops [
  ⟨some 7, .mov (.tmp 1), none⟩,
  ⟨some 8, .call .std 270 [(.tmp 7)], none⟩,
  ⟨some 5, .mov (.tmp 8), none⟩] :: K) fr S := rfl
def frame_sealed_r2 : List POper := [
  ⟨some 9, .mov (.cst (.int .i64 0)), none⟩]
@[simp] theorem frame_sealed_r2_go (T : Tbl) (K : List Kt) (fr : Fr) (S : St) : gval T (.ops frame_sealed_r2 :: K) fr S = gval T (.ops [
  ⟨some 9, .mov (.cst (.int .i64 0)), none⟩] :: K) fr S := rfl
def frame_sealed_r3 : List POper := [
  ⟨some 10, .arith .lss (.tmp 9) (.cst (.int .i64 4)), none⟩]
@[simp] theorem frame_sealed_r3_go (T : Tbl) (K : List Kt) (fr : Fr) (S : St) : gval T (.ops frame_sealed_r3 :: K) fr S = gval T (.ops [
  ⟨some 10, .arith .lss (.tmp 9) (.cst (.int .i64 4)), none⟩] :: K) fr S := rfl
def frame_sealed_r4 : List POper := [
  ⟨some 11, .mov (.tmp 9), none⟩,
  ⟨some 6, .mov (.tmp 11), none⟩]
@[simp] theorem frame_sealed_r4_go (T : Tbl) (K : List Kt) (fr : Fr) (S : St) : gval T (.ops frame_sealed_r4 :: K) fr S = gval T (.ops [
  ⟨some 11, .mov (.tmp 9), none⟩,
  ⟨some 6, .mov (.tmp 11), none⟩] :: K) fr S := rfl
def frame_sealed_r5 : List POper := [
  ⟨some 12, .mov (.tmp 0), none⟩,
  ⟨some 13, .mov (.tmp 5), none⟩,
  ⟨some 14, .mov (.tmp 6), none⟩,
  ⟨some 15, .arith .mul (.cst (.int .i64 8)) (.tmp 14), none⟩,
  ⟨some 16, .arith .shr (.tmp 13) (.tmp 15), none⟩,
  ⟨some 17, .toInt .u8 (.tmp 16), none⟩,
  ⟨some 18, .bsl false (.int .u8 0) 1 [(0, (.tmp 17))], none⟩,
  ⟨some 19, .app 1 1 (.tmp 12) (.tmp 18), none⟩,
  ⟨some 0, .mov (.tmp 19), none⟩]
@[simp] theorem frame_sealed_r5_go (T : Tbl) (K : List Kt) (fr : Fr) (S : St) : gval T (.ops frame_sealed_r5 :: K) fr S = gval T (.ops [
  ⟨some 12, .mov (.tmp 0), none⟩,
  ⟨some 13, .mov (.tmp 5), none⟩,
  ⟨some 14, .mov (.tmp 6), none⟩,
  ⟨some 15, .arith .mul (.cst (.int .i64 8)) (.tmp 14), none⟩,
  ⟨some 16, .arith .shr (.tmp 13) (.tmp 15), none⟩,
  ⟨some 17, .toInt .u8 (.tmp 16), none⟩,
  ⟨some 18, .bsl false (.int .u8 0) 1 [(0, (.tmp 17))], none⟩,
  ⟨some 19, .app 1 1 (.tmp 12) (.tmp 18), none⟩,
  ⟨some 0, .mov (.tmp 19), none⟩] :: K) fr S := rfl
def frame_sealed_r6 : List POper := [
  ⟨some 20, .arith .add (.tmp 9) (.cst (.int .i64 1)), none⟩,
  ⟨some 9, .mov (.tmp 20), none⟩]
@[simp] theorem frame_sealed_r6_go (T : Tbl) (K : List Kt) (fr : Fr) (S : St) : gval T (.ops frame_sealed_r6 :: K) fr S = gval T (.ops [
  ⟨some 20, .arith .add (.tmp 9) (.cst (.int .i64 1)), none⟩,
  ⟨some 9, .mov (.tmp 20), none⟩] :: K) fr S := rfl
def frame_sealed_l0 : PCode :=
  (.seq (.region frame_sealed_r3) (.seq (.cond (.tmp 10) .skip (.exit 0)) (.seq (.block 1 (.seq (.clr [(11, 12)] (.region frame_sealed_r4)) (.clr [(12, 20)] (.region frame_sealed_r5)))) (.clr [(20, 21)] (.region frame_sealed_r6)))))
@[simp] theorem frame_sealed_l0_go (T : Tbl) (K : List Kt) (fr : Fr) (S : St) : gval T (.code frame_sealed_l0 :: K) fr S = gval T (.code (.seq (.region frame_sealed_r3) (.seq (.cond (.tmp 10) .skip (.exit 0)) (.seq (.block 1 (.seq (.clr [(11, 12)] (.region frame_sealed_r4)) (.clr [(12, 20)] (.region frame_sealed_r5)))) (.clr [(20, 21)] (.region frame_sealed_r6))))) :: K) fr S := rfl
def frame_sealed_r7 : List POper := [
  ⟨some 21, .mov (.tmp 0), none⟩,
  ⟨some 4, .mov (.tmp 21), none⟩]
@[simp] theorem frame_sealed_r7_go (T : Tbl) (K : List Kt) (fr : Fr) (S : St) : gval T (.ops frame_sealed_r7 :: K) fr S = gval T (.ops [
  ⟨some 21, .mov (.tmp 0), none⟩,
  ⟨some 4, .mov (.tmp 21), none⟩] :: K) fr S := rfl
def frame_sealed : PCodeFn :=
  ⟨2, [.tmp 4],
  (.seq (.region frame_sealed_r0) (.seq (.clr [(7, 9)] (.region frame_sealed_r1)) (.seq (.seq (.region frame_sealed_r2) (.block 0 (.loop frame_sealed_l0))) (.seq (.clr [(21, 22)] (.region frame_sealed_r7)) .ret)))), false⟩

end Ps
