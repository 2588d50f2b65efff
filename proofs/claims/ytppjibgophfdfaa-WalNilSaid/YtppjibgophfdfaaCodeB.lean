/- The functions' code, as the pure semantics has it: printed by program. -/
import Derived.Test.YtppjibgophfdfaaCodeA
namespace Ps
open Go
set_option maxRecDepth 10000

/-! gauge/wal.Of: 143 -/
def wal_Of_r0 : List POper := [
  ⟨some 2, .alloc false [(.int .i64 0), .nils, .nils, .nils, (.int .i64 0), (.int .i64 0)], none⟩,
  ⟨some 3, .mov (.cst (.int .i64 0)), none⟩]
@[simp] theorem wal_Of_r0_go (T : Tbl) (K : List Kt) (fr : Fr) (S : St) : gval T (.ops wal_Of_r0 :: K) fr S = gval T (.ops [
  ⟨some 2, .alloc false [(.int .i64 0), .nils, .nils, .nils, (.int .i64 0), (.int .i64 0)], none⟩,
  ⟨some 3, .mov (.cst (.int .i64 0)), none⟩] :: K) fr S := rfl
def wal_Of_r1 : List POper := [
  ⟨some 10, .mov (.tmp 0), none⟩,
  ⟨some 11, .build [.nils, (.int .i64 0), (.bool false)] [(0, 1, (.tmp 10))], none⟩,
  ⟨some 12, .box false (.tmp 11), none⟩,
  ⟨some 4, .mov (.tmp 12), none⟩]
@[simp] theorem wal_Of_r1_go (T : Tbl) (K : List Kt) (fr : Fr) (S : St) : gval T (.ops wal_Of_r1 :: K) fr S = gval T (.ops [
  ⟨some 10, .mov (.tmp 0), none⟩,
  ⟨some 11, .build [.nils, (.int .i64 0), (.bool false)] [(0, 1, (.tmp 10))], none⟩,
  ⟨some 12, .box false (.tmp 11), none⟩,
  ⟨some 4, .mov (.tmp 12), none⟩] :: K) fr S := rfl
def wal_Of_r2 : List POper := [
  ⟨some 13, .mov (.tmp 4), none⟩,
  ⟨some 14, .call .std 243 [(.tmp 13)], none⟩,
  ⟨some 15, .build [(.int .i64 0), .nils, .nils, .nils, (.int .i64 0), (.int .i64 0)] [(0, 1, (.tmp 14))], none⟩,
  ⟨some 5, .alloc false [(.int .i64 0), .nils, .nils, .nils, (.int .i64 0), (.int .i64 0)], none⟩,
  ⟨none, .store 6 (.tmp 5) (.tmp 15), none⟩]
@[simp] theorem wal_Of_r2_go (T : Tbl) (K : List Kt) (fr : Fr) (S : St) : gval T (.ops wal_Of_r2 :: K) fr S = gval T (.ops [
  ⟨some 13, .mov (.tmp 4), none⟩,
  ⟨some 14, .call .std 243 [(.tmp 13)], none⟩,
  ⟨some 15, .build [(.int .i64 0), .nils, .nils, .nils, (.int .i64 0), (.int .i64 0)] [(0, 1, (.tmp 14))], none⟩,
  ⟨some 5, .alloc false [(.int .i64 0), .nils, .nils, .nils, (.int .i64 0), (.int .i64 0)], none⟩,
  ⟨none, .store 6 (.tmp 5) (.tmp 15), none⟩] :: K) fr S := rfl
def wal_Of_r3 : List POper := [
  ⟨some 6, .mov (.cst (.int .i64 0)), none⟩]
@[simp] theorem wal_Of_r3_go (T : Tbl) (K : List Kt) (fr : Fr) (S : St) : gval T (.ops wal_Of_r3 :: K) fr S = gval T (.ops [
  ⟨some 6, .mov (.cst (.int .i64 0)), none⟩] :: K) fr S := rfl
def wal_Of_r4 : List POper := [
  ⟨some 16, .faddr 0 (.tmp 5), none⟩,
  ⟨some 17, .load false 1 false (.tmp 16), none⟩]
@[simp] theorem wal_Of_r4_go (T : Tbl) (K : List Kt) (fr : Fr) (S : St) : gval T (.ops wal_Of_r4 :: K) fr S = gval T (.ops [
  ⟨some 16, .faddr 0 (.tmp 5), none⟩,
  ⟨some 17, .load false 1 false (.tmp 16), none⟩] :: K) fr S := rfl
def wal_Of_r5 : List POper := [
  ⟨some 19, .arith .eql (.tmp 17) (.cst (.int .i64 1)), none⟩,
  ⟨some 18, .mov (.tmp 19), none⟩]
@[simp] theorem wal_Of_r5_go (T : Tbl) (K : List Kt) (fr : Fr) (S : St) : gval T (.ops wal_Of_r5 :: K) fr S = gval T (.ops [
  ⟨some 19, .arith .eql (.tmp 17) (.cst (.int .i64 1)), none⟩,
  ⟨some 18, .mov (.tmp 19), none⟩] :: K) fr S := rfl
def wal_Of_r6 : List POper := [
  ⟨some 21, .mov (.tmp 0), none⟩,
  ⟨some 22, .mov (.tmp 4), none⟩,
  ⟨some 23, .nilck (.tmp 22), none⟩,
  ⟨some 24, .faddr 1 (.tmp 23), none⟩,
  ⟨some 25, .load false 1 false (.tmp 24), none⟩,
  ⟨some 26, .call .std 31 [(.tmp 21), (.tmp 25)], none⟩,
  ⟨some 20, .mov (.tmp 26), none⟩,
  ⟨some 27, .extract 0 (.tmp 20), none⟩,
  ⟨some 28, .extract 1 (.tmp 20), none⟩,
  ⟨some 29, .extract 2 (.tmp 20), none⟩,
  ⟨some 30, .faddr 1 (.tmp 5), none⟩,
  ⟨none, .store 1 (.tmp 30) (.tmp 27), none⟩,
  ⟨some 6, .mov (.tmp 29), none⟩]
@[simp] theorem wal_Of_r6_go (T : Tbl) (K : List Kt) (fr : Fr) (S : St) : gval T (.ops wal_Of_r6 :: K) fr S = gval T (.ops [
  ⟨some 21, .mov (.tmp 0), none⟩,
  ⟨some 22, .mov (.tmp 4), none⟩,
  ⟨some 23, .nilck (.tmp 22), none⟩,
  ⟨some 24, .faddr 1 (.tmp 23), none⟩,
  ⟨some 25, .load false 1 false (.tmp 24), none⟩,
  ⟨some 26, .call .std 31 [(.tmp 21), (.tmp 25)], none⟩,
  ⟨some 20, .mov (.tmp 26), none⟩,
  ⟨some 27, .extract 0 (.tmp 20), none⟩,
  ⟨some 28, .extract 1 (.tmp 20), none⟩,
  ⟨some 29, .extract 2 (.tmp 20), none⟩,
  ⟨some 30, .faddr 1 (.tmp 5), none⟩,
  ⟨none, .store 1 (.tmp 30) (.tmp 27), none⟩,
  ⟨some 6, .mov (.tmp 29), none⟩] :: K) fr S := rfl
def wal_Of_r7 : List POper := [
  ⟨some 32, .arith .eql (.tmp 17) (.cst (.int .i64 2)), none⟩,
  ⟨some 31, .mov (.tmp 32), none⟩]
@[simp] theorem wal_Of_r7_go (T : Tbl) (K : List Kt) (fr : Fr) (S : St) : gval T (.ops wal_Of_r7 :: K) fr S = gval T (.ops [
  ⟨some 32, .arith .eql (.tmp 17) (.cst (.int .i64 2)), none⟩,
  ⟨some 31, .mov (.tmp 32), none⟩] :: K) fr S := rfl
def wal_Of_r8 : List POper := [
  ⟨some 33, .mov (.tmp 4), none⟩,
  ⟨some 34, .call .std 243 [(.tmp 33)], none⟩,
  ⟨some 7, .mov (.tmp 34), none⟩]
@[simp] theorem wal_Of_r8_go (T : Tbl) (K : List Kt) (fr : Fr) (S : St) : gval T (.ops wal_Of_r8 :: K) fr S = gval T (.ops [
  ⟨some 33, .mov (.tmp 4), none⟩,
  ⟨some 34, .call .std 243 [(.tmp 33)], none⟩,
  ⟨some 7, .mov (.tmp 34), none⟩] :: K) fr S := rfl
def wal_Of_r9 : List POper := [
  ⟨some 35, .faddr 2 (.tmp 5), none⟩,
  ⟨some 36, .load false 1 false (.tmp 35), none⟩,
  ⟨some 37, .len false (.tmp 36), none⟩,
  ⟨some 38, .mov (.tmp 7), none⟩,
  ⟨some 39, .mnmx false (.tmp 38) (.cst (.int .i64 65)), none⟩,
  ⟨some 40, .arith .lss (.tmp 37) (.tmp 39), none⟩,
  ⟨some 41, .mov (.tmp 40), none⟩,
  ⟨some 42, .mov (.tmp 4), some (41, true)⟩,
  ⟨some 43, .nilck (.tmp 42), some (41, true)⟩,
  ⟨some 44, .faddr 2 (.tmp 43), some (41, true)⟩,
  ⟨some 45, .load false 1 false (.tmp 44), some (41, true)⟩,
  ⟨some 46, .un .not (.tmp 45), some (41, true)⟩,
  ⟨some 47, .pick (.tmp 41) (.tmp 46) (.cst (.bool false)), none⟩]
@[simp] theorem wal_Of_r9_go (T : Tbl) (K : List Kt) (fr : Fr) (S : St) : gval T (.ops wal_Of_r9 :: K) fr S = gval T (.ops [
  ⟨some 35, .faddr 2 (.tmp 5), none⟩,
  ⟨some 36, .load false 1 false (.tmp 35), none⟩,
  ⟨some 37, .len false (.tmp 36), none⟩,
  ⟨some 38, .mov (.tmp 7), none⟩,
  ⟨some 39, .mnmx false (.tmp 38) (.cst (.int .i64 65)), none⟩,
  ⟨some 40, .arith .lss (.tmp 37) (.tmp 39), none⟩,
  ⟨some 41, .mov (.tmp 40), none⟩,
  ⟨some 42, .mov (.tmp 4), some (41, true)⟩,
  ⟨some 43, .nilck (.tmp 42), some (41, true)⟩,
  ⟨some 44, .faddr 2 (.tmp 43), some (41, true)⟩,
  ⟨some 45, .load false 1 false (.tmp 44), some (41, true)⟩,
  ⟨some 46, .un .not (.tmp 45), some (41, true)⟩,
  ⟨some 47, .pick (.tmp 41) (.tmp 46) (.cst (.bool false)), none⟩] :: K) fr S := rfl
def wal_Of_r10 : List POper := [
  ⟨some 48, .faddr 2 (.tmp 5), none⟩,
  ⟨some 49, .loadb 5 false 1 (.tmp 48), none⟩,
  ⟨some 50, .mov (.tmp 4), none⟩,
  ⟨some 51, .callb 5 243 [(.tmp 50)], none⟩,
  ⟨some 52, .mov (.tmp 4), none⟩,
  ⟨some 53, .callb 5 243 [(.tmp 52)], none⟩,
  ⟨some 54, .mov (.tmp 4), none⟩,
  ⟨some 55, .callb 5 243 [(.tmp 54)], none⟩,
  ⟨some 56, .call .pur 244 [(.tmp 55)], none⟩,
  ⟨some 57, .build [(.int .i64 0), (.int .i64 0)] [(0, 1, (.tmp 53)), (1, 1, (.tmp 56))], none⟩,
  ⟨some 58, .build [(.int .i64 0), (.int .i64 0), (.int .i64 0)] [(0, 1, (.tmp 51)), (1, 2, (.tmp 57))], none⟩,
  ⟨some 59, .bsl false (.agg [(.int .i64 0), (.int .i64 0), (.int .i64 0)]) 1 [(0, (.tmp 58))], none⟩,
  ⟨some 60, .app 3 24 (.tmp 49) (.tmp 59), none⟩,
  ⟨some 61, .faddr 2 (.tmp 5), none⟩,
  ⟨none, .store 1 (.tmp 61) (.tmp 60), none⟩]
@[simp] theorem wal_Of_r10_go (T : Tbl) (K : List Kt) (fr : Fr) (S : St) : gval T (.ops wal_Of_r10 :: K) fr S = gval T (.ops [
  ⟨some 48, .faddr 2 (.tmp 5), none⟩,
  ⟨some 49, .loadb 5 false 1 (.tmp 48), none⟩,
  ⟨some 50, .mov (.tmp 4), none⟩,
  ⟨some 51, .callb 5 243 [(.tmp 50)], none⟩,
  ⟨some 52, .mov (.tmp 4), none⟩,
  ⟨some 53, .callb 5 243 [(.tmp 52)], none⟩,
  ⟨some 54, .mov (.tmp 4), none⟩,
  ⟨some 55, .callb 5 243 [(.tmp 54)], none⟩,
  ⟨some 56, .call .pur 244 [(.tmp 55)], none⟩,
  ⟨some 57, .build [(.int .i64 0), (.int .i64 0)] [(0, 1, (.tmp 53)), (1, 1, (.tmp 56))], none⟩,
  ⟨some 58, .build [(.int .i64 0), (.int .i64 0), (.int .i64 0)] [(0, 1, (.tmp 51)), (1, 2, (.tmp 57))], none⟩,
  ⟨some 59, .bsl false (.agg [(.int .i64 0), (.int .i64 0), (.int .i64 0)]) 1 [(0, (.tmp 58))], none⟩,
  ⟨some 60, .app 3 24 (.tmp 49) (.tmp 59), none⟩,
  ⟨some 61, .faddr 2 (.tmp 5), none⟩,
  ⟨none, .store 1 (.tmp 61) (.tmp 60), none⟩] :: K) fr S := rfl
def wal_Of_l0 : PCode :=
  (.seq (.seq (.clr [(35, 47)] (.region wal_Of_r9)) (.cond (.tmp 47) .skip (.exit 1))) (.block 2 (.clr [(48, 62)] (.region wal_Of_r10))))
@[simp] theorem wal_Of_l0_go (T : Tbl) (K : List Kt) (fr : Fr) (S : St) : gval T (.code wal_Of_l0 :: K) fr S = gval T (.code (.seq (.seq (.clr [(35, 47)] (.region wal_Of_r9)) (.cond (.tmp 47) .skip (.exit 1))) (.block 2 (.clr [(48, 62)] (.region wal_Of_r10)))) :: K) fr S := rfl
def wal_Of_r11 : List POper := [
  ⟨some 63, .arith .eql (.tmp 17) (.cst (.int .i64 3)), none⟩,
  ⟨some 62, .mov (.tmp 63), none⟩]
@[simp] theorem wal_Of_r11_go (T : Tbl) (K : List Kt) (fr : Fr) (S : St) : gval T (.ops wal_Of_r11 :: K) fr S = gval T (.ops [
  ⟨some 63, .arith .eql (.tmp 17) (.cst (.int .i64 3)), none⟩,
  ⟨some 62, .mov (.tmp 63), none⟩] :: K) fr S := rfl
def wal_Of_r12 : List POper := [
  ⟨some 65, .mov (.tmp 4), none⟩,
  ⟨some 66, .mov (.tmp 0), none⟩,
  ⟨some 67, .mov (.tmp 4), none⟩,
  ⟨some 68, .nilck (.tmp 67), none⟩,
  ⟨some 69, .faddr 1 (.tmp 68), none⟩,
  ⟨some 70, .load false 1 false (.tmp 69), none⟩,
  ⟨some 71, .call .std 245 [(.tmp 66), (.tmp 70)], none⟩,
  ⟨some 64, .mov (.tmp 71), none⟩,
  ⟨some 72, .extract 0 (.tmp 64), none⟩,
  ⟨some 73, .extract 1 (.tmp 64), none⟩,
  ⟨some 74, .extract 2 (.tmp 64), none⟩,
  ⟨some 75, .faddr 3 (.tmp 5), none⟩,
  ⟨none, .store 1 (.tmp 75) (.tmp 72), none⟩,
  ⟨some 76, .nilck (.tmp 65), none⟩,
  ⟨some 77, .faddr 1 (.tmp 76), none⟩,
  ⟨none, .store 1 (.tmp 77) (.tmp 73), none⟩,
  ⟨some 6, .mov (.tmp 74), none⟩]
@[simp] theorem wal_Of_r12_go (T : Tbl) (K : List Kt) (fr : Fr) (S : St) : gval T (.ops wal_Of_r12 :: K) fr S = gval T (.ops [
  ⟨some 65, .mov (.tmp 4), none⟩,
  ⟨some 66, .mov (.tmp 0), none⟩,
  ⟨some 67, .mov (.tmp 4), none⟩,
  ⟨some 68, .nilck (.tmp 67), none⟩,
  ⟨some 69, .faddr 1 (.tmp 68), none⟩,
  ⟨some 70, .load false 1 false (.tmp 69), none⟩,
  ⟨some 71, .call .std 245 [(.tmp 66), (.tmp 70)], none⟩,
  ⟨some 64, .mov (.tmp 71), none⟩,
  ⟨some 72, .extract 0 (.tmp 64), none⟩,
  ⟨some 73, .extract 1 (.tmp 64), none⟩,
  ⟨some 74, .extract 2 (.tmp 64), none⟩,
  ⟨some 75, .faddr 3 (.tmp 5), none⟩,
  ⟨none, .store 1 (.tmp 75) (.tmp 72), none⟩,
  ⟨some 76, .nilck (.tmp 65), none⟩,
  ⟨some 77, .faddr 1 (.tmp 76), none⟩,
  ⟨none, .store 1 (.tmp 77) (.tmp 73), none⟩,
  ⟨some 6, .mov (.tmp 74), none⟩] :: K) fr S := rfl
def wal_Of_r13 : List POper := [
  ⟨some 78, .mov (.tmp 4), none⟩,
  ⟨some 79, .call .std 243 [(.tmp 78)], none⟩,
  ⟨some 80, .mov (.tmp 4), none⟩,
  ⟨some 81, .call .std 243 [(.tmp 80)], none⟩,
  ⟨some 82, .faddr 4 (.tmp 5), none⟩,
  ⟨none, .store 1 (.tmp 82) (.tmp 79), none⟩,
  ⟨some 83, .faddr 5 (.tmp 5), none⟩,
  ⟨none, .store 1 (.tmp 83) (.tmp 81), none⟩]
@[simp] theorem wal_Of_r13_go (T : Tbl) (K : List Kt) (fr : Fr) (S : St) : gval T (.ops wal_Of_r13 :: K) fr S = gval T (.ops [
  ⟨some 78, .mov (.tmp 4), none⟩,
  ⟨some 79, .call .std 243 [(.tmp 78)], none⟩,
  ⟨some 80, .mov (.tmp 4), none⟩,
  ⟨some 81, .call .std 243 [(.tmp 80)], none⟩,
  ⟨some 82, .faddr 4 (.tmp 5), none⟩,
  ⟨none, .store 1 (.tmp 82) (.tmp 79), none⟩,
  ⟨some 83, .faddr 5 (.tmp 5), none⟩,
  ⟨none, .store 1 (.tmp 83) (.tmp 81), none⟩] :: K) fr S := rfl
def wal_Of_r14 : List POper := [
  ⟨some 84, .mov (.tmp 4), none⟩,
  ⟨some 85, .nilck (.tmp 84), none⟩,
  ⟨some 86, .faddr 2 (.tmp 85), none⟩,
  ⟨some 87, .load false 1 false (.tmp 86), none⟩,
  ⟨some 88, .mov (.tmp 87), none⟩,
  ⟨some 89, .mov (.tmp 6), some (88, false)⟩,
  ⟨some 90, .arith .neq (.tmp 89) (.cst (.int .i64 0)), some (88, false)⟩,
  ⟨some 91, .pick (.tmp 88) (.cst (.bool true)) (.tmp 90), none⟩]
@[simp] theorem wal_Of_r14_go (T : Tbl) (K : List Kt) (fr : Fr) (S : St) : gval T (.ops wal_Of_r14 :: K) fr S = gval T (.ops [
  ⟨some 84, .mov (.tmp 4), none⟩,
  ⟨some 85, .nilck (.tmp 84), none⟩,
  ⟨some 86, .faddr 2 (.tmp 85), none⟩,
  ⟨some 87, .load false 1 false (.tmp 86), none⟩,
  ⟨some 88, .mov (.tmp 87), none⟩,
  ⟨some 89, .mov (.tmp 6), some (88, false)⟩,
  ⟨some 90, .arith .neq (.tmp 89) (.cst (.int .i64 0)), some (88, false)⟩,
  ⟨some 91, .pick (.tmp 88) (.cst (.bool true)) (.tmp 90), none⟩] :: K) fr S := rfl
def wal_Of_r15 : List POper := [
  ⟨some 92, .build [(.int .i64 0), .nils, .nils, .nils, (.int .i64 0), (.int .i64 0)] [], none⟩,
  ⟨none, .store 6 (.tmp 2) (.tmp 92), none⟩,
  ⟨some 3, .mov (.cst (.int .i64 5)), none⟩]
@[simp] theorem wal_Of_r15_go (T : Tbl) (K : List Kt) (fr : Fr) (S : St) : gval T (.ops wal_Of_r15 :: K) fr S = gval T (.ops [
  ⟨some 92, .build [(.int .i64 0), .nils, .nils, .nils, (.int .i64 0), (.int .i64 0)] [], none⟩,
  ⟨none, .store 6 (.tmp 2) (.tmp 92), none⟩,
  ⟨some 3, .mov (.cst (.int .i64 5)), none⟩] :: K) fr S := rfl
def wal_Of_r16 : List POper := [
  ⟨some 94, .load true 6 false (.tmp 5), none⟩,
  ⟨some 95, .call .std 142 [(.tmp 94)], none⟩,
  ⟨some 93, .mov (.tmp 95), none⟩,
  ⟨some 96, .extract 0 (.tmp 93), none⟩,
  ⟨some 97, .extract 1 (.tmp 93), none⟩,
  ⟨some 8, .mov (.tmp 96), none⟩,
  ⟨some 9, .mov (.tmp 97), none⟩]
@[simp] theorem wal_Of_r16_go (T : Tbl) (K : List Kt) (fr : Fr) (S : St) : gval T (.ops wal_Of_r16 :: K) fr S = gval T (.ops [
  ⟨some 94, .load true 6 false (.tmp 5), none⟩,
  ⟨some 95, .call .std 142 [(.tmp 94)], none⟩,
  ⟨some 93, .mov (.tmp 95), none⟩,
  ⟨some 96, .extract 0 (.tmp 93), none⟩,
  ⟨some 97, .extract 1 (.tmp 93), none⟩,
  ⟨some 8, .mov (.tmp 96), none⟩,
  ⟨some 9, .mov (.tmp 97), none⟩] :: K) fr S := rfl
def wal_Of_r17 : List POper := [
  ⟨some 98, .mov (.tmp 9), none⟩,
  ⟨some 99, .arith .neq (.tmp 98) (.cst (.int .i64 0)), none⟩,
  ⟨some 100, .mov (.tmp 99), none⟩,
  ⟨some 101, .mov (.tmp 8), some (100, false)⟩,
  ⟨some 102, .mov (.tmp 0), some (100, false)⟩,
  ⟨some 103, .call .std 246 [(.tmp 101), (.tmp 102)], some (100, false)⟩,
  ⟨some 104, .un .not (.tmp 103), some (100, false)⟩,
  ⟨some 105, .pick (.tmp 100) (.cst (.bool true)) (.tmp 104), none⟩]
@[simp] theorem wal_Of_r17_go (T : Tbl) (K : List Kt) (fr : Fr) (S : St) : gval T (.ops wal_Of_r17 :: K) fr S = gval T (.ops [
  ⟨some 98, .mov (.tmp 9), none⟩,
  ⟨some 99, .arith .neq (.tmp 98) (.cst (.int .i64 0)), none⟩,
  ⟨some 100, .mov (.tmp 99), none⟩,
  ⟨some 101, .mov (.tmp 8), some (100, false)⟩,
  ⟨some 102, .mov (.tmp 0), some (100, false)⟩,
  ⟨some 103, .call .std 246 [(.tmp 101), (.tmp 102)], some (100, false)⟩,
  ⟨some 104, .un .not (.tmp 103), some (100, false)⟩,
  ⟨some 105, .pick (.tmp 100) (.cst (.bool true)) (.tmp 104), none⟩] :: K) fr S := rfl
def wal_Of_r18 : List POper := [
  ⟨some 106, .build [(.int .i64 0), .nils, .nils, .nils, (.int .i64 0), (.int .i64 0)] [], none⟩,
  ⟨none, .store 6 (.tmp 2) (.tmp 106), none⟩,
  ⟨some 3, .mov (.cst (.int .i64 5)), none⟩]
@[simp] theorem wal_Of_r18_go (T : Tbl) (K : List Kt) (fr : Fr) (S : St) : gval T (.ops wal_Of_r18 :: K) fr S = gval T (.ops [
  ⟨some 106, .build [(.int .i64 0), .nils, .nils, .nils, (.int .i64 0), (.int .i64 0)] [], none⟩,
  ⟨none, .store 6 (.tmp 2) (.tmp 106), none⟩,
  ⟨some 3, .mov (.cst (.int .i64 5)), none⟩] :: K) fr S := rfl
def wal_Of_r19 : List POper := [
  ⟨some 107, .load true 6 false (.tmp 5), none⟩,
  ⟨none, .store 6 (.tmp 2) (.tmp 107), none⟩,
  ⟨some 3, .mov (.cst (.int .i64 0)), none⟩]
@[simp] theorem wal_Of_r19_go (T : Tbl) (K : List Kt) (fr : Fr) (S : St) : gval T (.ops wal_Of_r19 :: K) fr S = gval T (.ops [
  ⟨some 107, .load true 6 false (.tmp 5), none⟩,
  ⟨none, .store 6 (.tmp 2) (.tmp 107), none⟩,
  ⟨some 3, .mov (.cst (.int .i64 0)), none⟩] :: K) fr S := rfl
def wal_Of : PCodeFn :=
  ⟨1, [.cell 2 true 6, .tmp 3],
  (.seq (.region wal_Of_r0) (.seq (.clr [(10, 13)] (.region wal_Of_r1)) (.seq (.clr [(13, 16)] (.region wal_Of_r2)) (.seq (.region wal_Of_r3) (.seq (.seq (.clr [(16, 17)] (.region wal_Of_r4)) (.block 0 (.seq (.clr [(19, 20)] (.region wal_Of_r5)) (.cond (.tmp 18) (.clr [(20, 31)] (.region wal_Of_r6)) (.seq (.clr [(32, 33)] (.region wal_Of_r7)) (.cond (.tmp 31) (.seq (.clr [(33, 35)] (.region wal_Of_r8)) (.block 1 (.loop wal_Of_l0))) (.seq (.clr [(63, 64)] (.region wal_Of_r11)) (.cond (.tmp 62) (.seq (.clr [(64, 78)] (.region wal_Of_r12)) (.clr [(78, 84)] (.region wal_Of_r13))) .skip)))))))) (.seq (.seq (.clr [(84, 91)] (.region wal_Of_r14)) (.cond (.tmp 91) (.seq (.clr [(92, 93)] (.region wal_Of_r15)) .ret) .skip)) (.seq (.seq (.clr [(93, 98)] (.region wal_Of_r16)) (.seq (.clr [(98, 105)] (.region wal_Of_r17)) (.cond (.tmp 105) (.seq (.clr [(106, 107)] (.region wal_Of_r18)) .ret) .skip))) (.seq (.clr [(107, 108)] (.region wal_Of_r19)) .ret)))))))), false⟩

/-! gauge/gaugeref11.Of: 325 -/
def ref11_Of_r0 : List POper := [
  ⟨some 2, .alloc false [(.int .i64 0), .nils, .nils, .nils, (.int .i64 0), (.int .i64 0)], none⟩,
  ⟨some 3, .mov (.cst (.int .i64 0)), none⟩]
@[simp] theorem ref11_Of_r0_go (T : Tbl) (K : List Kt) (fr : Fr) (S : St) : gval T (.ops ref11_Of_r0 :: K) fr S = gval T (.ops [
  ⟨some 2, .alloc false [(.int .i64 0), .nils, .nils, .nils, (.int .i64 0), (.int .i64 0)], none⟩,
  ⟨some 3, .mov (.cst (.int .i64 0)), none⟩] :: K) fr S := rfl
def ref11_Of_r1 : List POper := [
  ⟨some 9, .mov (.tmp 0), none⟩,
  ⟨some 10, .call .std 374 [(.tmp 9)], none⟩,
  ⟨some 8, .mov (.tmp 10), none⟩,
  ⟨some 11, .extract 0 (.tmp 8), none⟩,
  ⟨some 12, .extract 1 (.tmp 8), none⟩,
  ⟨some 4, .alloc false [(.int .i64 0), .nils, .nils, .nils, (.int .i64 0), (.int .i64 0)], none⟩,
  ⟨none, .store 6 (.tmp 4) (.tmp 11), none⟩,
  ⟨some 5, .mov (.tmp 12), none⟩]
@[simp] theorem ref11_Of_r1_go (T : Tbl) (K : List Kt) (fr : Fr) (S : St) : gval T (.ops ref11_Of_r1 :: K) fr S = gval T (.ops [
  ⟨some 9, .mov (.tmp 0), none⟩,
  ⟨some 10, .call .std 374 [(.tmp 9)], none⟩,
  ⟨some 8, .mov (.tmp 10), none⟩,
  ⟨some 11, .extract 0 (.tmp 8), none⟩,
  ⟨some 12, .extract 1 (.tmp 8), none⟩,
  ⟨some 4, .alloc false [(.int .i64 0), .nils, .nils, .nils, (.int .i64 0), (.int .i64 0)], none⟩,
  ⟨none, .store 6 (.tmp 4) (.tmp 11), none⟩,
  ⟨some 5, .mov (.tmp 12), none⟩] :: K) fr S := rfl
def ref11_Of_r2 : List POper := [
  ⟨some 13, .mov (.tmp 5), none⟩,
  ⟨some 14, .un .not (.tmp 13), none⟩]
@[simp] theorem ref11_Of_r2_go (T : Tbl) (K : List Kt) (fr : Fr) (S : St) : gval T (.ops ref11_Of_r2 :: K) fr S = gval T (.ops [
  ⟨some 13, .mov (.tmp 5), none⟩,
  ⟨some 14, .un .not (.tmp 13), none⟩] :: K) fr S := rfl
def ref11_Of_r3 : List POper := [
  ⟨some 15, .build [(.int .i64 0), .nils, .nils, .nils, (.int .i64 0), (.int .i64 0)] [], none⟩,
  ⟨none, .store 6 (.tmp 2) (.tmp 15), none⟩,
  ⟨some 3, .mov (.cst (.int .i64 5)), none⟩]
@[simp] theorem ref11_Of_r3_go (T : Tbl) (K : List Kt) (fr : Fr) (S : St) : gval T (.ops ref11_Of_r3 :: K) fr S = gval T (.ops [
  ⟨some 15, .build [(.int .i64 0), .nils, .nils, .nils, (.int .i64 0), (.int .i64 0)] [], none⟩,
  ⟨none, .store 6 (.tmp 2) (.tmp 15), none⟩,
  ⟨some 3, .mov (.cst (.int .i64 5)), none⟩] :: K) fr S := rfl
def ref11_Of_r4 : List POper := [
  ⟨some 17, .load true 6 false (.tmp 4), none⟩,
  ⟨some 18, .call .std 254 [(.tmp 17)], none⟩,
  ⟨some 16, .mov (.tmp 18), none⟩,
  ⟨some 19, .extract 0 (.tmp 16), none⟩,
  ⟨some 20, .extract 1 (.tmp 16), none⟩,
  ⟨some 6, .mov (.tmp 19), none⟩,
  ⟨some 7, .mov (.tmp 20), none⟩]
@[simp] theorem ref11_Of_r4_go (T : Tbl) (K : List Kt) (fr : Fr) (S : St) : gval T (.ops ref11_Of_r4 :: K) fr S = gval T (.ops [
  ⟨some 17, .load true 6 false (.tmp 4), none⟩,
  ⟨some 18, .call .std 254 [(.tmp 17)], none⟩,
  ⟨some 16, .mov (.tmp 18), none⟩,
  ⟨some 19, .extract 0 (.tmp 16), none⟩,
  ⟨some 20, .extract 1 (.tmp 16), none⟩,
  ⟨some 6, .mov (.tmp 19), none⟩,
  ⟨some 7, .mov (.tmp 20), none⟩] :: K) fr S := rfl
def ref11_Of_r5 : List POper := [
  ⟨some 21, .mov (.tmp 7), none⟩,
  ⟨some 22, .arith .neq (.tmp 21) (.cst (.int .i64 0)), none⟩,
  ⟨some 23, .mov (.tmp 22), none⟩,
  ⟨some 24, .mov (.tmp 6), some (23, false)⟩,
  ⟨some 25, .toStr (.tmp 24), some (23, false)⟩,
  ⟨some 26, .mov (.tmp 0), some (23, false)⟩,
  ⟨some 27, .toStr (.tmp 26), some (23, false)⟩,
  ⟨some 28, .arith .neq (.tmp 25) (.tmp 27), some (23, false)⟩,
  ⟨some 29, .pick (.tmp 23) (.cst (.bool true)) (.tmp 28), none⟩]
@[simp] theorem ref11_Of_r5_go (T : Tbl) (K : List Kt) (fr : Fr) (S : St) : gval T (.ops ref11_Of_r5 :: K) fr S = gval T (.ops [
  ⟨some 21, .mov (.tmp 7), none⟩,
  ⟨some 22, .arith .neq (.tmp 21) (.cst (.int .i64 0)), none⟩,
  ⟨some 23, .mov (.tmp 22), none⟩,
  ⟨some 24, .mov (.tmp 6), some (23, false)⟩,
  ⟨some 25, .toStr (.tmp 24), some (23, false)⟩,
  ⟨some 26, .mov (.tmp 0), some (23, false)⟩,
  ⟨some 27, .toStr (.tmp 26), some (23, false)⟩,
  ⟨some 28, .arith .neq (.tmp 25) (.tmp 27), some (23, false)⟩,
  ⟨some 29, .pick (.tmp 23) (.cst (.bool true)) (.tmp 28), none⟩] :: K) fr S := rfl
def ref11_Of_r6 : List POper := [
  ⟨some 30, .build [(.int .i64 0), .nils, .nils, .nils, (.int .i64 0), (.int .i64 0)] [], none⟩,
  ⟨none, .store 6 (.tmp 2) (.tmp 30), none⟩,
  ⟨some 3, .mov (.cst (.int .i64 5)), none⟩]
@[simp] theorem ref11_Of_r6_go (T : Tbl) (K : List Kt) (fr : Fr) (S : St) : gval T (.ops ref11_Of_r6 :: K) fr S = gval T (.ops [
  ⟨some 30, .build [(.int .i64 0), .nils, .nils, .nils, (.int .i64 0), (.int .i64 0)] [], none⟩,
  ⟨none, .store 6 (.tmp 2) (.tmp 30), none⟩,
  ⟨some 3, .mov (.cst (.int .i64 5)), none⟩] :: K) fr S := rfl
def ref11_Of_r7 : List POper := [
  ⟨some 31, .load true 6 false (.tmp 4), none⟩,
  ⟨none, .store 6 (.tmp 2) (.tmp 31), none⟩,
  ⟨some 3, .mov (.cst (.int .i64 0)), none⟩]
@[simp] theorem ref11_Of_r7_go (T : Tbl) (K : List Kt) (fr : Fr) (S : St) : gval T (.ops ref11_Of_r7 :: K) fr S = gval T (.ops [
  ⟨some 31, .load true 6 false (.tmp 4), none⟩,
  ⟨none, .store 6 (.tmp 2) (.tmp 31), none⟩,
  ⟨some 3, .mov (.cst (.int .i64 0)), none⟩] :: K) fr S := rfl
def ref11_Of : PCodeFn :=
  ⟨1, [.cell 2 true 6, .tmp 3],
  (.seq (.region ref11_Of_r0) (.seq (.clr [(8, 13)] (.region ref11_Of_r1)) (.seq (.seq (.clr [(13, 14)] (.region ref11_Of_r2)) (.cond (.tmp 14) (.seq (.clr [(15, 16)] (.region ref11_Of_r3)) .ret) .skip)) (.seq (.clr [(16, 21)] (.region ref11_Of_r4)) (.seq (.seq (.clr [(21, 29)] (.region ref11_Of_r5)) (.cond (.tmp 29) (.seq (.clr [(30, 31)] (.region ref11_Of_r6)) .ret) .skip)) (.seq (.clr [(31, 32)] (.region ref11_Of_r7)) .ret)))))), false⟩

/-! gauge/gaugelaw11.lives: 57 -/
def law11_lives_r0 : List POper := [
  ⟨some 0, .mov (.cst (.bool false)), none⟩]
@[simp] theorem law11_lives_r0_go (T : Tbl) (K : List Kt) (fr : Fr) (S : St) : gval T (.ops law11_lives_r0 :: K) fr S = gval T (.ops [
  ⟨some 0, .mov (.cst (.bool false)), none⟩] :: K) fr S := rfl
def law11_lives_r1 : List POper := [
  ⟨some 8, .build [(.int .i64 0), (.int .i64 0)] [(0, 1, (.cst (.int .i64 10))), (1, 1, (.cst (.int .i64 (-1))))], none⟩,
  ⟨some 9, .build [(.int .i64 0), (.int .i64 0), (.int .i64 0)] [(0, 1, (.cst (.int .i64 3))), (1, 2, (.tmp 8))], none⟩,
  ⟨some 10, .bsl false (.agg [(.int .i64 0), (.int .i64 0), (.int .i64 0)]) 1 [(0, (.tmp 9))], none⟩,
  ⟨some 11, .build [(.int .i64 0), .nils, .nils, .nils, (.int .i64 0), (.int .i64 0)] [(0, 1, (.cst (.int .i64 2))), (2, 1, (.tmp 10))], none⟩,
  ⟨some 12, .call .std 142 [(.tmp 11)], none⟩,
  ⟨some 7, .mov (.tmp 12), none⟩,
  ⟨some 13, .extract 0 (.tmp 7), none⟩,
  ⟨some 14, .extract 1 (.tmp 7), none⟩,
  ⟨some 1, .mov (.tmp 13), none⟩,
  ⟨some 2, .mov (.tmp 14), none⟩]
@[simp] theorem law11_lives_r1_go (T : Tbl) (K : List Kt) (fr : Fr) (S : St) : gval T (.ops law11_lives_r1 :: K) fr S = gval T (.ops [
  ⟨some 8, .build [(.int .i64 0), (.int .i64 0)] [(0, 1, (.cst (.int .i64 10))), (1, 1, (.cst (.int .i64 (-1))))], none⟩,
  ⟨some 9, .build [(.int .i64 0), (.int .i64 0), (.int .i64 0)] [(0, 1, (.cst (.int .i64 3))), (1, 2, (.tmp 8))], none⟩,
  ⟨some 10, .bsl false (.agg [(.int .i64 0), (.int .i64 0), (.int .i64 0)]) 1 [(0, (.tmp 9))], none⟩,
  ⟨some 11, .build [(.int .i64 0), .nils, .nils, .nils, (.int .i64 0), (.int .i64 0)] [(0, 1, (.cst (.int .i64 2))), (2, 1, (.tmp 10))], none⟩,
  ⟨some 12, .call .std 142 [(.tmp 11)], none⟩,
  ⟨some 7, .mov (.tmp 12), none⟩,
  ⟨some 13, .extract 0 (.tmp 7), none⟩,
  ⟨some 14, .extract 1 (.tmp 7), none⟩,
  ⟨some 1, .mov (.tmp 13), none⟩,
  ⟨some 2, .mov (.tmp 14), none⟩] :: K) fr S := rfl
def law11_lives_r2 : List POper := [
  ⟨some 16, .bsl false (.int .i64 0) 2 [(0, (.cst (.int .i64 1))), (1, (.cst (.int .i64 3)))], none⟩,
  ⟨some 17, .build [(.int .i64 0), .nils, .nils, .nils, (.int .i64 0), (.int .i64 0)] [(0, 1, (.cst (.int .i64 3))), (3, 1, (.tmp 16)), (4, 1, (.cst (.int .i64 5))), (5, 1, (.cst (.int .i64 9)))], none⟩,
  ⟨some 18, .call .std 142 [(.tmp 17)], none⟩,
  ⟨some 15, .mov (.tmp 18), none⟩,
  ⟨some 19, .extract 0 (.tmp 15), none⟩,
  ⟨some 20, .extract 1 (.tmp 15), none⟩,
  ⟨some 3, .mov (.tmp 19), none⟩,
  ⟨some 4, .mov (.tmp 20), none⟩]
@[simp] theorem law11_lives_r2_go (T : Tbl) (K : List Kt) (fr : Fr) (S : St) : gval T (.ops law11_lives_r2 :: K) fr S = gval T (.ops [
  ⟨some 16, .bsl false (.int .i64 0) 2 [(0, (.cst (.int .i64 1))), (1, (.cst (.int .i64 3)))], none⟩,
  ⟨some 17, .build [(.int .i64 0), .nils, .nils, .nils, (.int .i64 0), (.int .i64 0)] [(0, 1, (.cst (.int .i64 3))), (3, 1, (.tmp 16)), (4, 1, (.cst (.int .i64 5))), (5, 1, (.cst (.int .i64 9)))], none⟩,
  ⟨some 18, .call .std 142 [(.tmp 17)], none⟩,
  ⟨some 15, .mov (.tmp 18), none⟩,
  ⟨some 19, .extract 0 (.tmp 15), none⟩,
  ⟨some 20, .extract 1 (.tmp 15), none⟩,
  ⟨some 3, .mov (.tmp 19), none⟩,
  ⟨some 4, .mov (.tmp 20), none⟩] :: K) fr S := rfl
def law11_lives_r3 : List POper := [
  ⟨some 22, .call .std 143 [(.cst .nils)], none⟩,
  ⟨some 21, .mov (.tmp 22), none⟩,
  ⟨some 23, .extract 0 (.tmp 21), none⟩,
  ⟨some 24, .extract 1 (.tmp 21), none⟩,
  ⟨some 5, .alloc false [(.int .i64 0), .nils, .nils, .nils, (.int .i64 0), (.int .i64 0)], none⟩,
  ⟨none, .store 6 (.tmp 5) (.tmp 23), none⟩,
  ⟨some 6, .mov (.tmp 24), none⟩]
@[simp] theorem law11_lives_r3_go (T : Tbl) (K : List Kt) (fr : Fr) (S : St) : gval T (.ops law11_lives_r3 :: K) fr S = gval T (.ops [
  ⟨some 22, .call .std 143 [(.cst .nils)], none⟩,
  ⟨some 21, .mov (.tmp 22), none⟩,
  ⟨some 23, .extract 0 (.tmp 21), none⟩,
  ⟨some 24, .extract 1 (.tmp 21), none⟩,
  ⟨some 5, .alloc false [(.int .i64 0), .nils, .nils, .nils, (.int .i64 0), (.int .i64 0)], none⟩,
  ⟨none, .store 6 (.tmp 5) (.tmp 23), none⟩,
  ⟨some 6, .mov (.tmp 24), none⟩] :: K) fr S := rfl
def law11_lives_r4 : List POper := [
  ⟨some 25, .mov (.tmp 1), none⟩,
  ⟨some 26, .toStr (.tmp 25), none⟩,
  ⟨some 27, .arith .eql (.tmp 26) (.cst (.str [2, 1, 3, 10, 1])), none⟩,
  ⟨some 28, .mov (.tmp 27), none⟩,
  ⟨some 29, .mov (.tmp 2), some (28, true)⟩,
  ⟨some 30, .arith .eql (.tmp 29) (.cst (.int .i64 0)), some (28, true)⟩,
  ⟨some 31, .pick (.tmp 28) (.tmp 30) (.cst (.bool false)), none⟩,
  ⟨some 32, .mov (.tmp 31), none⟩,
  ⟨some 33, .mov (.tmp 3), some (32, true)⟩,
  ⟨some 34, .toStr (.tmp 33), some (32, true)⟩,
  ⟨some 35, .arith .eql (.tmp 34) (.cst (.str [3, 2, 1, 2, 5, 9])), some (32, true)⟩,
  ⟨some 36, .pick (.tmp 32) (.tmp 35) (.cst (.bool false)), none⟩,
  ⟨some 37, .mov (.tmp 36), none⟩,
  ⟨some 38, .mov (.tmp 4), some (37, true)⟩,
  ⟨some 39, .arith .eql (.tmp 38) (.cst (.int .i64 0)), some (37, true)⟩,
  ⟨some 40, .pick (.tmp 37) (.tmp 39) (.cst (.bool false)), none⟩,
  ⟨some 41, .mov (.tmp 40), none⟩,
  ⟨some 42, .mov (.tmp 6), some (41, true)⟩,
  ⟨some 43, .arith .eql (.tmp 42) (.cst (.int .i64 5)), some (41, true)⟩,
  ⟨some 44, .pick (.tmp 41) (.tmp 43) (.cst (.bool false)), none⟩,
  ⟨some 45, .mov (.tmp 44), none⟩,
  ⟨some 46, .pick (.tmp 45) (.cst (.bool true)) (.cst (.bool false)), none⟩,
  ⟨some 0, .mov (.tmp 46), none⟩]
@[simp] theorem law11_lives_r4_go (T : Tbl) (K : List Kt) (fr : Fr) (S : St) : gval T (.ops law11_lives_r4 :: K) fr S = gval T (.ops [
  ⟨some 25, .mov (.tmp 1), none⟩,
  ⟨some 26, .toStr (.tmp 25), none⟩,
  ⟨some 27, .arith .eql (.tmp 26) (.cst (.str [2, 1, 3, 10, 1])), none⟩,
  ⟨some 28, .mov (.tmp 27), none⟩,
  ⟨some 29, .mov (.tmp 2), some (28, true)⟩,
  ⟨some 30, .arith .eql (.tmp 29) (.cst (.int .i64 0)), some (28, true)⟩,
  ⟨some 31, .pick (.tmp 28) (.tmp 30) (.cst (.bool false)), none⟩,
  ⟨some 32, .mov (.tmp 31), none⟩,
  ⟨some 33, .mov (.tmp 3), some (32, true)⟩,
  ⟨some 34, .toStr (.tmp 33), some (32, true)⟩,
  ⟨some 35, .arith .eql (.tmp 34) (.cst (.str [3, 2, 1, 2, 5, 9])), some (32, true)⟩,
  ⟨some 36, .pick (.tmp 32) (.tmp 35) (.cst (.bool false)), none⟩,
  ⟨some 37, .mov (.tmp 36), none⟩,
  ⟨some 38, .mov (.tmp 4), some (37, true)⟩,
  ⟨some 39, .arith .eql (.tmp 38) (.cst (.int .i64 0)), some (37, true)⟩,
  ⟨some 40, .pick (.tmp 37) (.tmp 39) (.cst (.bool false)), none⟩,
  ⟨some 41, .mov (.tmp 40), none⟩,
  ⟨some 42, .mov (.tmp 6), some (41, true)⟩,
  ⟨some 43, .arith .eql (.tmp 42) (.cst (.int .i64 5)), some (41, true)⟩,
  ⟨some 44, .pick (.tmp 41) (.tmp 43) (.cst (.bool false)), none⟩,
  ⟨some 45, .mov (.tmp 44), none⟩,
  ⟨some 46, .pick (.tmp 45) (.cst (.bool true)) (.cst (.bool false)), none⟩,
  ⟨some 0, .mov (.tmp 46), none⟩] :: K) fr S := rfl
def law11_lives : PCodeFn :=
  ⟨0, [.tmp 0],
  (.seq (.region law11_lives_r0) (.seq (.clr [(7, 15)] (.region law11_lives_r1)) (.seq (.clr [(15, 21)] (.region law11_lives_r2)) (.seq (.clr [(5, 6), (21, 25)] (.region law11_lives_r3)) (.seq (.clr [(25, 47)] (.region law11_lives_r4)) .ret))))), false⟩

/-! gauge/gaugelaw11.again: 490 -/
def law11_again_r0 : List POper := [
  ⟨some 0, .mov (.cst .nilp), none⟩,
  ⟨some 1, .mov (.cst .nilp), none⟩,
  ⟨some 2, .mov (.cst (.bool false)), none⟩]
@[simp] theorem law11_again_r0_go (T : Tbl) (K : List Kt) (fr : Fr) (S : St) : gval T (.ops law11_again_r0 :: K) fr S = gval T (.ops [
  ⟨some 0, .mov (.cst .nilp), none⟩,
  ⟨some 1, .mov (.cst .nilp), none⟩,
  ⟨some 2, .mov (.cst (.bool false)), none⟩] :: K) fr S := rfl
def law11_again_r1 : List POper := [
  ⟨some 9, .call .std 16 [(.cst (.int .i64 4194304))], none⟩,
  ⟨some 8, .mov (.tmp 9), none⟩,
  ⟨some 10, .extract 0 (.tmp 8), none⟩,
  ⟨some 11, .extract 1 (.tmp 8), none⟩,
  ⟨some 3, .mov (.tmp 10), none⟩,
  ⟨some 4, .mov (.tmp 11), none⟩]
@[simp] theorem law11_again_r1_go (T : Tbl) (K : List Kt) (fr : Fr) (S : St) : gval T (.ops law11_again_r1 :: K) fr S = gval T (.ops [
  ⟨some 9, .call .std 16 [(.cst (.int .i64 4194304))], none⟩,
  ⟨some 8, .mov (.tmp 9), none⟩,
  ⟨some 10, .extract 0 (.tmp 8), none⟩,
  ⟨some 11, .extract 1 (.tmp 8), none⟩,
  ⟨some 3, .mov (.tmp 10), none⟩,
  ⟨some 4, .mov (.tmp 11), none⟩] :: K) fr S := rfl
def law11_again_r2 : List POper := [
  ⟨some 12, .mov (.tmp 4), none⟩,
  ⟨some 13, .arith .neq (.tmp 12) (.cst (.int .i64 0)), none⟩,
  ⟨some 14, .mov (.tmp 13), none⟩,
  ⟨some 15, .mov (.tmp 3), some (14, false)⟩,
  ⟨some 16, .eqn false .p (.tmp 15), some (14, false)⟩,
  ⟨some 17, .pick (.tmp 14) (.cst (.bool true)) (.tmp 16), none⟩]
@[simp] theorem law11_again_r2_go (T : Tbl) (K : List Kt) (fr : Fr) (S : St) : gval T (.ops law11_again_r2 :: K) fr S = gval T (.ops [
  ⟨some 12, .mov (.tmp 4), none⟩,
  ⟨some 13, .arith .neq (.tmp 12) (.cst (.int .i64 0)), none⟩,
  ⟨some 14, .mov (.tmp 13), none⟩,
  ⟨some 15, .mov (.tmp 3), some (14, false)⟩,
  ⟨some 16, .eqn false .p (.tmp 15), some (14, false)⟩,
  ⟨some 17, .pick (.tmp 14) (.cst (.bool true)) (.tmp 16), none⟩] :: K) fr S := rfl
def law11_again_r3 : List POper := [
  ⟨some 0, .mov (.cst .nilp), none⟩,
  ⟨some 1, .mov (.cst .nilp), none⟩,
  ⟨some 2, .mov (.cst (.bool false)), none⟩]
@[simp] theorem law11_again_r3_go (T : Tbl) (K : List Kt) (fr : Fr) (S : St) : gval T (.ops law11_again_r3 :: K) fr S = gval T (.ops [
  ⟨some 0, .mov (.cst .nilp), none⟩,
  ⟨some 1, .mov (.cst .nilp), none⟩,
  ⟨some 2, .mov (.cst (.bool false)), none⟩] :: K) fr S := rfl
def law11_again_r4 : List POper := [
  ⟨some 19, .mov (.tmp 3), none⟩,
  ⟨some 20, .call .std 144 [(.tmp 19), (.cst (.str [108, 111, 103]))], none⟩,
  ⟨some 18, .mov (.tmp 20), none⟩,
  ⟨some 21, .extract 0 (.tmp 18), none⟩,
  ⟨some 22, .extract 1 (.tmp 18), none⟩,
  ⟨some 23, .extract 2 (.tmp 18), none⟩,
  ⟨some 5, .mov (.tmp 21), none⟩,
  ⟨some 6, .mov (.tmp 22), none⟩,
  ⟨some 7, .mov (.tmp 23), none⟩]
@[simp] theorem law11_again_r4_go (T : Tbl) (K : List Kt) (fr : Fr) (S : St) : gval T (.ops law11_again_r4 :: K) fr S = gval T (.ops [
  ⟨some 19, .mov (.tmp 3), none⟩,
  ⟨some 20, .call .std 144 [(.tmp 19), (.cst (.str [108, 111, 103]))], none⟩,
  ⟨some 18, .mov (.tmp 20), none⟩,
  ⟨some 21, .extract 0 (.tmp 18), none⟩,
  ⟨some 22, .extract 1 (.tmp 18), none⟩,
  ⟨some 23, .extract 2 (.tmp 18), none⟩,
  ⟨some 5, .mov (.tmp 21), none⟩,
  ⟨some 6, .mov (.tmp 22), none⟩,
  ⟨some 7, .mov (.tmp 23), none⟩] :: K) fr S := rfl
def law11_again_r5 : List POper := [
  ⟨some 24, .mov (.tmp 3), none⟩,
  ⟨some 25, .mov (.tmp 5), none⟩,
  ⟨some 26, .mov (.tmp 7), none⟩,
  ⟨some 27, .arith .eql (.tmp 26) (.cst (.int .i64 0)), none⟩,
  ⟨some 28, .mov (.tmp 27), none⟩,
  ⟨some 29, .mov (.tmp 5), some (28, true)⟩,
  ⟨some 30, .eqn true .p (.tmp 29), some (28, true)⟩,
  ⟨some 31, .pick (.tmp 28) (.tmp 30) (.cst (.bool false)), none⟩,
  ⟨some 0, .mov (.tmp 24), none⟩,
  ⟨some 1, .mov (.tmp 25), none⟩,
  ⟨some 2, .mov (.tmp 31), none⟩]
@[simp] theorem law11_again_r5_go (T : Tbl) (K : List Kt) (fr : Fr) (S : St) : gval T (.ops law11_again_r5 :: K) fr S = gval T (.ops [
  ⟨some 24, .mov (.tmp 3), none⟩,
  ⟨some 25, .mov (.tmp 5), none⟩,
  ⟨some 26, .mov (.tmp 7), none⟩,
  ⟨some 27, .arith .eql (.tmp 26) (.cst (.int .i64 0)), none⟩,
  ⟨some 28, .mov (.tmp 27), none⟩,
  ⟨some 29, .mov (.tmp 5), some (28, true)⟩,
  ⟨some 30, .eqn true .p (.tmp 29), some (28, true)⟩,
  ⟨some 31, .pick (.tmp 28) (.tmp 30) (.cst (.bool false)), none⟩,
  ⟨some 0, .mov (.tmp 24), none⟩,
  ⟨some 1, .mov (.tmp 25), none⟩,
  ⟨some 2, .mov (.tmp 31), none⟩] :: K) fr S := rfl
def law11_again : PCodeFn :=
  ⟨0, [.tmp 0, .tmp 1, .tmp 2],
  (.seq (.region law11_again_r0) (.seq (.clr [(8, 12)] (.region law11_again_r1)) (.seq (.seq (.clr [(12, 17)] (.region law11_again_r2)) (.cond (.tmp 17) (.seq (.region law11_again_r3) .ret) .skip)) (.seq (.clr [(6, 7), (18, 24)] (.region law11_again_r4)) (.seq (.clr [(24, 32)] (.region law11_again_r5)) .ret))))), false⟩

/-! (*gauge/wal.Log).Append: 148 -/
def wal_Log_Append_r0 : List POper := [
  ⟨some 3, .box true (.tmp 1), none⟩,
  ⟨some 4, .mov (.cst (.int .i64 0)), none⟩]
@[simp] theorem wal_Log_Append_r0_go (T : Tbl) (K : List Kt) (fr : Fr) (S : St) : gval T (.ops wal_Log_Append_r0 :: K) fr S = gval T (.ops [
  ⟨some 3, .box true (.tmp 1), none⟩,
  ⟨some 4, .mov (.cst (.int .i64 0)), none⟩] :: K) fr S := rfl
def wal_Log_Append_r1 : List POper := [
  ⟨some 9, .mov (.tmp 0), none⟩,
  ⟨some 10, .eqn false .p (.tmp 9), none⟩]
@[simp] theorem wal_Log_Append_r1_go (T : Tbl) (K : List Kt) (fr : Fr) (S : St) : gval T (.ops wal_Log_Append_r1 :: K) fr S = gval T (.ops [
  ⟨some 9, .mov (.tmp 0), none⟩,
  ⟨some 10, .eqn false .p (.tmp 9), none⟩] :: K) fr S := rfl
def wal_Log_Append_r2 : List POper := [
  ⟨some 4, .mov (.cst (.int .i64 1)), none⟩]
@[simp] theorem wal_Log_Append_r2_go (T : Tbl) (K : List Kt) (fr : Fr) (S : St) : gval T (.ops wal_Log_Append_r2 :: K) fr S = gval T (.ops [
  ⟨some 4, .mov (.cst (.int .i64 1)), none⟩] :: K) fr S := rfl
def wal_Log_Append_r3 : List POper := [
  ⟨some 12, .load true 6 false (.tmp 3), none⟩,
  ⟨some 13, .call .std 142 [(.tmp 12)], none⟩,
  ⟨some 11, .mov (.tmp 13), none⟩,
  ⟨some 14, .extract 0 (.tmp 11), none⟩,
  ⟨some 15, .extract 1 (.tmp 11), none⟩,
  ⟨some 5, .mov (.tmp 14), none⟩,
  ⟨some 6, .mov (.tmp 15), none⟩]
@[simp] theorem wal_Log_Append_r3_go (T : Tbl) (K : List Kt) (fr : Fr) (S : St) : gval T (.ops wal_Log_Append_r3 :: K) fr S = gval T (.ops [
  ⟨some 12, .load true 6 false (.tmp 3), none⟩,
  ⟨some 13, .call .std 142 [(.tmp 12)], none⟩,
  ⟨some 11, .mov (.tmp 13), none⟩,
  ⟨some 14, .extract 0 (.tmp 11), none⟩,
  ⟨some 15, .extract 1 (.tmp 11), none⟩,
  ⟨some 5, .mov (.tmp 14), none⟩,
  ⟨some 6, .mov (.tmp 15), none⟩] :: K) fr S := rfl
def wal_Log_Append_r4 : List POper := [
  ⟨some 16, .mov (.tmp 6), none⟩,
  ⟨some 17, .arith .neq (.tmp 16) (.cst (.int .i64 0)), none⟩]
@[simp] theorem wal_Log_Append_r4_go (T : Tbl) (K : List Kt) (fr : Fr) (S : St) : gval T (.ops wal_Log_Append_r4 :: K) fr S = gval T (.ops [
  ⟨some 16, .mov (.tmp 6), none⟩,
  ⟨some 17, .arith .neq (.tmp 16) (.cst (.int .i64 0)), none⟩] :: K) fr S := rfl
def wal_Log_Append_r5 : List POper := [
  ⟨some 18, .mov (.tmp 6), none⟩,
  ⟨some 4, .mov (.tmp 18), none⟩]
@[simp] theorem wal_Log_Append_r5_go (T : Tbl) (K : List Kt) (fr : Fr) (S : St) : gval T (.ops wal_Log_Append_r5 :: K) fr S = gval T (.ops [
  ⟨some 18, .mov (.tmp 6), none⟩,
  ⟨some 4, .mov (.tmp 18), none⟩] :: K) fr S := rfl
def wal_Log_Append_r6 : List POper := [
  ⟨some 20, .mov (.tmp 5), none⟩,
  ⟨some 21, .call .std 256 [(.cst .nils), (.tmp 20)], none⟩,
  ⟨some 19, .mov (.tmp 21), none⟩,
  ⟨some 22, .extract 0 (.tmp 19), none⟩,
  ⟨some 23, .extract 1 (.tmp 19), none⟩,
  ⟨some 7, .mov (.tmp 22), none⟩,
  ⟨some 6, .mov (.tmp 23), none⟩]
@[simp] theorem wal_Log_Append_r6_go (T : Tbl) (K : List Kt) (fr : Fr) (S : St) : gval T (.ops wal_Log_Append_r6 :: K) fr S = gval T (.ops [
  ⟨some 20, .mov (.tmp 5), none⟩,
  ⟨some 21, .call .std 256 [(.cst .nils), (.tmp 20)], none⟩,
  ⟨some 19, .mov (.tmp 21), none⟩,
  ⟨some 22, .extract 0 (.tmp 19), none⟩,
  ⟨some 23, .extract 1 (.tmp 19), none⟩,
  ⟨some 7, .mov (.tmp 22), none⟩,
  ⟨some 6, .mov (.tmp 23), none⟩] :: K) fr S := rfl
def wal_Log_Append_r7 : List POper := [
  ⟨some 24, .mov (.tmp 6), none⟩,
  ⟨some 25, .arith .neq (.tmp 24) (.cst (.int .i64 0)), none⟩]
@[simp] theorem wal_Log_Append_r7_go (T : Tbl) (K : List Kt) (fr : Fr) (S : St) : gval T (.ops wal_Log_Append_r7 :: K) fr S = gval T (.ops [
  ⟨some 24, .mov (.tmp 6), none⟩,
  ⟨some 25, .arith .neq (.tmp 24) (.cst (.int .i64 0)), none⟩] :: K) fr S := rfl
def wal_Log_Append_r8 : List POper := [
  ⟨some 26, .mov (.tmp 6), none⟩,
  ⟨some 4, .mov (.tmp 26), none⟩]
@[simp] theorem wal_Log_Append_r8_go (T : Tbl) (K : List Kt) (fr : Fr) (S : St) : gval T (.ops wal_Log_Append_r8 :: K) fr S = gval T (.ops [
  ⟨some 26, .mov (.tmp 6), none⟩,
  ⟨some 4, .mov (.tmp 26), none⟩] :: K) fr S := rfl
def wal_Log_Append_r9 : List POper := [
  ⟨some 27, .mov (.tmp 0), none⟩,
  ⟨some 28, .nilck (.tmp 27), none⟩,
  ⟨some 29, .faddr 0 (.tmp 28), none⟩,
  ⟨some 30, .load false 1 false (.tmp 29), none⟩,
  ⟨some 31, .mov (.tmp 0), none⟩,
  ⟨some 32, .nilck (.tmp 31), none⟩,
  ⟨some 33, .faddr 1 (.tmp 32), none⟩,
  ⟨some 34, .load false 1 false (.tmp 33), none⟩,
  ⟨some 35, .mov (.tmp 7), none⟩,
  ⟨some 36, .call .std 78 [(.tmp 30), (.tmp 34), (.tmp 35)], none⟩,
  ⟨some 8, .mov (.tmp 36), none⟩]
@[simp] theorem wal_Log_Append_r9_go (T : Tbl) (K : List Kt) (fr : Fr) (S : St) : gval T (.ops wal_Log_Append_r9 :: K) fr S = gval T (.ops [
  ⟨some 27, .mov (.tmp 0), none⟩,
  ⟨some 28, .nilck (.tmp 27), none⟩,
  ⟨some 29, .faddr 0 (.tmp 28), none⟩,
  ⟨some 30, .load false 1 false (.tmp 29), none⟩,
  ⟨some 31, .mov (.tmp 0), none⟩,
  ⟨some 32, .nilck (.tmp 31), none⟩,
  ⟨some 33, .faddr 1 (.tmp 32), none⟩,
  ⟨some 34, .load false 1 false (.tmp 33), none⟩,
  ⟨some 35, .mov (.tmp 7), none⟩,
  ⟨some 36, .call .std 78 [(.tmp 30), (.tmp 34), (.tmp 35)], none⟩,
  ⟨some 8, .mov (.tmp 36), none⟩] :: K) fr S := rfl
def wal_Log_Append_r10 : List POper := [
  ⟨some 37, .mov (.tmp 8), none⟩,
  ⟨some 38, .arith .neq (.tmp 37) (.cst (.int .i64 0)), none⟩]
@[simp] theorem wal_Log_Append_r10_go (T : Tbl) (K : List Kt) (fr : Fr) (S : St) : gval T (.ops wal_Log_Append_r10 :: K) fr S = gval T (.ops [
  ⟨some 37, .mov (.tmp 8), none⟩,
  ⟨some 38, .arith .neq (.tmp 37) (.cst (.int .i64 0)), none⟩] :: K) fr S := rfl
def wal_Log_Append_r11 : List POper := [
  ⟨some 39, .mov (.tmp 8), none⟩,
  ⟨some 4, .mov (.tmp 39), none⟩]
@[simp] theorem wal_Log_Append_r11_go (T : Tbl) (K : List Kt) (fr : Fr) (S : St) : gval T (.ops wal_Log_Append_r11 :: K) fr S = gval T (.ops [
  ⟨some 39, .mov (.tmp 8), none⟩,
  ⟨some 4, .mov (.tmp 39), none⟩] :: K) fr S := rfl
def wal_Log_Append_r12 : List POper := [
  ⟨some 40, .mov (.tmp 0), none⟩,
  ⟨some 41, .nilck (.tmp 40), none⟩,
  ⟨some 42, .faddr 2 (.tmp 41), none⟩,
  ⟨some 43, .load false 1 false (.tmp 42), none⟩,
  ⟨some 44, .arith .add (.tmp 43) (.cst (.int .i64 1)), none⟩,
  ⟨some 45, .nilck (.tmp 40), none⟩,
  ⟨some 46, .faddr 2 (.tmp 45), none⟩,
  ⟨none, .store 1 (.tmp 46) (.tmp 44), none⟩]
@[simp] theorem wal_Log_Append_r12_go (T : Tbl) (K : List Kt) (fr : Fr) (S : St) : gval T (.ops wal_Log_Append_r12 :: K) fr S = gval T (.ops [
  ⟨some 40, .mov (.tmp 0), none⟩,
  ⟨some 41, .nilck (.tmp 40), none⟩,
  ⟨some 42, .faddr 2 (.tmp 41), none⟩,
  ⟨some 43, .load false 1 false (.tmp 42), none⟩,
  ⟨some 44, .arith .add (.tmp 43) (.cst (.int .i64 1)), none⟩,
  ⟨some 45, .nilck (.tmp 40), none⟩,
  ⟨some 46, .faddr 2 (.tmp 45), none⟩,
  ⟨none, .store 1 (.tmp 46) (.tmp 44), none⟩] :: K) fr S := rfl
def wal_Log_Append_r13 : List POper := [
  ⟨some 47, .mov (.tmp 0), none⟩,
  ⟨some 48, .nilck (.tmp 47), none⟩,
  ⟨some 49, .faddr 3 (.tmp 48), none⟩,
  ⟨some 50, .load false 1 false (.tmp 49), none⟩,
  ⟨some 51, .mov (.tmp 7), none⟩,
  ⟨some 52, .len false (.tmp 51), none⟩,
  ⟨some 53, .arith .add (.tmp 50) (.tmp 52), none⟩,
  ⟨some 54, .nilck (.tmp 47), none⟩,
  ⟨some 55, .faddr 3 (.tmp 54), none⟩,
  ⟨none, .store 1 (.tmp 55) (.tmp 53), none⟩]
@[simp] theorem wal_Log_Append_r13_go (T : Tbl) (K : List Kt) (fr : Fr) (S : St) : gval T (.ops wal_Log_Append_r13 :: K) fr S = gval T (.ops [
  ⟨some 47, .mov (.tmp 0), none⟩,
  ⟨some 48, .nilck (.tmp 47), none⟩,
  ⟨some 49, .faddr 3 (.tmp 48), none⟩,
  ⟨some 50, .load false 1 false (.tmp 49), none⟩,
  ⟨some 51, .mov (.tmp 7), none⟩,
  ⟨some 52, .len false (.tmp 51), none⟩,
  ⟨some 53, .arith .add (.tmp 50) (.tmp 52), none⟩,
  ⟨some 54, .nilck (.tmp 47), none⟩,
  ⟨some 55, .faddr 3 (.tmp 54), none⟩,
  ⟨none, .store 1 (.tmp 55) (.tmp 53), none⟩] :: K) fr S := rfl
def wal_Log_Append_r14 : List POper := [
  ⟨some 4, .mov (.cst (.int .i64 0)), none⟩]
@[simp] theorem wal_Log_Append_r14_go (T : Tbl) (K : List Kt) (fr : Fr) (S : St) : gval T (.ops wal_Log_Append_r14 :: K) fr S = gval T (.ops [
  ⟨some 4, .mov (.cst (.int .i64 0)), none⟩] :: K) fr S := rfl
def wal_Log_Append : PCodeFn :=
  ⟨2, [.tmp 4],
  (.seq (.region wal_Log_Append_r0) (.seq (.seq (.clr [(9, 10)] (.region wal_Log_Append_r1)) (.cond (.tmp 10) (.seq (.region wal_Log_Append_r2) .ret) .skip)) (.seq (.clr [(11, 16)] (.region wal_Log_Append_r3)) (.seq (.seq (.clr [(16, 17)] (.region wal_Log_Append_r4)) (.cond (.tmp 17) (.seq (.clr [(18, 19)] (.region wal_Log_Append_r5)) .ret) .skip)) (.seq (.clr [(19, 24)] (.region wal_Log_Append_r6)) (.seq (.seq (.clr [(24, 25)] (.region wal_Log_Append_r7)) (.cond (.tmp 25) (.seq (.clr [(26, 27)] (.region wal_Log_Append_r8)) .ret) .skip)) (.seq (.seq (.clr [(27, 37)] (.region wal_Log_Append_r9)) (.seq (.clr [(37, 38)] (.region wal_Log_Append_r10)) (.cond (.tmp 38) (.seq (.clr [(39, 40)] (.region wal_Log_Append_r11)) .ret) .skip))) (.seq (.clr [(40, 47)] (.region wal_Log_Append_r12)) (.seq (.clr [(47, 56)] (.region wal_Log_Append_r13)) (.seq (.region wal_Log_Append_r14) .ret)))))))))), false⟩

/-! (*gauge/wal.Log).Size: 62 -/
def wal_Log_Size_r0 : List POper := [
  ⟨some 2, .mov (.cst (.int .i64 0)), none⟩]
@[simp] theorem wal_Log_Size_r0_go (T : Tbl) (K : List Kt) (fr : Fr) (S : St) : gval T (.ops wal_Log_Size_r0 :: K) fr S = gval T (.ops [
  ⟨some 2, .mov (.cst (.int .i64 0)), none⟩] :: K) fr S := rfl
def wal_Log_Size_r1 : List POper := [
  ⟨some 3, .mov (.tmp 0), none⟩,
  ⟨some 4, .eqn false .p (.tmp 3), none⟩]
@[simp] theorem wal_Log_Size_r1_go (T : Tbl) (K : List Kt) (fr : Fr) (S : St) : gval T (.ops wal_Log_Size_r1 :: K) fr S = gval T (.ops [
  ⟨some 3, .mov (.tmp 0), none⟩,
  ⟨some 4, .eqn false .p (.tmp 3), none⟩] :: K) fr S := rfl
def wal_Log_Size_r2 : List POper := [
  ⟨some 2, .mov (.cst (.int .i64 0)), none⟩]
@[simp] theorem wal_Log_Size_r2_go (T : Tbl) (K : List Kt) (fr : Fr) (S : St) : gval T (.ops wal_Log_Size_r2 :: K) fr S = gval T (.ops [
  ⟨some 2, .mov (.cst (.int .i64 0)), none⟩] :: K) fr S := rfl
def wal_Log_Size_r3 : List POper := [
  ⟨some 5, .mov (.tmp 0), none⟩,
  ⟨some 6, .nilck (.tmp 5), none⟩,
  ⟨some 7, .faddr 3 (.tmp 6), none⟩,
  ⟨some 8, .load false 1 false (.tmp 7), none⟩,
  ⟨some 2, .mov (.tmp 8), none⟩]
@[simp] theorem wal_Log_Size_r3_go (T : Tbl) (K : List Kt) (fr : Fr) (S : St) : gval T (.ops wal_Log_Size_r3 :: K) fr S = gval T (.ops [
  ⟨some 5, .mov (.tmp 0), none⟩,
  ⟨some 6, .nilck (.tmp 5), none⟩,
  ⟨some 7, .faddr 3 (.tmp 6), none⟩,
  ⟨some 8, .load false 1 false (.tmp 7), none⟩,
  ⟨some 2, .mov (.tmp 8), none⟩] :: K) fr S := rfl
def wal_Log_Size : PCodeFn :=
  ⟨1, [.tmp 2],
  (.seq (.region wal_Log_Size_r0) (.seq (.seq (.clr [(3, 4)] (.region wal_Log_Size_r1)) (.cond (.tmp 4) (.seq (.region wal_Log_Size_r2) .ret) .skip)) (.seq (.clr [(5, 9)] (.region wal_Log_Size_r3)) .ret))), false⟩

/-! (*gauge/disk.Disk).Append: 78 -/
def disk_Disk_Append_r0 : List POper := [
  ⟨some 6, .mov (.cst (.int .i64 0)), none⟩]
@[simp] theorem disk_Disk_Append_r0_go (T : Tbl) (K : List Kt) (fr : Fr) (S : St) : gval T (.ops disk_Disk_Append_r0 :: K) fr S = gval T (.ops [
  ⟨some 6, .mov (.cst (.int .i64 0)), none⟩] :: K) fr S := rfl
def disk_Disk_Append_r1 : List POper := [
  ⟨some 14, .mov (.tmp 0), none⟩,
  ⟨some 15, .mov (.tmp 1), none⟩,
  ⟨some 16, .call .std 194 [(.tmp 14), (.tmp 15)], none⟩,
  ⟨some 13, .mov (.tmp 16), none⟩,
  ⟨some 17, .extract 0 (.tmp 13), none⟩,
  ⟨some 18, .extract 1 (.tmp 13), none⟩,
  ⟨some 7, .mov (.tmp 17), none⟩,
  ⟨some 8, .mov (.tmp 18), none⟩]
@[simp] theorem disk_Disk_Append_r1_go (T : Tbl) (K : List Kt) (fr : Fr) (S : St) : gval T (.ops disk_Disk_Append_r1 :: K) fr S = gval T (.ops [
  ⟨some 14, .mov (.tmp 0), none⟩,
  ⟨some 15, .mov (.tmp 1), none⟩,
  ⟨some 16, .call .std 194 [(.tmp 14), (.tmp 15)], none⟩,
  ⟨some 13, .mov (.tmp 16), none⟩,
  ⟨some 17, .extract 0 (.tmp 13), none⟩,
  ⟨some 18, .extract 1 (.tmp 13), none⟩,
  ⟨some 7, .mov (.tmp 17), none⟩,
  ⟨some 8, .mov (.tmp 18), none⟩] :: K) fr S := rfl
def disk_Disk_Append_r2 : List POper := [
  ⟨some 19, .mov (.tmp 8), none⟩,
  ⟨some 20, .arith .neq (.tmp 19) (.cst (.int .i64 0)), none⟩]
@[simp] theorem disk_Disk_Append_r2_go (T : Tbl) (K : List Kt) (fr : Fr) (S : St) : gval T (.ops disk_Disk_Append_r2 :: K) fr S = gval T (.ops [
  ⟨some 19, .mov (.tmp 8), none⟩,
  ⟨some 20, .arith .neq (.tmp 19) (.cst (.int .i64 0)), none⟩] :: K) fr S := rfl
def disk_Disk_Append_r3 : List POper := [
  ⟨some 21, .mov (.tmp 8), none⟩,
  ⟨some 6, .mov (.tmp 21), none⟩]
@[simp] theorem disk_Disk_Append_r3_go (T : Tbl) (K : List Kt) (fr : Fr) (S : St) : gval T (.ops disk_Disk_Append_r3 :: K) fr S = gval T (.ops [
  ⟨some 21, .mov (.tmp 8), none⟩,
  ⟨some 6, .mov (.tmp 21), none⟩] :: K) fr S := rfl
def disk_Disk_Append_r4 : List POper := [
  ⟨some 22, .mov (.tmp 0), none⟩,
  ⟨some 23, .nilck (.tmp 22), none⟩,
  ⟨some 24, .faddr 0 (.tmp 23), none⟩,
  ⟨some 25, .load false 1 false (.tmp 24), none⟩,
  ⟨some 9, .mov (.tmp 25), none⟩]
@[simp] theorem disk_Disk_Append_r4_go (T : Tbl) (K : List Kt) (fr : Fr) (S : St) : gval T (.ops disk_Disk_Append_r4 :: K) fr S = gval T (.ops [
  ⟨some 22, .mov (.tmp 0), none⟩,
  ⟨some 23, .nilck (.tmp 22), none⟩,
  ⟨some 24, .faddr 0 (.tmp 23), none⟩,
  ⟨some 25, .load false 1 false (.tmp 24), none⟩,
  ⟨some 9, .mov (.tmp 25), none⟩] :: K) fr S := rfl
def disk_Disk_Append_r5 : List POper := [
  ⟨some 26, .mov (.tmp 0), none⟩,
  ⟨some 27, .nilck (.tmp 26), none⟩,
  ⟨some 28, .faddr 2 (.tmp 27), none⟩,
  ⟨some 29, .load false 1 false (.tmp 28), none⟩]
@[simp] theorem disk_Disk_Append_r5_go (T : Tbl) (K : List Kt) (fr : Fr) (S : St) : gval T (.ops disk_Disk_Append_r5 :: K) fr S = gval T (.ops [
  ⟨some 26, .mov (.tmp 0), none⟩,
  ⟨some 27, .nilck (.tmp 26), none⟩,
  ⟨some 28, .faddr 2 (.tmp 27), none⟩,
  ⟨some 29, .load false 1 false (.tmp 28), none⟩] :: K) fr S := rfl
def disk_Disk_Append_r7 : List POper := [
  ⟨some 34, .extract 1 (.tmp 33), none⟩,
  ⟨some 11, .mov (.tmp 34), none⟩]
@[simp] theorem disk_Disk_Append_r7_go (T : Tbl) (K : List Kt) (fr : Fr) (S : St) : gval T (.ops disk_Disk_Append_r7 :: K) fr S = gval T (.ops [
  ⟨some 34, .extract 1 (.tmp 33), none⟩,
  ⟨some 11, .mov (.tmp 34), none⟩] :: K) fr S := rfl
def disk_Disk_Append_r8 : List POper := [
  ⟨some 35, .mov (.tmp 9), none⟩,
  ⟨some 36, .mov (.tmp 11), none⟩,
  ⟨some 37, .nilck (.tmp 36), none⟩,
  ⟨some 38, .faddr 0 (.tmp 37), none⟩,
  ⟨some 39, .load false 1 false (.tmp 38), none⟩,
  ⟨some 40, .len false (.tmp 39), none⟩,
  ⟨some 41, .arith .sub (.tmp 35) (.tmp 40), none⟩,
  ⟨some 9, .mov (.tmp 41), none⟩]
@[simp] theorem disk_Disk_Append_r8_go (T : Tbl) (K : List Kt) (fr : Fr) (S : St) : gval T (.ops disk_Disk_Append_r8 :: K) fr S = gval T (.ops [
  ⟨some 35, .mov (.tmp 9), none⟩,
  ⟨some 36, .mov (.tmp 11), none⟩,
  ⟨some 37, .nilck (.tmp 36), none⟩,
  ⟨some 38, .faddr 0 (.tmp 37), none⟩,
  ⟨some 39, .load false 1 false (.tmp 38), none⟩,
  ⟨some 40, .len false (.tmp 39), none⟩,
  ⟨some 41, .arith .sub (.tmp 35) (.tmp 40), none⟩,
  ⟨some 9, .mov (.tmp 41), none⟩] :: K) fr S := rfl
def disk_Disk_Append_r9 : List POper := [
  ⟨some 42, .mov (.tmp 2), none⟩,
  ⟨some 43, .len false (.tmp 42), none⟩,
  ⟨some 44, .mov (.tmp 9), none⟩,
  ⟨some 45, .arith .gtr (.tmp 43) (.tmp 44), none⟩]
@[simp] theorem disk_Disk_Append_r9_go (T : Tbl) (K : List Kt) (fr : Fr) (S : St) : gval T (.ops disk_Disk_Append_r9 :: K) fr S = gval T (.ops [
  ⟨some 42, .mov (.tmp 2), none⟩,
  ⟨some 43, .len false (.tmp 42), none⟩,
  ⟨some 44, .mov (.tmp 9), none⟩,
  ⟨some 45, .arith .gtr (.tmp 43) (.tmp 44), none⟩] :: K) fr S := rfl
def disk_Disk_Append_r10 : List POper := [
  ⟨some 6, .mov (.cst (.int .i64 7)), none⟩]
@[simp] theorem disk_Disk_Append_r10_go (T : Tbl) (K : List Kt) (fr : Fr) (S : St) : gval T (.ops disk_Disk_Append_r10 :: K) fr S = gval T (.ops [
  ⟨some 6, .mov (.cst (.int .i64 7)), none⟩] :: K) fr S := rfl
def disk_Disk_Append_r11 : List POper := [
  ⟨some 46, .mov (.tmp 0), none⟩,
  ⟨some 47, .call .std 196 [(.tmp 46)], none⟩,
  ⟨some 12, .mov (.tmp 47), none⟩]
@[simp] theorem disk_Disk_Append_r11_go (T : Tbl) (K : List Kt) (fr : Fr) (S : St) : gval T (.ops disk_Disk_Append_r11 :: K) fr S = gval T (.ops [
  ⟨some 46, .mov (.tmp 0), none⟩,
  ⟨some 47, .call .std 196 [(.tmp 46)], none⟩,
  ⟨some 12, .mov (.tmp 47), none⟩] :: K) fr S := rfl
def disk_Disk_Append_r12 : List POper := [
  ⟨some 48, .mov (.tmp 12), none⟩,
  ⟨some 49, .arith .neq (.tmp 48) (.cst (.int .i64 0)), none⟩]
@[simp] theorem disk_Disk_Append_r12_go (T : Tbl) (K : List Kt) (fr : Fr) (S : St) : gval T (.ops disk_Disk_Append_r12 :: K) fr S = gval T (.ops [
  ⟨some 48, .mov (.tmp 12), none⟩,
  ⟨some 49, .arith .neq (.tmp 48) (.cst (.int .i64 0)), none⟩] :: K) fr S := rfl
def disk_Disk_Append_r13 : List POper := [
  ⟨some 50, .mov (.tmp 12), none⟩,
  ⟨some 6, .mov (.tmp 50), none⟩]
@[simp] theorem disk_Disk_Append_r13_go (T : Tbl) (K : List Kt) (fr : Fr) (S : St) : gval T (.ops disk_Disk_Append_r13 :: K) fr S = gval T (.ops [
  ⟨some 50, .mov (.tmp 12), none⟩,
  ⟨some 6, .mov (.tmp 50), none⟩] :: K) fr S := rfl
def disk_Disk_Append_r14 : List POper := [
  ⟨some 51, .mov (.tmp 7), none⟩,
  ⟨some 52, .mov (.tmp 7), none⟩,
  ⟨some 53, .nilck (.tmp 52), none⟩,
  ⟨some 54, .faddr 0 (.tmp 53), none⟩,
  ⟨some 55, .load false 1 false (.tmp 54), none⟩,
  ⟨some 56, .mov (.tmp 2), none⟩,
  ⟨some 57, .app 1 1 (.tmp 55) (.tmp 56), none⟩,
  ⟨some 58, .nilck (.tmp 51), none⟩,
  ⟨some 59, .faddr 0 (.tmp 58), none⟩,
  ⟨none, .store 1 (.tmp 59) (.tmp 57), none⟩]
@[simp] theorem disk_Disk_Append_r14_go (T : Tbl) (K : List Kt) (fr : Fr) (S : St) : gval T (.ops disk_Disk_Append_r14 :: K) fr S = gval T (.ops [
  ⟨some 51, .mov (.tmp 7), none⟩,
  ⟨some 52, .mov (.tmp 7), none⟩,
  ⟨some 53, .nilck (.tmp 52), none⟩,
  ⟨some 54, .faddr 0 (.tmp 53), none⟩,
  ⟨some 55, .load false 1 false (.tmp 54), none⟩,
  ⟨some 56, .mov (.tmp 2), none⟩,
  ⟨some 57, .app 1 1 (.tmp 55) (.tmp 56), none⟩,
  ⟨some 58, .nilck (.tmp 51), none⟩,
  ⟨some 59, .faddr 0 (.tmp 58), none⟩,
  ⟨none, .store 1 (.tmp 59) (.tmp 57), none⟩] :: K) fr S := rfl
def disk_Disk_Append_r15 : List POper := [
  ⟨some 6, .mov (.cst (.int .i64 0)), none⟩]
@[simp] theorem disk_Disk_Append_r15_go (T : Tbl) (K : List Kt) (fr : Fr) (S : St) : gval T (.ops disk_Disk_Append_r15 :: K) fr S = gval T (.ops [
  ⟨some 6, .mov (.cst (.int .i64 0)), none⟩] :: K) fr S := rfl
def disk_Disk_Append : PCodeFn :=
  ⟨3, [.tmp 6],
  (.seq (.region disk_Disk_Append_r0) (.seq (.clr [(13, 19)] (.region disk_Disk_Append_r1)) (.seq (.seq (.clr [(19, 20)] (.region disk_Disk_Append_r2)) (.cond (.tmp 20) (.seq (.clr [(21, 22)] (.region disk_Disk_Append_r3)) .ret) .skip)) (.seq (.clr [(22, 26)] (.region disk_Disk_Append_r4)) (.seq (.rng disk_Disk_Append_r5 (.tmp 29) 33 disk_Disk_Append_r7 [(11, 12), (26, 42)] (.region disk_Disk_Append_r8)) (.seq (.seq (.clr [(42, 45)] (.region disk_Disk_Append_r9)) (.cond (.tmp 45) (.seq (.region disk_Disk_Append_r10) .ret) .skip)) (.seq (.seq (.clr [(46, 48)] (.region disk_Disk_Append_r11)) (.seq (.clr [(48, 49)] (.region disk_Disk_Append_r12)) (.cond (.tmp 49) (.seq (.clr [(50, 51)] (.region disk_Disk_Append_r13)) .ret) .skip))) (.seq (.clr [(51, 60)] (.region disk_Disk_Append_r14)) (.seq (.region disk_Disk_Append_r15) .ret))))))))), false⟩

/-! gauge/wal.Open: 144 -/
def wal_Open_r0 : List POper := [
  ⟨some 2, .box false (.tmp 0), none⟩,
  ⟨some 3, .box false (.tmp 1), none⟩,
  ⟨some 4, .mov (.cst .nilp), none⟩,
  ⟨some 5, .mov (.cst .nils), none⟩,
  ⟨some 6, .mov (.cst (.int .i64 0)), none⟩]
@[simp] theorem wal_Open_r0_go (T : Tbl) (K : List Kt) (fr : Fr) (S : St) : gval T (.ops wal_Open_r0 :: K) fr S = gval T (.ops [
  ⟨some 2, .box false (.tmp 0), none⟩,
  ⟨some 3, .box false (.tmp 1), none⟩,
  ⟨some 4, .mov (.cst .nilp), none⟩,
  ⟨some 5, .mov (.cst .nils), none⟩,
  ⟨some 6, .mov (.cst (.int .i64 0)), none⟩] :: K) fr S := rfl
def wal_Open_r1 : List POper := [
  ⟨some 12, .load false 1 false (.tmp 2), none⟩,
  ⟨some 13, .eqn false .p (.tmp 12), none⟩]
@[simp] theorem wal_Open_r1_go (T : Tbl) (K : List Kt) (fr : Fr) (S : St) : gval T (.ops wal_Open_r1 :: K) fr S = gval T (.ops [
  ⟨some 12, .load false 1 false (.tmp 2), none⟩,
  ⟨some 13, .eqn false .p (.tmp 12), none⟩] :: K) fr S := rfl
def wal_Open_r2 : List POper := [
  ⟨some 4, .mov (.cst .nilp), none⟩,
  ⟨some 5, .mov (.cst .nils), none⟩,
  ⟨some 6, .mov (.cst (.int .i64 1)), none⟩]
@[simp] theorem wal_Open_r2_go (T : Tbl) (K : List Kt) (fr : Fr) (S : St) : gval T (.ops wal_Open_r2 :: K) fr S = gval T (.ops [
  ⟨some 4, .mov (.cst .nilp), none⟩,
  ⟨some 5, .mov (.cst .nils), none⟩,
  ⟨some 6, .mov (.cst (.int .i64 1)), none⟩] :: K) fr S := rfl
def wal_Open_r3 : List POper := [
  ⟨some 14, .load false 1 false (.tmp 3), none⟩,
  ⟨some 15, .arith .eql (.tmp 14) (.cst (.str [116, 109, 112])), none⟩]
@[simp] theorem wal_Open_r3_go (T : Tbl) (K : List Kt) (fr : Fr) (S : St) : gval T (.ops wal_Open_r3 :: K) fr S = gval T (.ops [
  ⟨some 14, .load false 1 false (.tmp 3), none⟩,
  ⟨some 15, .arith .eql (.tmp 14) (.cst (.str [116, 109, 112])), none⟩] :: K) fr S := rfl
def wal_Open_r4 : List POper := [
  ⟨some 4, .mov (.cst .nilp), none⟩,
  ⟨some 5, .mov (.cst .nils), none⟩,
  ⟨some 6, .mov (.cst (.int .i64 8)), none⟩]
@[simp] theorem wal_Open_r4_go (T : Tbl) (K : List Kt) (fr : Fr) (S : St) : gval T (.ops wal_Open_r4 :: K) fr S = gval T (.ops [
  ⟨some 4, .mov (.cst .nilp), none⟩,
  ⟨some 5, .mov (.cst .nils), none⟩,
  ⟨some 6, .mov (.cst (.int .i64 8)), none⟩] :: K) fr S := rfl
def wal_Open_r5 : List POper := [
  ⟨some 17, .load false 1 false (.tmp 2), none⟩,
  ⟨some 18, .load false 1 false (.tmp 3), none⟩,
  ⟨some 19, .call .std 81 [(.tmp 17), (.tmp 18)], none⟩,
  ⟨some 16, .mov (.tmp 19), none⟩,
  ⟨some 20, .extract 0 (.tmp 16), none⟩,
  ⟨some 21, .extract 1 (.tmp 16), none⟩,
  ⟨some 7, .mov (.tmp 20), none⟩,
  ⟨some 8, .mov (.tmp 21), none⟩]
@[simp] theorem wal_Open_r5_go (T : Tbl) (K : List Kt) (fr : Fr) (S : St) : gval T (.ops wal_Open_r5 :: K) fr S = gval T (.ops [
  ⟨some 17, .load false 1 false (.tmp 2), none⟩,
  ⟨some 18, .load false 1 false (.tmp 3), none⟩,
  ⟨some 19, .call .std 81 [(.tmp 17), (.tmp 18)], none⟩,
  ⟨some 16, .mov (.tmp 19), none⟩,
  ⟨some 20, .extract 0 (.tmp 16), none⟩,
  ⟨some 21, .extract 1 (.tmp 16), none⟩,
  ⟨some 7, .mov (.tmp 20), none⟩,
  ⟨some 8, .mov (.tmp 21), none⟩] :: K) fr S := rfl
def wal_Open_r6 : List POper := [
  ⟨some 22, .mov (.tmp 8), none⟩,
  ⟨some 23, .arith .eql (.tmp 22) (.cst (.int .i64 9)), none⟩]
@[simp] theorem wal_Open_r6_go (T : Tbl) (K : List Kt) (fr : Fr) (S : St) : gval T (.ops wal_Open_r6 :: K) fr S = gval T (.ops [
  ⟨some 22, .mov (.tmp 8), none⟩,
  ⟨some 23, .arith .eql (.tmp 22) (.cst (.int .i64 9)), none⟩] :: K) fr S := rfl
def wal_Open_r7 : List POper := [
  ⟨some 24, .mkfn 248 [(.tmp 2), (.tmp 3)], none⟩,
  ⟨some 25, .load false 1 false (.tmp 2), none⟩,
  ⟨some 26, .mkbfn 79 [(.tmp 25)], none⟩,
  ⟨some 27, .bsl false .nilf 2 [(0, (.tmp 24)), (1, (.tmp 26))], none⟩,
  ⟨some 28, .call .std 247 [(.tmp 27)], none⟩,
  ⟨some 8, .mov (.tmp 28), none⟩]
@[simp] theorem wal_Open_r7_go (T : Tbl) (K : List Kt) (fr : Fr) (S : St) : gval T (.ops wal_Open_r7 :: K) fr S = gval T (.ops [
  ⟨some 24, .mkfn 248 [(.tmp 2), (.tmp 3)], none⟩,
  ⟨some 25, .load false 1 false (.tmp 2), none⟩,
  ⟨some 26, .mkbfn 79 [(.tmp 25)], none⟩,
  ⟨some 27, .bsl false .nilf 2 [(0, (.tmp 24)), (1, (.tmp 26))], none⟩,
  ⟨some 28, .call .std 247 [(.tmp 27)], none⟩,
  ⟨some 8, .mov (.tmp 28), none⟩] :: K) fr S := rfl
def wal_Open_r8 : List POper := [
  ⟨some 29, .mov (.tmp 8), none⟩,
  ⟨some 30, .arith .neq (.tmp 29) (.cst (.int .i64 0)), none⟩]
@[simp] theorem wal_Open_r8_go (T : Tbl) (K : List Kt) (fr : Fr) (S : St) : gval T (.ops wal_Open_r8 :: K) fr S = gval T (.ops [
  ⟨some 29, .mov (.tmp 8), none⟩,
  ⟨some 30, .arith .neq (.tmp 29) (.cst (.int .i64 0)), none⟩] :: K) fr S := rfl
def wal_Open_r9 : List POper := [
  ⟨some 31, .mov (.tmp 8), none⟩,
  ⟨some 4, .mov (.cst .nilp), none⟩,
  ⟨some 5, .mov (.cst .nils), none⟩,
  ⟨some 6, .mov (.tmp 31), none⟩]
@[simp] theorem wal_Open_r9_go (T : Tbl) (K : List Kt) (fr : Fr) (S : St) : gval T (.ops wal_Open_r9 :: K) fr S = gval T (.ops [
  ⟨some 31, .mov (.tmp 8), none⟩,
  ⟨some 4, .mov (.cst .nilp), none⟩,
  ⟨some 5, .mov (.cst .nils), none⟩,
  ⟨some 6, .mov (.tmp 31), none⟩] :: K) fr S := rfl
def wal_Open_r10 : List POper := [
  ⟨some 33, .mov (.tmp 7), none⟩,
  ⟨some 34, .call .std 249 [(.tmp 33)], none⟩,
  ⟨some 32, .mov (.tmp 34), none⟩,
  ⟨some 35, .extract 0 (.tmp 32), none⟩,
  ⟨some 36, .extract 1 (.tmp 32), none⟩,
  ⟨some 9, .mov (.tmp 35), none⟩,
  ⟨some 10, .mov (.tmp 36), none⟩]
@[simp] theorem wal_Open_r10_go (T : Tbl) (K : List Kt) (fr : Fr) (S : St) : gval T (.ops wal_Open_r10 :: K) fr S = gval T (.ops [
  ⟨some 33, .mov (.tmp 7), none⟩,
  ⟨some 34, .call .std 249 [(.tmp 33)], none⟩,
  ⟨some 32, .mov (.tmp 34), none⟩,
  ⟨some 35, .extract 0 (.tmp 32), none⟩,
  ⟨some 36, .extract 1 (.tmp 32), none⟩,
  ⟨some 9, .mov (.tmp 35), none⟩,
  ⟨some 10, .mov (.tmp 36), none⟩] :: K) fr S := rfl
def wal_Open_r11 : List POper := [
  ⟨some 37, .mov (.tmp 10), none⟩,
  ⟨some 38, .mov (.tmp 7), none⟩,
  ⟨some 39, .len false (.tmp 38), none⟩,
  ⟨some 40, .arith .lss (.tmp 37) (.tmp 39), none⟩]
@[simp] theorem wal_Open_r11_go (T : Tbl) (K : List Kt) (fr : Fr) (S : St) : gval T (.ops wal_Open_r11 :: K) fr S = gval T (.ops [
  ⟨some 37, .mov (.tmp 10), none⟩,
  ⟨some 38, .mov (.tmp 7), none⟩,
  ⟨some 39, .len false (.tmp 38), none⟩,
  ⟨some 40, .arith .lss (.tmp 37) (.tmp 39), none⟩] :: K) fr S := rfl
def wal_Open_r12 : List POper := [
  ⟨some 41, .load false 1 false (.tmp 2), none⟩,
  ⟨some 42, .load false 1 false (.tmp 3), none⟩,
  ⟨some 43, .mov (.tmp 7), none⟩,
  ⟨some 44, .mov (.tmp 10), none⟩,
  ⟨some 45, .slc 1 none (some (.tmp 44)) (.tmp 43), none⟩,
  ⟨some 46, .call .std 250 [(.tmp 41), (.tmp 42), (.tmp 45)], none⟩,
  ⟨some 11, .mov (.tmp 46), none⟩]
@[simp] theorem wal_Open_r12_go (T : Tbl) (K : List Kt) (fr : Fr) (S : St) : gval T (.ops wal_Open_r12 :: K) fr S = gval T (.ops [
  ⟨some 41, .load false 1 false (.tmp 2), none⟩,
  ⟨some 42, .load false 1 false (.tmp 3), none⟩,
  ⟨some 43, .mov (.tmp 7), none⟩,
  ⟨some 44, .mov (.tmp 10), none⟩,
  ⟨some 45, .slc 1 none (some (.tmp 44)) (.tmp 43), none⟩,
  ⟨some 46, .call .std 250 [(.tmp 41), (.tmp 42), (.tmp 45)], none⟩,
  ⟨some 11, .mov (.tmp 46), none⟩] :: K) fr S := rfl
def wal_Open_r13 : List POper := [
  ⟨some 47, .mov (.tmp 11), none⟩,
  ⟨some 48, .arith .neq (.tmp 47) (.cst (.int .i64 0)), none⟩]
@[simp] theorem wal_Open_r13_go (T : Tbl) (K : List Kt) (fr : Fr) (S : St) : gval T (.ops wal_Open_r13 :: K) fr S = gval T (.ops [
  ⟨some 47, .mov (.tmp 11), none⟩,
  ⟨some 48, .arith .neq (.tmp 47) (.cst (.int .i64 0)), none⟩] :: K) fr S := rfl
def wal_Open_r14 : List POper := [
  ⟨some 49, .mov (.tmp 11), none⟩,
  ⟨some 4, .mov (.cst .nilp), none⟩,
  ⟨some 5, .mov (.cst .nils), none⟩,
  ⟨some 6, .mov (.tmp 49), none⟩]
@[simp] theorem wal_Open_r14_go (T : Tbl) (K : List Kt) (fr : Fr) (S : St) : gval T (.ops wal_Open_r14 :: K) fr S = gval T (.ops [
  ⟨some 49, .mov (.tmp 11), none⟩,
  ⟨some 4, .mov (.cst .nilp), none⟩,
  ⟨some 5, .mov (.cst .nils), none⟩,
  ⟨some 6, .mov (.tmp 49), none⟩] :: K) fr S := rfl
def wal_Open_r15 : List POper := [
  ⟨some 50, .load false 1 false (.tmp 2), none⟩,
  ⟨some 51, .load false 1 false (.tmp 3), none⟩,
  ⟨some 52, .mov (.tmp 9), none⟩,
  ⟨some 53, .len false (.tmp 52), none⟩,
  ⟨some 54, .mov (.tmp 10), none⟩,
  ⟨some 55, .build [.nilp, (.str []), (.int .i64 0), (.int .i64 0)] [(0, 1, (.tmp 50)), (1, 1, (.tmp 51)), (2, 1, (.tmp 53)), (3, 1, (.tmp 54))], none⟩,
  ⟨some 56, .box false (.tmp 55), none⟩,
  ⟨some 57, .mov (.tmp 9), none⟩,
  ⟨some 4, .mov (.tmp 56), none⟩,
  ⟨some 5, .mov (.tmp 57), none⟩,
  ⟨some 6, .mov (.cst (.int .i64 0)), none⟩]
@[simp] theorem wal_Open_r15_go (T : Tbl) (K : List Kt) (fr : Fr) (S : St) : gval T (.ops wal_Open_r15 :: K) fr S = gval T (.ops [
  ⟨some 50, .load false 1 false (.tmp 2), none⟩,
  ⟨some 51, .load false 1 false (.tmp 3), none⟩,
  ⟨some 52, .mov (.tmp 9), none⟩,
  ⟨some 53, .len false (.tmp 52), none⟩,
  ⟨some 54, .mov (.tmp 10), none⟩,
  ⟨some 55, .build [.nilp, (.str []), (.int .i64 0), (.int .i64 0)] [(0, 1, (.tmp 50)), (1, 1, (.tmp 51)), (2, 1, (.tmp 53)), (3, 1, (.tmp 54))], none⟩,
  ⟨some 56, .box false (.tmp 55), none⟩,
  ⟨some 57, .mov (.tmp 9), none⟩,
  ⟨some 4, .mov (.tmp 56), none⟩,
  ⟨some 5, .mov (.tmp 57), none⟩,
  ⟨some 6, .mov (.cst (.int .i64 0)), none⟩] :: K) fr S := rfl
def wal_Open : PCodeFn :=
  ⟨2, [.tmp 4, .tmp 5, .tmp 6],
  (.seq (.region wal_Open_r0) (.seq (.seq (.clr [(12, 13)] (.region wal_Open_r1)) (.cond (.tmp 13) (.seq (.region wal_Open_r2) .ret) .skip)) (.seq (.seq (.clr [(14, 15)] (.region wal_Open_r3)) (.cond (.tmp 15) (.seq (.region wal_Open_r4) .ret) .skip)) (.seq (.clr [(16, 22)] (.region wal_Open_r5)) (.seq (.seq (.clr [(22, 23)] (.region wal_Open_r6)) (.cond (.tmp 23) (.clr [(24, 29)] (.region wal_Open_r7)) .skip)) (.seq (.seq (.clr [(29, 30)] (.region wal_Open_r8)) (.cond (.tmp 30) (.seq (.clr [(31, 32)] (.region wal_Open_r9)) .ret) .skip)) (.seq (.clr [(32, 37)] (.region wal_Open_r10)) (.seq (.seq (.clr [(37, 40)] (.region wal_Open_r11)) (.cond (.tmp 40) (.seq (.clr [(41, 47)] (.region wal_Open_r12)) (.seq (.clr [(47, 48)] (.region wal_Open_r13)) (.cond (.tmp 48) (.seq (.clr [(49, 50)] (.region wal_Open_r14)) .ret) .skip))) .skip)) (.seq (.clr [(50, 58)] (.region wal_Open_r15)) .ret))))))))), false⟩

/-! gauge/gaugeref11.SameAll: 146 -/
def ref11_SameAll_r0 : List POper := [
  ⟨some 4, .mov (.cst (.bool false)), none⟩]
@[simp] theorem ref11_SameAll_r0_go (T : Tbl) (K : List Kt) (fr : Fr) (S : St) : gval T (.ops ref11_SameAll_r0 :: K) fr S = gval T (.ops [
  ⟨some 4, .mov (.cst (.bool false)), none⟩] :: K) fr S := rfl
def ref11_SameAll_r1 : List POper := [
  ⟨some 6, .mov (.tmp 0), none⟩,
  ⟨some 7, .len false (.tmp 6), none⟩,
  ⟨some 8, .mov (.tmp 1), none⟩,
  ⟨some 9, .len false (.tmp 8), none⟩,
  ⟨some 10, .arith .neq (.tmp 7) (.tmp 9), none⟩]
@[simp] theorem ref11_SameAll_r1_go (T : Tbl) (K : List Kt) (fr : Fr) (S : St) : gval T (.ops ref11_SameAll_r1 :: K) fr S = gval T (.ops [
  ⟨some 6, .mov (.tmp 0), none⟩,
  ⟨some 7, .len false (.tmp 6), none⟩,
  ⟨some 8, .mov (.tmp 1), none⟩,
  ⟨some 9, .len false (.tmp 8), none⟩,
  ⟨some 10, .arith .neq (.tmp 7) (.tmp 9), none⟩] :: K) fr S := rfl
def ref11_SameAll_r2 : List POper := [
  ⟨some 4, .mov (.cst (.bool false)), none⟩]
@[simp] theorem ref11_SameAll_r2_go (T : Tbl) (K : List Kt) (fr : Fr) (S : St) : gval T (.ops ref11_SameAll_r2 :: K) fr S = gval T (.ops [
  ⟨some 4, .mov (.cst (.bool false)), none⟩] :: K) fr S := rfl
def ref11_SameAll_r3 : List POper := [
  ⟨some 5, .mov (.cst (.int .i64 0)), none⟩]
@[simp] theorem ref11_SameAll_r3_go (T : Tbl) (K : List Kt) (fr : Fr) (S : St) : gval T (.ops ref11_SameAll_r3 :: K) fr S = gval T (.ops [
  ⟨some 5, .mov (.cst (.int .i64 0)), none⟩] :: K) fr S := rfl
def ref11_SameAll_r4 : List POper := [
  ⟨some 11, .mov (.tmp 5), none⟩,
  ⟨some 12, .mov (.tmp 0), none⟩,
  ⟨some 13, .len false (.tmp 12), none⟩,
  ⟨some 14, .arith .lss (.tmp 11) (.tmp 13), none⟩]
@[simp] theorem ref11_SameAll_r4_go (T : Tbl) (K : List Kt) (fr : Fr) (S : St) : gval T (.ops ref11_SameAll_r4 :: K) fr S = gval T (.ops [
  ⟨some 11, .mov (.tmp 5), none⟩,
  ⟨some 12, .mov (.tmp 0), none⟩,
  ⟨some 13, .len false (.tmp 12), none⟩,
  ⟨some 14, .arith .lss (.tmp 11) (.tmp 13), none⟩] :: K) fr S := rfl
def ref11_SameAll_r6 : List POper := [
  ⟨some 17, .mov (.tmp 0), none⟩,
  ⟨some 18, .mov (.tmp 5), none⟩,
  ⟨some 19, .iaddr 6 (.tmp 17) (.tmp 18), none⟩,
  ⟨some 20, .load true 6 true (.tmp 19), none⟩,
  ⟨some 21, .mov (.tmp 1), none⟩,
  ⟨some 22, .mov (.tmp 5), none⟩,
  ⟨some 23, .iaddr 6 (.tmp 21) (.tmp 22), none⟩,
  ⟨some 24, .load true 6 true (.tmp 23), none⟩,
  ⟨some 25, .call .std 253 [(.tmp 20), (.tmp 24)], none⟩,
  ⟨some 26, .un .not (.tmp 25), none⟩]
@[simp] theorem ref11_SameAll_r6_go (T : Tbl) (K : List Kt) (fr : Fr) (S : St) : gval T (.ops ref11_SameAll_r6 :: K) fr S = gval T (.ops [
  ⟨some 17, .mov (.tmp 0), none⟩,
  ⟨some 18, .mov (.tmp 5), none⟩,
  ⟨some 19, .iaddr 6 (.tmp 17) (.tmp 18), none⟩,
  ⟨some 20, .load true 6 true (.tmp 19), none⟩,
  ⟨some 21, .mov (.tmp 1), none⟩,
  ⟨some 22, .mov (.tmp 5), none⟩,
  ⟨some 23, .iaddr 6 (.tmp 21) (.tmp 22), none⟩,
  ⟨some 24, .load true 6 true (.tmp 23), none⟩,
  ⟨some 25, .call .std 253 [(.tmp 20), (.tmp 24)], none⟩,
  ⟨some 26, .un .not (.tmp 25), none⟩] :: K) fr S := rfl
def ref11_SameAll_r7 : List POper := [
  ⟨some 4, .mov (.cst (.bool false)), none⟩]
@[simp] theorem ref11_SameAll_r7_go (T : Tbl) (K : List Kt) (fr : Fr) (S : St) : gval T (.ops ref11_SameAll_r7 :: K) fr S = gval T (.ops [
  ⟨some 4, .mov (.cst (.bool false)), none⟩] :: K) fr S := rfl
def ref11_SameAll_r5 : List POper := [
  ⟨some 15, .mov (.tmp 5), none⟩,
  ⟨some 16, .arith .add (.tmp 15) (.cst (.int .i64 1)), none⟩,
  ⟨some 5, .mov (.tmp 16), none⟩]
@[simp] theorem ref11_SameAll_r5_go (T : Tbl) (K : List Kt) (fr : Fr) (S : St) : gval T (.ops ref11_SameAll_r5 :: K) fr S = gval T (.ops [
  ⟨some 15, .mov (.tmp 5), none⟩,
  ⟨some 16, .arith .add (.tmp 15) (.cst (.int .i64 1)), none⟩,
  ⟨some 5, .mov (.tmp 16), none⟩] :: K) fr S := rfl
def ref11_SameAll_l0 : PCode :=
  (.seq (.seq (.clr [(11, 14)] (.region ref11_SameAll_r4)) (.cond (.tmp 14) .skip (.exit 0))) (.seq (.block 1 (.seq (.clr [(17, 26)] (.region ref11_SameAll_r6)) (.cond (.tmp 26) (.seq (.region ref11_SameAll_r7) .ret) .skip))) (.clr [(15, 17)] (.region ref11_SameAll_r5))))
@[simp] theorem ref11_SameAll_l0_go (T : Tbl) (K : List Kt) (fr : Fr) (S : St) : gval T (.code ref11_SameAll_l0 :: K) fr S = gval T (.code (.seq (.seq (.clr [(11, 14)] (.region ref11_SameAll_r4)) (.cond (.tmp 14) .skip (.exit 0))) (.seq (.block 1 (.seq (.clr [(17, 26)] (.region ref11_SameAll_r6)) (.cond (.tmp 26) (.seq (.region ref11_SameAll_r7) .ret) .skip))) (.clr [(15, 17)] (.region ref11_SameAll_r5)))) :: K) fr S := rfl
def ref11_SameAll_r8 : List POper := [
  ⟨some 4, .mov (.cst (.bool true)), none⟩]
@[simp] theorem ref11_SameAll_r8_go (T : Tbl) (K : List Kt) (fr : Fr) (S : St) : gval T (.ops ref11_SameAll_r8 :: K) fr S = gval T (.ops [
  ⟨some 4, .mov (.cst (.bool true)), none⟩] :: K) fr S := rfl
def ref11_SameAll : PCodeFn :=
  ⟨2, [.tmp 4],
  (.seq (.region ref11_SameAll_r0) (.seq (.seq (.clr [(6, 10)] (.region ref11_SameAll_r1)) (.cond (.tmp 10) (.seq (.region ref11_SameAll_r2) .ret) .skip)) (.seq (.seq (.region ref11_SameAll_r3) (.block 0 (.loop ref11_SameAll_l0))) (.seq (.region ref11_SameAll_r8) .ret)))), false⟩

/-! (*gauge/disk.Disk).Read: 81 -/
def disk_Disk_Read_r0 : List POper := [
  ⟨some 4, .mov (.cst .nils), none⟩,
  ⟨some 5, .mov (.cst (.int .i64 0)), none⟩]
@[simp] theorem disk_Disk_Read_r0_go (T : Tbl) (K : List Kt) (fr : Fr) (S : St) : gval T (.ops disk_Disk_Read_r0 :: K) fr S = gval T (.ops [
  ⟨some 4, .mov (.cst .nils), none⟩,
  ⟨some 5, .mov (.cst (.int .i64 0)), none⟩] :: K) fr S := rfl
def disk_Disk_Read_r1 : List POper := [
  ⟨some 9, .mov (.tmp 0), none⟩,
  ⟨some 10, .mov (.tmp 1), none⟩,
  ⟨some 11, .call .std 194 [(.tmp 9), (.tmp 10)], none⟩,
  ⟨some 8, .mov (.tmp 11), none⟩,
  ⟨some 12, .extract 0 (.tmp 8), none⟩,
  ⟨some 13, .extract 1 (.tmp 8), none⟩,
  ⟨some 6, .mov (.tmp 12), none⟩,
  ⟨some 7, .mov (.tmp 13), none⟩]
@[simp] theorem disk_Disk_Read_r1_go (T : Tbl) (K : List Kt) (fr : Fr) (S : St) : gval T (.ops disk_Disk_Read_r1 :: K) fr S = gval T (.ops [
  ⟨some 9, .mov (.tmp 0), none⟩,
  ⟨some 10, .mov (.tmp 1), none⟩,
  ⟨some 11, .call .std 194 [(.tmp 9), (.tmp 10)], none⟩,
  ⟨some 8, .mov (.tmp 11), none⟩,
  ⟨some 12, .extract 0 (.tmp 8), none⟩,
  ⟨some 13, .extract 1 (.tmp 8), none⟩,
  ⟨some 6, .mov (.tmp 12), none⟩,
  ⟨some 7, .mov (.tmp 13), none⟩] :: K) fr S := rfl
def disk_Disk_Read_r2 : List POper := [
  ⟨some 14, .mov (.tmp 7), none⟩,
  ⟨some 15, .arith .neq (.tmp 14) (.cst (.int .i64 0)), none⟩]
@[simp] theorem disk_Disk_Read_r2_go (T : Tbl) (K : List Kt) (fr : Fr) (S : St) : gval T (.ops disk_Disk_Read_r2 :: K) fr S = gval T (.ops [
  ⟨some 14, .mov (.tmp 7), none⟩,
  ⟨some 15, .arith .neq (.tmp 14) (.cst (.int .i64 0)), none⟩] :: K) fr S := rfl
def disk_Disk_Read_r3 : List POper := [
  ⟨some 16, .mov (.tmp 7), none⟩,
  ⟨some 4, .mov (.cst .nils), none⟩,
  ⟨some 5, .mov (.tmp 16), none⟩]
@[simp] theorem disk_Disk_Read_r3_go (T : Tbl) (K : List Kt) (fr : Fr) (S : St) : gval T (.ops disk_Disk_Read_r3 :: K) fr S = gval T (.ops [
  ⟨some 16, .mov (.tmp 7), none⟩,
  ⟨some 4, .mov (.cst .nils), none⟩,
  ⟨some 5, .mov (.tmp 16), none⟩] :: K) fr S := rfl
def disk_Disk_Read_r4 : List POper := [
  ⟨some 17, .mov (.tmp 0), none⟩,
  ⟨some 18, .nilck (.tmp 17), none⟩,
  ⟨some 19, .faddr 6 (.tmp 18), none⟩,
  ⟨some 20, .load false 1 false (.tmp 19), none⟩]
@[simp] theorem disk_Disk_Read_r4_go (T : Tbl) (K : List Kt) (fr : Fr) (S : St) : gval T (.ops disk_Disk_Read_r4 :: K) fr S = gval T (.ops [
  ⟨some 17, .mov (.tmp 0), none⟩,
  ⟨some 18, .nilck (.tmp 17), none⟩,
  ⟨some 19, .faddr 6 (.tmp 18), none⟩,
  ⟨some 20, .load false 1 false (.tmp 19), none⟩] :: K) fr S := rfl
def disk_Disk_Read_r5 : List POper := [
  ⟨some 4, .mov (.cst .nils), none⟩,
  ⟨some 5, .mov (.cst (.int .i64 6)), none⟩]
@[simp] theorem disk_Disk_Read_r5_go (T : Tbl) (K : List Kt) (fr : Fr) (S : St) : gval T (.ops disk_Disk_Read_r5 :: K) fr S = gval T (.ops [
  ⟨some 4, .mov (.cst .nils), none⟩,
  ⟨some 5, .mov (.cst (.int .i64 6)), none⟩] :: K) fr S := rfl
def disk_Disk_Read_r6 : List POper := [
  ⟨some 21, .mov (.tmp 6), none⟩,
  ⟨some 22, .nilck (.tmp 21), none⟩,
  ⟨some 23, .faddr 0 (.tmp 22), none⟩,
  ⟨some 24, .load false 1 false (.tmp 23), none⟩,
  ⟨some 25, .call .std 201 [(.tmp 24)], none⟩,
  ⟨some 4, .mov (.tmp 25), none⟩,
  ⟨some 5, .mov (.cst (.int .i64 0)), none⟩]
@[simp] theorem disk_Disk_Read_r6_go (T : Tbl) (K : List Kt) (fr : Fr) (S : St) : gval T (.ops disk_Disk_Read_r6 :: K) fr S = gval T (.ops [
  ⟨some 21, .mov (.tmp 6), none⟩,
  ⟨some 22, .nilck (.tmp 21), none⟩,
  ⟨some 23, .faddr 0 (.tmp 22), none⟩,
  ⟨some 24, .load false 1 false (.tmp 23), none⟩,
  ⟨some 25, .call .std 201 [(.tmp 24)], none⟩,
  ⟨some 4, .mov (.tmp 25), none⟩,
  ⟨some 5, .mov (.cst (.int .i64 0)), none⟩] :: K) fr S := rfl
def disk_Disk_Read : PCodeFn :=
  ⟨2, [.tmp 4, .tmp 5],
  (.seq (.region disk_Disk_Read_r0) (.seq (.clr [(8, 14)] (.region disk_Disk_Read_r1)) (.seq (.seq (.clr [(14, 15)] (.region disk_Disk_Read_r2)) (.cond (.tmp 15) (.seq (.clr [(16, 17)] (.region disk_Disk_Read_r3)) .ret) .skip)) (.seq (.seq (.clr [(17, 20)] (.region disk_Disk_Read_r4)) (.cond (.tmp 20) (.seq (.region disk_Disk_Read_r5) .ret) .skip)) (.seq (.clr [(21, 26)] (.region disk_Disk_Read_r6)) .ret))))), false⟩

/-! (*gauge/wal.Log).Len: 61 -/
def wal_Log_Len_r0 : List POper := [
  ⟨some 2, .mov (.cst (.int .i64 0)), none⟩]
@[simp] theorem wal_Log_Len_r0_go (T : Tbl) (K : List Kt) (fr : Fr) (S : St) : gval T (.ops wal_Log_Len_r0 :: K) fr S = gval T (.ops [
  ⟨some 2, .mov (.cst (.int .i64 0)), none⟩] :: K) fr S := rfl
def wal_Log_Len_r1 : List POper := [
  ⟨some 3, .mov (.tmp 0), none⟩,
  ⟨some 4, .eqn false .p (.tmp 3), none⟩]
@[simp] theorem wal_Log_Len_r1_go (T : Tbl) (K : List Kt) (fr : Fr) (S : St) : gval T (.ops wal_Log_Len_r1 :: K) fr S = gval T (.ops [
  ⟨some 3, .mov (.tmp 0), none⟩,
  ⟨some 4, .eqn false .p (.tmp 3), none⟩] :: K) fr S := rfl
def wal_Log_Len_r2 : List POper := [
  ⟨some 2, .mov (.cst (.int .i64 0)), none⟩]
@[simp] theorem wal_Log_Len_r2_go (T : Tbl) (K : List Kt) (fr : Fr) (S : St) : gval T (.ops wal_Log_Len_r2 :: K) fr S = gval T (.ops [
  ⟨some 2, .mov (.cst (.int .i64 0)), none⟩] :: K) fr S := rfl
def wal_Log_Len_r3 : List POper := [
  ⟨some 5, .mov (.tmp 0), none⟩,
  ⟨some 6, .nilck (.tmp 5), none⟩,
  ⟨some 7, .faddr 2 (.tmp 6), none⟩,
  ⟨some 8, .load false 1 false (.tmp 7), none⟩,
  ⟨some 2, .mov (.tmp 8), none⟩]
@[simp] theorem wal_Log_Len_r3_go (T : Tbl) (K : List Kt) (fr : Fr) (S : St) : gval T (.ops wal_Log_Len_r3 :: K) fr S = gval T (.ops [
  ⟨some 5, .mov (.tmp 0), none⟩,
  ⟨some 6, .nilck (.tmp 5), none⟩,
  ⟨some 7, .faddr 2 (.tmp 6), none⟩,
  ⟨some 8, .load false 1 false (.tmp 7), none⟩,
  ⟨some 2, .mov (.tmp 8), none⟩] :: K) fr S := rfl
def wal_Log_Len : PCodeFn :=
  ⟨1, [.tmp 2],
  (.seq (.region wal_Log_Len_r0) (.seq (.seq (.clr [(3, 4)] (.region wal_Log_Len_r1)) (.cond (.tmp 4) (.seq (.region wal_Log_Len_r2) .ret) .skip)) (.seq (.clr [(5, 9)] (.region wal_Log_Len_r3)) .ret))), false⟩

/-! (*gauge/wal.Log).Sync: 150 -/
def wal_Log_Sync_r0 : List POper := [
  ⟨some 2, .mov (.cst (.int .i64 0)), none⟩]
@[simp] theorem wal_Log_Sync_r0_go (T : Tbl) (K : List Kt) (fr : Fr) (S : St) : gval T (.ops wal_Log_Sync_r0 :: K) fr S = gval T (.ops [
  ⟨some 2, .mov (.cst (.int .i64 0)), none⟩] :: K) fr S := rfl
def wal_Log_Sync_r1 : List POper := [
  ⟨some 3, .mov (.tmp 0), none⟩,
  ⟨some 4, .eqn false .p (.tmp 3), none⟩]
@[simp] theorem wal_Log_Sync_r1_go (T : Tbl) (K : List Kt) (fr : Fr) (S : St) : gval T (.ops wal_Log_Sync_r1 :: K) fr S = gval T (.ops [
  ⟨some 3, .mov (.tmp 0), none⟩,
  ⟨some 4, .eqn false .p (.tmp 3), none⟩] :: K) fr S := rfl
def wal_Log_Sync_r2 : List POper := [
  ⟨some 2, .mov (.cst (.int .i64 1)), none⟩]
@[simp] theorem wal_Log_Sync_r2_go (T : Tbl) (K : List Kt) (fr : Fr) (S : St) : gval T (.ops wal_Log_Sync_r2 :: K) fr S = gval T (.ops [
  ⟨some 2, .mov (.cst (.int .i64 1)), none⟩] :: K) fr S := rfl
def wal_Log_Sync_r3 : List POper := [
  ⟨some 5, .mov (.tmp 0), none⟩,
  ⟨some 6, .nilck (.tmp 5), none⟩,
  ⟨some 7, .faddr 0 (.tmp 6), none⟩,
  ⟨some 8, .load false 1 false (.tmp 7), none⟩,
  ⟨some 9, .mov (.tmp 0), none⟩,
  ⟨some 10, .nilck (.tmp 9), none⟩,
  ⟨some 11, .faddr 1 (.tmp 10), none⟩,
  ⟨some 12, .load false 1 false (.tmp 11), none⟩,
  ⟨some 13, .call .std 84 [(.tmp 8), (.tmp 12)], none⟩,
  ⟨some 2, .mov (.tmp 13), none⟩]
@[simp] theorem wal_Log_Sync_r3_go (T : Tbl) (K : List Kt) (fr : Fr) (S : St) : gval T (.ops wal_Log_Sync_r3 :: K) fr S = gval T (.ops [
  ⟨some 5, .mov (.tmp 0), none⟩,
  ⟨some 6, .nilck (.tmp 5), none⟩,
  ⟨some 7, .faddr 0 (.tmp 6), none⟩,
  ⟨some 8, .load false 1 false (.tmp 7), none⟩,
  ⟨some 9, .mov (.tmp 0), none⟩,
  ⟨some 10, .nilck (.tmp 9), none⟩,
  ⟨some 11, .faddr 1 (.tmp 10), none⟩,
  ⟨some 12, .load false 1 false (.tmp 11), none⟩,
  ⟨some 13, .call .std 84 [(.tmp 8), (.tmp 12)], none⟩,
  ⟨some 2, .mov (.tmp 13), none⟩] :: K) fr S := rfl
def wal_Log_Sync : PCodeFn :=
  ⟨1, [.tmp 2],
  (.seq (.region wal_Log_Sync_r0) (.seq (.seq (.clr [(3, 4)] (.region wal_Log_Sync_r1)) (.cond (.tmp 4) (.seq (.region wal_Log_Sync_r2) .ret) .skip)) (.seq (.clr [(5, 14)] (.region wal_Log_Sync_r3)) .ret))), false⟩

/-! (*gauge/disk.Disk).Crash: 80 -/
def disk_Disk_Crash_r0 : List POper := [
  ⟨some 6, .mov (.cst (.int .i64 0)), none⟩]
@[simp] theorem disk_Disk_Crash_r0_go (T : Tbl) (K : List Kt) (fr : Fr) (S : St) : gval T (.ops disk_Disk_Crash_r0 :: K) fr S = gval T (.ops [
  ⟨some 6, .mov (.cst (.int .i64 0)), none⟩] :: K) fr S := rfl
def disk_Disk_Crash_r1 : List POper := [
  ⟨some 13, .mov (.tmp 0), none⟩,
  ⟨some 14, .eqn false .p (.tmp 13), none⟩,
  ⟨some 15, .mov (.tmp 14), none⟩,
  ⟨some 16, .mov (.tmp 0), some (15, false)⟩,
  ⟨some 17, .nilck (.tmp 16), some (15, false)⟩,
  ⟨some 18, .faddr 2 (.tmp 17), some (15, false)⟩,
  ⟨some 19, .load false 1 false (.tmp 18), some (15, false)⟩,
  ⟨some 20, .eqn false .m (.tmp 19), some (15, false)⟩,
  ⟨some 21, .pick (.tmp 15) (.cst (.bool true)) (.tmp 20), none⟩]
@[simp] theorem disk_Disk_Crash_r1_go (T : Tbl) (K : List Kt) (fr : Fr) (S : St) : gval T (.ops disk_Disk_Crash_r1 :: K) fr S = gval T (.ops [
  ⟨some 13, .mov (.tmp 0), none⟩,
  ⟨some 14, .eqn false .p (.tmp 13), none⟩,
  ⟨some 15, .mov (.tmp 14), none⟩,
  ⟨some 16, .mov (.tmp 0), some (15, false)⟩,
  ⟨some 17, .nilck (.tmp 16), some (15, false)⟩,
  ⟨some 18, .faddr 2 (.tmp 17), some (15, false)⟩,
  ⟨some 19, .load false 1 false (.tmp 18), some (15, false)⟩,
  ⟨some 20, .eqn false .m (.tmp 19), some (15, false)⟩,
  ⟨some 21, .pick (.tmp 15) (.cst (.bool true)) (.tmp 20), none⟩] :: K) fr S := rfl
def disk_Disk_Crash_r2 : List POper := [
  ⟨some 6, .mov (.cst (.int .i64 1)), none⟩]
@[simp] theorem disk_Disk_Crash_r2_go (T : Tbl) (K : List Kt) (fr : Fr) (S : St) : gval T (.ops disk_Disk_Crash_r2 :: K) fr S = gval T (.ops [
  ⟨some 6, .mov (.cst (.int .i64 1)), none⟩] :: K) fr S := rfl
def disk_Disk_Crash_r3 : List POper := [
  ⟨some 22, .mov (.tmp 0), none⟩,
  ⟨some 23, .nilck (.tmp 22), none⟩,
  ⟨some 24, .faddr 3 (.tmp 23), none⟩,
  ⟨some 25, .load false 1 false (.tmp 24), none⟩,
  ⟨some 26, .mov (.tmp 1), none⟩,
  ⟨some 27, .toInt .u64 (.tmp 26), none⟩,
  ⟨some 28, .mov (.tmp 0), none⟩,
  ⟨some 29, .nilck (.tmp 28), none⟩,
  ⟨some 30, .faddr 3 (.tmp 29), none⟩,
  ⟨some 31, .load false 1 false (.tmp 30), none⟩,
  ⟨some 32, .len false (.tmp 31), none⟩,
  ⟨some 33, .arith .add (.tmp 32) (.cst (.int .i64 1)), none⟩,
  ⟨some 34, .toInt .u64 (.tmp 33), none⟩,
  ⟨some 35, .arith .rem (.tmp 27) (.tmp 34), none⟩,
  ⟨some 36, .slc 3 none (some (.tmp 35)) (.tmp 25), none⟩,
  ⟨some 37, .len false (.tmp 36), none⟩,
  ⟨some 38, .mov (.cst (.int .i64 0)), none⟩]
@[simp] theorem disk_Disk_Crash_r3_go (T : Tbl) (K : List Kt) (fr : Fr) (S : St) : gval T (.ops disk_Disk_Crash_r3 :: K) fr S = gval T (.ops [
  ⟨some 22, .mov (.tmp 0), none⟩,
  ⟨some 23, .nilck (.tmp 22), none⟩,
  ⟨some 24, .faddr 3 (.tmp 23), none⟩,
  ⟨some 25, .load false 1 false (.tmp 24), none⟩,
  ⟨some 26, .mov (.tmp 1), none⟩,
  ⟨some 27, .toInt .u64 (.tmp 26), none⟩,
  ⟨some 28, .mov (.tmp 0), none⟩,
  ⟨some 29, .nilck (.tmp 28), none⟩,
  ⟨some 30, .faddr 3 (.tmp 29), none⟩,
  ⟨some 31, .load false 1 false (.tmp 30), none⟩,
  ⟨some 32, .len false (.tmp 31), none⟩,
  ⟨some 33, .arith .add (.tmp 32) (.cst (.int .i64 1)), none⟩,
  ⟨some 34, .toInt .u64 (.tmp 33), none⟩,
  ⟨some 35, .arith .rem (.tmp 27) (.tmp 34), none⟩,
  ⟨some 36, .slc 3 none (some (.tmp 35)) (.tmp 25), none⟩,
  ⟨some 37, .len false (.tmp 36), none⟩,
  ⟨some 38, .mov (.cst (.int .i64 0)), none⟩] :: K) fr S := rfl
def disk_Disk_Crash_r4 : List POper := [
  ⟨some 39, .arith .lss (.tmp 38) (.tmp 37), none⟩]
@[simp] theorem disk_Disk_Crash_r4_go (T : Tbl) (K : List Kt) (fr : Fr) (S : St) : gval T (.ops disk_Disk_Crash_r4 :: K) fr S = gval T (.ops [
  ⟨some 39, .arith .lss (.tmp 38) (.tmp 37), none⟩] :: K) fr S := rfl
def disk_Disk_Crash_r5 : List POper := [
  ⟨some 40, .iaddr 3 (.tmp 36) (.tmp 38), none⟩,
  ⟨some 41, .load true 3 false (.tmp 40), none⟩,
  ⟨some 8, .alloc false [(.str []), (.str []), .nilp], none⟩,
  ⟨none, .store 3 (.tmp 8) (.tmp 41), none⟩]
@[simp] theorem disk_Disk_Crash_r5_go (T : Tbl) (K : List Kt) (fr : Fr) (S : St) : gval T (.ops disk_Disk_Crash_r5 :: K) fr S = gval T (.ops [
  ⟨some 40, .iaddr 3 (.tmp 36) (.tmp 38), none⟩,
  ⟨some 41, .load true 3 false (.tmp 40), none⟩,
  ⟨some 8, .alloc false [(.str []), (.str []), .nilp], none⟩,
  ⟨none, .store 3 (.tmp 8) (.tmp 41), none⟩] :: K) fr S := rfl
def disk_Disk_Crash_r6 : List POper := [
  ⟨some 42, .load true 3 false (.tmp 8), none⟩,
  ⟨some 43, .mov (.tmp 0), none⟩,
  ⟨some 44, .nilck (.tmp 43), none⟩,
  ⟨some 45, .faddr 1 (.tmp 44), none⟩,
  ⟨some 46, .load false 1 false (.tmp 45), none⟩,
  ⟨some 47, .call .std 198 [(.tmp 42), (.tmp 46)], none⟩]
@[simp] theorem disk_Disk_Crash_r6_go (T : Tbl) (K : List Kt) (fr : Fr) (S : St) : gval T (.ops disk_Disk_Crash_r6 :: K) fr S = gval T (.ops [
  ⟨some 42, .load true 3 false (.tmp 8), none⟩,
  ⟨some 43, .mov (.tmp 0), none⟩,
  ⟨some 44, .nilck (.tmp 43), none⟩,
  ⟨some 45, .faddr 1 (.tmp 44), none⟩,
  ⟨some 46, .load false 1 false (.tmp 45), none⟩,
  ⟨some 47, .call .std 198 [(.tmp 42), (.tmp 46)], none⟩] :: K) fr S := rfl
def disk_Disk_Crash_r7 : List POper := [
  ⟨some 48, .arith .add (.tmp 38) (.cst (.int .i64 1)), none⟩,
  ⟨some 38, .mov (.tmp 48), none⟩]
@[simp] theorem disk_Disk_Crash_r7_go (T : Tbl) (K : List Kt) (fr : Fr) (S : St) : gval T (.ops disk_Disk_Crash_r7 :: K) fr S = gval T (.ops [
  ⟨some 48, .arith .add (.tmp 38) (.cst (.int .i64 1)), none⟩,
  ⟨some 38, .mov (.tmp 48), none⟩] :: K) fr S := rfl
def disk_Disk_Crash_l0 : PCode :=
  (.seq (.region disk_Disk_Crash_r4) (.seq (.cond (.tmp 39) .skip (.exit 0)) (.seq (.block 1 (.seq (.clr [(40, 42)] (.region disk_Disk_Crash_r5)) (.clr [(42, 48)] (.region disk_Disk_Crash_r6)))) (.clr [(48, 49)] (.region disk_Disk_Crash_r7)))))
@[simp] theorem disk_Disk_Crash_l0_go (T : Tbl) (K : List Kt) (fr : Fr) (S : St) : gval T (.code disk_Disk_Crash_l0 :: K) fr S = gval T (.code (.seq (.region disk_Disk_Crash_r4) (.seq (.cond (.tmp 39) .skip (.exit 0)) (.seq (.block 1 (.seq (.clr [(40, 42)] (.region disk_Disk_Crash_r5)) (.clr [(42, 48)] (.region disk_Disk_Crash_r6)))) (.clr [(48, 49)] (.region disk_Disk_Crash_r7))))) :: K) fr S := rfl
def disk_Disk_Crash_r8 : List POper := [
  ⟨some 49, .mov (.tmp 0), none⟩,
  ⟨some 50, .nilck (.tmp 49), none⟩,
  ⟨some 51, .faddr 1 (.tmp 50), none⟩,
  ⟨some 52, .load false 1 false (.tmp 51), none⟩,
  ⟨some 53, .call .std 200 [(.tmp 52)], none⟩,
  ⟨some 54, .call .std 199 [(.tmp 53)], none⟩,
  ⟨some 55, .len false (.tmp 54), none⟩,
  ⟨some 56, .mov (.cst (.int .i64 0)), none⟩]
@[simp] theorem disk_Disk_Crash_r8_go (T : Tbl) (K : List Kt) (fr : Fr) (S : St) : gval T (.ops disk_Disk_Crash_r8 :: K) fr S = gval T (.ops [
  ⟨some 49, .mov (.tmp 0), none⟩,
  ⟨some 50, .nilck (.tmp 49), none⟩,
  ⟨some 51, .faddr 1 (.tmp 50), none⟩,
  ⟨some 52, .load false 1 false (.tmp 51), none⟩,
  ⟨some 53, .call .std 200 [(.tmp 52)], none⟩,
  ⟨some 54, .call .std 199 [(.tmp 53)], none⟩,
  ⟨some 55, .len false (.tmp 54), none⟩,
  ⟨some 56, .mov (.cst (.int .i64 0)), none⟩] :: K) fr S := rfl
def disk_Disk_Crash_r9 : List POper := [
  ⟨some 57, .arith .lss (.tmp 56) (.tmp 55), none⟩]
@[simp] theorem disk_Disk_Crash_r9_go (T : Tbl) (K : List Kt) (fr : Fr) (S : St) : gval T (.ops disk_Disk_Crash_r9 :: K) fr S = gval T (.ops [
  ⟨some 57, .arith .lss (.tmp 56) (.tmp 55), none⟩] :: K) fr S := rfl
def disk_Disk_Crash_r10 : List POper := [
  ⟨some 58, .mov (.tmp 56), none⟩,
  ⟨some 59, .iaddr 1 (.tmp 54) (.tmp 56), none⟩,
  ⟨some 60, .load false 1 false (.tmp 59), none⟩,
  ⟨some 9, .mov (.tmp 58), none⟩,
  ⟨some 10, .mov (.tmp 60), none⟩]
@[simp] theorem disk_Disk_Crash_r10_go (T : Tbl) (K : List Kt) (fr : Fr) (S : St) : gval T (.ops disk_Disk_Crash_r10 :: K) fr S = gval T (.ops [
  ⟨some 58, .mov (.tmp 56), none⟩,
  ⟨some 59, .iaddr 1 (.tmp 54) (.tmp 56), none⟩,
  ⟨some 60, .load false 1 false (.tmp 59), none⟩,
  ⟨some 9, .mov (.tmp 58), none⟩,
  ⟨some 10, .mov (.tmp 60), none⟩] :: K) fr S := rfl
def disk_Disk_Crash_r11 : List POper := [
  ⟨some 61, .mov (.tmp 0), none⟩,
  ⟨some 62, .nilck (.tmp 61), none⟩,
  ⟨some 63, .faddr 1 (.tmp 62), none⟩,
  ⟨some 64, .load false 1 false (.tmp 63), none⟩,
  ⟨some 65, .mov (.tmp 10), none⟩,
  ⟨some 66, .mlk true false .nilp (.tmp 64) (.tmp 65), none⟩,
  ⟨some 11, .mov (.tmp 66), none⟩]
@[simp] theorem disk_Disk_Crash_r11_go (T : Tbl) (K : List Kt) (fr : Fr) (S : St) : gval T (.ops disk_Disk_Crash_r11 :: K) fr S = gval T (.ops [
  ⟨some 61, .mov (.tmp 0), none⟩,
  ⟨some 62, .nilck (.tmp 61), none⟩,
  ⟨some 63, .faddr 1 (.tmp 62), none⟩,
  ⟨some 64, .load false 1 false (.tmp 63), none⟩,
  ⟨some 65, .mov (.tmp 10), none⟩,
  ⟨some 66, .mlk true false .nilp (.tmp 64) (.tmp 65), none⟩,
  ⟨some 11, .mov (.tmp 66), none⟩] :: K) fr S := rfl
def disk_Disk_Crash_r12 : List POper := [
  ⟨some 67, .mov (.tmp 11), none⟩,
  ⟨some 68, .nilck (.tmp 67), none⟩,
  ⟨some 69, .faddr 1 (.tmp 68), none⟩,
  ⟨some 70, .load false 1 false (.tmp 69), none⟩,
  ⟨some 12, .mov (.tmp 70), none⟩]
@[simp] theorem disk_Disk_Crash_r12_go (T : Tbl) (K : List Kt) (fr : Fr) (S : St) : gval T (.ops disk_Disk_Crash_r12 :: K) fr S = gval T (.ops [
  ⟨some 67, .mov (.tmp 11), none⟩,
  ⟨some 68, .nilck (.tmp 67), none⟩,
  ⟨some 69, .faddr 1 (.tmp 68), none⟩,
  ⟨some 70, .load false 1 false (.tmp 69), none⟩,
  ⟨some 12, .mov (.tmp 70), none⟩] :: K) fr S := rfl
def disk_Disk_Crash_r13 : List POper := [
  ⟨some 71, .mov (.tmp 9), none⟩,
  ⟨some 72, .mov (.tmp 2), none⟩,
  ⟨some 73, .len false (.tmp 72), none⟩,
  ⟨some 74, .arith .lss (.tmp 71) (.tmp 73), none⟩]
@[simp] theorem disk_Disk_Crash_r13_go (T : Tbl) (K : List Kt) (fr : Fr) (S : St) : gval T (.ops disk_Disk_Crash_r13 :: K) fr S = gval T (.ops [
  ⟨some 71, .mov (.tmp 9), none⟩,
  ⟨some 72, .mov (.tmp 2), none⟩,
  ⟨some 73, .len false (.tmp 72), none⟩,
  ⟨some 74, .arith .lss (.tmp 71) (.tmp 73), none⟩] :: K) fr S := rfl
def disk_Disk_Crash_r14 : List POper := [
  ⟨some 75, .mov (.tmp 12), none⟩,
  ⟨some 76, .mov (.tmp 2), none⟩,
  ⟨some 77, .mov (.tmp 9), none⟩,
  ⟨some 78, .iaddr 1 (.tmp 76) (.tmp 77), none⟩,
  ⟨some 79, .load false 1 true (.tmp 78), none⟩,
  ⟨some 80, .toInt .u64 (.tmp 79), none⟩,
  ⟨some 81, .mov (.tmp 11), none⟩,
  ⟨some 82, .nilck (.tmp 81), none⟩,
  ⟨some 83, .faddr 0 (.tmp 82), none⟩,
  ⟨some 84, .load false 1 false (.tmp 83), none⟩,
  ⟨some 85, .len false (.tmp 84), none⟩,
  ⟨some 86, .mov (.tmp 11), none⟩,
  ⟨some 87, .nilck (.tmp 86), none⟩,
  ⟨some 88, .faddr 1 (.tmp 87), none⟩,
  ⟨some 89, .load false 1 false (.tmp 88), none⟩,
  ⟨some 90, .arith .sub (.tmp 85) (.tmp 89), none⟩,
  ⟨some 91, .arith .add (.tmp 90) (.cst (.int .i64 1)), none⟩,
  ⟨some 92, .toInt .u64 (.tmp 91), none⟩,
  ⟨some 93, .arith .rem (.tmp 80) (.tmp 92), none⟩,
  ⟨some 94, .toInt .i64 (.tmp 93), none⟩,
  ⟨some 95, .arith .add (.tmp 75) (.tmp 94), none⟩,
  ⟨some 12, .mov (.tmp 95), none⟩]
@[simp] theorem disk_Disk_Crash_r14_go (T : Tbl) (K : List Kt) (fr : Fr) (S : St) : gval T (.ops disk_Disk_Crash_r14 :: K) fr S = gval T (.ops [
  ⟨some 75, .mov (.tmp 12), none⟩,
  ⟨some 76, .mov (.tmp 2), none⟩,
  ⟨some 77, .mov (.tmp 9), none⟩,
  ⟨some 78, .iaddr 1 (.tmp 76) (.tmp 77), none⟩,
  ⟨some 79, .load false 1 true (.tmp 78), none⟩,
  ⟨some 80, .toInt .u64 (.tmp 79), none⟩,
  ⟨some 81, .mov (.tmp 11), none⟩,
  ⟨some 82, .nilck (.tmp 81), none⟩,
  ⟨some 83, .faddr 0 (.tmp 82), none⟩,
  ⟨some 84, .load false 1 false (.tmp 83), none⟩,
  ⟨some 85, .len false (.tmp 84), none⟩,
  ⟨some 86, .mov (.tmp 11), none⟩,
  ⟨some 87, .nilck (.tmp 86), none⟩,
  ⟨some 88, .faddr 1 (.tmp 87), none⟩,
  ⟨some 89, .load false 1 false (.tmp 88), none⟩,
  ⟨some 90, .arith .sub (.tmp 85) (.tmp 89), none⟩,
  ⟨some 91, .arith .add (.tmp 90) (.cst (.int .i64 1)), none⟩,
  ⟨some 92, .toInt .u64 (.tmp 91), none⟩,
  ⟨some 93, .arith .rem (.tmp 80) (.tmp 92), none⟩,
  ⟨some 94, .toInt .i64 (.tmp 93), none⟩,
  ⟨some 95, .arith .add (.tmp 75) (.tmp 94), none⟩,
  ⟨some 12, .mov (.tmp 95), none⟩] :: K) fr S := rfl
def disk_Disk_Crash_r15 : List POper := [
  ⟨some 96, .mov (.tmp 11), none⟩,
  ⟨some 97, .mov (.tmp 11), none⟩,
  ⟨some 98, .mov (.tmp 11), none⟩,
  ⟨some 99, .nilck (.tmp 98), none⟩,
  ⟨some 100, .faddr 0 (.tmp 99), none⟩,
  ⟨some 101, .load false 1 false (.tmp 100), none⟩,
  ⟨some 102, .mov (.tmp 12), none⟩,
  ⟨some 103, .mov (.tmp 12), none⟩,
  ⟨some 104, .slc3 1 none (.tmp 102) (.tmp 103) (.tmp 101), none⟩,
  ⟨some 105, .mov (.tmp 12), none⟩,
  ⟨some 106, .nilck (.tmp 96), none⟩,
  ⟨some 107, .faddr 0 (.tmp 106), none⟩,
  ⟨none, .store 1 (.tmp 107) (.tmp 104), none⟩,
  ⟨some 108, .nilck (.tmp 97), none⟩,
  ⟨some 109, .faddr 1 (.tmp 108), none⟩,
  ⟨none, .store 1 (.tmp 109) (.tmp 105), none⟩]
@[simp] theorem disk_Disk_Crash_r15_go (T : Tbl) (K : List Kt) (fr : Fr) (S : St) : gval T (.ops disk_Disk_Crash_r15 :: K) fr S = gval T (.ops [
  ⟨some 96, .mov (.tmp 11), none⟩,
  ⟨some 97, .mov (.tmp 11), none⟩,
  ⟨some 98, .mov (.tmp 11), none⟩,
  ⟨some 99, .nilck (.tmp 98), none⟩,
  ⟨some 100, .faddr 0 (.tmp 99), none⟩,
  ⟨some 101, .load false 1 false (.tmp 100), none⟩,
  ⟨some 102, .mov (.tmp 12), none⟩,
  ⟨some 103, .mov (.tmp 12), none⟩,
  ⟨some 104, .slc3 1 none (.tmp 102) (.tmp 103) (.tmp 101), none⟩,
  ⟨some 105, .mov (.tmp 12), none⟩,
  ⟨some 106, .nilck (.tmp 96), none⟩,
  ⟨some 107, .faddr 0 (.tmp 106), none⟩,
  ⟨none, .store 1 (.tmp 107) (.tmp 104), none⟩,
  ⟨some 108, .nilck (.tmp 97), none⟩,
  ⟨some 109, .faddr 1 (.tmp 108), none⟩,
  ⟨none, .store 1 (.tmp 109) (.tmp 105), none⟩] :: K) fr S := rfl
def disk_Disk_Crash_r16 : List POper := [
  ⟨some 110, .arith .add (.tmp 56) (.cst (.int .i64 1)), none⟩,
  ⟨some 56, .mov (.tmp 110), none⟩]
@[simp] theorem disk_Disk_Crash_r16_go (T : Tbl) (K : List Kt) (fr : Fr) (S : St) : gval T (.ops disk_Disk_Crash_r16 :: K) fr S = gval T (.ops [
  ⟨some 110, .arith .add (.tmp 56) (.cst (.int .i64 1)), none⟩,
  ⟨some 56, .mov (.tmp 110), none⟩] :: K) fr S := rfl
def disk_Disk_Crash_l1 : PCode :=
  (.seq (.region disk_Disk_Crash_r9) (.seq (.cond (.tmp 57) .skip (.exit 2)) (.seq (.block 3 (.seq (.clr [(58, 61)] (.region disk_Disk_Crash_r10)) (.seq (.clr [(61, 67)] (.region disk_Disk_Crash_r11)) (.seq (.clr [(67, 71)] (.region disk_Disk_Crash_r12)) (.seq (.seq (.clr [(71, 74)] (.region disk_Disk_Crash_r13)) (.cond (.tmp 74) (.clr [(75, 96)] (.region disk_Disk_Crash_r14)) .skip)) (.clr [(96, 110)] (.region disk_Disk_Crash_r15))))))) (.clr [(110, 111)] (.region disk_Disk_Crash_r16)))))
@[simp] theorem disk_Disk_Crash_l1_go (T : Tbl) (K : List Kt) (fr : Fr) (S : St) : gval T (.code disk_Disk_Crash_l1 :: K) fr S = gval T (.code (.seq (.region disk_Disk_Crash_r9) (.seq (.cond (.tmp 57) .skip (.exit 2)) (.seq (.block 3 (.seq (.clr [(58, 61)] (.region disk_Disk_Crash_r10)) (.seq (.clr [(61, 67)] (.region disk_Disk_Crash_r11)) (.seq (.clr [(67, 71)] (.region disk_Disk_Crash_r12)) (.seq (.seq (.clr [(71, 74)] (.region disk_Disk_Crash_r13)) (.cond (.tmp 74) (.clr [(75, 96)] (.region disk_Disk_Crash_r14)) .skip)) (.clr [(96, 110)] (.region disk_Disk_Crash_r15))))))) (.clr [(110, 111)] (.region disk_Disk_Crash_r16))))) :: K) fr S := rfl
def disk_Disk_Crash_r17 : List POper := [
  ⟨some 111, .mov (.tmp 0), none⟩,
  ⟨some 112, .mov (.tmp 0), none⟩,
  ⟨some 113, .mov (.tmp 0), none⟩,
  ⟨some 114, .mov (.tmp 0), none⟩,
  ⟨some 115, .mov (.tmp 0), none⟩,
  ⟨some 116, .nilck (.tmp 115), none⟩,
  ⟨some 117, .faddr 1 (.tmp 116), none⟩,
  ⟨some 118, .load false 1 false (.tmp 117), none⟩,
  ⟨some 119, .call .std 197 [(.tmp 118)], none⟩,
  ⟨some 120, .nilck (.tmp 111), none⟩,
  ⟨some 121, .faddr 2 (.tmp 120), none⟩,
  ⟨none, .store 1 (.tmp 121) (.tmp 119), none⟩,
  ⟨some 122, .nilck (.tmp 112), none⟩,
  ⟨some 123, .faddr 3 (.tmp 122), none⟩,
  ⟨none, .store 1 (.tmp 123) (.cst .nils), none⟩,
  ⟨some 124, .nilck (.tmp 113), none⟩,
  ⟨some 125, .faddr 4 (.tmp 124), none⟩,
  ⟨none, .store 1 (.tmp 125) (.cst (.int .i64 (-1))), none⟩,
  ⟨some 126, .nilck (.tmp 114), none⟩,
  ⟨some 127, .faddr 6 (.tmp 126), none⟩,
  ⟨none, .store 1 (.tmp 127) (.cst (.bool false)), none⟩]
@[simp] theorem disk_Disk_Crash_r17_go (T : Tbl) (K : List Kt) (fr : Fr) (S : St) : gval T (.ops disk_Disk_Crash_r17 :: K) fr S = gval T (.ops [
  ⟨some 111, .mov (.tmp 0), none⟩,
  ⟨some 112, .mov (.tmp 0), none⟩,
  ⟨some 113, .mov (.tmp 0), none⟩,
  ⟨some 114, .mov (.tmp 0), none⟩,
  ⟨some 115, .mov (.tmp 0), none⟩,
  ⟨some 116, .nilck (.tmp 115), none⟩,
  ⟨some 117, .faddr 1 (.tmp 116), none⟩,
  ⟨some 118, .load false 1 false (.tmp 117), none⟩,
  ⟨some 119, .call .std 197 [(.tmp 118)], none⟩,
  ⟨some 120, .nilck (.tmp 111), none⟩,
  ⟨some 121, .faddr 2 (.tmp 120), none⟩,
  ⟨none, .store 1 (.tmp 121) (.tmp 119), none⟩,
  ⟨some 122, .nilck (.tmp 112), none⟩,
  ⟨some 123, .faddr 3 (.tmp 122), none⟩,
  ⟨none, .store 1 (.tmp 123) (.cst .nils), none⟩,
  ⟨some 124, .nilck (.tmp 113), none⟩,
  ⟨some 125, .faddr 4 (.tmp 124), none⟩,
  ⟨none, .store 1 (.tmp 125) (.cst (.int .i64 (-1))), none⟩,
  ⟨some 126, .nilck (.tmp 114), none⟩,
  ⟨some 127, .faddr 6 (.tmp 126), none⟩,
  ⟨none, .store 1 (.tmp 127) (.cst (.bool false)), none⟩] :: K) fr S := rfl
def disk_Disk_Crash_r18 : List POper := [
  ⟨some 6, .mov (.cst (.int .i64 0)), none⟩]
@[simp] theorem disk_Disk_Crash_r18_go (T : Tbl) (K : List Kt) (fr : Fr) (S : St) : gval T (.ops disk_Disk_Crash_r18 :: K) fr S = gval T (.ops [
  ⟨some 6, .mov (.cst (.int .i64 0)), none⟩] :: K) fr S := rfl
def disk_Disk_Crash : PCodeFn :=
  ⟨3, [.tmp 6],
  (.seq (.region disk_Disk_Crash_r0) (.seq (.seq (.clr [(13, 21)] (.region disk_Disk_Crash_r1)) (.cond (.tmp 21) (.seq (.region disk_Disk_Crash_r2) .ret) .skip)) (.seq (.seq (.clr [(22, 36)] (.region disk_Disk_Crash_r3)) (.block 0 (.loop disk_Disk_Crash_l0))) (.seq (.seq (.clr [(49, 54)] (.region disk_Disk_Crash_r8)) (.block 2 (.loop disk_Disk_Crash_l1))) (.seq (.clr [(111, 128)] (.region disk_Disk_Crash_r17)) (.seq (.region disk_Disk_Crash_r18) .ret)))))), false⟩

/-! (*gauge/disk.Disk).Fuse: 85 -/
def disk_Disk_Fuse_r0 : List POper := [
  ⟨some 4, .mov (.tmp 0), none⟩,
  ⟨some 5, .eqn true .p (.tmp 4), none⟩,
  ⟨some 6, .mov (.tmp 5), none⟩,
  ⟨some 7, .mov (.tmp 0), some (6, true)⟩,
  ⟨some 8, .nilck (.tmp 7), some (6, true)⟩,
  ⟨some 9, .faddr 2 (.tmp 8), some (6, true)⟩,
  ⟨some 10, .load false 1 false (.tmp 9), some (6, true)⟩,
  ⟨some 11, .eqn true .m (.tmp 10), some (6, true)⟩,
  ⟨some 12, .pick (.tmp 6) (.tmp 11) (.cst (.bool false)), none⟩]
@[simp] theorem disk_Disk_Fuse_r0_go (T : Tbl) (K : List Kt) (fr : Fr) (S : St) : gval T (.ops disk_Disk_Fuse_r0 :: K) fr S = gval T (.ops [
  ⟨some 4, .mov (.tmp 0), none⟩,
  ⟨some 5, .eqn true .p (.tmp 4), none⟩,
  ⟨some 6, .mov (.tmp 5), none⟩,
  ⟨some 7, .mov (.tmp 0), some (6, true)⟩,
  ⟨some 8, .nilck (.tmp 7), some (6, true)⟩,
  ⟨some 9, .faddr 2 (.tmp 8), some (6, true)⟩,
  ⟨some 10, .load false 1 false (.tmp 9), some (6, true)⟩,
  ⟨some 11, .eqn true .m (.tmp 10), some (6, true)⟩,
  ⟨some 12, .pick (.tmp 6) (.tmp 11) (.cst (.bool false)), none⟩] :: K) fr S := rfl
def disk_Disk_Fuse_r1 : List POper := [
  ⟨some 13, .mov (.tmp 0), none⟩,
  ⟨some 14, .mov (.tmp 1), none⟩,
  ⟨some 15, .mnmx true (.tmp 14) (.cst (.int .i64 (-1))), none⟩,
  ⟨some 16, .nilck (.tmp 13), none⟩,
  ⟨some 17, .faddr 4 (.tmp 16), none⟩,
  ⟨none, .store 1 (.tmp 17) (.tmp 15), none⟩]
@[simp] theorem disk_Disk_Fuse_r1_go (T : Tbl) (K : List Kt) (fr : Fr) (S : St) : gval T (.ops disk_Disk_Fuse_r1 :: K) fr S = gval T (.ops [
  ⟨some 13, .mov (.tmp 0), none⟩,
  ⟨some 14, .mov (.tmp 1), none⟩,
  ⟨some 15, .mnmx true (.tmp 14) (.cst (.int .i64 (-1))), none⟩,
  ⟨some 16, .nilck (.tmp 13), none⟩,
  ⟨some 17, .faddr 4 (.tmp 16), none⟩,
  ⟨none, .store 1 (.tmp 17) (.tmp 15), none⟩] :: K) fr S := rfl
def disk_Disk_Fuse : PCodeFn :=
  ⟨2, [],
  (.seq (.clr [(4, 12)] (.region disk_Disk_Fuse_r0)) (.cond (.tmp 12) (.clr [(13, 18)] (.region disk_Disk_Fuse_r1)) .skip)), false⟩

/-! gauge/frame.PutUint: 107 -/
def frame_PutUint_r0 : List POper := [
  ⟨some 4, .mov (.cst .nils), none⟩,
  ⟨some 5, .mov (.cst (.int .i64 0)), none⟩]
@[simp] theorem frame_PutUint_r0_go (T : Tbl) (K : List Kt) (fr : Fr) (S : St) : gval T (.ops frame_PutUint_r0 :: K) fr S = gval T (.ops [
  ⟨some 4, .mov (.cst .nils), none⟩,
  ⟨some 5, .mov (.cst (.int .i64 0)), none⟩] :: K) fr S := rfl
def frame_PutUint_r1 : List POper := [
  ⟨some 7, .mov (.tmp 1), none⟩,
  ⟨some 8, .arith .lss (.tmp 7) (.cst (.int .i64 0)), none⟩]
@[simp] theorem frame_PutUint_r1_go (T : Tbl) (K : List Kt) (fr : Fr) (S : St) : gval T (.ops frame_PutUint_r1 :: K) fr S = gval T (.ops [
  ⟨some 7, .mov (.tmp 1), none⟩,
  ⟨some 8, .arith .lss (.tmp 7) (.cst (.int .i64 0)), none⟩] :: K) fr S := rfl
def frame_PutUint_r2 : List POper := [
  ⟨some 4, .mov (.cst .nils), none⟩,
  ⟨some 5, .mov (.cst (.int .i64 2)), none⟩]
@[simp] theorem frame_PutUint_r2_go (T : Tbl) (K : List Kt) (fr : Fr) (S : St) : gval T (.ops frame_PutUint_r2 :: K) fr S = gval T (.ops [
  ⟨some 4, .mov (.cst .nils), none⟩,
  ⟨some 5, .mov (.cst (.int .i64 2)), none⟩] :: K) fr S := rfl
def frame_PutUint_r3 : List POper := [
  ⟨some 9, .mov (.tmp 0), none⟩,
  ⟨some 10, .call .std 218 [(.tmp 9), (.cst (.int .i64 9))], none⟩,
  ⟨some 6, .mov (.tmp 10), none⟩]
@[simp] theorem frame_PutUint_r3_go (T : Tbl) (K : List Kt) (fr : Fr) (S : St) : gval T (.ops frame_PutUint_r3 :: K) fr S = gval T (.ops [
  ⟨some 9, .mov (.tmp 0), none⟩,
  ⟨some 10, .call .std 218 [(.tmp 9), (.cst (.int .i64 9))], none⟩,
  ⟨some 6, .mov (.tmp 10), none⟩] :: K) fr S := rfl
def frame_PutUint_r4 : List POper := [
  ⟨some 11, .mov (.tmp 1), none⟩,
  ⟨some 12, .arith .geq (.tmp 11) (.cst (.int .i64 128)), none⟩]
@[simp] theorem frame_PutUint_r4_go (T : Tbl) (K : List Kt) (fr : Fr) (S : St) : gval T (.ops frame_PutUint_r4 :: K) fr S = gval T (.ops [
  ⟨some 11, .mov (.tmp 1), none⟩,
  ⟨some 12, .arith .geq (.tmp 11) (.cst (.int .i64 128)), none⟩] :: K) fr S := rfl
def frame_PutUint_r6 : List POper := [
  ⟨some 15, .mov (.tmp 6), none⟩,
  ⟨some 16, .mov (.tmp 1), none⟩,
  ⟨some 17, .toInt .u8 (.tmp 16), none⟩,
  ⟨some 18, .arith .or (.tmp 17) (.cst (.int .u8 128)), none⟩,
  ⟨some 19, .bsl false (.int .u8 0) 1 [(0, (.tmp 18))], none⟩,
  ⟨some 20, .app 1 1 (.tmp 15) (.tmp 19), none⟩,
  ⟨some 6, .mov (.tmp 20), none⟩]
@[simp] theorem frame_PutUint_r6_go (T : Tbl) (K : List Kt) (fr : Fr) (S : St) : gval T (.ops frame_PutUint_r6 :: K) fr S = gval T (.ops [
  ⟨some 15, .mov (.tmp 6), none⟩,
  ⟨some 16, .mov (.tmp 1), none⟩,
  ⟨some 17, .toInt .u8 (.tmp 16), none⟩,
  ⟨some 18, .arith .or (.tmp 17) (.cst (.int .u8 128)), none⟩,
  ⟨some 19, .bsl false (.int .u8 0) 1 [(0, (.tmp 18))], none⟩,
  ⟨some 20, .app 1 1 (.tmp 15) (.tmp 19), none⟩,
  ⟨some 6, .mov (.tmp 20), none⟩] :: K) fr S := rfl
def frame_PutUint_r5 : List POper := [
  ⟨some 13, .mov (.tmp 1), none⟩,
  ⟨some 14, .arith .shr (.tmp 13) (.cst (.int .u64 7)), none⟩,
  ⟨some 1, .mov (.tmp 14), none⟩]
@[simp] theorem frame_PutUint_r5_go (T : Tbl) (K : List Kt) (fr : Fr) (S : St) : gval T (.ops frame_PutUint_r5 :: K) fr S = gval T (.ops [
  ⟨some 13, .mov (.tmp 1), none⟩,
  ⟨some 14, .arith .shr (.tmp 13) (.cst (.int .u64 7)), none⟩,
  ⟨some 1, .mov (.tmp 14), none⟩] :: K) fr S := rfl
def frame_PutUint_l0 : PCode :=
  (.seq (.seq (.clr [(11, 12)] (.region frame_PutUint_r4)) (.cond (.tmp 12) .skip (.exit 0))) (.seq (.block 1 (.clr [(15, 21)] (.region frame_PutUint_r6))) (.clr [(13, 15)] (.region frame_PutUint_r5))))
@[simp] theorem frame_PutUint_l0_go (T : Tbl) (K : List Kt) (fr : Fr) (S : St) : gval T (.code frame_PutUint_l0 :: K) fr S = gval T (.code (.seq (.seq (.clr [(11, 12)] (.region frame_PutUint_r4)) (.cond (.tmp 12) .skip (.exit 0))) (.seq (.block 1 (.clr [(15, 21)] (.region frame_PutUint_r6))) (.clr [(13, 15)] (.region frame_PutUint_r5)))) :: K) fr S := rfl
def frame_PutUint_r7 : List POper := [
  ⟨some 21, .mov (.tmp 6), none⟩,
  ⟨some 22, .mov (.tmp 1), none⟩,
  ⟨some 23, .toInt .u8 (.tmp 22), none⟩,
  ⟨some 24, .bsl false (.int .u8 0) 1 [(0, (.tmp 23))], none⟩,
  ⟨some 25, .app 1 1 (.tmp 21) (.tmp 24), none⟩,
  ⟨some 4, .mov (.tmp 25), none⟩,
  ⟨some 5, .mov (.cst (.int .i64 0)), none⟩]
@[simp] theorem frame_PutUint_r7_go (T : Tbl) (K : List Kt) (fr : Fr) (S : St) : gval T (.ops frame_PutUint_r7 :: K) fr S = gval T (.ops [
  ⟨some 21, .mov (.tmp 6), none⟩,
  ⟨some 22, .mov (.tmp 1), none⟩,
  ⟨some 23, .toInt .u8 (.tmp 22), none⟩,
  ⟨some 24, .bsl false (.int .u8 0) 1 [(0, (.tmp 23))], none⟩,
  ⟨some 25, .app 1 1 (.tmp 21) (.tmp 24), none⟩,
  ⟨some 4, .mov (.tmp 25), none⟩,
  ⟨some 5, .mov (.cst (.int .i64 0)), none⟩] :: K) fr S := rfl
def frame_PutUint : PCodeFn :=
  ⟨2, [.tmp 4, .tmp 5],
  (.seq (.region frame_PutUint_r0) (.seq (.seq (.clr [(7, 8)] (.region frame_PutUint_r1)) (.cond (.tmp 8) (.seq (.region frame_PutUint_r2) .ret) .skip)) (.seq (.clr [(9, 11)] (.region frame_PutUint_r3)) (.seq (.block 0 (.loop frame_PutUint_l0)) (.seq (.clr [(21, 26)] (.region frame_PutUint_r7)) .ret))))), true⟩

/-! gauge/wal.Bytes.1: 240 -/
def wal_Bytes_1_r0 : List POper := [
  ⟨some 5, .mov (.tmp 0), none⟩,
  ⟨some 6, .len false (.tmp 5), none⟩,
  ⟨some 7, .mov (.cst (.int .i64 0)), none⟩]
@[simp] theorem wal_Bytes_1_r0_go (T : Tbl) (K : List Kt) (fr : Fr) (S : St) : gval T (.ops wal_Bytes_1_r0 :: K) fr S = gval T (.ops [
  ⟨some 5, .mov (.tmp 0), none⟩,
  ⟨some 6, .len false (.tmp 5), none⟩,
  ⟨some 7, .mov (.cst (.int .i64 0)), none⟩] :: K) fr S := rfl
def wal_Bytes_1_r1 : List POper := [
  ⟨some 8, .arith .lss (.tmp 7) (.tmp 6), none⟩]
@[simp] theorem wal_Bytes_1_r1_go (T : Tbl) (K : List Kt) (fr : Fr) (S : St) : gval T (.ops wal_Bytes_1_r1 :: K) fr S = gval T (.ops [
  ⟨some 8, .arith .lss (.tmp 7) (.tmp 6), none⟩] :: K) fr S := rfl
def wal_Bytes_1_r2 : List POper := [
  ⟨some 9, .iaddr 1 (.tmp 5) (.tmp 7), none⟩,
  ⟨some 10, .load false 1 false (.tmp 9), none⟩,
  ⟨some 4, .mov (.tmp 10), none⟩]
@[simp] theorem wal_Bytes_1_r2_go (T : Tbl) (K : List Kt) (fr : Fr) (S : St) : gval T (.ops wal_Bytes_1_r2 :: K) fr S = gval T (.ops [
  ⟨some 9, .iaddr 1 (.tmp 5) (.tmp 7), none⟩,
  ⟨some 10, .load false 1 false (.tmp 9), none⟩,
  ⟨some 4, .mov (.tmp 10), none⟩] :: K) fr S := rfl
def wal_Bytes_1_r3 : List POper := [
  ⟨some 12, .load false 1 false (.tmp 1), none⟩,
  ⟨some 13, .mov (.tmp 4), none⟩,
  ⟨some 14, .call .std 107 [(.tmp 12), (.tmp 13)], none⟩,
  ⟨some 11, .mov (.tmp 14), none⟩,
  ⟨some 15, .extract 0 (.tmp 11), none⟩,
  ⟨some 16, .extract 1 (.tmp 11), none⟩,
  ⟨none, .store 1 (.tmp 1) (.tmp 15), none⟩]
@[simp] theorem wal_Bytes_1_r3_go (T : Tbl) (K : List Kt) (fr : Fr) (S : St) : gval T (.ops wal_Bytes_1_r3 :: K) fr S = gval T (.ops [
  ⟨some 12, .load false 1 false (.tmp 1), none⟩,
  ⟨some 13, .mov (.tmp 4), none⟩,
  ⟨some 14, .call .std 107 [(.tmp 12), (.tmp 13)], none⟩,
  ⟨some 11, .mov (.tmp 14), none⟩,
  ⟨some 15, .extract 0 (.tmp 11), none⟩,
  ⟨some 16, .extract 1 (.tmp 11), none⟩,
  ⟨none, .store 1 (.tmp 1) (.tmp 15), none⟩] :: K) fr S := rfl
def wal_Bytes_1_r4 : List POper := [
  ⟨some 17, .arith .add (.tmp 7) (.cst (.int .i64 1)), none⟩,
  ⟨some 7, .mov (.tmp 17), none⟩]
@[simp] theorem wal_Bytes_1_r4_go (T : Tbl) (K : List Kt) (fr : Fr) (S : St) : gval T (.ops wal_Bytes_1_r4 :: K) fr S = gval T (.ops [
  ⟨some 17, .arith .add (.tmp 7) (.cst (.int .i64 1)), none⟩,
  ⟨some 7, .mov (.tmp 17), none⟩] :: K) fr S := rfl
def wal_Bytes_1_l0 : PCode :=
  (.seq (.region wal_Bytes_1_r1) (.seq (.cond (.tmp 8) .skip (.exit 0)) (.seq (.block 1 (.seq (.clr [(9, 11)] (.region wal_Bytes_1_r2)) (.clr [(11, 17)] (.region wal_Bytes_1_r3)))) (.clr [(17, 18)] (.region wal_Bytes_1_r4)))))
@[simp] theorem wal_Bytes_1_l0_go (T : Tbl) (K : List Kt) (fr : Fr) (S : St) : gval T (.code wal_Bytes_1_l0 :: K) fr S = gval T (.code (.seq (.region wal_Bytes_1_r1) (.seq (.cond (.tmp 8) .skip (.exit 0)) (.seq (.block 1 (.seq (.clr [(9, 11)] (.region wal_Bytes_1_r2)) (.clr [(11, 17)] (.region wal_Bytes_1_r3)))) (.clr [(17, 18)] (.region wal_Bytes_1_r4))))) :: K) fr S := rfl
def wal_Bytes_1 : PCodeFn :=
  ⟨2, [],
  (.seq (.region wal_Bytes_1_r0) (.block 0 (.loop wal_Bytes_1_l0))), false⟩

/-! gauge/label.Put: 29 -/
def label_Put_r0 : List POper := [
  ⟨some 4, .mov (.cst .nils), none⟩,
  ⟨some 5, .mov (.cst (.int .i64 0)), none⟩]
@[simp] theorem label_Put_r0_go (T : Tbl) (K : List Kt) (fr : Fr) (S : St) : gval T (.ops label_Put_r0 :: K) fr S = gval T (.ops [
  ⟨some 4, .mov (.cst .nils), none⟩,
  ⟨some 5, .mov (.cst (.int .i64 0)), none⟩] :: K) fr S := rfl
def label_Put_r1 : List POper := [
  ⟨some 11, .mov (.tmp 1), none⟩,
  ⟨some 12, .call .std 40 [(.tmp 11)], none⟩,
  ⟨some 6, .mov (.tmp 12), none⟩]
@[simp] theorem label_Put_r1_go (T : Tbl) (K : List Kt) (fr : Fr) (S : St) : gval T (.ops label_Put_r1 :: K) fr S = gval T (.ops [
  ⟨some 11, .mov (.tmp 1), none⟩,
  ⟨some 12, .call .std 40 [(.tmp 11)], none⟩,
  ⟨some 6, .mov (.tmp 12), none⟩] :: K) fr S := rfl
def label_Put_r2 : List POper := [
  ⟨some 13, .mov (.tmp 6), none⟩,
  ⟨some 14, .arith .neq (.tmp 13) (.cst (.int .i64 0)), none⟩]
@[simp] theorem label_Put_r2_go (T : Tbl) (K : List Kt) (fr : Fr) (S : St) : gval T (.ops label_Put_r2 :: K) fr S = gval T (.ops [
  ⟨some 13, .mov (.tmp 6), none⟩,
  ⟨some 14, .arith .neq (.tmp 13) (.cst (.int .i64 0)), none⟩] :: K) fr S := rfl
def label_Put_r3 : List POper := [
  ⟨some 15, .mov (.tmp 6), none⟩,
  ⟨some 4, .mov (.cst .nils), none⟩,
  ⟨some 5, .mov (.tmp 15), none⟩]
@[simp] theorem label_Put_r3_go (T : Tbl) (K : List Kt) (fr : Fr) (S : St) : gval T (.ops label_Put_r3 :: K) fr S = gval T (.ops [
  ⟨some 15, .mov (.tmp 6), none⟩,
  ⟨some 4, .mov (.cst .nils), none⟩,
  ⟨some 5, .mov (.tmp 15), none⟩] :: K) fr S := rfl
def label_Put_r4 : List POper := [
  ⟨some 17, .mov (.tmp 0), none⟩,
  ⟨some 18, .mov (.tmp 1), none⟩,
  ⟨some 19, .len false (.tmp 18), none⟩,
  ⟨some 20, .call .std 107 [(.tmp 17), (.tmp 19)], none⟩,
  ⟨some 16, .mov (.tmp 20), none⟩,
  ⟨some 21, .extract 0 (.tmp 16), none⟩,
  ⟨some 22, .extract 1 (.tmp 16), none⟩,
  ⟨some 7, .mov (.tmp 21), none⟩,
  ⟨some 8, .mov (.tmp 22), none⟩]
@[simp] theorem label_Put_r4_go (T : Tbl) (K : List Kt) (fr : Fr) (S : St) : gval T (.ops label_Put_r4 :: K) fr S = gval T (.ops [
  ⟨some 17, .mov (.tmp 0), none⟩,
  ⟨some 18, .mov (.tmp 1), none⟩,
  ⟨some 19, .len false (.tmp 18), none⟩,
  ⟨some 20, .call .std 107 [(.tmp 17), (.tmp 19)], none⟩,
  ⟨some 16, .mov (.tmp 20), none⟩,
  ⟨some 21, .extract 0 (.tmp 16), none⟩,
  ⟨some 22, .extract 1 (.tmp 16), none⟩,
  ⟨some 7, .mov (.tmp 21), none⟩,
  ⟨some 8, .mov (.tmp 22), none⟩] :: K) fr S := rfl
def label_Put_r5 : List POper := [
  ⟨some 23, .mov (.tmp 1), none⟩,
  ⟨some 24, .len false (.tmp 23), none⟩,
  ⟨some 25, .mov (.cst (.int .i64 0)), none⟩]
@[simp] theorem label_Put_r5_go (T : Tbl) (K : List Kt) (fr : Fr) (S : St) : gval T (.ops label_Put_r5 :: K) fr S = gval T (.ops [
  ⟨some 23, .mov (.tmp 1), none⟩,
  ⟨some 24, .len false (.tmp 23), none⟩,
  ⟨some 25, .mov (.cst (.int .i64 0)), none⟩] :: K) fr S := rfl
def label_Put_r6 : List POper := [
  ⟨some 26, .arith .lss (.tmp 25) (.tmp 24), none⟩]
@[simp] theorem label_Put_r6_go (T : Tbl) (K : List Kt) (fr : Fr) (S : St) : gval T (.ops label_Put_r6 :: K) fr S = gval T (.ops [
  ⟨some 26, .arith .lss (.tmp 25) (.tmp 24), none⟩] :: K) fr S := rfl
def label_Put_r7 : List POper := [
  ⟨some 27, .iaddr 2 (.tmp 23) (.tmp 25), none⟩,
  ⟨some 28, .load true 2 false (.tmp 27), none⟩,
  ⟨some 10, .alloc false [(.str []), (.str [])], none⟩,
  ⟨none, .store 2 (.tmp 10) (.tmp 28), none⟩]
@[simp] theorem label_Put_r7_go (T : Tbl) (K : List Kt) (fr : Fr) (S : St) : gval T (.ops label_Put_r7 :: K) fr S = gval T (.ops [
  ⟨some 27, .iaddr 2 (.tmp 23) (.tmp 25), none⟩,
  ⟨some 28, .load true 2 false (.tmp 27), none⟩,
  ⟨some 10, .alloc false [(.str []), (.str [])], none⟩,
  ⟨none, .store 2 (.tmp 10) (.tmp 28), none⟩] :: K) fr S := rfl
def label_Put_r8 : List POper := [
  ⟨some 30, .mov (.tmp 7), none⟩,
  ⟨some 31, .faddr 0 (.tmp 10), none⟩,
  ⟨some 32, .load false 1 false (.tmp 31), none⟩,
  ⟨some 33, .call .std 108 [(.tmp 30), (.tmp 32)], none⟩,
  ⟨some 29, .mov (.tmp 33), none⟩,
  ⟨some 34, .extract 0 (.tmp 29), none⟩,
  ⟨some 35, .extract 1 (.tmp 29), none⟩,
  ⟨some 7, .mov (.tmp 34), none⟩]
@[simp] theorem label_Put_r8_go (T : Tbl) (K : List Kt) (fr : Fr) (S : St) : gval T (.ops label_Put_r8 :: K) fr S = gval T (.ops [
  ⟨some 30, .mov (.tmp 7), none⟩,
  ⟨some 31, .faddr 0 (.tmp 10), none⟩,
  ⟨some 32, .load false 1 false (.tmp 31), none⟩,
  ⟨some 33, .call .std 108 [(.tmp 30), (.tmp 32)], none⟩,
  ⟨some 29, .mov (.tmp 33), none⟩,
  ⟨some 34, .extract 0 (.tmp 29), none⟩,
  ⟨some 35, .extract 1 (.tmp 29), none⟩,
  ⟨some 7, .mov (.tmp 34), none⟩] :: K) fr S := rfl
def label_Put_r9 : List POper := [
  ⟨some 37, .mov (.tmp 7), none⟩,
  ⟨some 38, .faddr 1 (.tmp 10), none⟩,
  ⟨some 39, .load false 1 false (.tmp 38), none⟩,
  ⟨some 40, .call .std 108 [(.tmp 37), (.tmp 39)], none⟩,
  ⟨some 36, .mov (.tmp 40), none⟩,
  ⟨some 41, .extract 0 (.tmp 36), none⟩,
  ⟨some 42, .extract 1 (.tmp 36), none⟩,
  ⟨some 7, .mov (.tmp 41), none⟩]
@[simp] theorem label_Put_r9_go (T : Tbl) (K : List Kt) (fr : Fr) (S : St) : gval T (.ops label_Put_r9 :: K) fr S = gval T (.ops [
  ⟨some 37, .mov (.tmp 7), none⟩,
  ⟨some 38, .faddr 1 (.tmp 10), none⟩,
  ⟨some 39, .load false 1 false (.tmp 38), none⟩,
  ⟨some 40, .call .std 108 [(.tmp 37), (.tmp 39)], none⟩,
  ⟨some 36, .mov (.tmp 40), none⟩,
  ⟨some 41, .extract 0 (.tmp 36), none⟩,
  ⟨some 42, .extract 1 (.tmp 36), none⟩,
  ⟨some 7, .mov (.tmp 41), none⟩] :: K) fr S := rfl
def label_Put_r10 : List POper := [
  ⟨some 43, .arith .add (.tmp 25) (.cst (.int .i64 1)), none⟩,
  ⟨some 25, .mov (.tmp 43), none⟩]
@[simp] theorem label_Put_r10_go (T : Tbl) (K : List Kt) (fr : Fr) (S : St) : gval T (.ops label_Put_r10 :: K) fr S = gval T (.ops [
  ⟨some 43, .arith .add (.tmp 25) (.cst (.int .i64 1)), none⟩,
  ⟨some 25, .mov (.tmp 43), none⟩] :: K) fr S := rfl
def label_Put_l0 : PCode :=
  (.seq (.region label_Put_r6) (.seq (.cond (.tmp 26) .skip (.exit 0)) (.seq (.block 1 (.seq (.clr [(27, 29)] (.region label_Put_r7)) (.seq (.clr [(29, 36)] (.region label_Put_r8)) (.clr [(36, 43)] (.region label_Put_r9))))) (.clr [(43, 44)] (.region label_Put_r10)))))
@[simp] theorem label_Put_l0_go (T : Tbl) (K : List Kt) (fr : Fr) (S : St) : gval T (.code label_Put_l0 :: K) fr S = gval T (.code (.seq (.region label_Put_r6) (.seq (.cond (.tmp 26) .skip (.exit 0)) (.seq (.block 1 (.seq (.clr [(27, 29)] (.region label_Put_r7)) (.seq (.clr [(29, 36)] (.region label_Put_r8)) (.clr [(36, 43)] (.region label_Put_r9))))) (.clr [(43, 44)] (.region label_Put_r10))))) :: K) fr S := rfl
def label_Put_r11 : List POper := [
  ⟨some 44, .mov (.tmp 7), none⟩,
  ⟨some 4, .mov (.tmp 44), none⟩,
  ⟨some 5, .mov (.cst (.int .i64 0)), none⟩]
@[simp] theorem label_Put_r11_go (T : Tbl) (K : List Kt) (fr : Fr) (S : St) : gval T (.ops label_Put_r11 :: K) fr S = gval T (.ops [
  ⟨some 44, .mov (.tmp 7), none⟩,
  ⟨some 4, .mov (.tmp 44), none⟩,
  ⟨some 5, .mov (.cst (.int .i64 0)), none⟩] :: K) fr S := rfl
def label_Put : PCodeFn :=
  ⟨2, [.tmp 4, .tmp 5],
  (.seq (.region label_Put_r0) (.seq (.seq (.clr [(11, 13)] (.region label_Put_r1)) (.seq (.clr [(13, 14)] (.region label_Put_r2)) (.cond (.tmp 14) (.seq (.clr [(15, 16)] (.region label_Put_r3)) .ret) .skip))) (.seq (.clr [(8, 9), (16, 23)] (.region label_Put_r4)) (.seq (.seq (.region label_Put_r5) (.block 0 (.loop label_Put_l0))) (.seq (.clr [(44, 45)] (.region label_Put_r11)) .ret))))), false⟩

/-! gauge/wal.zig: 241 -/
def wal_zig_r0 : List POper := [
  ⟨some 2, .mov (.cst (.int .i64 0)), none⟩]
@[simp] theorem wal_zig_r0_go (T : Tbl) (K : List Kt) (fr : Fr) (S : St) : gval T (.ops wal_zig_r0 :: K) fr S = gval T (.ops [
  ⟨some 2, .mov (.cst (.int .i64 0)), none⟩] :: K) fr S := rfl
def wal_zig_r1 : List POper := [
  ⟨some 3, .mov (.tmp 0), none⟩,
  ⟨some 4, .arith .lss (.tmp 3) (.cst (.int .i64 0)), none⟩]
@[simp] theorem wal_zig_r1_go (T : Tbl) (K : List Kt) (fr : Fr) (S : St) : gval T (.ops wal_zig_r1 :: K) fr S = gval T (.ops [
  ⟨some 3, .mov (.tmp 0), none⟩,
  ⟨some 4, .arith .lss (.tmp 3) (.cst (.int .i64 0)), none⟩] :: K) fr S := rfl
def wal_zig_r2 : List POper := [
  ⟨some 5, .mov (.tmp 0), none⟩,
  ⟨some 6, .arith .mul (.cst (.int .i64 (-2))) (.tmp 5), none⟩,
  ⟨some 7, .arith .sub (.tmp 6) (.cst (.int .i64 1)), none⟩,
  ⟨some 2, .mov (.tmp 7), none⟩]
@[simp] theorem wal_zig_r2_go (T : Tbl) (K : List Kt) (fr : Fr) (S : St) : gval T (.ops wal_zig_r2 :: K) fr S = gval T (.ops [
  ⟨some 5, .mov (.tmp 0), none⟩,
  ⟨some 6, .arith .mul (.cst (.int .i64 (-2))) (.tmp 5), none⟩,
  ⟨some 7, .arith .sub (.tmp 6) (.cst (.int .i64 1)), none⟩,
  ⟨some 2, .mov (.tmp 7), none⟩] :: K) fr S := rfl
def wal_zig_r3 : List POper := [
  ⟨some 8, .mov (.tmp 0), none⟩,
  ⟨some 9, .arith .mul (.cst (.int .i64 2)) (.tmp 8), none⟩,
  ⟨some 2, .mov (.tmp 9), none⟩]
@[simp] theorem wal_zig_r3_go (T : Tbl) (K : List Kt) (fr : Fr) (S : St) : gval T (.ops wal_zig_r3 :: K) fr S = gval T (.ops [
  ⟨some 8, .mov (.tmp 0), none⟩,
  ⟨some 9, .arith .mul (.cst (.int .i64 2)) (.tmp 8), none⟩,
  ⟨some 2, .mov (.tmp 9), none⟩] :: K) fr S := rfl
def wal_zig : PCodeFn :=
  ⟨1, [.tmp 2],
  (.seq (.region wal_zig_r0) (.seq (.seq (.clr [(3, 4)] (.region wal_zig_r1)) (.cond (.tmp 4) (.seq (.clr [(5, 8)] (.region wal_zig_r2)) .ret) .skip)) (.seq (.clr [(8, 10)] (.region wal_zig_r3)) .ret))), false⟩

/-! gauge/posting.Put: 242 -/
def posting_Put_r0 : List POper := [
  ⟨some 4, .mov (.cst .nils), none⟩,
  ⟨some 5, .mov (.cst (.int .i64 0)), none⟩]
@[simp] theorem posting_Put_r0_go (T : Tbl) (K : List Kt) (fr : Fr) (S : St) : gval T (.ops posting_Put_r0 :: K) fr S = gval T (.ops [
  ⟨some 4, .mov (.cst .nils), none⟩,
  ⟨some 5, .mov (.cst (.int .i64 0)), none⟩] :: K) fr S := rfl
def posting_Put_r1 : List POper := [
  ⟨some 12, .mov (.tmp 1), none⟩,
  ⟨some 13, .call .std 318 [(.tmp 12)], none⟩,
  ⟨some 6, .mov (.tmp 13), none⟩]
@[simp] theorem posting_Put_r1_go (T : Tbl) (K : List Kt) (fr : Fr) (S : St) : gval T (.ops posting_Put_r1 :: K) fr S = gval T (.ops [
  ⟨some 12, .mov (.tmp 1), none⟩,
  ⟨some 13, .call .std 318 [(.tmp 12)], none⟩,
  ⟨some 6, .mov (.tmp 13), none⟩] :: K) fr S := rfl
def posting_Put_r2 : List POper := [
  ⟨some 14, .mov (.tmp 6), none⟩,
  ⟨some 15, .arith .neq (.tmp 14) (.cst (.int .i64 0)), none⟩]
@[simp] theorem posting_Put_r2_go (T : Tbl) (K : List Kt) (fr : Fr) (S : St) : gval T (.ops posting_Put_r2 :: K) fr S = gval T (.ops [
  ⟨some 14, .mov (.tmp 6), none⟩,
  ⟨some 15, .arith .neq (.tmp 14) (.cst (.int .i64 0)), none⟩] :: K) fr S := rfl
def posting_Put_r3 : List POper := [
  ⟨some 16, .mov (.tmp 6), none⟩,
  ⟨some 4, .mov (.cst .nils), none⟩,
  ⟨some 5, .mov (.tmp 16), none⟩]
@[simp] theorem posting_Put_r3_go (T : Tbl) (K : List Kt) (fr : Fr) (S : St) : gval T (.ops posting_Put_r3 :: K) fr S = gval T (.ops [
  ⟨some 16, .mov (.tmp 6), none⟩,
  ⟨some 4, .mov (.cst .nils), none⟩,
  ⟨some 5, .mov (.tmp 16), none⟩] :: K) fr S := rfl
def posting_Put_r4 : List POper := [
  ⟨some 18, .mov (.tmp 0), none⟩,
  ⟨some 19, .mov (.tmp 1), none⟩,
  ⟨some 20, .len false (.tmp 19), none⟩,
  ⟨some 21, .call .std 107 [(.tmp 18), (.tmp 20)], none⟩,
  ⟨some 17, .mov (.tmp 21), none⟩,
  ⟨some 22, .extract 0 (.tmp 17), none⟩,
  ⟨some 23, .extract 1 (.tmp 17), none⟩,
  ⟨some 7, .mov (.tmp 22), none⟩,
  ⟨some 8, .mov (.tmp 23), none⟩]
@[simp] theorem posting_Put_r4_go (T : Tbl) (K : List Kt) (fr : Fr) (S : St) : gval T (.ops posting_Put_r4 :: K) fr S = gval T (.ops [
  ⟨some 18, .mov (.tmp 0), none⟩,
  ⟨some 19, .mov (.tmp 1), none⟩,
  ⟨some 20, .len false (.tmp 19), none⟩,
  ⟨some 21, .call .std 107 [(.tmp 18), (.tmp 20)], none⟩,
  ⟨some 17, .mov (.tmp 21), none⟩,
  ⟨some 22, .extract 0 (.tmp 17), none⟩,
  ⟨some 23, .extract 1 (.tmp 17), none⟩,
  ⟨some 7, .mov (.tmp 22), none⟩,
  ⟨some 8, .mov (.tmp 23), none⟩] :: K) fr S := rfl
def posting_Put_r5 : List POper := [
  ⟨some 9, .mov (.cst (.int .i64 0)), none⟩]
@[simp] theorem posting_Put_r5_go (T : Tbl) (K : List Kt) (fr : Fr) (S : St) : gval T (.ops posting_Put_r5 :: K) fr S = gval T (.ops [
  ⟨some 9, .mov (.cst (.int .i64 0)), none⟩] :: K) fr S := rfl
def posting_Put_r6 : List POper := [
  ⟨some 24, .mov (.tmp 1), none⟩,
  ⟨some 25, .len false (.tmp 24), none⟩,
  ⟨some 26, .mov (.cst (.int .i64 0)), none⟩]
@[simp] theorem posting_Put_r6_go (T : Tbl) (K : List Kt) (fr : Fr) (S : St) : gval T (.ops posting_Put_r6 :: K) fr S = gval T (.ops [
  ⟨some 24, .mov (.tmp 1), none⟩,
  ⟨some 25, .len false (.tmp 24), none⟩,
  ⟨some 26, .mov (.cst (.int .i64 0)), none⟩] :: K) fr S := rfl
def posting_Put_r7 : List POper := [
  ⟨some 27, .arith .lss (.tmp 26) (.tmp 25), none⟩]
@[simp] theorem posting_Put_r7_go (T : Tbl) (K : List Kt) (fr : Fr) (S : St) : gval T (.ops posting_Put_r7 :: K) fr S = gval T (.ops [
  ⟨some 27, .arith .lss (.tmp 26) (.tmp 25), none⟩] :: K) fr S := rfl
def posting_Put_r8 : List POper := [
  ⟨some 28, .iaddr 1 (.tmp 24) (.tmp 26), none⟩,
  ⟨some 29, .load false 1 false (.tmp 28), none⟩,
  ⟨some 11, .mov (.tmp 29), none⟩]
@[simp] theorem posting_Put_r8_go (T : Tbl) (K : List Kt) (fr : Fr) (S : St) : gval T (.ops posting_Put_r8 :: K) fr S = gval T (.ops [
  ⟨some 28, .iaddr 1 (.tmp 24) (.tmp 26), none⟩,
  ⟨some 29, .load false 1 false (.tmp 28), none⟩,
  ⟨some 11, .mov (.tmp 29), none⟩] :: K) fr S := rfl
def posting_Put_r9 : List POper := [
  ⟨some 31, .mov (.tmp 7), none⟩,
  ⟨some 32, .mov (.tmp 11), none⟩,
  ⟨some 33, .mov (.tmp 9), none⟩,
  ⟨some 34, .arith .sub (.tmp 32) (.tmp 33), none⟩,
  ⟨some 35, .call .std 107 [(.tmp 31), (.tmp 34)], none⟩,
  ⟨some 30, .mov (.tmp 35), none⟩,
  ⟨some 36, .extract 0 (.tmp 30), none⟩,
  ⟨some 37, .extract 1 (.tmp 30), none⟩,
  ⟨some 7, .mov (.tmp 36), none⟩]
@[simp] theorem posting_Put_r9_go (T : Tbl) (K : List Kt) (fr : Fr) (S : St) : gval T (.ops posting_Put_r9 :: K) fr S = gval T (.ops [
  ⟨some 31, .mov (.tmp 7), none⟩,
  ⟨some 32, .mov (.tmp 11), none⟩,
  ⟨some 33, .mov (.tmp 9), none⟩,
  ⟨some 34, .arith .sub (.tmp 32) (.tmp 33), none⟩,
  ⟨some 35, .call .std 107 [(.tmp 31), (.tmp 34)], none⟩,
  ⟨some 30, .mov (.tmp 35), none⟩,
  ⟨some 36, .extract 0 (.tmp 30), none⟩,
  ⟨some 37, .extract 1 (.tmp 30), none⟩,
  ⟨some 7, .mov (.tmp 36), none⟩] :: K) fr S := rfl
def posting_Put_r10 : List POper := [
  ⟨some 38, .mov (.tmp 11), none⟩,
  ⟨some 9, .mov (.tmp 38), none⟩]
@[simp] theorem posting_Put_r10_go (T : Tbl) (K : List Kt) (fr : Fr) (S : St) : gval T (.ops posting_Put_r10 :: K) fr S = gval T (.ops [
  ⟨some 38, .mov (.tmp 11), none⟩,
  ⟨some 9, .mov (.tmp 38), none⟩] :: K) fr S := rfl
def posting_Put_r11 : List POper := [
  ⟨some 39, .arith .add (.tmp 26) (.cst (.int .i64 1)), none⟩,
  ⟨some 26, .mov (.tmp 39), none⟩]
@[simp] theorem posting_Put_r11_go (T : Tbl) (K : List Kt) (fr : Fr) (S : St) : gval T (.ops posting_Put_r11 :: K) fr S = gval T (.ops [
  ⟨some 39, .arith .add (.tmp 26) (.cst (.int .i64 1)), none⟩,
  ⟨some 26, .mov (.tmp 39), none⟩] :: K) fr S := rfl
def posting_Put_l0 : PCode :=
  (.seq (.region posting_Put_r7) (.seq (.cond (.tmp 27) .skip (.exit 0)) (.seq (.block 1 (.seq (.clr [(28, 30)] (.region posting_Put_r8)) (.seq (.clr [(30, 38)] (.region posting_Put_r9)) (.clr [(38, 39)] (.region posting_Put_r10))))) (.clr [(39, 40)] (.region posting_Put_r11)))))
@[simp] theorem posting_Put_l0_go (T : Tbl) (K : List Kt) (fr : Fr) (S : St) : gval T (.code posting_Put_l0 :: K) fr S = gval T (.code (.seq (.region posting_Put_r7) (.seq (.cond (.tmp 27) .skip (.exit 0)) (.seq (.block 1 (.seq (.clr [(28, 30)] (.region posting_Put_r8)) (.seq (.clr [(30, 38)] (.region posting_Put_r9)) (.clr [(38, 39)] (.region posting_Put_r10))))) (.clr [(39, 40)] (.region posting_Put_r11))))) :: K) fr S := rfl
def posting_Put_r12 : List POper := [
  ⟨some 40, .mov (.tmp 7), none⟩,
  ⟨some 4, .mov (.tmp 40), none⟩,
  ⟨some 5, .mov (.cst (.int .i64 0)), none⟩]
@[simp] theorem posting_Put_r12_go (T : Tbl) (K : List Kt) (fr : Fr) (S : St) : gval T (.ops posting_Put_r12 :: K) fr S = gval T (.ops [
  ⟨some 40, .mov (.tmp 7), none⟩,
  ⟨some 4, .mov (.tmp 40), none⟩,
  ⟨some 5, .mov (.cst (.int .i64 0)), none⟩] :: K) fr S := rfl
def posting_Put : PCodeFn :=
  ⟨2, [.tmp 4, .tmp 5],
  (.seq (.region posting_Put_r0) (.seq (.seq (.clr [(12, 14)] (.region posting_Put_r1)) (.seq (.clr [(14, 15)] (.region posting_Put_r2)) (.cond (.tmp 15) (.seq (.clr [(16, 17)] (.region posting_Put_r3)) .ret) .skip))) (.seq (.clr [(8, 9), (17, 24)] (.region posting_Put_r4)) (.seq (.region posting_Put_r5) (.seq (.seq (.region posting_Put_r6) (.block 0 (.loop posting_Put_l0))) (.seq (.clr [(40, 41)] (.region posting_Put_r12)) .ret)))))), false⟩

/-! gauge/gaugeref02.Uint: 219 -/
def ref02_Uint_r0 : List POper := [
  ⟨some 2, .mov (.cst .nils), none⟩]
@[simp] theorem ref02_Uint_r0_go (T : Tbl) (K : List Kt) (fr : Fr) (S : St) : gval T (.ops ref02_Uint_r0 :: K) fr S = gval T (.ops [
  ⟨some 2, .mov (.cst .nils), none⟩] :: K) fr S := rfl
def ref02_Uint_r1 : List POper := [
  ⟨some 3, .mov (.cst .nils), none⟩]
@[simp] theorem ref02_Uint_r1_go (T : Tbl) (K : List Kt) (fr : Fr) (S : St) : gval T (.ops ref02_Uint_r1 :: K) fr S = gval T (.ops [
  ⟨some 3, .mov (.cst .nils), none⟩] :: K) fr S := rfl
def ref02_Uint_r2 : List POper := [
  ⟨some 4, .mov (.tmp 0), none⟩,
  ⟨some 5, .arith .gtr (.tmp 4) (.cst (.int .i64 127)), none⟩]
@[simp] theorem ref02_Uint_r2_go (T : Tbl) (K : List Kt) (fr : Fr) (S : St) : gval T (.ops ref02_Uint_r2 :: K) fr S = gval T (.ops [
  ⟨some 4, .mov (.tmp 0), none⟩,
  ⟨some 5, .arith .gtr (.tmp 4) (.cst (.int .i64 127)), none⟩] :: K) fr S := rfl
def ref02_Uint_r3 : List POper := [
  ⟨some 6, .mov (.tmp 3), none⟩,
  ⟨some 7, .mov (.tmp 0), none⟩,
  ⟨some 8, .arith .rem (.tmp 7) (.cst (.int .i64 128)), none⟩,
  ⟨some 9, .arith .add (.tmp 8) (.cst (.int .i64 128)), none⟩,
  ⟨some 10, .toInt .u8 (.tmp 9), none⟩,
  ⟨some 11, .bsl false (.int .u8 0) 1 [(0, (.tmp 10))], none⟩,
  ⟨some 12, .app 1 1 (.tmp 6) (.tmp 11), none⟩,
  ⟨some 3, .mov (.tmp 12), none⟩]
@[simp] theorem ref02_Uint_r3_go (T : Tbl) (K : List Kt) (fr : Fr) (S : St) : gval T (.ops ref02_Uint_r3 :: K) fr S = gval T (.ops [
  ⟨some 6, .mov (.tmp 3), none⟩,
  ⟨some 7, .mov (.tmp 0), none⟩,
  ⟨some 8, .arith .rem (.tmp 7) (.cst (.int .i64 128)), none⟩,
  ⟨some 9, .arith .add (.tmp 8) (.cst (.int .i64 128)), none⟩,
  ⟨some 10, .toInt .u8 (.tmp 9), none⟩,
  ⟨some 11, .bsl false (.int .u8 0) 1 [(0, (.tmp 10))], none⟩,
  ⟨some 12, .app 1 1 (.tmp 6) (.tmp 11), none⟩,
  ⟨some 3, .mov (.tmp 12), none⟩] :: K) fr S := rfl
def ref02_Uint_r4 : List POper := [
  ⟨some 13, .mov (.tmp 0), none⟩,
  ⟨some 14, .arith .quo (.tmp 13) (.cst (.int .i64 128)), none⟩,
  ⟨some 0, .mov (.tmp 14), none⟩]
@[simp] theorem ref02_Uint_r4_go (T : Tbl) (K : List Kt) (fr : Fr) (S : St) : gval T (.ops ref02_Uint_r4 :: K) fr S = gval T (.ops [
  ⟨some 13, .mov (.tmp 0), none⟩,
  ⟨some 14, .arith .quo (.tmp 13) (.cst (.int .i64 128)), none⟩,
  ⟨some 0, .mov (.tmp 14), none⟩] :: K) fr S := rfl
def ref02_Uint_l0 : PCode :=
  (.seq (.seq (.clr [(4, 5)] (.region ref02_Uint_r2)) (.cond (.tmp 5) .skip (.exit 0))) (.block 1 (.seq (.clr [(6, 13)] (.region ref02_Uint_r3)) (.clr [(13, 15)] (.region ref02_Uint_r4)))))
@[simp] theorem ref02_Uint_l0_go (T : Tbl) (K : List Kt) (fr : Fr) (S : St) : gval T (.code ref02_Uint_l0 :: K) fr S = gval T (.code (.seq (.seq (.clr [(4, 5)] (.region ref02_Uint_r2)) (.cond (.tmp 5) .skip (.exit 0))) (.block 1 (.seq (.clr [(6, 13)] (.region ref02_Uint_r3)) (.clr [(13, 15)] (.region ref02_Uint_r4))))) :: K) fr S := rfl
def ref02_Uint_r5 : List POper := [
  ⟨some 15, .mov (.tmp 3), none⟩,
  ⟨some 16, .mov (.tmp 0), none⟩,
  ⟨some 17, .toInt .u8 (.tmp 16), none⟩,
  ⟨some 18, .bsl false (.int .u8 0) 1 [(0, (.tmp 17))], none⟩,
  ⟨some 19, .app 1 1 (.tmp 15) (.tmp 18), none⟩,
  ⟨some 2, .mov (.tmp 19), none⟩]
@[simp] theorem ref02_Uint_r5_go (T : Tbl) (K : List Kt) (fr : Fr) (S : St) : gval T (.ops ref02_Uint_r5 :: K) fr S = gval T (.ops [
  ⟨some 15, .mov (.tmp 3), none⟩,
  ⟨some 16, .mov (.tmp 0), none⟩,
  ⟨some 17, .toInt .u8 (.tmp 16), none⟩,
  ⟨some 18, .bsl false (.int .u8 0) 1 [(0, (.tmp 17))], none⟩,
  ⟨some 19, .app 1 1 (.tmp 15) (.tmp 18), none⟩,
  ⟨some 2, .mov (.tmp 19), none⟩] :: K) fr S := rfl
def ref02_Uint : PCodeFn :=
  ⟨1, [.tmp 2],
  (.seq (.region ref02_Uint_r0) (.seq (.region ref02_Uint_r1) (.seq (.block 0 (.loop ref02_Uint_l0)) (.seq (.clr [(15, 20)] (.region ref02_Uint_r5)) .ret)))), true⟩

/-! gauge/gaugeref06.Bytes: 109 -/
def ref06_Bytes_r0 : List POper := [
  ⟨some 2, .mov (.cst .nils), none⟩]
@[simp] theorem ref06_Bytes_r0_go (T : Tbl) (K : List Kt) (fr : Fr) (S : St) : gval T (.ops ref06_Bytes_r0 :: K) fr S = gval T (.ops [
  ⟨some 2, .mov (.cst .nils), none⟩] :: K) fr S := rfl
def ref06_Bytes_r1 : List POper := [
  ⟨some 5, .mov (.tmp 0), none⟩,
  ⟨some 6, .len false (.tmp 5), none⟩,
  ⟨some 7, .call .std 219 [(.tmp 6)], none⟩,
  ⟨some 3, .mov (.tmp 7), none⟩]
@[simp] theorem ref06_Bytes_r1_go (T : Tbl) (K : List Kt) (fr : Fr) (S : St) : gval T (.ops ref06_Bytes_r1 :: K) fr S = gval T (.ops [
  ⟨some 5, .mov (.tmp 0), none⟩,
  ⟨some 6, .len false (.tmp 5), none⟩,
  ⟨some 7, .call .std 219 [(.tmp 6)], none⟩,
  ⟨some 3, .mov (.tmp 7), none⟩] :: K) fr S := rfl
def ref06_Bytes_r2 : List POper := [
  ⟨some 4, .mov (.cst (.int .i64 0)), none⟩]
@[simp] theorem ref06_Bytes_r2_go (T : Tbl) (K : List Kt) (fr : Fr) (S : St) : gval T (.ops ref06_Bytes_r2 :: K) fr S = gval T (.ops [
  ⟨some 4, .mov (.cst (.int .i64 0)), none⟩] :: K) fr S := rfl
def ref06_Bytes_r3 : List POper := [
  ⟨some 8, .mov (.tmp 4), none⟩,
  ⟨some 9, .mov (.tmp 0), none⟩,
  ⟨some 10, .len false (.tmp 9), none⟩,
  ⟨some 11, .arith .lss (.tmp 8) (.tmp 10), none⟩]
@[simp] theorem ref06_Bytes_r3_go (T : Tbl) (K : List Kt) (fr : Fr) (S : St) : gval T (.ops ref06_Bytes_r3 :: K) fr S = gval T (.ops [
  ⟨some 8, .mov (.tmp 4), none⟩,
  ⟨some 9, .mov (.tmp 0), none⟩,
  ⟨some 10, .len false (.tmp 9), none⟩,
  ⟨some 11, .arith .lss (.tmp 8) (.tmp 10), none⟩] :: K) fr S := rfl
def ref06_Bytes_r5 : List POper := [
  ⟨some 14, .mov (.tmp 3), none⟩,
  ⟨some 15, .mov (.tmp 0), none⟩,
  ⟨some 16, .mov (.tmp 4), none⟩,
  ⟨some 17, .iaddr 2 (.tmp 15) (.tmp 16), none⟩,
  ⟨some 18, .faddr 0 (.tmp 17), none⟩,
  ⟨some 19, .load false 1 true (.tmp 18), none⟩,
  ⟨some 20, .call .pur 220 [(.tmp 19)], none⟩,
  ⟨some 21, .app 1 1 (.tmp 14) (.tmp 20), none⟩,
  ⟨some 22, .mov (.tmp 0), none⟩,
  ⟨some 23, .mov (.tmp 4), none⟩,
  ⟨some 24, .iaddr 2 (.tmp 22) (.tmp 23), none⟩,
  ⟨some 25, .faddr 1 (.tmp 24), none⟩,
  ⟨some 26, .load false 1 true (.tmp 25), none⟩,
  ⟨some 27, .call .pur 220 [(.tmp 26)], none⟩,
  ⟨some 28, .app 1 1 (.tmp 21) (.tmp 27), none⟩,
  ⟨some 3, .mov (.tmp 28), none⟩]
@[simp] theorem ref06_Bytes_r5_go (T : Tbl) (K : List Kt) (fr : Fr) (S : St) : gval T (.ops ref06_Bytes_r5 :: K) fr S = gval T (.ops [
  ⟨some 14, .mov (.tmp 3), none⟩,
  ⟨some 15, .mov (.tmp 0), none⟩,
  ⟨some 16, .mov (.tmp 4), none⟩,
  ⟨some 17, .iaddr 2 (.tmp 15) (.tmp 16), none⟩,
  ⟨some 18, .faddr 0 (.tmp 17), none⟩,
  ⟨some 19, .load false 1 true (.tmp 18), none⟩,
  ⟨some 20, .call .pur 220 [(.tmp 19)], none⟩,
  ⟨some 21, .app 1 1 (.tmp 14) (.tmp 20), none⟩,
  ⟨some 22, .mov (.tmp 0), none⟩,
  ⟨some 23, .mov (.tmp 4), none⟩,
  ⟨some 24, .iaddr 2 (.tmp 22) (.tmp 23), none⟩,
  ⟨some 25, .faddr 1 (.tmp 24), none⟩,
  ⟨some 26, .load false 1 true (.tmp 25), none⟩,
  ⟨some 27, .call .pur 220 [(.tmp 26)], none⟩,
  ⟨some 28, .app 1 1 (.tmp 21) (.tmp 27), none⟩,
  ⟨some 3, .mov (.tmp 28), none⟩] :: K) fr S := rfl
def ref06_Bytes_r4 : List POper := [
  ⟨some 12, .mov (.tmp 4), none⟩,
  ⟨some 13, .arith .add (.tmp 12) (.cst (.int .i64 1)), none⟩,
  ⟨some 4, .mov (.tmp 13), none⟩]
@[simp] theorem ref06_Bytes_r4_go (T : Tbl) (K : List Kt) (fr : Fr) (S : St) : gval T (.ops ref06_Bytes_r4 :: K) fr S = gval T (.ops [
  ⟨some 12, .mov (.tmp 4), none⟩,
  ⟨some 13, .arith .add (.tmp 12) (.cst (.int .i64 1)), none⟩,
  ⟨some 4, .mov (.tmp 13), none⟩] :: K) fr S := rfl
def ref06_Bytes_l0 : PCode :=
  (.seq (.seq (.clr [(8, 11)] (.region ref06_Bytes_r3)) (.cond (.tmp 11) .skip (.exit 0))) (.seq (.block 1 (.clr [(14, 29)] (.region ref06_Bytes_r5))) (.clr [(12, 14)] (.region ref06_Bytes_r4))))
@[simp] theorem ref06_Bytes_l0_go (T : Tbl) (K : List Kt) (fr : Fr) (S : St) : gval T (.code ref06_Bytes_l0 :: K) fr S = gval T (.code (.seq (.seq (.clr [(8, 11)] (.region ref06_Bytes_r3)) (.cond (.tmp 11) .skip (.exit 0))) (.seq (.block 1 (.clr [(14, 29)] (.region ref06_Bytes_r5))) (.clr [(12, 14)] (.region ref06_Bytes_r4)))) :: K) fr S := rfl
def ref06_Bytes_r6 : List POper := [
  ⟨some 29, .mov (.tmp 3), none⟩,
  ⟨some 2, .mov (.tmp 29), none⟩]
@[simp] theorem ref06_Bytes_r6_go (T : Tbl) (K : List Kt) (fr : Fr) (S : St) : gval T (.ops ref06_Bytes_r6 :: K) fr S = gval T (.ops [
  ⟨some 29, .mov (.tmp 3), none⟩,
  ⟨some 2, .mov (.tmp 29), none⟩] :: K) fr S := rfl
def ref06_Bytes : PCodeFn :=
  ⟨1, [.tmp 2],
  (.seq (.region ref06_Bytes_r0) (.seq (.clr [(5, 8)] (.region ref06_Bytes_r1)) (.seq (.seq (.region ref06_Bytes_r2) (.block 0 (.loop ref06_Bytes_l0))) (.seq (.clr [(29, 30)] (.region ref06_Bytes_r6)) .ret)))), false⟩

/-! gauge/gaugeref11.Zig: 326 -/
def ref11_Zig_r0 : List POper := [
  ⟨some 2, .mov (.cst (.int .i64 0)), none⟩]
@[simp] theorem ref11_Zig_r0_go (T : Tbl) (K : List Kt) (fr : Fr) (S : St) : gval T (.ops ref11_Zig_r0 :: K) fr S = gval T (.ops [
  ⟨some 2, .mov (.cst (.int .i64 0)), none⟩] :: K) fr S := rfl
def ref11_Zig_r1 : List POper := [
  ⟨some 3, .mov (.tmp 0), none⟩,
  ⟨some 4, .arith .lss (.tmp 3) (.cst (.int .i64 0)), none⟩]
@[simp] theorem ref11_Zig_r1_go (T : Tbl) (K : List Kt) (fr : Fr) (S : St) : gval T (.ops ref11_Zig_r1 :: K) fr S = gval T (.ops [
  ⟨some 3, .mov (.tmp 0), none⟩,
  ⟨some 4, .arith .lss (.tmp 3) (.cst (.int .i64 0)), none⟩] :: K) fr S := rfl
def ref11_Zig_r2 : List POper := [
  ⟨some 5, .mov (.tmp 0), none⟩,
  ⟨some 6, .arith .mul (.cst (.int .i64 (-2))) (.tmp 5), none⟩,
  ⟨some 7, .arith .sub (.tmp 6) (.cst (.int .i64 1)), none⟩,
  ⟨some 2, .mov (.tmp 7), none⟩]
@[simp] theorem ref11_Zig_r2_go (T : Tbl) (K : List Kt) (fr : Fr) (S : St) : gval T (.ops ref11_Zig_r2 :: K) fr S = gval T (.ops [
  ⟨some 5, .mov (.tmp 0), none⟩,
  ⟨some 6, .arith .mul (.cst (.int .i64 (-2))) (.tmp 5), none⟩,
  ⟨some 7, .arith .sub (.tmp 6) (.cst (.int .i64 1)), none⟩,
  ⟨some 2, .mov (.tmp 7), none⟩] :: K) fr S := rfl
def ref11_Zig_r3 : List POper := [
  ⟨some 8, .mov (.tmp 0), none⟩,
  ⟨some 9, .arith .mul (.cst (.int .i64 2)) (.tmp 8), none⟩,
  ⟨some 2, .mov (.tmp 9), none⟩]
@[simp] theorem ref11_Zig_r3_go (T : Tbl) (K : List Kt) (fr : Fr) (S : St) : gval T (.ops ref11_Zig_r3 :: K) fr S = gval T (.ops [
  ⟨some 8, .mov (.tmp 0), none⟩,
  ⟨some 9, .arith .mul (.cst (.int .i64 2)) (.tmp 8), none⟩,
  ⟨some 2, .mov (.tmp 9), none⟩] :: K) fr S := rfl
def ref11_Zig : PCodeFn :=
  ⟨1, [.tmp 2],
  (.seq (.region ref11_Zig_r0) (.seq (.seq (.clr [(3, 4)] (.region ref11_Zig_r1)) (.cond (.tmp 4) (.seq (.clr [(5, 8)] (.region ref11_Zig_r2)) .ret) .skip)) (.seq (.clr [(8, 10)] (.region ref11_Zig_r3)) .ret))), false⟩

/-! gauge/gaugeref09.Bytes: 327 -/
def ref09_Bytes_r0 : List POper := [
  ⟨some 2, .mov (.cst .nils), none⟩]
@[simp] theorem ref09_Bytes_r0_go (T : Tbl) (K : List Kt) (fr : Fr) (S : St) : gval T (.ops ref09_Bytes_r0 :: K) fr S = gval T (.ops [
  ⟨some 2, .mov (.cst .nils), none⟩] :: K) fr S := rfl
def ref09_Bytes_r1 : List POper := [
  ⟨some 6, .mov (.tmp 0), none⟩,
  ⟨some 7, .len false (.tmp 6), none⟩,
  ⟨some 8, .call .std 219 [(.tmp 7)], none⟩,
  ⟨some 3, .mov (.tmp 8), none⟩]
@[simp] theorem ref09_Bytes_r1_go (T : Tbl) (K : List Kt) (fr : Fr) (S : St) : gval T (.ops ref09_Bytes_r1 :: K) fr S = gval T (.ops [
  ⟨some 6, .mov (.tmp 0), none⟩,
  ⟨some 7, .len false (.tmp 6), none⟩,
  ⟨some 8, .call .std 219 [(.tmp 7)], none⟩,
  ⟨some 3, .mov (.tmp 8), none⟩] :: K) fr S := rfl
def ref09_Bytes_r2 : List POper := [
  ⟨some 4, .mov (.cst (.int .i64 0)), none⟩]
@[simp] theorem ref09_Bytes_r2_go (T : Tbl) (K : List Kt) (fr : Fr) (S : St) : gval T (.ops ref09_Bytes_r2 :: K) fr S = gval T (.ops [
  ⟨some 4, .mov (.cst (.int .i64 0)), none⟩] :: K) fr S := rfl
def ref09_Bytes_r3 : List POper := [
  ⟨some 5, .mov (.cst (.int .i64 0)), none⟩]
@[simp] theorem ref09_Bytes_r3_go (T : Tbl) (K : List Kt) (fr : Fr) (S : St) : gval T (.ops ref09_Bytes_r3 :: K) fr S = gval T (.ops [
  ⟨some 5, .mov (.cst (.int .i64 0)), none⟩] :: K) fr S := rfl
def ref09_Bytes_r4 : List POper := [
  ⟨some 9, .mov (.tmp 5), none⟩,
  ⟨some 10, .mov (.tmp 0), none⟩,
  ⟨some 11, .len false (.tmp 10), none⟩,
  ⟨some 12, .arith .lss (.tmp 9) (.tmp 11), none⟩]
@[simp] theorem ref09_Bytes_r4_go (T : Tbl) (K : List Kt) (fr : Fr) (S : St) : gval T (.ops ref09_Bytes_r4 :: K) fr S = gval T (.ops [
  ⟨some 9, .mov (.tmp 5), none⟩,
  ⟨some 10, .mov (.tmp 0), none⟩,
  ⟨some 11, .len false (.tmp 10), none⟩,
  ⟨some 12, .arith .lss (.tmp 9) (.tmp 11), none⟩] :: K) fr S := rfl
def ref09_Bytes_r6 : List POper := [
  ⟨some 15, .mov (.tmp 3), none⟩,
  ⟨some 16, .mov (.tmp 0), none⟩,
  ⟨some 17, .mov (.tmp 5), none⟩,
  ⟨some 18, .iaddr 1 (.tmp 16) (.tmp 17), none⟩,
  ⟨some 19, .load false 1 false (.tmp 18), none⟩,
  ⟨some 20, .mov (.tmp 4), none⟩,
  ⟨some 21, .arith .sub (.tmp 19) (.tmp 20), none⟩,
  ⟨some 22, .call .std 219 [(.tmp 21)], none⟩,
  ⟨some 23, .app 1 1 (.tmp 15) (.tmp 22), none⟩,
  ⟨some 3, .mov (.tmp 23), none⟩]
@[simp] theorem ref09_Bytes_r6_go (T : Tbl) (K : List Kt) (fr : Fr) (S : St) : gval T (.ops ref09_Bytes_r6 :: K) fr S = gval T (.ops [
  ⟨some 15, .mov (.tmp 3), none⟩,
  ⟨some 16, .mov (.tmp 0), none⟩,
  ⟨some 17, .mov (.tmp 5), none⟩,
  ⟨some 18, .iaddr 1 (.tmp 16) (.tmp 17), none⟩,
  ⟨some 19, .load false 1 false (.tmp 18), none⟩,
  ⟨some 20, .mov (.tmp 4), none⟩,
  ⟨some 21, .arith .sub (.tmp 19) (.tmp 20), none⟩,
  ⟨some 22, .call .std 219 [(.tmp 21)], none⟩,
  ⟨some 23, .app 1 1 (.tmp 15) (.tmp 22), none⟩,
  ⟨some 3, .mov (.tmp 23), none⟩] :: K) fr S := rfl
def ref09_Bytes_r7 : List POper := [
  ⟨some 24, .mov (.tmp 0), none⟩,
  ⟨some 25, .mov (.tmp 5), none⟩,
  ⟨some 26, .iaddr 1 (.tmp 24) (.tmp 25), none⟩,
  ⟨some 27, .load false 1 false (.tmp 26), none⟩,
  ⟨some 4, .mov (.tmp 27), none⟩]
@[simp] theorem ref09_Bytes_r7_go (T : Tbl) (K : List Kt) (fr : Fr) (S : St) : gval T (.ops ref09_Bytes_r7 :: K) fr S = gval T (.ops [
  ⟨some 24, .mov (.tmp 0), none⟩,
  ⟨some 25, .mov (.tmp 5), none⟩,
  ⟨some 26, .iaddr 1 (.tmp 24) (.tmp 25), none⟩,
  ⟨some 27, .load false 1 false (.tmp 26), none⟩,
  ⟨some 4, .mov (.tmp 27), none⟩] :: K) fr S := rfl
def ref09_Bytes_r5 : List POper := [
  ⟨some 13, .mov (.tmp 5), none⟩,
  ⟨some 14, .arith .add (.tmp 13) (.cst (.int .i64 1)), none⟩,
  ⟨some 5, .mov (.tmp 14), none⟩]
@[simp] theorem ref09_Bytes_r5_go (T : Tbl) (K : List Kt) (fr : Fr) (S : St) : gval T (.ops ref09_Bytes_r5 :: K) fr S = gval T (.ops [
  ⟨some 13, .mov (.tmp 5), none⟩,
  ⟨some 14, .arith .add (.tmp 13) (.cst (.int .i64 1)), none⟩,
  ⟨some 5, .mov (.tmp 14), none⟩] :: K) fr S := rfl
def ref09_Bytes_l0 : PCode :=
  (.seq (.seq (.clr [(9, 12)] (.region ref09_Bytes_r4)) (.cond (.tmp 12) .skip (.exit 0))) (.seq (.block 1 (.seq (.clr [(15, 24)] (.region ref09_Bytes_r6)) (.clr [(24, 28)] (.region ref09_Bytes_r7)))) (.clr [(13, 15)] (.region ref09_Bytes_r5))))
@[simp] theorem ref09_Bytes_l0_go (T : Tbl) (K : List Kt) (fr : Fr) (S : St) : gval T (.code ref09_Bytes_l0 :: K) fr S = gval T (.code (.seq (.seq (.clr [(9, 12)] (.region ref09_Bytes_r4)) (.cond (.tmp 12) .skip (.exit 0))) (.seq (.block 1 (.seq (.clr [(15, 24)] (.region ref09_Bytes_r6)) (.clr [(24, 28)] (.region ref09_Bytes_r7)))) (.clr [(13, 15)] (.region ref09_Bytes_r5)))) :: K) fr S := rfl
def ref09_Bytes_r8 : List POper := [
  ⟨some 28, .mov (.tmp 3), none⟩,
  ⟨some 2, .mov (.tmp 28), none⟩]
@[simp] theorem ref09_Bytes_r8_go (T : Tbl) (K : List Kt) (fr : Fr) (S : St) : gval T (.ops ref09_Bytes_r8 :: K) fr S = gval T (.ops [
  ⟨some 28, .mov (.tmp 3), none⟩,
  ⟨some 2, .mov (.tmp 28), none⟩] :: K) fr S := rfl
def ref09_Bytes : PCodeFn :=
  ⟨1, [.tmp 2],
  (.seq (.region ref09_Bytes_r0) (.seq (.clr [(6, 9)] (.region ref09_Bytes_r1)) (.seq (.region ref09_Bytes_r2) (.seq (.seq (.region ref09_Bytes_r3) (.block 0 (.loop ref09_Bytes_l0))) (.seq (.clr [(28, 29)] (.region ref09_Bytes_r8)) .ret))))), false⟩

end Ps
