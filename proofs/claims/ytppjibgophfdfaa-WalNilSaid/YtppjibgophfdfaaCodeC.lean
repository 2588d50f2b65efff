/- The functions' code, as the pure semantics has it: printed by program. -/
import Derived.Test.YtppjibgophfdfaaCodeB
namespace Ps
open Go
set_option maxRecDepth 10000

/-! gauge/label.Check: 40 -/
def label_Check_r0 : List POper := [
  ⟨some 2, .mov (.cst (.int .i64 0)), none⟩]
@[simp] theorem label_Check_r0_go (T : Tbl) (K : List Kt) (fr : Fr) (S : St) : gval T (.ops label_Check_r0 :: K) fr S = gval T (.ops [
  ⟨some 2, .mov (.cst (.int .i64 0)), none⟩] :: K) fr S := rfl
def label_Check_r1 : List POper := [
  ⟨some 5, .mov (.tmp 0), none⟩,
  ⟨some 6, .len false (.tmp 5), none⟩,
  ⟨some 7, .arith .gtr (.tmp 6) (.cst (.int .i64 8)), none⟩]
@[simp] theorem label_Check_r1_go (T : Tbl) (K : List Kt) (fr : Fr) (S : St) : gval T (.ops label_Check_r1 :: K) fr S = gval T (.ops [
  ⟨some 5, .mov (.tmp 0), none⟩,
  ⟨some 6, .len false (.tmp 5), none⟩,
  ⟨some 7, .arith .gtr (.tmp 6) (.cst (.int .i64 8)), none⟩] :: K) fr S := rfl
def label_Check_r2 : List POper := [
  ⟨some 2, .mov (.cst (.int .i64 3)), none⟩]
@[simp] theorem label_Check_r2_go (T : Tbl) (K : List Kt) (fr : Fr) (S : St) : gval T (.ops label_Check_r2 :: K) fr S = gval T (.ops [
  ⟨some 2, .mov (.cst (.int .i64 3)), none⟩] :: K) fr S := rfl
def label_Check_r3 : List POper := [
  ⟨some 8, .mov (.tmp 0), none⟩,
  ⟨some 9, .len false (.tmp 8), none⟩,
  ⟨some 10, .mov (.cst (.int .i64 0)), none⟩]
@[simp] theorem label_Check_r3_go (T : Tbl) (K : List Kt) (fr : Fr) (S : St) : gval T (.ops label_Check_r3 :: K) fr S = gval T (.ops [
  ⟨some 8, .mov (.tmp 0), none⟩,
  ⟨some 9, .len false (.tmp 8), none⟩,
  ⟨some 10, .mov (.cst (.int .i64 0)), none⟩] :: K) fr S := rfl
def label_Check_r4 : List POper := [
  ⟨some 11, .arith .lss (.tmp 10) (.tmp 9), none⟩]
@[simp] theorem label_Check_r4_go (T : Tbl) (K : List Kt) (fr : Fr) (S : St) : gval T (.ops label_Check_r4 :: K) fr S = gval T (.ops [
  ⟨some 11, .arith .lss (.tmp 10) (.tmp 9), none⟩] :: K) fr S := rfl
def label_Check_r5 : List POper := [
  ⟨some 12, .mov (.tmp 10), none⟩,
  ⟨some 13, .iaddr 2 (.tmp 8) (.tmp 10), none⟩,
  ⟨some 14, .load true 2 false (.tmp 13), none⟩,
  ⟨some 4, .alloc false [(.str []), (.str [])], none⟩,
  ⟨some 3, .mov (.tmp 12), none⟩,
  ⟨none, .store 2 (.tmp 4) (.tmp 14), none⟩]
@[simp] theorem label_Check_r5_go (T : Tbl) (K : List Kt) (fr : Fr) (S : St) : gval T (.ops label_Check_r5 :: K) fr S = gval T (.ops [
  ⟨some 12, .mov (.tmp 10), none⟩,
  ⟨some 13, .iaddr 2 (.tmp 8) (.tmp 10), none⟩,
  ⟨some 14, .load true 2 false (.tmp 13), none⟩,
  ⟨some 4, .alloc false [(.str []), (.str [])], none⟩,
  ⟨some 3, .mov (.tmp 12), none⟩,
  ⟨none, .store 2 (.tmp 4) (.tmp 14), none⟩] :: K) fr S := rfl
def label_Check_r6 : List POper := [
  ⟨some 16, .faddr 0 (.tmp 4), none⟩,
  ⟨some 17, .load false 1 false (.tmp 16), none⟩,
  ⟨some 18, .call .pur 121 [(.tmp 17)], none⟩,
  ⟨some 19, .un .not (.tmp 18), none⟩,
  ⟨some 15, .mov (.tmp 19), none⟩]
@[simp] theorem label_Check_r6_go (T : Tbl) (K : List Kt) (fr : Fr) (S : St) : gval T (.ops label_Check_r6 :: K) fr S = gval T (.ops [
  ⟨some 16, .faddr 0 (.tmp 4), none⟩,
  ⟨some 17, .load false 1 false (.tmp 16), none⟩,
  ⟨some 18, .call .pur 121 [(.tmp 17)], none⟩,
  ⟨some 19, .un .not (.tmp 18), none⟩,
  ⟨some 15, .mov (.tmp 19), none⟩] :: K) fr S := rfl
def label_Check_r7 : List POper := [
  ⟨some 2, .mov (.cst (.int .i64 8)), none⟩]
@[simp] theorem label_Check_r7_go (T : Tbl) (K : List Kt) (fr : Fr) (S : St) : gval T (.ops label_Check_r7 :: K) fr S = gval T (.ops [
  ⟨some 2, .mov (.cst (.int .i64 8)), none⟩] :: K) fr S := rfl
def label_Check_r8 : List POper := [
  ⟨some 21, .faddr 1 (.tmp 4), none⟩,
  ⟨some 22, .load false 1 false (.tmp 21), none⟩,
  ⟨some 23, .arith .eql (.tmp 22) (.cst (.str [])), none⟩,
  ⟨some 20, .mov (.tmp 23), none⟩]
@[simp] theorem label_Check_r8_go (T : Tbl) (K : List Kt) (fr : Fr) (S : St) : gval T (.ops label_Check_r8 :: K) fr S = gval T (.ops [
  ⟨some 21, .faddr 1 (.tmp 4), none⟩,
  ⟨some 22, .load false 1 false (.tmp 21), none⟩,
  ⟨some 23, .arith .eql (.tmp 22) (.cst (.str [])), none⟩,
  ⟨some 20, .mov (.tmp 23), none⟩] :: K) fr S := rfl
def label_Check_r9 : List POper := [
  ⟨some 2, .mov (.cst (.int .i64 2)), none⟩]
@[simp] theorem label_Check_r9_go (T : Tbl) (K : List Kt) (fr : Fr) (S : St) : gval T (.ops label_Check_r9 :: K) fr S = gval T (.ops [
  ⟨some 2, .mov (.cst (.int .i64 2)), none⟩] :: K) fr S := rfl
def label_Check_r10 : List POper := [
  ⟨some 25, .faddr 1 (.tmp 4), none⟩,
  ⟨some 26, .load false 1 false (.tmp 25), none⟩,
  ⟨some 27, .len true (.tmp 26), none⟩,
  ⟨some 28, .arith .gtr (.tmp 27) (.cst (.int .i64 64)), none⟩,
  ⟨some 24, .mov (.tmp 28), none⟩]
@[simp] theorem label_Check_r10_go (T : Tbl) (K : List Kt) (fr : Fr) (S : St) : gval T (.ops label_Check_r10 :: K) fr S = gval T (.ops [
  ⟨some 25, .faddr 1 (.tmp 4), none⟩,
  ⟨some 26, .load false 1 false (.tmp 25), none⟩,
  ⟨some 27, .len true (.tmp 26), none⟩,
  ⟨some 28, .arith .gtr (.tmp 27) (.cst (.int .i64 64)), none⟩,
  ⟨some 24, .mov (.tmp 28), none⟩] :: K) fr S := rfl
def label_Check_r11 : List POper := [
  ⟨some 2, .mov (.cst (.int .i64 3)), none⟩]
@[simp] theorem label_Check_r11_go (T : Tbl) (K : List Kt) (fr : Fr) (S : St) : gval T (.ops label_Check_r11 :: K) fr S = gval T (.ops [
  ⟨some 2, .mov (.cst (.int .i64 3)), none⟩] :: K) fr S := rfl
def label_Check_r12 : List POper := [
  ⟨some 30, .mov (.tmp 3), none⟩,
  ⟨some 31, .arith .gtr (.tmp 30) (.cst (.int .i64 0)), none⟩,
  ⟨some 32, .mov (.tmp 31), none⟩,
  ⟨some 33, .faddr 0 (.tmp 4), some (32, true)⟩,
  ⟨some 34, .load false 1 false (.tmp 33), some (32, true)⟩,
  ⟨some 35, .mov (.tmp 0), some (32, true)⟩,
  ⟨some 36, .mov (.tmp 3), some (32, true)⟩,
  ⟨some 37, .arith .sub (.tmp 36) (.cst (.int .i64 1)), some (32, true)⟩,
  ⟨some 38, .iaddr 2 (.tmp 35) (.tmp 37), some (32, true)⟩,
  ⟨some 39, .faddr 0 (.tmp 38), some (32, true)⟩,
  ⟨some 40, .load false 1 true (.tmp 39), some (32, true)⟩,
  ⟨some 41, .arith .leq (.tmp 34) (.tmp 40), some (32, true)⟩,
  ⟨some 42, .pick (.tmp 32) (.tmp 41) (.cst (.bool false)), none⟩,
  ⟨some 29, .mov (.tmp 42), none⟩]
@[simp] theorem label_Check_r12_go (T : Tbl) (K : List Kt) (fr : Fr) (S : St) : gval T (.ops label_Check_r12 :: K) fr S = gval T (.ops [
  ⟨some 30, .mov (.tmp 3), none⟩,
  ⟨some 31, .arith .gtr (.tmp 30) (.cst (.int .i64 0)), none⟩,
  ⟨some 32, .mov (.tmp 31), none⟩,
  ⟨some 33, .faddr 0 (.tmp 4), some (32, true)⟩,
  ⟨some 34, .load false 1 false (.tmp 33), some (32, true)⟩,
  ⟨some 35, .mov (.tmp 0), some (32, true)⟩,
  ⟨some 36, .mov (.tmp 3), some (32, true)⟩,
  ⟨some 37, .arith .sub (.tmp 36) (.cst (.int .i64 1)), some (32, true)⟩,
  ⟨some 38, .iaddr 2 (.tmp 35) (.tmp 37), some (32, true)⟩,
  ⟨some 39, .faddr 0 (.tmp 38), some (32, true)⟩,
  ⟨some 40, .load false 1 true (.tmp 39), some (32, true)⟩,
  ⟨some 41, .arith .leq (.tmp 34) (.tmp 40), some (32, true)⟩,
  ⟨some 42, .pick (.tmp 32) (.tmp 41) (.cst (.bool false)), none⟩,
  ⟨some 29, .mov (.tmp 42), none⟩] :: K) fr S := rfl
def label_Check_r13 : List POper := [
  ⟨some 2, .mov (.cst (.int .i64 13)), none⟩]
@[simp] theorem label_Check_r13_go (T : Tbl) (K : List Kt) (fr : Fr) (S : St) : gval T (.ops label_Check_r13 :: K) fr S = gval T (.ops [
  ⟨some 2, .mov (.cst (.int .i64 13)), none⟩] :: K) fr S := rfl
def label_Check_r14 : List POper := [
  ⟨some 43, .arith .add (.tmp 10) (.cst (.int .i64 1)), none⟩,
  ⟨some 10, .mov (.tmp 43), none⟩]
@[simp] theorem label_Check_r14_go (T : Tbl) (K : List Kt) (fr : Fr) (S : St) : gval T (.ops label_Check_r14 :: K) fr S = gval T (.ops [
  ⟨some 43, .arith .add (.tmp 10) (.cst (.int .i64 1)), none⟩,
  ⟨some 10, .mov (.tmp 43), none⟩] :: K) fr S := rfl
def label_Check_l0 : PCode :=
  (.seq (.region label_Check_r4) (.seq (.cond (.tmp 11) .skip (.exit 0)) (.seq (.block 1 (.seq (.clr [(12, 15)] (.region label_Check_r5)) (.block 2 (.seq (.clr [(16, 20)] (.region label_Check_r6)) (.cond (.tmp 15) (.seq (.region label_Check_r7) .ret) (.seq (.clr [(21, 24)] (.region label_Check_r8)) (.cond (.tmp 20) (.seq (.region label_Check_r9) .ret) (.seq (.clr [(25, 29)] (.region label_Check_r10)) (.cond (.tmp 24) (.seq (.region label_Check_r11) .ret) (.seq (.clr [(30, 43)] (.region label_Check_r12)) (.cond (.tmp 29) (.seq (.region label_Check_r13) .ret) .skip))))))))))) (.clr [(43, 44)] (.region label_Check_r14)))))
@[simp] theorem label_Check_l0_go (T : Tbl) (K : List Kt) (fr : Fr) (S : St) : gval T (.code label_Check_l0 :: K) fr S = gval T (.code (.seq (.region label_Check_r4) (.seq (.cond (.tmp 11) .skip (.exit 0)) (.seq (.block 1 (.seq (.clr [(12, 15)] (.region label_Check_r5)) (.block 2 (.seq (.clr [(16, 20)] (.region label_Check_r6)) (.cond (.tmp 15) (.seq (.region label_Check_r7) .ret) (.seq (.clr [(21, 24)] (.region label_Check_r8)) (.cond (.tmp 20) (.seq (.region label_Check_r9) .ret) (.seq (.clr [(25, 29)] (.region label_Check_r10)) (.cond (.tmp 24) (.seq (.region label_Check_r11) .ret) (.seq (.clr [(30, 43)] (.region label_Check_r12)) (.cond (.tmp 29) (.seq (.region label_Check_r13) .ret) .skip))))))))))) (.clr [(43, 44)] (.region label_Check_r14))))) :: K) fr S := rfl
def label_Check_r15 : List POper := [
  ⟨some 2, .mov (.cst (.int .i64 0)), none⟩]
@[simp] theorem label_Check_r15_go (T : Tbl) (K : List Kt) (fr : Fr) (S : St) : gval T (.ops label_Check_r15 :: K) fr S = gval T (.ops [
  ⟨some 2, .mov (.cst (.int .i64 0)), none⟩] :: K) fr S := rfl
def label_Check : PCodeFn :=
  ⟨1, [.tmp 2],
  (.seq (.region label_Check_r0) (.seq (.seq (.clr [(5, 7)] (.region label_Check_r1)) (.cond (.tmp 7) (.seq (.region label_Check_r2) .ret) .skip)) (.seq (.seq (.region label_Check_r3) (.block 0 (.loop label_Check_l0))) (.seq (.region label_Check_r15) .ret)))), false⟩

/-! gauge/wal.checkRows: 275 -/
def wal_checkRows_r0 : List POper := [
  ⟨some 2, .mov (.cst (.int .i64 0)), none⟩]
@[simp] theorem wal_checkRows_r0_go (T : Tbl) (K : List Kt) (fr : Fr) (S : St) : gval T (.ops wal_checkRows_r0 :: K) fr S = gval T (.ops [
  ⟨some 2, .mov (.cst (.int .i64 0)), none⟩] :: K) fr S := rfl
def wal_checkRows_r1 : List POper := [
  ⟨some 5, .mov (.tmp 0), none⟩,
  ⟨some 6, .len false (.tmp 5), none⟩,
  ⟨some 7, .arith .lss (.tmp 6) (.cst (.int .i64 1)), none⟩,
  ⟨some 8, .mov (.tmp 7), none⟩,
  ⟨some 9, .mov (.tmp 0), some (8, false)⟩,
  ⟨some 10, .len false (.tmp 9), some (8, false)⟩,
  ⟨some 11, .arith .gtr (.tmp 10) (.cst (.int .i64 64)), some (8, false)⟩,
  ⟨some 12, .pick (.tmp 8) (.cst (.bool true)) (.tmp 11), none⟩]
@[simp] theorem wal_checkRows_r1_go (T : Tbl) (K : List Kt) (fr : Fr) (S : St) : gval T (.ops wal_checkRows_r1 :: K) fr S = gval T (.ops [
  ⟨some 5, .mov (.tmp 0), none⟩,
  ⟨some 6, .len false (.tmp 5), none⟩,
  ⟨some 7, .arith .lss (.tmp 6) (.cst (.int .i64 1)), none⟩,
  ⟨some 8, .mov (.tmp 7), none⟩,
  ⟨some 9, .mov (.tmp 0), some (8, false)⟩,
  ⟨some 10, .len false (.tmp 9), some (8, false)⟩,
  ⟨some 11, .arith .gtr (.tmp 10) (.cst (.int .i64 64)), some (8, false)⟩,
  ⟨some 12, .pick (.tmp 8) (.cst (.bool true)) (.tmp 11), none⟩] :: K) fr S := rfl
def wal_checkRows_r2 : List POper := [
  ⟨some 2, .mov (.cst (.int .i64 2)), none⟩]
@[simp] theorem wal_checkRows_r2_go (T : Tbl) (K : List Kt) (fr : Fr) (S : St) : gval T (.ops wal_checkRows_r2 :: K) fr S = gval T (.ops [
  ⟨some 2, .mov (.cst (.int .i64 2)), none⟩] :: K) fr S := rfl
def wal_checkRows_r3 : List POper := [
  ⟨some 13, .mov (.tmp 0), none⟩,
  ⟨some 14, .len false (.tmp 13), none⟩,
  ⟨some 15, .mov (.cst (.int .i64 0)), none⟩]
@[simp] theorem wal_checkRows_r3_go (T : Tbl) (K : List Kt) (fr : Fr) (S : St) : gval T (.ops wal_checkRows_r3 :: K) fr S = gval T (.ops [
  ⟨some 13, .mov (.tmp 0), none⟩,
  ⟨some 14, .len false (.tmp 13), none⟩,
  ⟨some 15, .mov (.cst (.int .i64 0)), none⟩] :: K) fr S := rfl
def wal_checkRows_r4 : List POper := [
  ⟨some 16, .arith .lss (.tmp 15) (.tmp 14), none⟩]
@[simp] theorem wal_checkRows_r4_go (T : Tbl) (K : List Kt) (fr : Fr) (S : St) : gval T (.ops wal_checkRows_r4 :: K) fr S = gval T (.ops [
  ⟨some 16, .arith .lss (.tmp 15) (.tmp 14), none⟩] :: K) fr S := rfl
def wal_checkRows_r5 : List POper := [
  ⟨some 17, .iaddr 3 (.tmp 13) (.tmp 15), none⟩,
  ⟨some 18, .load true 3 false (.tmp 17), none⟩,
  ⟨some 4, .alloc false [(.int .i64 0), (.int .i64 0), (.int .i64 0)], none⟩,
  ⟨none, .store 3 (.tmp 4) (.tmp 18), none⟩]
@[simp] theorem wal_checkRows_r5_go (T : Tbl) (K : List Kt) (fr : Fr) (S : St) : gval T (.ops wal_checkRows_r5 :: K) fr S = gval T (.ops [
  ⟨some 17, .iaddr 3 (.tmp 13) (.tmp 15), none⟩,
  ⟨some 18, .load true 3 false (.tmp 17), none⟩,
  ⟨some 4, .alloc false [(.int .i64 0), (.int .i64 0), (.int .i64 0)], none⟩,
  ⟨none, .store 3 (.tmp 4) (.tmp 18), none⟩] :: K) fr S := rfl
def wal_checkRows_r6 : List POper := [
  ⟨some 19, .faddr 0 (.tmp 4), none⟩,
  ⟨some 20, .load false 1 false (.tmp 19), none⟩,
  ⟨some 21, .arith .lss (.tmp 20) (.cst (.int .i64 0)), none⟩,
  ⟨some 22, .mov (.tmp 21), none⟩,
  ⟨some 23, .faddr 0 (.tmp 4), some (22, false)⟩,
  ⟨some 24, .load false 1 false (.tmp 23), some (22, false)⟩,
  ⟨some 25, .arith .gtr (.tmp 24) (.cst (.int .i64 1099511627776)), some (22, false)⟩,
  ⟨some 26, .pick (.tmp 22) (.cst (.bool true)) (.tmp 25), none⟩]
@[simp] theorem wal_checkRows_r6_go (T : Tbl) (K : List Kt) (fr : Fr) (S : St) : gval T (.ops wal_checkRows_r6 :: K) fr S = gval T (.ops [
  ⟨some 19, .faddr 0 (.tmp 4), none⟩,
  ⟨some 20, .load false 1 false (.tmp 19), none⟩,
  ⟨some 21, .arith .lss (.tmp 20) (.cst (.int .i64 0)), none⟩,
  ⟨some 22, .mov (.tmp 21), none⟩,
  ⟨some 23, .faddr 0 (.tmp 4), some (22, false)⟩,
  ⟨some 24, .load false 1 false (.tmp 23), some (22, false)⟩,
  ⟨some 25, .arith .gtr (.tmp 24) (.cst (.int .i64 1099511627776)), some (22, false)⟩,
  ⟨some 26, .pick (.tmp 22) (.cst (.bool true)) (.tmp 25), none⟩] :: K) fr S := rfl
def wal_checkRows_r7 : List POper := [
  ⟨some 2, .mov (.cst (.int .i64 2)), none⟩]
@[simp] theorem wal_checkRows_r7_go (T : Tbl) (K : List Kt) (fr : Fr) (S : St) : gval T (.ops wal_checkRows_r7 :: K) fr S = gval T (.ops [
  ⟨some 2, .mov (.cst (.int .i64 2)), none⟩] :: K) fr S := rfl
def wal_checkRows_r8 : List POper := [
  ⟨some 27, .faddr 1 (.tmp 4), none⟩,
  ⟨some 28, .load true 2 false (.tmp 27), none⟩,
  ⟨some 29, .bsl false (.agg [(.int .i64 0), (.int .i64 0)]) 1 [(0, (.tmp 28))], none⟩,
  ⟨some 30, .call .std 154 [(.tmp 29)], none⟩,
  ⟨some 31, .arith .neq (.tmp 30) (.cst (.int .i64 0)), none⟩]
@[simp] theorem wal_checkRows_r8_go (T : Tbl) (K : List Kt) (fr : Fr) (S : St) : gval T (.ops wal_checkRows_r8 :: K) fr S = gval T (.ops [
  ⟨some 27, .faddr 1 (.tmp 4), none⟩,
  ⟨some 28, .load true 2 false (.tmp 27), none⟩,
  ⟨some 29, .bsl false (.agg [(.int .i64 0), (.int .i64 0)]) 1 [(0, (.tmp 28))], none⟩,
  ⟨some 30, .call .std 154 [(.tmp 29)], none⟩,
  ⟨some 31, .arith .neq (.tmp 30) (.cst (.int .i64 0)), none⟩] :: K) fr S := rfl
def wal_checkRows_r9 : List POper := [
  ⟨some 2, .mov (.cst (.int .i64 11)), none⟩]
@[simp] theorem wal_checkRows_r9_go (T : Tbl) (K : List Kt) (fr : Fr) (S : St) : gval T (.ops wal_checkRows_r9 :: K) fr S = gval T (.ops [
  ⟨some 2, .mov (.cst (.int .i64 11)), none⟩] :: K) fr S := rfl
def wal_checkRows_r10 : List POper := [
  ⟨some 32, .arith .add (.tmp 15) (.cst (.int .i64 1)), none⟩,
  ⟨some 15, .mov (.tmp 32), none⟩]
@[simp] theorem wal_checkRows_r10_go (T : Tbl) (K : List Kt) (fr : Fr) (S : St) : gval T (.ops wal_checkRows_r10 :: K) fr S = gval T (.ops [
  ⟨some 32, .arith .add (.tmp 15) (.cst (.int .i64 1)), none⟩,
  ⟨some 15, .mov (.tmp 32), none⟩] :: K) fr S := rfl
def wal_checkRows_l0 : PCode :=
  (.seq (.region wal_checkRows_r4) (.seq (.cond (.tmp 16) .skip (.exit 0)) (.seq (.block 1 (.seq (.clr [(17, 19)] (.region wal_checkRows_r5)) (.seq (.seq (.clr [(19, 26)] (.region wal_checkRows_r6)) (.cond (.tmp 26) (.seq (.region wal_checkRows_r7) .ret) .skip)) (.seq (.clr [(27, 31)] (.region wal_checkRows_r8)) (.cond (.tmp 31) (.seq (.region wal_checkRows_r9) .ret) .skip))))) (.clr [(32, 33)] (.region wal_checkRows_r10)))))
@[simp] theorem wal_checkRows_l0_go (T : Tbl) (K : List Kt) (fr : Fr) (S : St) : gval T (.code wal_checkRows_l0 :: K) fr S = gval T (.code (.seq (.region wal_checkRows_r4) (.seq (.cond (.tmp 16) .skip (.exit 0)) (.seq (.block 1 (.seq (.clr [(17, 19)] (.region wal_checkRows_r5)) (.seq (.seq (.clr [(19, 26)] (.region wal_checkRows_r6)) (.cond (.tmp 26) (.seq (.region wal_checkRows_r7) .ret) .skip)) (.seq (.clr [(27, 31)] (.region wal_checkRows_r8)) (.cond (.tmp 31) (.seq (.region wal_checkRows_r9) .ret) .skip))))) (.clr [(32, 33)] (.region wal_checkRows_r10))))) :: K) fr S := rfl
def wal_checkRows_r11 : List POper := [
  ⟨some 2, .mov (.cst (.int .i64 0)), none⟩]
@[simp] theorem wal_checkRows_r11_go (T : Tbl) (K : List Kt) (fr : Fr) (S : St) : gval T (.ops wal_checkRows_r11 :: K) fr S = gval T (.ops [
  ⟨some 2, .mov (.cst (.int .i64 0)), none⟩] :: K) fr S := rfl
def wal_checkRows : PCodeFn :=
  ⟨1, [.tmp 2],
  (.seq (.region wal_checkRows_r0) (.seq (.seq (.clr [(5, 12)] (.region wal_checkRows_r1)) (.cond (.tmp 12) (.seq (.region wal_checkRows_r2) .ret) .skip)) (.seq (.seq (.region wal_checkRows_r3) (.block 0 (.loop wal_checkRows_l0))) (.seq (.region wal_checkRows_r11) .ret)))), false⟩

/-! gauge/wal.checkDelete: 276 -/
def wal_checkDelete_r0 : List POper := [
  ⟨some 1, .box true (.tmp 0), none⟩,
  ⟨some 2, .mov (.cst (.int .i64 0)), none⟩]
@[simp] theorem wal_checkDelete_r0_go (T : Tbl) (K : List Kt) (fr : Fr) (S : St) : gval T (.ops wal_checkDelete_r0 :: K) fr S = gval T (.ops [
  ⟨some 1, .box true (.tmp 0), none⟩,
  ⟨some 2, .mov (.cst (.int .i64 0)), none⟩] :: K) fr S := rfl
def wal_checkDelete_r1 : List POper := [
  ⟨some 4, .faddr 3 (.tmp 1), none⟩,
  ⟨some 5, .load false 1 false (.tmp 4), none⟩,
  ⟨some 6, .call .std 318 [(.tmp 5)], none⟩,
  ⟨some 3, .mov (.tmp 6), none⟩]
@[simp] theorem wal_checkDelete_r1_go (T : Tbl) (K : List Kt) (fr : Fr) (S : St) : gval T (.ops wal_checkDelete_r1 :: K) fr S = gval T (.ops [
  ⟨some 4, .faddr 3 (.tmp 1), none⟩,
  ⟨some 5, .load false 1 false (.tmp 4), none⟩,
  ⟨some 6, .call .std 318 [(.tmp 5)], none⟩,
  ⟨some 3, .mov (.tmp 6), none⟩] :: K) fr S := rfl
def wal_checkDelete_r2 : List POper := [
  ⟨some 7, .mov (.tmp 3), none⟩,
  ⟨some 8, .arith .neq (.tmp 7) (.cst (.int .i64 0)), none⟩]
@[simp] theorem wal_checkDelete_r2_go (T : Tbl) (K : List Kt) (fr : Fr) (S : St) : gval T (.ops wal_checkDelete_r2 :: K) fr S = gval T (.ops [
  ⟨some 7, .mov (.tmp 3), none⟩,
  ⟨some 8, .arith .neq (.tmp 7) (.cst (.int .i64 0)), none⟩] :: K) fr S := rfl
def wal_checkDelete_r3 : List POper := [
  ⟨some 9, .mov (.tmp 3), none⟩,
  ⟨some 2, .mov (.tmp 9), none⟩]
@[simp] theorem wal_checkDelete_r3_go (T : Tbl) (K : List Kt) (fr : Fr) (S : St) : gval T (.ops wal_checkDelete_r3 :: K) fr S = gval T (.ops [
  ⟨some 9, .mov (.tmp 3), none⟩,
  ⟨some 2, .mov (.tmp 9), none⟩] :: K) fr S := rfl
def wal_checkDelete_r4 : List POper := [
  ⟨some 11, .faddr 3 (.tmp 1), none⟩,
  ⟨some 12, .load false 1 false (.tmp 11), none⟩,
  ⟨some 13, .len false (.tmp 12), none⟩,
  ⟨some 14, .arith .eql (.tmp 13) (.cst (.int .i64 0)), none⟩,
  ⟨some 10, .mov (.tmp 14), none⟩]
@[simp] theorem wal_checkDelete_r4_go (T : Tbl) (K : List Kt) (fr : Fr) (S : St) : gval T (.ops wal_checkDelete_r4 :: K) fr S = gval T (.ops [
  ⟨some 11, .faddr 3 (.tmp 1), none⟩,
  ⟨some 12, .load false 1 false (.tmp 11), none⟩,
  ⟨some 13, .len false (.tmp 12), none⟩,
  ⟨some 14, .arith .eql (.tmp 13) (.cst (.int .i64 0)), none⟩,
  ⟨some 10, .mov (.tmp 14), none⟩] :: K) fr S := rfl
def wal_checkDelete_r5 : List POper := [
  ⟨some 2, .mov (.cst (.int .i64 2)), none⟩]
@[simp] theorem wal_checkDelete_r5_go (T : Tbl) (K : List Kt) (fr : Fr) (S : St) : gval T (.ops wal_checkDelete_r5 :: K) fr S = gval T (.ops [
  ⟨some 2, .mov (.cst (.int .i64 2)), none⟩] :: K) fr S := rfl
def wal_checkDelete_r6 : List POper := [
  ⟨some 16, .faddr 4 (.tmp 1), none⟩,
  ⟨some 17, .load false 1 false (.tmp 16), none⟩,
  ⟨some 18, .arith .lss (.tmp 17) (.cst (.int .i64 0)), none⟩,
  ⟨some 19, .mov (.tmp 18), none⟩,
  ⟨some 20, .faddr 5 (.tmp 1), some (19, false)⟩,
  ⟨some 21, .load false 1 false (.tmp 20), some (19, false)⟩,
  ⟨some 22, .arith .gtr (.tmp 21) (.cst (.int .i64 1099511627776)), some (19, false)⟩,
  ⟨some 23, .pick (.tmp 19) (.cst (.bool true)) (.tmp 22), none⟩,
  ⟨some 15, .mov (.tmp 23), none⟩]
@[simp] theorem wal_checkDelete_r6_go (T : Tbl) (K : List Kt) (fr : Fr) (S : St) : gval T (.ops wal_checkDelete_r6 :: K) fr S = gval T (.ops [
  ⟨some 16, .faddr 4 (.tmp 1), none⟩,
  ⟨some 17, .load false 1 false (.tmp 16), none⟩,
  ⟨some 18, .arith .lss (.tmp 17) (.cst (.int .i64 0)), none⟩,
  ⟨some 19, .mov (.tmp 18), none⟩,
  ⟨some 20, .faddr 5 (.tmp 1), some (19, false)⟩,
  ⟨some 21, .load false 1 false (.tmp 20), some (19, false)⟩,
  ⟨some 22, .arith .gtr (.tmp 21) (.cst (.int .i64 1099511627776)), some (19, false)⟩,
  ⟨some 23, .pick (.tmp 19) (.cst (.bool true)) (.tmp 22), none⟩,
  ⟨some 15, .mov (.tmp 23), none⟩] :: K) fr S := rfl
def wal_checkDelete_r7 : List POper := [
  ⟨some 2, .mov (.cst (.int .i64 11)), none⟩]
@[simp] theorem wal_checkDelete_r7_go (T : Tbl) (K : List Kt) (fr : Fr) (S : St) : gval T (.ops wal_checkDelete_r7 :: K) fr S = gval T (.ops [
  ⟨some 2, .mov (.cst (.int .i64 11)), none⟩] :: K) fr S := rfl
def wal_checkDelete_r8 : List POper := [
  ⟨some 25, .faddr 4 (.tmp 1), none⟩,
  ⟨some 26, .load false 1 false (.tmp 25), none⟩,
  ⟨some 27, .faddr 5 (.tmp 1), none⟩,
  ⟨some 28, .load false 1 false (.tmp 27), none⟩,
  ⟨some 29, .arith .gtr (.tmp 26) (.tmp 28), none⟩,
  ⟨some 24, .mov (.tmp 29), none⟩]
@[simp] theorem wal_checkDelete_r8_go (T : Tbl) (K : List Kt) (fr : Fr) (S : St) : gval T (.ops wal_checkDelete_r8 :: K) fr S = gval T (.ops [
  ⟨some 25, .faddr 4 (.tmp 1), none⟩,
  ⟨some 26, .load false 1 false (.tmp 25), none⟩,
  ⟨some 27, .faddr 5 (.tmp 1), none⟩,
  ⟨some 28, .load false 1 false (.tmp 27), none⟩,
  ⟨some 29, .arith .gtr (.tmp 26) (.tmp 28), none⟩,
  ⟨some 24, .mov (.tmp 29), none⟩] :: K) fr S := rfl
def wal_checkDelete_r9 : List POper := [
  ⟨some 2, .mov (.cst (.int .i64 13)), none⟩]
@[simp] theorem wal_checkDelete_r9_go (T : Tbl) (K : List Kt) (fr : Fr) (S : St) : gval T (.ops wal_checkDelete_r9 :: K) fr S = gval T (.ops [
  ⟨some 2, .mov (.cst (.int .i64 13)), none⟩] :: K) fr S := rfl
def wal_checkDelete_r10 : List POper := [
  ⟨some 2, .mov (.cst (.int .i64 0)), none⟩]
@[simp] theorem wal_checkDelete_r10_go (T : Tbl) (K : List Kt) (fr : Fr) (S : St) : gval T (.ops wal_checkDelete_r10 :: K) fr S = gval T (.ops [
  ⟨some 2, .mov (.cst (.int .i64 0)), none⟩] :: K) fr S := rfl
def wal_checkDelete : PCodeFn :=
  ⟨1, [.tmp 2],
  (.seq (.region wal_checkDelete_r0) (.seq (.seq (.clr [(4, 7)] (.region wal_checkDelete_r1)) (.seq (.clr [(7, 8)] (.region wal_checkDelete_r2)) (.cond (.tmp 8) (.seq (.clr [(9, 10)] (.region wal_checkDelete_r3)) .ret) .skip))) (.seq (.block 0 (.seq (.clr [(11, 15)] (.region wal_checkDelete_r4)) (.cond (.tmp 10) (.seq (.region wal_checkDelete_r5) .ret) (.seq (.clr [(16, 24)] (.region wal_checkDelete_r6)) (.cond (.tmp 15) (.seq (.region wal_checkDelete_r7) .ret) (.seq (.clr [(25, 30)] (.region wal_checkDelete_r8)) (.cond (.tmp 24) (.seq (.region wal_checkDelete_r9) .ret) .skip))))))) (.seq (.region wal_checkDelete_r10) .ret)))), false⟩

/-! gauge/gaugeref06.Check: 98 -/
def ref06_Check_r0 : List POper := [
  ⟨some 2, .mov (.cst (.int .i64 0)), none⟩]
@[simp] theorem ref06_Check_r0_go (T : Tbl) (K : List Kt) (fr : Fr) (S : St) : gval T (.ops ref06_Check_r0 :: K) fr S = gval T (.ops [
  ⟨some 2, .mov (.cst (.int .i64 0)), none⟩] :: K) fr S := rfl
def ref06_Check_r1 : List POper := [
  ⟨some 4, .mov (.tmp 0), none⟩,
  ⟨some 5, .len false (.tmp 4), none⟩,
  ⟨some 6, .arith .gtr (.tmp 5) (.cst (.int .i64 8)), none⟩]
@[simp] theorem ref06_Check_r1_go (T : Tbl) (K : List Kt) (fr : Fr) (S : St) : gval T (.ops ref06_Check_r1 :: K) fr S = gval T (.ops [
  ⟨some 4, .mov (.tmp 0), none⟩,
  ⟨some 5, .len false (.tmp 4), none⟩,
  ⟨some 6, .arith .gtr (.tmp 5) (.cst (.int .i64 8)), none⟩] :: K) fr S := rfl
def ref06_Check_r2 : List POper := [
  ⟨some 2, .mov (.cst (.int .i64 3)), none⟩]
@[simp] theorem ref06_Check_r2_go (T : Tbl) (K : List Kt) (fr : Fr) (S : St) : gval T (.ops ref06_Check_r2 :: K) fr S = gval T (.ops [
  ⟨some 2, .mov (.cst (.int .i64 3)), none⟩] :: K) fr S := rfl
def ref06_Check_r3 : List POper := [
  ⟨some 3, .mov (.cst (.int .i64 0)), none⟩]
@[simp] theorem ref06_Check_r3_go (T : Tbl) (K : List Kt) (fr : Fr) (S : St) : gval T (.ops ref06_Check_r3 :: K) fr S = gval T (.ops [
  ⟨some 3, .mov (.cst (.int .i64 0)), none⟩] :: K) fr S := rfl
def ref06_Check_r4 : List POper := [
  ⟨some 7, .mov (.tmp 3), none⟩,
  ⟨some 8, .mov (.tmp 0), none⟩,
  ⟨some 9, .len false (.tmp 8), none⟩,
  ⟨some 10, .arith .lss (.tmp 7) (.tmp 9), none⟩]
@[simp] theorem ref06_Check_r4_go (T : Tbl) (K : List Kt) (fr : Fr) (S : St) : gval T (.ops ref06_Check_r4 :: K) fr S = gval T (.ops [
  ⟨some 7, .mov (.tmp 3), none⟩,
  ⟨some 8, .mov (.tmp 0), none⟩,
  ⟨some 9, .len false (.tmp 8), none⟩,
  ⟨some 10, .arith .lss (.tmp 7) (.tmp 9), none⟩] :: K) fr S := rfl
def ref06_Check_r6 : List POper := [
  ⟨some 13, .mov (.tmp 0), none⟩,
  ⟨some 14, .mov (.tmp 3), none⟩,
  ⟨some 15, .iaddr 2 (.tmp 13) (.tmp 14), none⟩,
  ⟨some 16, .faddr 0 (.tmp 15), none⟩,
  ⟨some 17, .load false 1 false (.tmp 16), none⟩,
  ⟨some 18, .call .pur 126 [(.tmp 17)], none⟩,
  ⟨some 19, .un .not (.tmp 18), none⟩]
@[simp] theorem ref06_Check_r6_go (T : Tbl) (K : List Kt) (fr : Fr) (S : St) : gval T (.ops ref06_Check_r6 :: K) fr S = gval T (.ops [
  ⟨some 13, .mov (.tmp 0), none⟩,
  ⟨some 14, .mov (.tmp 3), none⟩,
  ⟨some 15, .iaddr 2 (.tmp 13) (.tmp 14), none⟩,
  ⟨some 16, .faddr 0 (.tmp 15), none⟩,
  ⟨some 17, .load false 1 false (.tmp 16), none⟩,
  ⟨some 18, .call .pur 126 [(.tmp 17)], none⟩,
  ⟨some 19, .un .not (.tmp 18), none⟩] :: K) fr S := rfl
def ref06_Check_r7 : List POper := [
  ⟨some 2, .mov (.cst (.int .i64 8)), none⟩]
@[simp] theorem ref06_Check_r7_go (T : Tbl) (K : List Kt) (fr : Fr) (S : St) : gval T (.ops ref06_Check_r7 :: K) fr S = gval T (.ops [
  ⟨some 2, .mov (.cst (.int .i64 8)), none⟩] :: K) fr S := rfl
def ref06_Check_r8 : List POper := [
  ⟨some 20, .mov (.tmp 0), none⟩,
  ⟨some 21, .mov (.tmp 3), none⟩,
  ⟨some 22, .iaddr 2 (.tmp 20) (.tmp 21), none⟩,
  ⟨some 23, .faddr 1 (.tmp 22), none⟩,
  ⟨some 24, .load false 1 false (.tmp 23), none⟩,
  ⟨some 25, .arith .eql (.tmp 24) (.cst (.str [])), none⟩]
@[simp] theorem ref06_Check_r8_go (T : Tbl) (K : List Kt) (fr : Fr) (S : St) : gval T (.ops ref06_Check_r8 :: K) fr S = gval T (.ops [
  ⟨some 20, .mov (.tmp 0), none⟩,
  ⟨some 21, .mov (.tmp 3), none⟩,
  ⟨some 22, .iaddr 2 (.tmp 20) (.tmp 21), none⟩,
  ⟨some 23, .faddr 1 (.tmp 22), none⟩,
  ⟨some 24, .load false 1 false (.tmp 23), none⟩,
  ⟨some 25, .arith .eql (.tmp 24) (.cst (.str [])), none⟩] :: K) fr S := rfl
def ref06_Check_r9 : List POper := [
  ⟨some 2, .mov (.cst (.int .i64 2)), none⟩]
@[simp] theorem ref06_Check_r9_go (T : Tbl) (K : List Kt) (fr : Fr) (S : St) : gval T (.ops ref06_Check_r9 :: K) fr S = gval T (.ops [
  ⟨some 2, .mov (.cst (.int .i64 2)), none⟩] :: K) fr S := rfl
def ref06_Check_r10 : List POper := [
  ⟨some 26, .mov (.tmp 0), none⟩,
  ⟨some 27, .mov (.tmp 3), none⟩,
  ⟨some 28, .iaddr 2 (.tmp 26) (.tmp 27), none⟩,
  ⟨some 29, .faddr 1 (.tmp 28), none⟩,
  ⟨some 30, .load false 1 false (.tmp 29), none⟩,
  ⟨some 31, .len true (.tmp 30), none⟩,
  ⟨some 32, .arith .gtr (.tmp 31) (.cst (.int .i64 64)), none⟩]
@[simp] theorem ref06_Check_r10_go (T : Tbl) (K : List Kt) (fr : Fr) (S : St) : gval T (.ops ref06_Check_r10 :: K) fr S = gval T (.ops [
  ⟨some 26, .mov (.tmp 0), none⟩,
  ⟨some 27, .mov (.tmp 3), none⟩,
  ⟨some 28, .iaddr 2 (.tmp 26) (.tmp 27), none⟩,
  ⟨some 29, .faddr 1 (.tmp 28), none⟩,
  ⟨some 30, .load false 1 false (.tmp 29), none⟩,
  ⟨some 31, .len true (.tmp 30), none⟩,
  ⟨some 32, .arith .gtr (.tmp 31) (.cst (.int .i64 64)), none⟩] :: K) fr S := rfl
def ref06_Check_r11 : List POper := [
  ⟨some 2, .mov (.cst (.int .i64 3)), none⟩]
@[simp] theorem ref06_Check_r11_go (T : Tbl) (K : List Kt) (fr : Fr) (S : St) : gval T (.ops ref06_Check_r11 :: K) fr S = gval T (.ops [
  ⟨some 2, .mov (.cst (.int .i64 3)), none⟩] :: K) fr S := rfl
def ref06_Check_r12 : List POper := [
  ⟨some 33, .mov (.tmp 3), none⟩,
  ⟨some 34, .arith .gtr (.tmp 33) (.cst (.int .i64 0)), none⟩,
  ⟨some 35, .mov (.tmp 34), none⟩,
  ⟨some 36, .mov (.tmp 0), some (35, true)⟩,
  ⟨some 37, .mov (.tmp 3), some (35, true)⟩,
  ⟨some 38, .iaddr 2 (.tmp 36) (.tmp 37), some (35, true)⟩,
  ⟨some 39, .faddr 0 (.tmp 38), some (35, true)⟩,
  ⟨some 40, .load false 1 true (.tmp 39), some (35, true)⟩,
  ⟨some 41, .mov (.tmp 0), some (35, true)⟩,
  ⟨some 42, .mov (.tmp 3), some (35, true)⟩,
  ⟨some 43, .arith .sub (.tmp 42) (.cst (.int .i64 1)), some (35, true)⟩,
  ⟨some 44, .iaddr 2 (.tmp 41) (.tmp 43), some (35, true)⟩,
  ⟨some 45, .faddr 0 (.tmp 44), some (35, true)⟩,
  ⟨some 46, .load false 1 true (.tmp 45), some (35, true)⟩,
  ⟨some 47, .arith .leq (.tmp 40) (.tmp 46), some (35, true)⟩,
  ⟨some 48, .pick (.tmp 35) (.tmp 47) (.cst (.bool false)), none⟩]
@[simp] theorem ref06_Check_r12_go (T : Tbl) (K : List Kt) (fr : Fr) (S : St) : gval T (.ops ref06_Check_r12 :: K) fr S = gval T (.ops [
  ⟨some 33, .mov (.tmp 3), none⟩,
  ⟨some 34, .arith .gtr (.tmp 33) (.cst (.int .i64 0)), none⟩,
  ⟨some 35, .mov (.tmp 34), none⟩,
  ⟨some 36, .mov (.tmp 0), some (35, true)⟩,
  ⟨some 37, .mov (.tmp 3), some (35, true)⟩,
  ⟨some 38, .iaddr 2 (.tmp 36) (.tmp 37), some (35, true)⟩,
  ⟨some 39, .faddr 0 (.tmp 38), some (35, true)⟩,
  ⟨some 40, .load false 1 true (.tmp 39), some (35, true)⟩,
  ⟨some 41, .mov (.tmp 0), some (35, true)⟩,
  ⟨some 42, .mov (.tmp 3), some (35, true)⟩,
  ⟨some 43, .arith .sub (.tmp 42) (.cst (.int .i64 1)), some (35, true)⟩,
  ⟨some 44, .iaddr 2 (.tmp 41) (.tmp 43), some (35, true)⟩,
  ⟨some 45, .faddr 0 (.tmp 44), some (35, true)⟩,
  ⟨some 46, .load false 1 true (.tmp 45), some (35, true)⟩,
  ⟨some 47, .arith .leq (.tmp 40) (.tmp 46), some (35, true)⟩,
  ⟨some 48, .pick (.tmp 35) (.tmp 47) (.cst (.bool false)), none⟩] :: K) fr S := rfl
def ref06_Check_r13 : List POper := [
  ⟨some 2, .mov (.cst (.int .i64 13)), none⟩]
@[simp] theorem ref06_Check_r13_go (T : Tbl) (K : List Kt) (fr : Fr) (S : St) : gval T (.ops ref06_Check_r13 :: K) fr S = gval T (.ops [
  ⟨some 2, .mov (.cst (.int .i64 13)), none⟩] :: K) fr S := rfl
def ref06_Check_r5 : List POper := [
  ⟨some 11, .mov (.tmp 3), none⟩,
  ⟨some 12, .arith .add (.tmp 11) (.cst (.int .i64 1)), none⟩,
  ⟨some 3, .mov (.tmp 12), none⟩]
@[simp] theorem ref06_Check_r5_go (T : Tbl) (K : List Kt) (fr : Fr) (S : St) : gval T (.ops ref06_Check_r5 :: K) fr S = gval T (.ops [
  ⟨some 11, .mov (.tmp 3), none⟩,
  ⟨some 12, .arith .add (.tmp 11) (.cst (.int .i64 1)), none⟩,
  ⟨some 3, .mov (.tmp 12), none⟩] :: K) fr S := rfl
def ref06_Check_l0 : PCode :=
  (.seq (.seq (.clr [(7, 10)] (.region ref06_Check_r4)) (.cond (.tmp 10) .skip (.exit 0))) (.seq (.block 1 (.seq (.seq (.clr [(13, 19)] (.region ref06_Check_r6)) (.cond (.tmp 19) (.seq (.region ref06_Check_r7) .ret) .skip)) (.seq (.seq (.clr [(20, 25)] (.region ref06_Check_r8)) (.cond (.tmp 25) (.seq (.region ref06_Check_r9) .ret) .skip)) (.seq (.seq (.clr [(26, 32)] (.region ref06_Check_r10)) (.cond (.tmp 32) (.seq (.region ref06_Check_r11) .ret) .skip)) (.seq (.clr [(33, 48)] (.region ref06_Check_r12)) (.cond (.tmp 48) (.seq (.region ref06_Check_r13) .ret) .skip)))))) (.clr [(11, 13)] (.region ref06_Check_r5))))
@[simp] theorem ref06_Check_l0_go (T : Tbl) (K : List Kt) (fr : Fr) (S : St) : gval T (.code ref06_Check_l0 :: K) fr S = gval T (.code (.seq (.seq (.clr [(7, 10)] (.region ref06_Check_r4)) (.cond (.tmp 10) .skip (.exit 0))) (.seq (.block 1 (.seq (.seq (.clr [(13, 19)] (.region ref06_Check_r6)) (.cond (.tmp 19) (.seq (.region ref06_Check_r7) .ret) .skip)) (.seq (.seq (.clr [(20, 25)] (.region ref06_Check_r8)) (.cond (.tmp 25) (.seq (.region ref06_Check_r9) .ret) .skip)) (.seq (.seq (.clr [(26, 32)] (.region ref06_Check_r10)) (.cond (.tmp 32) (.seq (.region ref06_Check_r11) .ret) .skip)) (.seq (.clr [(33, 48)] (.region ref06_Check_r12)) (.cond (.tmp 48) (.seq (.region ref06_Check_r13) .ret) .skip)))))) (.clr [(11, 13)] (.region ref06_Check_r5)))) :: K) fr S := rfl
def ref06_Check_r14 : List POper := [
  ⟨some 2, .mov (.cst (.int .i64 0)), none⟩]
@[simp] theorem ref06_Check_r14_go (T : Tbl) (K : List Kt) (fr : Fr) (S : St) : gval T (.ops ref06_Check_r14 :: K) fr S = gval T (.ops [
  ⟨some 2, .mov (.cst (.int .i64 0)), none⟩] :: K) fr S := rfl
def ref06_Check : PCodeFn :=
  ⟨1, [.tmp 2],
  (.seq (.region ref06_Check_r0) (.seq (.seq (.clr [(4, 6)] (.region ref06_Check_r1)) (.cond (.tmp 6) (.seq (.region ref06_Check_r2) .ret) .skip)) (.seq (.seq (.region ref06_Check_r3) (.block 0 (.loop ref06_Check_l0))) (.seq (.region ref06_Check_r14) .ret)))), false⟩

/-! gauge/gaugeref11.rows: 281 -/
def ref11_rows_r0 : List POper := [
  ⟨some 2, .mov (.cst (.int .i64 0)), none⟩]
@[simp] theorem ref11_rows_r0_go (T : Tbl) (K : List Kt) (fr : Fr) (S : St) : gval T (.ops ref11_rows_r0 :: K) fr S = gval T (.ops [
  ⟨some 2, .mov (.cst (.int .i64 0)), none⟩] :: K) fr S := rfl
def ref11_rows_r1 : List POper := [
  ⟨some 4, .mov (.tmp 0), none⟩,
  ⟨some 5, .len false (.tmp 4), none⟩,
  ⟨some 6, .arith .eql (.tmp 5) (.cst (.int .i64 0)), none⟩,
  ⟨some 7, .mov (.tmp 6), none⟩,
  ⟨some 8, .mov (.tmp 0), some (7, false)⟩,
  ⟨some 9, .len false (.tmp 8), some (7, false)⟩,
  ⟨some 10, .arith .gtr (.tmp 9) (.cst (.int .i64 64)), some (7, false)⟩,
  ⟨some 11, .pick (.tmp 7) (.cst (.bool true)) (.tmp 10), none⟩]
@[simp] theorem ref11_rows_r1_go (T : Tbl) (K : List Kt) (fr : Fr) (S : St) : gval T (.ops ref11_rows_r1 :: K) fr S = gval T (.ops [
  ⟨some 4, .mov (.tmp 0), none⟩,
  ⟨some 5, .len false (.tmp 4), none⟩,
  ⟨some 6, .arith .eql (.tmp 5) (.cst (.int .i64 0)), none⟩,
  ⟨some 7, .mov (.tmp 6), none⟩,
  ⟨some 8, .mov (.tmp 0), some (7, false)⟩,
  ⟨some 9, .len false (.tmp 8), some (7, false)⟩,
  ⟨some 10, .arith .gtr (.tmp 9) (.cst (.int .i64 64)), some (7, false)⟩,
  ⟨some 11, .pick (.tmp 7) (.cst (.bool true)) (.tmp 10), none⟩] :: K) fr S := rfl
def ref11_rows_r2 : List POper := [
  ⟨some 2, .mov (.cst (.int .i64 2)), none⟩]
@[simp] theorem ref11_rows_r2_go (T : Tbl) (K : List Kt) (fr : Fr) (S : St) : gval T (.ops ref11_rows_r2 :: K) fr S = gval T (.ops [
  ⟨some 2, .mov (.cst (.int .i64 2)), none⟩] :: K) fr S := rfl
def ref11_rows_r3 : List POper := [
  ⟨some 3, .mov (.cst (.int .i64 0)), none⟩]
@[simp] theorem ref11_rows_r3_go (T : Tbl) (K : List Kt) (fr : Fr) (S : St) : gval T (.ops ref11_rows_r3 :: K) fr S = gval T (.ops [
  ⟨some 3, .mov (.cst (.int .i64 0)), none⟩] :: K) fr S := rfl
def ref11_rows_r4 : List POper := [
  ⟨some 12, .mov (.tmp 3), none⟩,
  ⟨some 13, .mov (.tmp 0), none⟩,
  ⟨some 14, .len false (.tmp 13), none⟩,
  ⟨some 15, .arith .lss (.tmp 12) (.tmp 14), none⟩]
@[simp] theorem ref11_rows_r4_go (T : Tbl) (K : List Kt) (fr : Fr) (S : St) : gval T (.ops ref11_rows_r4 :: K) fr S = gval T (.ops [
  ⟨some 12, .mov (.tmp 3), none⟩,
  ⟨some 13, .mov (.tmp 0), none⟩,
  ⟨some 14, .len false (.tmp 13), none⟩,
  ⟨some 15, .arith .lss (.tmp 12) (.tmp 14), none⟩] :: K) fr S := rfl
def ref11_rows_r6 : List POper := [
  ⟨some 18, .mov (.tmp 0), none⟩,
  ⟨some 19, .mov (.tmp 3), none⟩,
  ⟨some 20, .iaddr 3 (.tmp 18) (.tmp 19), none⟩,
  ⟨some 21, .faddr 0 (.tmp 20), none⟩,
  ⟨some 22, .load false 1 false (.tmp 21), none⟩,
  ⟨some 23, .arith .lss (.tmp 22) (.cst (.int .i64 0)), none⟩,
  ⟨some 24, .mov (.tmp 23), none⟩,
  ⟨some 25, .mov (.tmp 0), some (24, false)⟩,
  ⟨some 26, .mov (.tmp 3), some (24, false)⟩,
  ⟨some 27, .iaddr 3 (.tmp 25) (.tmp 26), some (24, false)⟩,
  ⟨some 28, .faddr 0 (.tmp 27), some (24, false)⟩,
  ⟨some 29, .load false 1 false (.tmp 28), some (24, false)⟩,
  ⟨some 30, .arith .gtr (.tmp 29) (.cst (.int .i64 1099511627776)), some (24, false)⟩,
  ⟨some 31, .pick (.tmp 24) (.cst (.bool true)) (.tmp 30), none⟩]
@[simp] theorem ref11_rows_r6_go (T : Tbl) (K : List Kt) (fr : Fr) (S : St) : gval T (.ops ref11_rows_r6 :: K) fr S = gval T (.ops [
  ⟨some 18, .mov (.tmp 0), none⟩,
  ⟨some 19, .mov (.tmp 3), none⟩,
  ⟨some 20, .iaddr 3 (.tmp 18) (.tmp 19), none⟩,
  ⟨some 21, .faddr 0 (.tmp 20), none⟩,
  ⟨some 22, .load false 1 false (.tmp 21), none⟩,
  ⟨some 23, .arith .lss (.tmp 22) (.cst (.int .i64 0)), none⟩,
  ⟨some 24, .mov (.tmp 23), none⟩,
  ⟨some 25, .mov (.tmp 0), some (24, false)⟩,
  ⟨some 26, .mov (.tmp 3), some (24, false)⟩,
  ⟨some 27, .iaddr 3 (.tmp 25) (.tmp 26), some (24, false)⟩,
  ⟨some 28, .faddr 0 (.tmp 27), some (24, false)⟩,
  ⟨some 29, .load false 1 false (.tmp 28), some (24, false)⟩,
  ⟨some 30, .arith .gtr (.tmp 29) (.cst (.int .i64 1099511627776)), some (24, false)⟩,
  ⟨some 31, .pick (.tmp 24) (.cst (.bool true)) (.tmp 30), none⟩] :: K) fr S := rfl
def ref11_rows_r7 : List POper := [
  ⟨some 2, .mov (.cst (.int .i64 2)), none⟩]
@[simp] theorem ref11_rows_r7_go (T : Tbl) (K : List Kt) (fr : Fr) (S : St) : gval T (.ops ref11_rows_r7 :: K) fr S = gval T (.ops [
  ⟨some 2, .mov (.cst (.int .i64 2)), none⟩] :: K) fr S := rfl
def ref11_rows_r8 : List POper := [
  ⟨some 32, .mov (.tmp 0), none⟩,
  ⟨some 33, .mov (.tmp 3), none⟩,
  ⟨some 34, .iaddr 3 (.tmp 32) (.tmp 33), none⟩,
  ⟨some 35, .faddr 1 (.tmp 34), none⟩,
  ⟨some 36, .load true 2 false (.tmp 35), none⟩,
  ⟨some 37, .call .std 329 [(.tmp 36)], none⟩,
  ⟨some 38, .un .not (.tmp 37), none⟩]
@[simp] theorem ref11_rows_r8_go (T : Tbl) (K : List Kt) (fr : Fr) (S : St) : gval T (.ops ref11_rows_r8 :: K) fr S = gval T (.ops [
  ⟨some 32, .mov (.tmp 0), none⟩,
  ⟨some 33, .mov (.tmp 3), none⟩,
  ⟨some 34, .iaddr 3 (.tmp 32) (.tmp 33), none⟩,
  ⟨some 35, .faddr 1 (.tmp 34), none⟩,
  ⟨some 36, .load true 2 false (.tmp 35), none⟩,
  ⟨some 37, .call .std 329 [(.tmp 36)], none⟩,
  ⟨some 38, .un .not (.tmp 37), none⟩] :: K) fr S := rfl
def ref11_rows_r9 : List POper := [
  ⟨some 2, .mov (.cst (.int .i64 11)), none⟩]
@[simp] theorem ref11_rows_r9_go (T : Tbl) (K : List Kt) (fr : Fr) (S : St) : gval T (.ops ref11_rows_r9 :: K) fr S = gval T (.ops [
  ⟨some 2, .mov (.cst (.int .i64 11)), none⟩] :: K) fr S := rfl
def ref11_rows_r5 : List POper := [
  ⟨some 16, .mov (.tmp 3), none⟩,
  ⟨some 17, .arith .add (.tmp 16) (.cst (.int .i64 1)), none⟩,
  ⟨some 3, .mov (.tmp 17), none⟩]
@[simp] theorem ref11_rows_r5_go (T : Tbl) (K : List Kt) (fr : Fr) (S : St) : gval T (.ops ref11_rows_r5 :: K) fr S = gval T (.ops [
  ⟨some 16, .mov (.tmp 3), none⟩,
  ⟨some 17, .arith .add (.tmp 16) (.cst (.int .i64 1)), none⟩,
  ⟨some 3, .mov (.tmp 17), none⟩] :: K) fr S := rfl
def ref11_rows_l0 : PCode :=
  (.seq (.seq (.clr [(12, 15)] (.region ref11_rows_r4)) (.cond (.tmp 15) .skip (.exit 0))) (.seq (.block 1 (.seq (.seq (.clr [(18, 31)] (.region ref11_rows_r6)) (.cond (.tmp 31) (.seq (.region ref11_rows_r7) .ret) .skip)) (.seq (.clr [(32, 38)] (.region ref11_rows_r8)) (.cond (.tmp 38) (.seq (.region ref11_rows_r9) .ret) .skip)))) (.clr [(16, 18)] (.region ref11_rows_r5))))
@[simp] theorem ref11_rows_l0_go (T : Tbl) (K : List Kt) (fr : Fr) (S : St) : gval T (.code ref11_rows_l0 :: K) fr S = gval T (.code (.seq (.seq (.clr [(12, 15)] (.region ref11_rows_r4)) (.cond (.tmp 15) .skip (.exit 0))) (.seq (.block 1 (.seq (.seq (.clr [(18, 31)] (.region ref11_rows_r6)) (.cond (.tmp 31) (.seq (.region ref11_rows_r7) .ret) .skip)) (.seq (.clr [(32, 38)] (.region ref11_rows_r8)) (.cond (.tmp 38) (.seq (.region ref11_rows_r9) .ret) .skip)))) (.clr [(16, 18)] (.region ref11_rows_r5)))) :: K) fr S := rfl
def ref11_rows_r10 : List POper := [
  ⟨some 2, .mov (.cst (.int .i64 0)), none⟩]
@[simp] theorem ref11_rows_r10_go (T : Tbl) (K : List Kt) (fr : Fr) (S : St) : gval T (.ops ref11_rows_r10 :: K) fr S = gval T (.ops [
  ⟨some 2, .mov (.cst (.int .i64 0)), none⟩] :: K) fr S := rfl
def ref11_rows : PCodeFn :=
  ⟨1, [.tmp 2],
  (.seq (.region ref11_rows_r0) (.seq (.seq (.clr [(4, 11)] (.region ref11_rows_r1)) (.cond (.tmp 11) (.seq (.region ref11_rows_r2) .ret) .skip)) (.seq (.seq (.region ref11_rows_r3) (.block 0 (.loop ref11_rows_l0))) (.seq (.region ref11_rows_r10) .ret)))), false⟩

/-! gauge/gaugeref09.Check: 282 -/
def ref09_Check_r0 : List POper := [
  ⟨some 2, .mov (.cst (.int .i64 0)), none⟩]
@[simp] theorem ref09_Check_r0_go (T : Tbl) (K : List Kt) (fr : Fr) (S : St) : gval T (.ops ref09_Check_r0 :: K) fr S = gval T (.ops [
  ⟨some 2, .mov (.cst (.int .i64 0)), none⟩] :: K) fr S := rfl
def ref09_Check_r1 : List POper := [
  ⟨some 4, .mov (.tmp 0), none⟩,
  ⟨some 5, .len false (.tmp 4), none⟩,
  ⟨some 6, .arith .gtr (.tmp 5) (.cst (.int .i64 1024)), none⟩]
@[simp] theorem ref09_Check_r1_go (T : Tbl) (K : List Kt) (fr : Fr) (S : St) : gval T (.ops ref09_Check_r1 :: K) fr S = gval T (.ops [
  ⟨some 4, .mov (.tmp 0), none⟩,
  ⟨some 5, .len false (.tmp 4), none⟩,
  ⟨some 6, .arith .gtr (.tmp 5) (.cst (.int .i64 1024)), none⟩] :: K) fr S := rfl
def ref09_Check_r2 : List POper := [
  ⟨some 2, .mov (.cst (.int .i64 3)), none⟩]
@[simp] theorem ref09_Check_r2_go (T : Tbl) (K : List Kt) (fr : Fr) (S : St) : gval T (.ops ref09_Check_r2 :: K) fr S = gval T (.ops [
  ⟨some 2, .mov (.cst (.int .i64 3)), none⟩] :: K) fr S := rfl
def ref09_Check_r3 : List POper := [
  ⟨some 3, .mov (.cst (.int .i64 0)), none⟩]
@[simp] theorem ref09_Check_r3_go (T : Tbl) (K : List Kt) (fr : Fr) (S : St) : gval T (.ops ref09_Check_r3 :: K) fr S = gval T (.ops [
  ⟨some 3, .mov (.cst (.int .i64 0)), none⟩] :: K) fr S := rfl
def ref09_Check_r4 : List POper := [
  ⟨some 7, .mov (.tmp 3), none⟩,
  ⟨some 8, .mov (.tmp 0), none⟩,
  ⟨some 9, .len false (.tmp 8), none⟩,
  ⟨some 10, .arith .lss (.tmp 7) (.tmp 9), none⟩]
@[simp] theorem ref09_Check_r4_go (T : Tbl) (K : List Kt) (fr : Fr) (S : St) : gval T (.ops ref09_Check_r4 :: K) fr S = gval T (.ops [
  ⟨some 7, .mov (.tmp 3), none⟩,
  ⟨some 8, .mov (.tmp 0), none⟩,
  ⟨some 9, .len false (.tmp 8), none⟩,
  ⟨some 10, .arith .lss (.tmp 7) (.tmp 9), none⟩] :: K) fr S := rfl
def ref09_Check_r6 : List POper := [
  ⟨some 13, .mov (.tmp 0), none⟩,
  ⟨some 14, .mov (.tmp 3), none⟩,
  ⟨some 15, .iaddr 1 (.tmp 13) (.tmp 14), none⟩,
  ⟨some 16, .load false 1 false (.tmp 15), none⟩,
  ⟨some 17, .arith .lss (.tmp 16) (.cst (.int .i64 0)), none⟩,
  ⟨some 18, .mov (.tmp 17), none⟩,
  ⟨some 19, .mov (.tmp 0), some (18, false)⟩,
  ⟨some 20, .mov (.tmp 3), some (18, false)⟩,
  ⟨some 21, .iaddr 1 (.tmp 19) (.tmp 20), some (18, false)⟩,
  ⟨some 22, .load false 1 false (.tmp 21), some (18, false)⟩,
  ⟨some 23, .arith .gtr (.tmp 22) (.cst (.int .i64 1099511627776)), some (18, false)⟩,
  ⟨some 24, .pick (.tmp 18) (.cst (.bool true)) (.tmp 23), none⟩]
@[simp] theorem ref09_Check_r6_go (T : Tbl) (K : List Kt) (fr : Fr) (S : St) : gval T (.ops ref09_Check_r6 :: K) fr S = gval T (.ops [
  ⟨some 13, .mov (.tmp 0), none⟩,
  ⟨some 14, .mov (.tmp 3), none⟩,
  ⟨some 15, .iaddr 1 (.tmp 13) (.tmp 14), none⟩,
  ⟨some 16, .load false 1 false (.tmp 15), none⟩,
  ⟨some 17, .arith .lss (.tmp 16) (.cst (.int .i64 0)), none⟩,
  ⟨some 18, .mov (.tmp 17), none⟩,
  ⟨some 19, .mov (.tmp 0), some (18, false)⟩,
  ⟨some 20, .mov (.tmp 3), some (18, false)⟩,
  ⟨some 21, .iaddr 1 (.tmp 19) (.tmp 20), some (18, false)⟩,
  ⟨some 22, .load false 1 false (.tmp 21), some (18, false)⟩,
  ⟨some 23, .arith .gtr (.tmp 22) (.cst (.int .i64 1099511627776)), some (18, false)⟩,
  ⟨some 24, .pick (.tmp 18) (.cst (.bool true)) (.tmp 23), none⟩] :: K) fr S := rfl
def ref09_Check_r7 : List POper := [
  ⟨some 2, .mov (.cst (.int .i64 2)), none⟩]
@[simp] theorem ref09_Check_r7_go (T : Tbl) (K : List Kt) (fr : Fr) (S : St) : gval T (.ops ref09_Check_r7 :: K) fr S = gval T (.ops [
  ⟨some 2, .mov (.cst (.int .i64 2)), none⟩] :: K) fr S := rfl
def ref09_Check_r8 : List POper := [
  ⟨some 25, .mov (.tmp 3), none⟩,
  ⟨some 26, .arith .gtr (.tmp 25) (.cst (.int .i64 0)), none⟩,
  ⟨some 27, .mov (.tmp 26), none⟩,
  ⟨some 28, .mov (.tmp 0), some (27, true)⟩,
  ⟨some 29, .mov (.tmp 3), some (27, true)⟩,
  ⟨some 30, .iaddr 1 (.tmp 28) (.tmp 29), some (27, true)⟩,
  ⟨some 31, .load false 1 true (.tmp 30), some (27, true)⟩,
  ⟨some 32, .mov (.tmp 0), some (27, true)⟩,
  ⟨some 33, .mov (.tmp 3), some (27, true)⟩,
  ⟨some 34, .arith .sub (.tmp 33) (.cst (.int .i64 1)), some (27, true)⟩,
  ⟨some 35, .iaddr 1 (.tmp 32) (.tmp 34), some (27, true)⟩,
  ⟨some 36, .load false 1 true (.tmp 35), some (27, true)⟩,
  ⟨some 37, .arith .leq (.tmp 31) (.tmp 36), some (27, true)⟩,
  ⟨some 38, .pick (.tmp 27) (.tmp 37) (.cst (.bool false)), none⟩]
@[simp] theorem ref09_Check_r8_go (T : Tbl) (K : List Kt) (fr : Fr) (S : St) : gval T (.ops ref09_Check_r8 :: K) fr S = gval T (.ops [
  ⟨some 25, .mov (.tmp 3), none⟩,
  ⟨some 26, .arith .gtr (.tmp 25) (.cst (.int .i64 0)), none⟩,
  ⟨some 27, .mov (.tmp 26), none⟩,
  ⟨some 28, .mov (.tmp 0), some (27, true)⟩,
  ⟨some 29, .mov (.tmp 3), some (27, true)⟩,
  ⟨some 30, .iaddr 1 (.tmp 28) (.tmp 29), some (27, true)⟩,
  ⟨some 31, .load false 1 true (.tmp 30), some (27, true)⟩,
  ⟨some 32, .mov (.tmp 0), some (27, true)⟩,
  ⟨some 33, .mov (.tmp 3), some (27, true)⟩,
  ⟨some 34, .arith .sub (.tmp 33) (.cst (.int .i64 1)), some (27, true)⟩,
  ⟨some 35, .iaddr 1 (.tmp 32) (.tmp 34), some (27, true)⟩,
  ⟨some 36, .load false 1 true (.tmp 35), some (27, true)⟩,
  ⟨some 37, .arith .leq (.tmp 31) (.tmp 36), some (27, true)⟩,
  ⟨some 38, .pick (.tmp 27) (.tmp 37) (.cst (.bool false)), none⟩] :: K) fr S := rfl
def ref09_Check_r9 : List POper := [
  ⟨some 2, .mov (.cst (.int .i64 13)), none⟩]
@[simp] theorem ref09_Check_r9_go (T : Tbl) (K : List Kt) (fr : Fr) (S : St) : gval T (.ops ref09_Check_r9 :: K) fr S = gval T (.ops [
  ⟨some 2, .mov (.cst (.int .i64 13)), none⟩] :: K) fr S := rfl
def ref09_Check_r5 : List POper := [
  ⟨some 11, .mov (.tmp 3), none⟩,
  ⟨some 12, .arith .add (.tmp 11) (.cst (.int .i64 1)), none⟩,
  ⟨some 3, .mov (.tmp 12), none⟩]
@[simp] theorem ref09_Check_r5_go (T : Tbl) (K : List Kt) (fr : Fr) (S : St) : gval T (.ops ref09_Check_r5 :: K) fr S = gval T (.ops [
  ⟨some 11, .mov (.tmp 3), none⟩,
  ⟨some 12, .arith .add (.tmp 11) (.cst (.int .i64 1)), none⟩,
  ⟨some 3, .mov (.tmp 12), none⟩] :: K) fr S := rfl
def ref09_Check_l0 : PCode :=
  (.seq (.seq (.clr [(7, 10)] (.region ref09_Check_r4)) (.cond (.tmp 10) .skip (.exit 0))) (.seq (.block 1 (.seq (.seq (.clr [(13, 24)] (.region ref09_Check_r6)) (.cond (.tmp 24) (.seq (.region ref09_Check_r7) .ret) .skip)) (.seq (.clr [(25, 38)] (.region ref09_Check_r8)) (.cond (.tmp 38) (.seq (.region ref09_Check_r9) .ret) .skip)))) (.clr [(11, 13)] (.region ref09_Check_r5))))
@[simp] theorem ref09_Check_l0_go (T : Tbl) (K : List Kt) (fr : Fr) (S : St) : gval T (.code ref09_Check_l0 :: K) fr S = gval T (.code (.seq (.seq (.clr [(7, 10)] (.region ref09_Check_r4)) (.cond (.tmp 10) .skip (.exit 0))) (.seq (.block 1 (.seq (.seq (.clr [(13, 24)] (.region ref09_Check_r6)) (.cond (.tmp 24) (.seq (.region ref09_Check_r7) .ret) .skip)) (.seq (.clr [(25, 38)] (.region ref09_Check_r8)) (.cond (.tmp 38) (.seq (.region ref09_Check_r9) .ret) .skip)))) (.clr [(11, 13)] (.region ref09_Check_r5)))) :: K) fr S := rfl
def ref09_Check_r10 : List POper := [
  ⟨some 2, .mov (.cst (.int .i64 0)), none⟩]
@[simp] theorem ref09_Check_r10_go (T : Tbl) (K : List Kt) (fr : Fr) (S : St) : gval T (.ops ref09_Check_r10 :: K) fr S = gval T (.ops [
  ⟨some 2, .mov (.cst (.int .i64 0)), none⟩] :: K) fr S := rfl
def ref09_Check : PCodeFn :=
  ⟨1, [.tmp 2],
  (.seq (.region ref09_Check_r0) (.seq (.seq (.clr [(4, 6)] (.region ref09_Check_r1)) (.cond (.tmp 6) (.seq (.region ref09_Check_r2) .ret) .skip)) (.seq (.seq (.region ref09_Check_r3) (.block 0 (.loop ref09_Check_l0))) (.seq (.region ref09_Check_r10) .ret)))), false⟩

/-! gauge/gaugeref09.Same: 175 -/
def ref09_Same_r0 : List POper := [
  ⟨some 4, .mov (.cst (.bool false)), none⟩]
@[simp] theorem ref09_Same_r0_go (T : Tbl) (K : List Kt) (fr : Fr) (S : St) : gval T (.ops ref09_Same_r0 :: K) fr S = gval T (.ops [
  ⟨some 4, .mov (.cst (.bool false)), none⟩] :: K) fr S := rfl
def ref09_Same_r1 : List POper := [
  ⟨some 6, .mov (.tmp 0), none⟩,
  ⟨some 7, .len false (.tmp 6), none⟩,
  ⟨some 8, .mov (.tmp 1), none⟩,
  ⟨some 9, .len false (.tmp 8), none⟩,
  ⟨some 10, .arith .neq (.tmp 7) (.tmp 9), none⟩]
@[simp] theorem ref09_Same_r1_go (T : Tbl) (K : List Kt) (fr : Fr) (S : St) : gval T (.ops ref09_Same_r1 :: K) fr S = gval T (.ops [
  ⟨some 6, .mov (.tmp 0), none⟩,
  ⟨some 7, .len false (.tmp 6), none⟩,
  ⟨some 8, .mov (.tmp 1), none⟩,
  ⟨some 9, .len false (.tmp 8), none⟩,
  ⟨some 10, .arith .neq (.tmp 7) (.tmp 9), none⟩] :: K) fr S := rfl
def ref09_Same_r2 : List POper := [
  ⟨some 4, .mov (.cst (.bool false)), none⟩]
@[simp] theorem ref09_Same_r2_go (T : Tbl) (K : List Kt) (fr : Fr) (S : St) : gval T (.ops ref09_Same_r2 :: K) fr S = gval T (.ops [
  ⟨some 4, .mov (.cst (.bool false)), none⟩] :: K) fr S := rfl
def ref09_Same_r3 : List POper := [
  ⟨some 5, .mov (.cst (.int .i64 0)), none⟩]
@[simp] theorem ref09_Same_r3_go (T : Tbl) (K : List Kt) (fr : Fr) (S : St) : gval T (.ops ref09_Same_r3 :: K) fr S = gval T (.ops [
  ⟨some 5, .mov (.cst (.int .i64 0)), none⟩] :: K) fr S := rfl
def ref09_Same_r4 : List POper := [
  ⟨some 11, .mov (.tmp 5), none⟩,
  ⟨some 12, .mov (.tmp 0), none⟩,
  ⟨some 13, .len false (.tmp 12), none⟩,
  ⟨some 14, .arith .lss (.tmp 11) (.tmp 13), none⟩]
@[simp] theorem ref09_Same_r4_go (T : Tbl) (K : List Kt) (fr : Fr) (S : St) : gval T (.ops ref09_Same_r4 :: K) fr S = gval T (.ops [
  ⟨some 11, .mov (.tmp 5), none⟩,
  ⟨some 12, .mov (.tmp 0), none⟩,
  ⟨some 13, .len false (.tmp 12), none⟩,
  ⟨some 14, .arith .lss (.tmp 11) (.tmp 13), none⟩] :: K) fr S := rfl
def ref09_Same_r6 : List POper := [
  ⟨some 17, .mov (.tmp 0), none⟩,
  ⟨some 18, .mov (.tmp 5), none⟩,
  ⟨some 19, .iaddr 1 (.tmp 17) (.tmp 18), none⟩,
  ⟨some 20, .load false 1 true (.tmp 19), none⟩,
  ⟨some 21, .mov (.tmp 1), none⟩,
  ⟨some 22, .mov (.tmp 5), none⟩,
  ⟨some 23, .iaddr 1 (.tmp 21) (.tmp 22), none⟩,
  ⟨some 24, .load false 1 true (.tmp 23), none⟩,
  ⟨some 25, .arith .neq (.tmp 20) (.tmp 24), none⟩]
@[simp] theorem ref09_Same_r6_go (T : Tbl) (K : List Kt) (fr : Fr) (S : St) : gval T (.ops ref09_Same_r6 :: K) fr S = gval T (.ops [
  ⟨some 17, .mov (.tmp 0), none⟩,
  ⟨some 18, .mov (.tmp 5), none⟩,
  ⟨some 19, .iaddr 1 (.tmp 17) (.tmp 18), none⟩,
  ⟨some 20, .load false 1 true (.tmp 19), none⟩,
  ⟨some 21, .mov (.tmp 1), none⟩,
  ⟨some 22, .mov (.tmp 5), none⟩,
  ⟨some 23, .iaddr 1 (.tmp 21) (.tmp 22), none⟩,
  ⟨some 24, .load false 1 true (.tmp 23), none⟩,
  ⟨some 25, .arith .neq (.tmp 20) (.tmp 24), none⟩] :: K) fr S := rfl
def ref09_Same_r7 : List POper := [
  ⟨some 4, .mov (.cst (.bool false)), none⟩]
@[simp] theorem ref09_Same_r7_go (T : Tbl) (K : List Kt) (fr : Fr) (S : St) : gval T (.ops ref09_Same_r7 :: K) fr S = gval T (.ops [
  ⟨some 4, .mov (.cst (.bool false)), none⟩] :: K) fr S := rfl
def ref09_Same_r5 : List POper := [
  ⟨some 15, .mov (.tmp 5), none⟩,
  ⟨some 16, .arith .add (.tmp 15) (.cst (.int .i64 1)), none⟩,
  ⟨some 5, .mov (.tmp 16), none⟩]
@[simp] theorem ref09_Same_r5_go (T : Tbl) (K : List Kt) (fr : Fr) (S : St) : gval T (.ops ref09_Same_r5 :: K) fr S = gval T (.ops [
  ⟨some 15, .mov (.tmp 5), none⟩,
  ⟨some 16, .arith .add (.tmp 15) (.cst (.int .i64 1)), none⟩,
  ⟨some 5, .mov (.tmp 16), none⟩] :: K) fr S := rfl
def ref09_Same_l0 : PCode :=
  (.seq (.seq (.clr [(11, 14)] (.region ref09_Same_r4)) (.cond (.tmp 14) .skip (.exit 0))) (.seq (.block 1 (.seq (.clr [(17, 25)] (.region ref09_Same_r6)) (.cond (.tmp 25) (.seq (.region ref09_Same_r7) .ret) .skip))) (.clr [(15, 17)] (.region ref09_Same_r5))))
@[simp] theorem ref09_Same_l0_go (T : Tbl) (K : List Kt) (fr : Fr) (S : St) : gval T (.code ref09_Same_l0 :: K) fr S = gval T (.code (.seq (.seq (.clr [(11, 14)] (.region ref09_Same_r4)) (.cond (.tmp 14) .skip (.exit 0))) (.seq (.block 1 (.seq (.clr [(17, 25)] (.region ref09_Same_r6)) (.cond (.tmp 25) (.seq (.region ref09_Same_r7) .ret) .skip))) (.clr [(15, 17)] (.region ref09_Same_r5)))) :: K) fr S := rfl
def ref09_Same_r8 : List POper := [
  ⟨some 4, .mov (.cst (.bool true)), none⟩]
@[simp] theorem ref09_Same_r8_go (T : Tbl) (K : List Kt) (fr : Fr) (S : St) : gval T (.ops ref09_Same_r8 :: K) fr S = gval T (.ops [
  ⟨some 4, .mov (.cst (.bool true)), none⟩] :: K) fr S := rfl
def ref09_Same : PCodeFn :=
  ⟨2, [.tmp 4],
  (.seq (.region ref09_Same_r0) (.seq (.seq (.clr [(6, 10)] (.region ref09_Same_r1)) (.cond (.tmp 10) (.seq (.region ref09_Same_r2) .ret) .skip)) (.seq (.seq (.region ref09_Same_r3) (.block 0 (.loop ref09_Same_l0))) (.seq (.region ref09_Same_r8) .ret)))), false⟩

/-! gauge/gaugeref06.Same: 26 -/
def ref06_Same_r0 : List POper := [
  ⟨some 4, .mov (.cst (.bool false)), none⟩]
@[simp] theorem ref06_Same_r0_go (T : Tbl) (K : List Kt) (fr : Fr) (S : St) : gval T (.ops ref06_Same_r0 :: K) fr S = gval T (.ops [
  ⟨some 4, .mov (.cst (.bool false)), none⟩] :: K) fr S := rfl
def ref06_Same_r1 : List POper := [
  ⟨some 5, .mov (.tmp 0), none⟩,
  ⟨some 6, .mov (.tmp 1), none⟩,
  ⟨some 7, .call .std 102 [(.tmp 5), (.tmp 6)], none⟩,
  ⟨some 8, .arith .eql (.tmp 7) (.cst (.int .i64 0)), none⟩,
  ⟨some 4, .mov (.tmp 8), none⟩]
@[simp] theorem ref06_Same_r1_go (T : Tbl) (K : List Kt) (fr : Fr) (S : St) : gval T (.ops ref06_Same_r1 :: K) fr S = gval T (.ops [
  ⟨some 5, .mov (.tmp 0), none⟩,
  ⟨some 6, .mov (.tmp 1), none⟩,
  ⟨some 7, .call .std 102 [(.tmp 5), (.tmp 6)], none⟩,
  ⟨some 8, .arith .eql (.tmp 7) (.cst (.int .i64 0)), none⟩,
  ⟨some 4, .mov (.tmp 8), none⟩] :: K) fr S := rfl
def ref06_Same : PCodeFn :=
  ⟨2, [.tmp 4],
  (.seq (.region ref06_Same_r0) (.seq (.clr [(5, 9)] (.region ref06_Same_r1)) .ret)), false⟩

/-! (*gauge/wal.reader).uint: 243 -/
def wal_reader_uint_r0 : List POper := [
  ⟨some 2, .mov (.cst (.int .i64 0)), none⟩]
@[simp] theorem wal_reader_uint_r0_go (T : Tbl) (K : List Kt) (fr : Fr) (S : St) : gval T (.ops wal_reader_uint_r0 :: K) fr S = gval T (.ops [
  ⟨some 2, .mov (.cst (.int .i64 0)), none⟩] :: K) fr S := rfl
def wal_reader_uint_r1 : List POper := [
  ⟨some 6, .mov (.tmp 0), none⟩,
  ⟨some 7, .nilck (.tmp 6), none⟩,
  ⟨some 8, .faddr 2 (.tmp 7), none⟩,
  ⟨some 9, .load false 1 false (.tmp 8), none⟩]
@[simp] theorem wal_reader_uint_r1_go (T : Tbl) (K : List Kt) (fr : Fr) (S : St) : gval T (.ops wal_reader_uint_r1 :: K) fr S = gval T (.ops [
  ⟨some 6, .mov (.tmp 0), none⟩,
  ⟨some 7, .nilck (.tmp 6), none⟩,
  ⟨some 8, .faddr 2 (.tmp 7), none⟩,
  ⟨some 9, .load false 1 false (.tmp 8), none⟩] :: K) fr S := rfl
def wal_reader_uint_r2 : List POper := [
  ⟨some 2, .mov (.cst (.int .i64 0)), none⟩]
@[simp] theorem wal_reader_uint_r2_go (T : Tbl) (K : List Kt) (fr : Fr) (S : St) : gval T (.ops wal_reader_uint_r2 :: K) fr S = gval T (.ops [
  ⟨some 2, .mov (.cst (.int .i64 0)), none⟩] :: K) fr S := rfl
def wal_reader_uint_r3 : List POper := [
  ⟨some 11, .mov (.tmp 0), none⟩,
  ⟨some 12, .nilck (.tmp 11), none⟩,
  ⟨some 13, .faddr 0 (.tmp 12), none⟩,
  ⟨some 14, .load false 1 false (.tmp 13), none⟩,
  ⟨some 15, .mov (.tmp 0), none⟩,
  ⟨some 16, .nilck (.tmp 15), none⟩,
  ⟨some 17, .faddr 1 (.tmp 16), none⟩,
  ⟨some 18, .load false 1 false (.tmp 17), none⟩,
  ⟨some 19, .call .std 110 [(.tmp 14), (.tmp 18)], none⟩,
  ⟨some 10, .mov (.tmp 19), none⟩,
  ⟨some 20, .extract 0 (.tmp 10), none⟩,
  ⟨some 21, .extract 1 (.tmp 10), none⟩,
  ⟨some 22, .extract 2 (.tmp 10), none⟩,
  ⟨some 3, .mov (.tmp 20), none⟩,
  ⟨some 4, .mov (.tmp 21), none⟩,
  ⟨some 5, .mov (.tmp 22), none⟩]
@[simp] theorem wal_reader_uint_r3_go (T : Tbl) (K : List Kt) (fr : Fr) (S : St) : gval T (.ops wal_reader_uint_r3 :: K) fr S = gval T (.ops [
  ⟨some 11, .mov (.tmp 0), none⟩,
  ⟨some 12, .nilck (.tmp 11), none⟩,
  ⟨some 13, .faddr 0 (.tmp 12), none⟩,
  ⟨some 14, .load false 1 false (.tmp 13), none⟩,
  ⟨some 15, .mov (.tmp 0), none⟩,
  ⟨some 16, .nilck (.tmp 15), none⟩,
  ⟨some 17, .faddr 1 (.tmp 16), none⟩,
  ⟨some 18, .load false 1 false (.tmp 17), none⟩,
  ⟨some 19, .call .std 110 [(.tmp 14), (.tmp 18)], none⟩,
  ⟨some 10, .mov (.tmp 19), none⟩,
  ⟨some 20, .extract 0 (.tmp 10), none⟩,
  ⟨some 21, .extract 1 (.tmp 10), none⟩,
  ⟨some 22, .extract 2 (.tmp 10), none⟩,
  ⟨some 3, .mov (.tmp 20), none⟩,
  ⟨some 4, .mov (.tmp 21), none⟩,
  ⟨some 5, .mov (.tmp 22), none⟩] :: K) fr S := rfl
def wal_reader_uint_r4 : List POper := [
  ⟨some 23, .mov (.tmp 5), none⟩,
  ⟨some 24, .arith .neq (.tmp 23) (.cst (.int .i64 0)), none⟩]
@[simp] theorem wal_reader_uint_r4_go (T : Tbl) (K : List Kt) (fr : Fr) (S : St) : gval T (.ops wal_reader_uint_r4 :: K) fr S = gval T (.ops [
  ⟨some 23, .mov (.tmp 5), none⟩,
  ⟨some 24, .arith .neq (.tmp 23) (.cst (.int .i64 0)), none⟩] :: K) fr S := rfl
def wal_reader_uint_r5 : List POper := [
  ⟨some 25, .mov (.tmp 0), none⟩,
  ⟨some 26, .nilck (.tmp 25), none⟩,
  ⟨some 27, .faddr 2 (.tmp 26), none⟩,
  ⟨none, .store 1 (.tmp 27) (.cst (.bool true)), none⟩]
@[simp] theorem wal_reader_uint_r5_go (T : Tbl) (K : List Kt) (fr : Fr) (S : St) : gval T (.ops wal_reader_uint_r5 :: K) fr S = gval T (.ops [
  ⟨some 25, .mov (.tmp 0), none⟩,
  ⟨some 26, .nilck (.tmp 25), none⟩,
  ⟨some 27, .faddr 2 (.tmp 26), none⟩,
  ⟨none, .store 1 (.tmp 27) (.cst (.bool true)), none⟩] :: K) fr S := rfl
def wal_reader_uint_r6 : List POper := [
  ⟨some 2, .mov (.cst (.int .i64 0)), none⟩]
@[simp] theorem wal_reader_uint_r6_go (T : Tbl) (K : List Kt) (fr : Fr) (S : St) : gval T (.ops wal_reader_uint_r6 :: K) fr S = gval T (.ops [
  ⟨some 2, .mov (.cst (.int .i64 0)), none⟩] :: K) fr S := rfl
def wal_reader_uint_r7 : List POper := [
  ⟨some 28, .mov (.tmp 0), none⟩,
  ⟨some 29, .mov (.tmp 4), none⟩,
  ⟨some 30, .nilck (.tmp 28), none⟩,
  ⟨some 31, .faddr 1 (.tmp 30), none⟩,
  ⟨none, .store 1 (.tmp 31) (.tmp 29), none⟩]
@[simp] theorem wal_reader_uint_r7_go (T : Tbl) (K : List Kt) (fr : Fr) (S : St) : gval T (.ops wal_reader_uint_r7 :: K) fr S = gval T (.ops [
  ⟨some 28, .mov (.tmp 0), none⟩,
  ⟨some 29, .mov (.tmp 4), none⟩,
  ⟨some 30, .nilck (.tmp 28), none⟩,
  ⟨some 31, .faddr 1 (.tmp 30), none⟩,
  ⟨none, .store 1 (.tmp 31) (.tmp 29), none⟩] :: K) fr S := rfl
def wal_reader_uint_r8 : List POper := [
  ⟨some 32, .mov (.tmp 3), none⟩,
  ⟨some 2, .mov (.tmp 32), none⟩]
@[simp] theorem wal_reader_uint_r8_go (T : Tbl) (K : List Kt) (fr : Fr) (S : St) : gval T (.ops wal_reader_uint_r8 :: K) fr S = gval T (.ops [
  ⟨some 32, .mov (.tmp 3), none⟩,
  ⟨some 2, .mov (.tmp 32), none⟩] :: K) fr S := rfl
def wal_reader_uint : PCodeFn :=
  ⟨1, [.tmp 2],
  (.seq (.region wal_reader_uint_r0) (.seq (.seq (.clr [(6, 9)] (.region wal_reader_uint_r1)) (.cond (.tmp 9) (.seq (.region wal_reader_uint_r2) .ret) .skip)) (.seq (.clr [(10, 23)] (.region wal_reader_uint_r3)) (.seq (.seq (.clr [(23, 24)] (.region wal_reader_uint_r4)) (.cond (.tmp 24) (.seq (.clr [(25, 28)] (.region wal_reader_uint_r5)) (.seq (.region wal_reader_uint_r6) .ret)) .skip)) (.seq (.clr [(28, 32)] (.region wal_reader_uint_r7)) (.seq (.clr [(32, 33)] (.region wal_reader_uint_r8)) .ret)))))), false⟩

/-! gauge/label.Read: 31 -/
def label_Read_r0 : List POper := [
  ⟨some 4, .mov (.cst .nils), none⟩,
  ⟨some 5, .mov (.cst (.int .i64 0)), none⟩,
  ⟨some 6, .mov (.cst (.int .i64 0)), none⟩]
@[simp] theorem label_Read_r0_go (T : Tbl) (K : List Kt) (fr : Fr) (S : St) : gval T (.ops label_Read_r0 :: K) fr S = gval T (.ops [
  ⟨some 4, .mov (.cst .nils), none⟩,
  ⟨some 5, .mov (.cst (.int .i64 0)), none⟩,
  ⟨some 6, .mov (.cst (.int .i64 0)), none⟩] :: K) fr S := rfl
def label_Read_r1 : List POper := [
  ⟨some 12, .mov (.tmp 0), none⟩,
  ⟨some 13, .mov (.tmp 1), none⟩,
  ⟨some 14, .call .std 110 [(.tmp 12), (.tmp 13)], none⟩,
  ⟨some 11, .mov (.tmp 14), none⟩,
  ⟨some 15, .extract 0 (.tmp 11), none⟩,
  ⟨some 16, .extract 1 (.tmp 11), none⟩,
  ⟨some 17, .extract 2 (.tmp 11), none⟩,
  ⟨some 7, .mov (.tmp 15), none⟩,
  ⟨some 1, .mov (.tmp 16), none⟩,
  ⟨some 8, .mov (.tmp 17), none⟩]
@[simp] theorem label_Read_r1_go (T : Tbl) (K : List Kt) (fr : Fr) (S : St) : gval T (.ops label_Read_r1 :: K) fr S = gval T (.ops [
  ⟨some 12, .mov (.tmp 0), none⟩,
  ⟨some 13, .mov (.tmp 1), none⟩,
  ⟨some 14, .call .std 110 [(.tmp 12), (.tmp 13)], none⟩,
  ⟨some 11, .mov (.tmp 14), none⟩,
  ⟨some 15, .extract 0 (.tmp 11), none⟩,
  ⟨some 16, .extract 1 (.tmp 11), none⟩,
  ⟨some 17, .extract 2 (.tmp 11), none⟩,
  ⟨some 7, .mov (.tmp 15), none⟩,
  ⟨some 1, .mov (.tmp 16), none⟩,
  ⟨some 8, .mov (.tmp 17), none⟩] :: K) fr S := rfl
def label_Read_r2 : List POper := [
  ⟨some 18, .mov (.tmp 8), none⟩,
  ⟨some 19, .arith .eql (.tmp 18) (.cst (.int .i64 0)), none⟩,
  ⟨some 20, .mov (.tmp 19), none⟩,
  ⟨some 21, .mov (.tmp 7), some (20, true)⟩,
  ⟨some 22, .arith .gtr (.tmp 21) (.cst (.int .i64 8)), some (20, true)⟩,
  ⟨some 23, .pick (.tmp 20) (.tmp 22) (.cst (.bool false)), none⟩]
@[simp] theorem label_Read_r2_go (T : Tbl) (K : List Kt) (fr : Fr) (S : St) : gval T (.ops label_Read_r2 :: K) fr S = gval T (.ops [
  ⟨some 18, .mov (.tmp 8), none⟩,
  ⟨some 19, .arith .eql (.tmp 18) (.cst (.int .i64 0)), none⟩,
  ⟨some 20, .mov (.tmp 19), none⟩,
  ⟨some 21, .mov (.tmp 7), some (20, true)⟩,
  ⟨some 22, .arith .gtr (.tmp 21) (.cst (.int .i64 8)), some (20, true)⟩,
  ⟨some 23, .pick (.tmp 20) (.tmp 22) (.cst (.bool false)), none⟩] :: K) fr S := rfl
def label_Read_r3 : List POper := [
  ⟨some 8, .mov (.cst (.int .i64 3)), none⟩]
@[simp] theorem label_Read_r3_go (T : Tbl) (K : List Kt) (fr : Fr) (S : St) : gval T (.ops label_Read_r3 :: K) fr S = gval T (.ops [
  ⟨some 8, .mov (.cst (.int .i64 3)), none⟩] :: K) fr S := rfl
def label_Read_r4 : List POper := [
  ⟨some 9, .mov (.cst .nils), none⟩]
@[simp] theorem label_Read_r4_go (T : Tbl) (K : List Kt) (fr : Fr) (S : St) : gval T (.ops label_Read_r4 :: K) fr S = gval T (.ops [
  ⟨some 9, .mov (.cst .nils), none⟩] :: K) fr S := rfl
def label_Read_r5 : List POper := [
  ⟨some 24, .mov (.tmp 8), none⟩,
  ⟨some 25, .arith .eql (.tmp 24) (.cst (.int .i64 0)), none⟩,
  ⟨some 26, .mov (.tmp 25), none⟩,
  ⟨some 27, .mov (.tmp 9), some (26, true)⟩,
  ⟨some 28, .len false (.tmp 27), some (26, true)⟩,
  ⟨some 29, .mov (.tmp 7), some (26, true)⟩,
  ⟨some 30, .arith .lss (.tmp 28) (.tmp 29), some (26, true)⟩,
  ⟨some 31, .pick (.tmp 26) (.tmp 30) (.cst (.bool false)), none⟩]
@[simp] theorem label_Read_r5_go (T : Tbl) (K : List Kt) (fr : Fr) (S : St) : gval T (.ops label_Read_r5 :: K) fr S = gval T (.ops [
  ⟨some 24, .mov (.tmp 8), none⟩,
  ⟨some 25, .arith .eql (.tmp 24) (.cst (.int .i64 0)), none⟩,
  ⟨some 26, .mov (.tmp 25), none⟩,
  ⟨some 27, .mov (.tmp 9), some (26, true)⟩,
  ⟨some 28, .len false (.tmp 27), some (26, true)⟩,
  ⟨some 29, .mov (.tmp 7), some (26, true)⟩,
  ⟨some 30, .arith .lss (.tmp 28) (.tmp 29), some (26, true)⟩,
  ⟨some 31, .pick (.tmp 26) (.tmp 30) (.cst (.bool false)), none⟩] :: K) fr S := rfl
def label_Read_r6 : List POper := [
  ⟨some 10, .alloc false [(.str []), (.str [])], none⟩]
@[simp] theorem label_Read_r6_go (T : Tbl) (K : List Kt) (fr : Fr) (S : St) : gval T (.ops label_Read_r6 :: K) fr S = gval T (.ops [
  ⟨some 10, .alloc false [(.str []), (.str [])], none⟩] :: K) fr S := rfl
def label_Read_r7 : List POper := [
  ⟨some 33, .mov (.tmp 0), none⟩,
  ⟨some 34, .mov (.tmp 1), none⟩,
  ⟨some 35, .call .std 111 [(.tmp 33), (.tmp 34)], none⟩,
  ⟨some 32, .mov (.tmp 35), none⟩,
  ⟨some 36, .extract 0 (.tmp 32), none⟩,
  ⟨some 37, .extract 1 (.tmp 32), none⟩,
  ⟨some 38, .extract 2 (.tmp 32), none⟩,
  ⟨some 39, .faddr 0 (.tmp 10), none⟩,
  ⟨none, .store 1 (.tmp 39) (.tmp 36), none⟩,
  ⟨some 1, .mov (.tmp 37), none⟩,
  ⟨some 8, .mov (.tmp 38), none⟩]
@[simp] theorem label_Read_r7_go (T : Tbl) (K : List Kt) (fr : Fr) (S : St) : gval T (.ops label_Read_r7 :: K) fr S = gval T (.ops [
  ⟨some 33, .mov (.tmp 0), none⟩,
  ⟨some 34, .mov (.tmp 1), none⟩,
  ⟨some 35, .call .std 111 [(.tmp 33), (.tmp 34)], none⟩,
  ⟨some 32, .mov (.tmp 35), none⟩,
  ⟨some 36, .extract 0 (.tmp 32), none⟩,
  ⟨some 37, .extract 1 (.tmp 32), none⟩,
  ⟨some 38, .extract 2 (.tmp 32), none⟩,
  ⟨some 39, .faddr 0 (.tmp 10), none⟩,
  ⟨none, .store 1 (.tmp 39) (.tmp 36), none⟩,
  ⟨some 1, .mov (.tmp 37), none⟩,
  ⟨some 8, .mov (.tmp 38), none⟩] :: K) fr S := rfl
def label_Read_r8 : List POper := [
  ⟨some 40, .mov (.tmp 8), none⟩,
  ⟨some 41, .arith .eql (.tmp 40) (.cst (.int .i64 0)), none⟩]
@[simp] theorem label_Read_r8_go (T : Tbl) (K : List Kt) (fr : Fr) (S : St) : gval T (.ops label_Read_r8 :: K) fr S = gval T (.ops [
  ⟨some 40, .mov (.tmp 8), none⟩,
  ⟨some 41, .arith .eql (.tmp 40) (.cst (.int .i64 0)), none⟩] :: K) fr S := rfl
def label_Read_r9 : List POper := [
  ⟨some 43, .mov (.tmp 0), none⟩,
  ⟨some 44, .mov (.tmp 1), none⟩,
  ⟨some 45, .call .std 111 [(.tmp 43), (.tmp 44)], none⟩,
  ⟨some 42, .mov (.tmp 45), none⟩,
  ⟨some 46, .extract 0 (.tmp 42), none⟩,
  ⟨some 47, .extract 1 (.tmp 42), none⟩,
  ⟨some 48, .extract 2 (.tmp 42), none⟩,
  ⟨some 49, .faddr 1 (.tmp 10), none⟩,
  ⟨none, .store 1 (.tmp 49) (.tmp 46), none⟩,
  ⟨some 1, .mov (.tmp 47), none⟩,
  ⟨some 8, .mov (.tmp 48), none⟩]
@[simp] theorem label_Read_r9_go (T : Tbl) (K : List Kt) (fr : Fr) (S : St) : gval T (.ops label_Read_r9 :: K) fr S = gval T (.ops [
  ⟨some 43, .mov (.tmp 0), none⟩,
  ⟨some 44, .mov (.tmp 1), none⟩,
  ⟨some 45, .call .std 111 [(.tmp 43), (.tmp 44)], none⟩,
  ⟨some 42, .mov (.tmp 45), none⟩,
  ⟨some 46, .extract 0 (.tmp 42), none⟩,
  ⟨some 47, .extract 1 (.tmp 42), none⟩,
  ⟨some 48, .extract 2 (.tmp 42), none⟩,
  ⟨some 49, .faddr 1 (.tmp 10), none⟩,
  ⟨none, .store 1 (.tmp 49) (.tmp 46), none⟩,
  ⟨some 1, .mov (.tmp 47), none⟩,
  ⟨some 8, .mov (.tmp 48), none⟩] :: K) fr S := rfl
def label_Read_r10 : List POper := [
  ⟨some 50, .mov (.tmp 9), none⟩,
  ⟨some 51, .load true 2 false (.tmp 10), none⟩,
  ⟨some 52, .bsl false (.agg [(.str []), (.str [])]) 1 [(0, (.tmp 51))], none⟩,
  ⟨some 53, .app 2 32 (.tmp 50) (.tmp 52), none⟩,
  ⟨some 9, .mov (.tmp 53), none⟩]
@[simp] theorem label_Read_r10_go (T : Tbl) (K : List Kt) (fr : Fr) (S : St) : gval T (.ops label_Read_r10 :: K) fr S = gval T (.ops [
  ⟨some 50, .mov (.tmp 9), none⟩,
  ⟨some 51, .load true 2 false (.tmp 10), none⟩,
  ⟨some 52, .bsl false (.agg [(.str []), (.str [])]) 1 [(0, (.tmp 51))], none⟩,
  ⟨some 53, .app 2 32 (.tmp 50) (.tmp 52), none⟩,
  ⟨some 9, .mov (.tmp 53), none⟩] :: K) fr S := rfl
def label_Read_l0 : PCode :=
  (.seq (.seq (.clr [(24, 31)] (.region label_Read_r5)) (.cond (.tmp 31) .skip (.exit 0))) (.block 1 (.seq (.region label_Read_r6) (.seq (.seq (.clr [(32, 40)] (.region label_Read_r7)) (.seq (.clr [(40, 41)] (.region label_Read_r8)) (.cond (.tmp 41) (.clr [(42, 50)] (.region label_Read_r9)) .skip))) (.clr [(50, 54)] (.region label_Read_r10))))))
@[simp] theorem label_Read_l0_go (T : Tbl) (K : List Kt) (fr : Fr) (S : St) : gval T (.code label_Read_l0 :: K) fr S = gval T (.code (.seq (.seq (.clr [(24, 31)] (.region label_Read_r5)) (.cond (.tmp 31) .skip (.exit 0))) (.block 1 (.seq (.region label_Read_r6) (.seq (.seq (.clr [(32, 40)] (.region label_Read_r7)) (.seq (.clr [(40, 41)] (.region label_Read_r8)) (.cond (.tmp 41) (.clr [(42, 50)] (.region label_Read_r9)) .skip))) (.clr [(50, 54)] (.region label_Read_r10)))))) :: K) fr S := rfl
def label_Read_r11 : List POper := [
  ⟨some 54, .mov (.tmp 8), none⟩,
  ⟨some 55, .arith .eql (.tmp 54) (.cst (.int .i64 0)), none⟩,
  ⟨some 56, .mov (.tmp 55), none⟩,
  ⟨some 57, .mov (.tmp 9), some (56, true)⟩,
  ⟨some 58, .call .std 40 [(.tmp 57)], some (56, true)⟩,
  ⟨some 59, .arith .neq (.tmp 58) (.cst (.int .i64 0)), some (56, true)⟩,
  ⟨some 60, .pick (.tmp 56) (.tmp 59) (.cst (.bool false)), none⟩]
@[simp] theorem label_Read_r11_go (T : Tbl) (K : List Kt) (fr : Fr) (S : St) : gval T (.ops label_Read_r11 :: K) fr S = gval T (.ops [
  ⟨some 54, .mov (.tmp 8), none⟩,
  ⟨some 55, .arith .eql (.tmp 54) (.cst (.int .i64 0)), none⟩,
  ⟨some 56, .mov (.tmp 55), none⟩,
  ⟨some 57, .mov (.tmp 9), some (56, true)⟩,
  ⟨some 58, .call .std 40 [(.tmp 57)], some (56, true)⟩,
  ⟨some 59, .arith .neq (.tmp 58) (.cst (.int .i64 0)), some (56, true)⟩,
  ⟨some 60, .pick (.tmp 56) (.tmp 59) (.cst (.bool false)), none⟩] :: K) fr S := rfl
def label_Read_r12 : List POper := [
  ⟨some 8, .mov (.cst (.int .i64 5)), none⟩]
@[simp] theorem label_Read_r12_go (T : Tbl) (K : List Kt) (fr : Fr) (S : St) : gval T (.ops label_Read_r12 :: K) fr S = gval T (.ops [
  ⟨some 8, .mov (.cst (.int .i64 5)), none⟩] :: K) fr S := rfl
def label_Read_r13 : List POper := [
  ⟨some 61, .mov (.tmp 8), none⟩,
  ⟨some 62, .arith .neq (.tmp 61) (.cst (.int .i64 0)), none⟩]
@[simp] theorem label_Read_r13_go (T : Tbl) (K : List Kt) (fr : Fr) (S : St) : gval T (.ops label_Read_r13 :: K) fr S = gval T (.ops [
  ⟨some 61, .mov (.tmp 8), none⟩,
  ⟨some 62, .arith .neq (.tmp 61) (.cst (.int .i64 0)), none⟩] :: K) fr S := rfl
def label_Read_r14 : List POper := [
  ⟨some 63, .mov (.tmp 8), none⟩,
  ⟨some 4, .mov (.cst .nils), none⟩,
  ⟨some 5, .mov (.cst (.int .i64 0)), none⟩,
  ⟨some 6, .mov (.tmp 63), none⟩]
@[simp] theorem label_Read_r14_go (T : Tbl) (K : List Kt) (fr : Fr) (S : St) : gval T (.ops label_Read_r14 :: K) fr S = gval T (.ops [
  ⟨some 63, .mov (.tmp 8), none⟩,
  ⟨some 4, .mov (.cst .nils), none⟩,
  ⟨some 5, .mov (.cst (.int .i64 0)), none⟩,
  ⟨some 6, .mov (.tmp 63), none⟩] :: K) fr S := rfl
def label_Read_r15 : List POper := [
  ⟨some 64, .mov (.tmp 9), none⟩,
  ⟨some 65, .mov (.tmp 1), none⟩,
  ⟨some 4, .mov (.tmp 64), none⟩,
  ⟨some 5, .mov (.tmp 65), none⟩,
  ⟨some 6, .mov (.cst (.int .i64 0)), none⟩]
@[simp] theorem label_Read_r15_go (T : Tbl) (K : List Kt) (fr : Fr) (S : St) : gval T (.ops label_Read_r15 :: K) fr S = gval T (.ops [
  ⟨some 64, .mov (.tmp 9), none⟩,
  ⟨some 65, .mov (.tmp 1), none⟩,
  ⟨some 4, .mov (.tmp 64), none⟩,
  ⟨some 5, .mov (.tmp 65), none⟩,
  ⟨some 6, .mov (.cst (.int .i64 0)), none⟩] :: K) fr S := rfl
def label_Read : PCodeFn :=
  ⟨2, [.tmp 4, .tmp 5, .tmp 6],
  (.seq (.region label_Read_r0) (.seq (.clr [(11, 18)] (.region label_Read_r1)) (.seq (.seq (.clr [(18, 23)] (.region label_Read_r2)) (.cond (.tmp 23) (.region label_Read_r3) .skip)) (.seq (.region label_Read_r4) (.seq (.block 0 (.loop label_Read_l0)) (.seq (.seq (.clr [(54, 60)] (.region label_Read_r11)) (.cond (.tmp 60) (.region label_Read_r12) .skip)) (.seq (.seq (.clr [(61, 62)] (.region label_Read_r13)) (.cond (.tmp 62) (.seq (.clr [(63, 64)] (.region label_Read_r14)) .ret) .skip)) (.seq (.clr [(64, 66)] (.region label_Read_r15)) .ret)))))))), false⟩

/-! gauge/wal.zag: 244 -/
def wal_zag_r0 : List POper := [
  ⟨some 2, .mov (.cst (.int .i64 0)), none⟩]
@[simp] theorem wal_zag_r0_go (T : Tbl) (K : List Kt) (fr : Fr) (S : St) : gval T (.ops wal_zag_r0 :: K) fr S = gval T (.ops [
  ⟨some 2, .mov (.cst (.int .i64 0)), none⟩] :: K) fr S := rfl
def wal_zag_r1 : List POper := [
  ⟨some 3, .mov (.tmp 0), none⟩,
  ⟨some 4, .arith .rem (.tmp 3) (.cst (.int .i64 2)), none⟩,
  ⟨some 5, .arith .eql (.tmp 4) (.cst (.int .i64 1)), none⟩]
@[simp] theorem wal_zag_r1_go (T : Tbl) (K : List Kt) (fr : Fr) (S : St) : gval T (.ops wal_zag_r1 :: K) fr S = gval T (.ops [
  ⟨some 3, .mov (.tmp 0), none⟩,
  ⟨some 4, .arith .rem (.tmp 3) (.cst (.int .i64 2)), none⟩,
  ⟨some 5, .arith .eql (.tmp 4) (.cst (.int .i64 1)), none⟩] :: K) fr S := rfl
def wal_zag_r2 : List POper := [
  ⟨some 6, .mov (.tmp 0), none⟩,
  ⟨some 7, .arith .quo (.tmp 6) (.cst (.int .i64 2)), none⟩,
  ⟨some 8, .un .neg (.tmp 7), none⟩,
  ⟨some 9, .arith .sub (.tmp 8) (.cst (.int .i64 1)), none⟩,
  ⟨some 2, .mov (.tmp 9), none⟩]
@[simp] theorem wal_zag_r2_go (T : Tbl) (K : List Kt) (fr : Fr) (S : St) : gval T (.ops wal_zag_r2 :: K) fr S = gval T (.ops [
  ⟨some 6, .mov (.tmp 0), none⟩,
  ⟨some 7, .arith .quo (.tmp 6) (.cst (.int .i64 2)), none⟩,
  ⟨some 8, .un .neg (.tmp 7), none⟩,
  ⟨some 9, .arith .sub (.tmp 8) (.cst (.int .i64 1)), none⟩,
  ⟨some 2, .mov (.tmp 9), none⟩] :: K) fr S := rfl
def wal_zag_r3 : List POper := [
  ⟨some 10, .mov (.tmp 0), none⟩,
  ⟨some 11, .arith .quo (.tmp 10) (.cst (.int .i64 2)), none⟩,
  ⟨some 2, .mov (.tmp 11), none⟩]
@[simp] theorem wal_zag_r3_go (T : Tbl) (K : List Kt) (fr : Fr) (S : St) : gval T (.ops wal_zag_r3 :: K) fr S = gval T (.ops [
  ⟨some 10, .mov (.tmp 0), none⟩,
  ⟨some 11, .arith .quo (.tmp 10) (.cst (.int .i64 2)), none⟩,
  ⟨some 2, .mov (.tmp 11), none⟩] :: K) fr S := rfl
def wal_zag : PCodeFn :=
  ⟨1, [.tmp 2],
  (.seq (.region wal_zag_r0) (.seq (.seq (.clr [(3, 5)] (.region wal_zag_r1)) (.cond (.tmp 5) (.seq (.clr [(6, 10)] (.region wal_zag_r2)) .ret) .skip)) (.seq (.clr [(10, 12)] (.region wal_zag_r3)) .ret))), false⟩

/-! gauge/posting.Read: 245 -/
def posting_Read_r0 : List POper := [
  ⟨some 4, .mov (.cst .nils), none⟩,
  ⟨some 5, .mov (.cst (.int .i64 0)), none⟩,
  ⟨some 6, .mov (.cst (.int .i64 0)), none⟩]
@[simp] theorem posting_Read_r0_go (T : Tbl) (K : List Kt) (fr : Fr) (S : St) : gval T (.ops posting_Read_r0 :: K) fr S = gval T (.ops [
  ⟨some 4, .mov (.cst .nils), none⟩,
  ⟨some 5, .mov (.cst (.int .i64 0)), none⟩,
  ⟨some 6, .mov (.cst (.int .i64 0)), none⟩] :: K) fr S := rfl
def posting_Read_r1 : List POper := [
  ⟨some 13, .mov (.tmp 0), none⟩,
  ⟨some 14, .mov (.tmp 1), none⟩,
  ⟨some 15, .call .std 110 [(.tmp 13), (.tmp 14)], none⟩,
  ⟨some 12, .mov (.tmp 15), none⟩,
  ⟨some 16, .extract 0 (.tmp 12), none⟩,
  ⟨some 17, .extract 1 (.tmp 12), none⟩,
  ⟨some 18, .extract 2 (.tmp 12), none⟩,
  ⟨some 7, .mov (.tmp 16), none⟩,
  ⟨some 1, .mov (.tmp 17), none⟩,
  ⟨some 8, .mov (.tmp 18), none⟩]
@[simp] theorem posting_Read_r1_go (T : Tbl) (K : List Kt) (fr : Fr) (S : St) : gval T (.ops posting_Read_r1 :: K) fr S = gval T (.ops [
  ⟨some 13, .mov (.tmp 0), none⟩,
  ⟨some 14, .mov (.tmp 1), none⟩,
  ⟨some 15, .call .std 110 [(.tmp 13), (.tmp 14)], none⟩,
  ⟨some 12, .mov (.tmp 15), none⟩,
  ⟨some 16, .extract 0 (.tmp 12), none⟩,
  ⟨some 17, .extract 1 (.tmp 12), none⟩,
  ⟨some 18, .extract 2 (.tmp 12), none⟩,
  ⟨some 7, .mov (.tmp 16), none⟩,
  ⟨some 1, .mov (.tmp 17), none⟩,
  ⟨some 8, .mov (.tmp 18), none⟩] :: K) fr S := rfl
def posting_Read_r2 : List POper := [
  ⟨some 19, .mov (.tmp 8), none⟩,
  ⟨some 20, .arith .eql (.tmp 19) (.cst (.int .i64 0)), none⟩,
  ⟨some 21, .mov (.tmp 20), none⟩,
  ⟨some 22, .mov (.tmp 7), some (21, true)⟩,
  ⟨some 23, .arith .gtr (.tmp 22) (.cst (.int .i64 1024)), some (21, true)⟩,
  ⟨some 24, .pick (.tmp 21) (.tmp 23) (.cst (.bool false)), none⟩]
@[simp] theorem posting_Read_r2_go (T : Tbl) (K : List Kt) (fr : Fr) (S : St) : gval T (.ops posting_Read_r2 :: K) fr S = gval T (.ops [
  ⟨some 19, .mov (.tmp 8), none⟩,
  ⟨some 20, .arith .eql (.tmp 19) (.cst (.int .i64 0)), none⟩,
  ⟨some 21, .mov (.tmp 20), none⟩,
  ⟨some 22, .mov (.tmp 7), some (21, true)⟩,
  ⟨some 23, .arith .gtr (.tmp 22) (.cst (.int .i64 1024)), some (21, true)⟩,
  ⟨some 24, .pick (.tmp 21) (.tmp 23) (.cst (.bool false)), none⟩] :: K) fr S := rfl
def posting_Read_r3 : List POper := [
  ⟨some 8, .mov (.cst (.int .i64 3)), none⟩]
@[simp] theorem posting_Read_r3_go (T : Tbl) (K : List Kt) (fr : Fr) (S : St) : gval T (.ops posting_Read_r3 :: K) fr S = gval T (.ops [
  ⟨some 8, .mov (.cst (.int .i64 3)), none⟩] :: K) fr S := rfl
def posting_Read_r4 : List POper := [
  ⟨some 9, .mov (.cst .nils), none⟩]
@[simp] theorem posting_Read_r4_go (T : Tbl) (K : List Kt) (fr : Fr) (S : St) : gval T (.ops posting_Read_r4 :: K) fr S = gval T (.ops [
  ⟨some 9, .mov (.cst .nils), none⟩] :: K) fr S := rfl
def posting_Read_r5 : List POper := [
  ⟨some 10, .mov (.cst (.int .i64 0)), none⟩]
@[simp] theorem posting_Read_r5_go (T : Tbl) (K : List Kt) (fr : Fr) (S : St) : gval T (.ops posting_Read_r5 :: K) fr S = gval T (.ops [
  ⟨some 10, .mov (.cst (.int .i64 0)), none⟩] :: K) fr S := rfl
def posting_Read_r6 : List POper := [
  ⟨some 25, .mov (.tmp 8), none⟩,
  ⟨some 26, .arith .eql (.tmp 25) (.cst (.int .i64 0)), none⟩,
  ⟨some 27, .mov (.tmp 26), none⟩,
  ⟨some 28, .mov (.tmp 9), some (27, true)⟩,
  ⟨some 29, .len false (.tmp 28), some (27, true)⟩,
  ⟨some 30, .mov (.tmp 7), some (27, true)⟩,
  ⟨some 31, .arith .lss (.tmp 29) (.tmp 30), some (27, true)⟩,
  ⟨some 32, .pick (.tmp 27) (.tmp 31) (.cst (.bool false)), none⟩]
@[simp] theorem posting_Read_r6_go (T : Tbl) (K : List Kt) (fr : Fr) (S : St) : gval T (.ops posting_Read_r6 :: K) fr S = gval T (.ops [
  ⟨some 25, .mov (.tmp 8), none⟩,
  ⟨some 26, .arith .eql (.tmp 25) (.cst (.int .i64 0)), none⟩,
  ⟨some 27, .mov (.tmp 26), none⟩,
  ⟨some 28, .mov (.tmp 9), some (27, true)⟩,
  ⟨some 29, .len false (.tmp 28), some (27, true)⟩,
  ⟨some 30, .mov (.tmp 7), some (27, true)⟩,
  ⟨some 31, .arith .lss (.tmp 29) (.tmp 30), some (27, true)⟩,
  ⟨some 32, .pick (.tmp 27) (.tmp 31) (.cst (.bool false)), none⟩] :: K) fr S := rfl
def posting_Read_r7 : List POper := [
  ⟨some 11, .mov (.cst (.int .i64 0)), none⟩]
@[simp] theorem posting_Read_r7_go (T : Tbl) (K : List Kt) (fr : Fr) (S : St) : gval T (.ops posting_Read_r7 :: K) fr S = gval T (.ops [
  ⟨some 11, .mov (.cst (.int .i64 0)), none⟩] :: K) fr S := rfl
def posting_Read_r8 : List POper := [
  ⟨some 34, .mov (.tmp 0), none⟩,
  ⟨some 35, .mov (.tmp 1), none⟩,
  ⟨some 36, .call .std 110 [(.tmp 34), (.tmp 35)], none⟩,
  ⟨some 33, .mov (.tmp 36), none⟩,
  ⟨some 37, .extract 0 (.tmp 33), none⟩,
  ⟨some 38, .extract 1 (.tmp 33), none⟩,
  ⟨some 39, .extract 2 (.tmp 33), none⟩,
  ⟨some 11, .mov (.tmp 37), none⟩,
  ⟨some 1, .mov (.tmp 38), none⟩,
  ⟨some 8, .mov (.tmp 39), none⟩]
@[simp] theorem posting_Read_r8_go (T : Tbl) (K : List Kt) (fr : Fr) (S : St) : gval T (.ops posting_Read_r8 :: K) fr S = gval T (.ops [
  ⟨some 34, .mov (.tmp 0), none⟩,
  ⟨some 35, .mov (.tmp 1), none⟩,
  ⟨some 36, .call .std 110 [(.tmp 34), (.tmp 35)], none⟩,
  ⟨some 33, .mov (.tmp 36), none⟩,
  ⟨some 37, .extract 0 (.tmp 33), none⟩,
  ⟨some 38, .extract 1 (.tmp 33), none⟩,
  ⟨some 39, .extract 2 (.tmp 33), none⟩,
  ⟨some 11, .mov (.tmp 37), none⟩,
  ⟨some 1, .mov (.tmp 38), none⟩,
  ⟨some 8, .mov (.tmp 39), none⟩] :: K) fr S := rfl
def posting_Read_r9 : List POper := [
  ⟨some 41, .mov (.tmp 8), none⟩,
  ⟨some 42, .arith .neq (.tmp 41) (.cst (.int .i64 0)), none⟩,
  ⟨some 40, .mov (.tmp 42), none⟩]
@[simp] theorem posting_Read_r9_go (T : Tbl) (K : List Kt) (fr : Fr) (S : St) : gval T (.ops posting_Read_r9 :: K) fr S = gval T (.ops [
  ⟨some 41, .mov (.tmp 8), none⟩,
  ⟨some 42, .arith .neq (.tmp 41) (.cst (.int .i64 0)), none⟩,
  ⟨some 40, .mov (.tmp 42), none⟩] :: K) fr S := rfl
def posting_Read_r10 : List POper := [
  ⟨some 44, .mov (.tmp 11), none⟩,
  ⟨some 45, .mov (.tmp 10), none⟩,
  ⟨some 46, .arith .sub (.cst (.int .i64 1099511627776)) (.tmp 45), none⟩,
  ⟨some 47, .arith .gtr (.tmp 44) (.tmp 46), none⟩,
  ⟨some 43, .mov (.tmp 47), none⟩]
@[simp] theorem posting_Read_r10_go (T : Tbl) (K : List Kt) (fr : Fr) (S : St) : gval T (.ops posting_Read_r10 :: K) fr S = gval T (.ops [
  ⟨some 44, .mov (.tmp 11), none⟩,
  ⟨some 45, .mov (.tmp 10), none⟩,
  ⟨some 46, .arith .sub (.cst (.int .i64 1099511627776)) (.tmp 45), none⟩,
  ⟨some 47, .arith .gtr (.tmp 44) (.tmp 46), none⟩,
  ⟨some 43, .mov (.tmp 47), none⟩] :: K) fr S := rfl
def posting_Read_r11 : List POper := [
  ⟨some 48, .mov (.tmp 9), none⟩,
  ⟨some 49, .len false (.tmp 48), none⟩,
  ⟨some 50, .arith .gtr (.tmp 49) (.cst (.int .i64 0)), none⟩,
  ⟨some 51, .mov (.tmp 50), none⟩,
  ⟨some 52, .mov (.tmp 11), some (51, true)⟩,
  ⟨some 53, .arith .eql (.tmp 52) (.cst (.int .i64 0)), some (51, true)⟩,
  ⟨some 54, .pick (.tmp 51) (.tmp 53) (.cst (.bool false)), none⟩,
  ⟨some 43, .mov (.tmp 54), none⟩]
@[simp] theorem posting_Read_r11_go (T : Tbl) (K : List Kt) (fr : Fr) (S : St) : gval T (.ops posting_Read_r11 :: K) fr S = gval T (.ops [
  ⟨some 48, .mov (.tmp 9), none⟩,
  ⟨some 49, .len false (.tmp 48), none⟩,
  ⟨some 50, .arith .gtr (.tmp 49) (.cst (.int .i64 0)), none⟩,
  ⟨some 51, .mov (.tmp 50), none⟩,
  ⟨some 52, .mov (.tmp 11), some (51, true)⟩,
  ⟨some 53, .arith .eql (.tmp 52) (.cst (.int .i64 0)), some (51, true)⟩,
  ⟨some 54, .pick (.tmp 51) (.tmp 53) (.cst (.bool false)), none⟩,
  ⟨some 43, .mov (.tmp 54), none⟩] :: K) fr S := rfl
def posting_Read_r12 : List POper := [
  ⟨some 8, .mov (.cst (.int .i64 5)), none⟩]
@[simp] theorem posting_Read_r12_go (T : Tbl) (K : List Kt) (fr : Fr) (S : St) : gval T (.ops posting_Read_r12 :: K) fr S = gval T (.ops [
  ⟨some 8, .mov (.cst (.int .i64 5)), none⟩] :: K) fr S := rfl
def posting_Read_r13 : List POper := [
  ⟨some 55, .mov (.tmp 10), none⟩,
  ⟨some 56, .mov (.tmp 11), none⟩,
  ⟨some 57, .arith .add (.tmp 55) (.tmp 56), none⟩,
  ⟨some 10, .mov (.tmp 57), none⟩]
@[simp] theorem posting_Read_r13_go (T : Tbl) (K : List Kt) (fr : Fr) (S : St) : gval T (.ops posting_Read_r13 :: K) fr S = gval T (.ops [
  ⟨some 55, .mov (.tmp 10), none⟩,
  ⟨some 56, .mov (.tmp 11), none⟩,
  ⟨some 57, .arith .add (.tmp 55) (.tmp 56), none⟩,
  ⟨some 10, .mov (.tmp 57), none⟩] :: K) fr S := rfl
def posting_Read_r14 : List POper := [
  ⟨some 58, .mov (.tmp 9), none⟩,
  ⟨some 59, .mov (.tmp 10), none⟩,
  ⟨some 60, .bsl false (.int .i64 0) 1 [(0, (.tmp 59))], none⟩,
  ⟨some 61, .app 1 8 (.tmp 58) (.tmp 60), none⟩,
  ⟨some 9, .mov (.tmp 61), none⟩]
@[simp] theorem posting_Read_r14_go (T : Tbl) (K : List Kt) (fr : Fr) (S : St) : gval T (.ops posting_Read_r14 :: K) fr S = gval T (.ops [
  ⟨some 58, .mov (.tmp 9), none⟩,
  ⟨some 59, .mov (.tmp 10), none⟩,
  ⟨some 60, .bsl false (.int .i64 0) 1 [(0, (.tmp 59))], none⟩,
  ⟨some 61, .app 1 8 (.tmp 58) (.tmp 60), none⟩,
  ⟨some 9, .mov (.tmp 61), none⟩] :: K) fr S := rfl
def posting_Read_l0 : PCode :=
  (.seq (.seq (.clr [(25, 32)] (.region posting_Read_r6)) (.cond (.tmp 32) .skip (.exit 0))) (.block 1 (.seq (.region posting_Read_r7) (.seq (.clr [(33, 40)] (.region posting_Read_r8)) (.seq (.block 2 (.seq (.clr [(41, 43)] (.region posting_Read_r9)) (.cond (.tmp 40) (.exit 0) (.seq (.seq (.clr [(44, 48)] (.region posting_Read_r10)) (.cond (.tmp 43) .skip (.clr [(48, 55)] (.region posting_Read_r11)))) (.cond (.tmp 43) (.seq (.region posting_Read_r12) (.exit 0)) .skip))))) (.seq (.clr [(55, 58)] (.region posting_Read_r13)) (.clr [(58, 62)] (.region posting_Read_r14))))))))
@[simp] theorem posting_Read_l0_go (T : Tbl) (K : List Kt) (fr : Fr) (S : St) : gval T (.code posting_Read_l0 :: K) fr S = gval T (.code (.seq (.seq (.clr [(25, 32)] (.region posting_Read_r6)) (.cond (.tmp 32) .skip (.exit 0))) (.block 1 (.seq (.region posting_Read_r7) (.seq (.clr [(33, 40)] (.region posting_Read_r8)) (.seq (.block 2 (.seq (.clr [(41, 43)] (.region posting_Read_r9)) (.cond (.tmp 40) (.exit 0) (.seq (.seq (.clr [(44, 48)] (.region posting_Read_r10)) (.cond (.tmp 43) .skip (.clr [(48, 55)] (.region posting_Read_r11)))) (.cond (.tmp 43) (.seq (.region posting_Read_r12) (.exit 0)) .skip))))) (.seq (.clr [(55, 58)] (.region posting_Read_r13)) (.clr [(58, 62)] (.region posting_Read_r14)))))))) :: K) fr S := rfl
def posting_Read_r15 : List POper := [
  ⟨some 62, .mov (.tmp 8), none⟩,
  ⟨some 63, .arith .neq (.tmp 62) (.cst (.int .i64 0)), none⟩]
@[simp] theorem posting_Read_r15_go (T : Tbl) (K : List Kt) (fr : Fr) (S : St) : gval T (.ops posting_Read_r15 :: K) fr S = gval T (.ops [
  ⟨some 62, .mov (.tmp 8), none⟩,
  ⟨some 63, .arith .neq (.tmp 62) (.cst (.int .i64 0)), none⟩] :: K) fr S := rfl
def posting_Read_r16 : List POper := [
  ⟨some 64, .mov (.tmp 8), none⟩,
  ⟨some 4, .mov (.cst .nils), none⟩,
  ⟨some 5, .mov (.cst (.int .i64 0)), none⟩,
  ⟨some 6, .mov (.tmp 64), none⟩]
@[simp] theorem posting_Read_r16_go (T : Tbl) (K : List Kt) (fr : Fr) (S : St) : gval T (.ops posting_Read_r16 :: K) fr S = gval T (.ops [
  ⟨some 64, .mov (.tmp 8), none⟩,
  ⟨some 4, .mov (.cst .nils), none⟩,
  ⟨some 5, .mov (.cst (.int .i64 0)), none⟩,
  ⟨some 6, .mov (.tmp 64), none⟩] :: K) fr S := rfl
def posting_Read_r17 : List POper := [
  ⟨some 65, .mov (.tmp 9), none⟩,
  ⟨some 66, .mov (.tmp 1), none⟩,
  ⟨some 4, .mov (.tmp 65), none⟩,
  ⟨some 5, .mov (.tmp 66), none⟩,
  ⟨some 6, .mov (.cst (.int .i64 0)), none⟩]
@[simp] theorem posting_Read_r17_go (T : Tbl) (K : List Kt) (fr : Fr) (S : St) : gval T (.ops posting_Read_r17 :: K) fr S = gval T (.ops [
  ⟨some 65, .mov (.tmp 9), none⟩,
  ⟨some 66, .mov (.tmp 1), none⟩,
  ⟨some 4, .mov (.tmp 65), none⟩,
  ⟨some 5, .mov (.tmp 66), none⟩,
  ⟨some 6, .mov (.cst (.int .i64 0)), none⟩] :: K) fr S := rfl
def posting_Read : PCodeFn :=
  ⟨2, [.tmp 4, .tmp 5, .tmp 6],
  (.seq (.region posting_Read_r0) (.scope (.seq (.clr [(12, 19)] (.region posting_Read_r1)) (.seq (.seq (.clr [(19, 24)] (.region posting_Read_r2)) (.cond (.tmp 24) (.region posting_Read_r3) .skip)) (.seq (.region posting_Read_r4) (.seq (.region posting_Read_r5) (.seq .skip (.seq (.block 0 (.loop posting_Read_l0)) (.seq (.seq (.clr [(62, 63)] (.region posting_Read_r15)) (.cond (.tmp 63) (.seq (.clr [(64, 65)] (.region posting_Read_r16)) .ret) .skip)) (.seq (.clr [(65, 67)] (.region posting_Read_r17)) .ret)))))))))), false⟩

/-! slices.Equal[[]byte,byte]: 246 -/
def slices_Equal_byte_r0 : List POper := [
  ⟨some 4, .mov (.cst (.bool false)), none⟩]
@[simp] theorem slices_Equal_byte_r0_go (T : Tbl) (K : List Kt) (fr : Fr) (S : St) : gval T (.ops slices_Equal_byte_r0 :: K) fr S = gval T (.ops [
  ⟨some 4, .mov (.cst (.bool false)), none⟩] :: K) fr S := rfl
def slices_Equal_byte_r1 : List POper := [
  ⟨some 6, .mov (.tmp 0), none⟩,
  ⟨some 7, .len false (.tmp 6), none⟩,
  ⟨some 8, .mov (.tmp 1), none⟩,
  ⟨some 9, .len false (.tmp 8), none⟩,
  ⟨some 10, .arith .neq (.tmp 7) (.tmp 9), none⟩]
@[simp] theorem slices_Equal_byte_r1_go (T : Tbl) (K : List Kt) (fr : Fr) (S : St) : gval T (.ops slices_Equal_byte_r1 :: K) fr S = gval T (.ops [
  ⟨some 6, .mov (.tmp 0), none⟩,
  ⟨some 7, .len false (.tmp 6), none⟩,
  ⟨some 8, .mov (.tmp 1), none⟩,
  ⟨some 9, .len false (.tmp 8), none⟩,
  ⟨some 10, .arith .neq (.tmp 7) (.tmp 9), none⟩] :: K) fr S := rfl
def slices_Equal_byte_r2 : List POper := [
  ⟨some 4, .mov (.cst (.bool false)), none⟩]
@[simp] theorem slices_Equal_byte_r2_go (T : Tbl) (K : List Kt) (fr : Fr) (S : St) : gval T (.ops slices_Equal_byte_r2 :: K) fr S = gval T (.ops [
  ⟨some 4, .mov (.cst (.bool false)), none⟩] :: K) fr S := rfl
def slices_Equal_byte_r3 : List POper := [
  ⟨some 11, .mov (.tmp 0), none⟩,
  ⟨some 12, .len false (.tmp 11), none⟩,
  ⟨some 13, .mov (.cst (.int .i64 0)), none⟩]
@[simp] theorem slices_Equal_byte_r3_go (T : Tbl) (K : List Kt) (fr : Fr) (S : St) : gval T (.ops slices_Equal_byte_r3 :: K) fr S = gval T (.ops [
  ⟨some 11, .mov (.tmp 0), none⟩,
  ⟨some 12, .len false (.tmp 11), none⟩,
  ⟨some 13, .mov (.cst (.int .i64 0)), none⟩] :: K) fr S := rfl
def slices_Equal_byte_r4 : List POper := [
  ⟨some 14, .arith .lss (.tmp 13) (.tmp 12), none⟩]
@[simp] theorem slices_Equal_byte_r4_go (T : Tbl) (K : List Kt) (fr : Fr) (S : St) : gval T (.ops slices_Equal_byte_r4 :: K) fr S = gval T (.ops [
  ⟨some 14, .arith .lss (.tmp 13) (.tmp 12), none⟩] :: K) fr S := rfl
def slices_Equal_byte_r5 : List POper := [
  ⟨some 15, .mov (.tmp 13), none⟩,
  ⟨some 5, .mov (.tmp 15), none⟩]
@[simp] theorem slices_Equal_byte_r5_go (T : Tbl) (K : List Kt) (fr : Fr) (S : St) : gval T (.ops slices_Equal_byte_r5 :: K) fr S = gval T (.ops [
  ⟨some 15, .mov (.tmp 13), none⟩,
  ⟨some 5, .mov (.tmp 15), none⟩] :: K) fr S := rfl
def slices_Equal_byte_r6 : List POper := [
  ⟨some 16, .mov (.tmp 0), none⟩,
  ⟨some 17, .mov (.tmp 5), none⟩,
  ⟨some 18, .iaddr 1 (.tmp 16) (.tmp 17), none⟩,
  ⟨some 19, .load false 1 true (.tmp 18), none⟩,
  ⟨some 20, .mov (.tmp 1), none⟩,
  ⟨some 21, .mov (.tmp 5), none⟩,
  ⟨some 22, .iaddr 1 (.tmp 20) (.tmp 21), none⟩,
  ⟨some 23, .load false 1 true (.tmp 22), none⟩,
  ⟨some 24, .arith .neq (.tmp 19) (.tmp 23), none⟩]
@[simp] theorem slices_Equal_byte_r6_go (T : Tbl) (K : List Kt) (fr : Fr) (S : St) : gval T (.ops slices_Equal_byte_r6 :: K) fr S = gval T (.ops [
  ⟨some 16, .mov (.tmp 0), none⟩,
  ⟨some 17, .mov (.tmp 5), none⟩,
  ⟨some 18, .iaddr 1 (.tmp 16) (.tmp 17), none⟩,
  ⟨some 19, .load false 1 true (.tmp 18), none⟩,
  ⟨some 20, .mov (.tmp 1), none⟩,
  ⟨some 21, .mov (.tmp 5), none⟩,
  ⟨some 22, .iaddr 1 (.tmp 20) (.tmp 21), none⟩,
  ⟨some 23, .load false 1 true (.tmp 22), none⟩,
  ⟨some 24, .arith .neq (.tmp 19) (.tmp 23), none⟩] :: K) fr S := rfl
def slices_Equal_byte_r7 : List POper := [
  ⟨some 4, .mov (.cst (.bool false)), none⟩]
@[simp] theorem slices_Equal_byte_r7_go (T : Tbl) (K : List Kt) (fr : Fr) (S : St) : gval T (.ops slices_Equal_byte_r7 :: K) fr S = gval T (.ops [
  ⟨some 4, .mov (.cst (.bool false)), none⟩] :: K) fr S := rfl
def slices_Equal_byte_r8 : List POper := [
  ⟨some 25, .arith .add (.tmp 13) (.cst (.int .i64 1)), none⟩,
  ⟨some 13, .mov (.tmp 25), none⟩]
@[simp] theorem slices_Equal_byte_r8_go (T : Tbl) (K : List Kt) (fr : Fr) (S : St) : gval T (.ops slices_Equal_byte_r8 :: K) fr S = gval T (.ops [
  ⟨some 25, .arith .add (.tmp 13) (.cst (.int .i64 1)), none⟩,
  ⟨some 13, .mov (.tmp 25), none⟩] :: K) fr S := rfl
def slices_Equal_byte_l0 : PCode :=
  (.seq (.region slices_Equal_byte_r4) (.seq (.cond (.tmp 14) .skip (.exit 0)) (.seq (.block 1 (.seq (.clr [(15, 16)] (.region slices_Equal_byte_r5)) (.seq (.clr [(16, 24)] (.region slices_Equal_byte_r6)) (.cond (.tmp 24) (.seq (.region slices_Equal_byte_r7) .ret) .skip)))) (.clr [(25, 26)] (.region slices_Equal_byte_r8)))))
@[simp] theorem slices_Equal_byte_l0_go (T : Tbl) (K : List Kt) (fr : Fr) (S : St) : gval T (.code slices_Equal_byte_l0 :: K) fr S = gval T (.code (.seq (.region slices_Equal_byte_r4) (.seq (.cond (.tmp 14) .skip (.exit 0)) (.seq (.block 1 (.seq (.clr [(15, 16)] (.region slices_Equal_byte_r5)) (.seq (.clr [(16, 24)] (.region slices_Equal_byte_r6)) (.cond (.tmp 24) (.seq (.region slices_Equal_byte_r7) .ret) .skip)))) (.clr [(25, 26)] (.region slices_Equal_byte_r8))))) :: K) fr S := rfl
def slices_Equal_byte_r9 : List POper := [
  ⟨some 4, .mov (.cst (.bool true)), none⟩]
@[simp] theorem slices_Equal_byte_r9_go (T : Tbl) (K : List Kt) (fr : Fr) (S : St) : gval T (.ops slices_Equal_byte_r9 :: K) fr S = gval T (.ops [
  ⟨some 4, .mov (.cst (.bool true)), none⟩] :: K) fr S := rfl
def slices_Equal_byte : PCodeFn :=
  ⟨2, [.tmp 4],
  (.seq (.region slices_Equal_byte_r0) (.seq (.seq (.clr [(6, 10)] (.region slices_Equal_byte_r1)) (.cond (.tmp 10) (.seq (.region slices_Equal_byte_r2) .ret) .skip)) (.seq (.seq (.clr [(11, 12)] (.region slices_Equal_byte_r3)) (.block 0 (.loop slices_Equal_byte_l0))) (.seq (.region slices_Equal_byte_r9) .ret)))), false⟩

/-! gauge/gaugeref11.read: 374 -/
def ref11_read_r0 : List POper := [
  ⟨some 2, .alloc false [(.int .i64 0), .nils, .nils, .nils, (.int .i64 0), (.int .i64 0)], none⟩,
  ⟨some 3, .mov (.cst (.bool false)), none⟩]
@[simp] theorem ref11_read_r0_go (T : Tbl) (K : List Kt) (fr : Fr) (S : St) : gval T (.ops ref11_read_r0 :: K) fr S = gval T (.ops [
  ⟨some 2, .alloc false [(.int .i64 0), .nils, .nils, .nils, (.int .i64 0), (.int .i64 0)], none⟩,
  ⟨some 3, .mov (.cst (.bool false)), none⟩] :: K) fr S := rfl
def ref11_read_r1 : List POper := [
  ⟨some 25, .mov (.tmp 0), none⟩,
  ⟨some 26, .call .std 399 [(.tmp 25), (.cst (.int .i64 0)), (.cst (.int .i64 1))], none⟩,
  ⟨some 24, .mov (.tmp 26), none⟩,
  ⟨some 27, .extract 0 (.tmp 24), none⟩,
  ⟨some 28, .extract 1 (.tmp 24), none⟩,
  ⟨some 29, .extract 2 (.tmp 24), none⟩,
  ⟨some 4, .mov (.tmp 27), none⟩,
  ⟨some 5, .mov (.tmp 28), none⟩,
  ⟨some 6, .mov (.tmp 29), none⟩]
@[simp] theorem ref11_read_r1_go (T : Tbl) (K : List Kt) (fr : Fr) (S : St) : gval T (.ops ref11_read_r1 :: K) fr S = gval T (.ops [
  ⟨some 25, .mov (.tmp 0), none⟩,
  ⟨some 26, .call .std 399 [(.tmp 25), (.cst (.int .i64 0)), (.cst (.int .i64 1))], none⟩,
  ⟨some 24, .mov (.tmp 26), none⟩,
  ⟨some 27, .extract 0 (.tmp 24), none⟩,
  ⟨some 28, .extract 1 (.tmp 24), none⟩,
  ⟨some 29, .extract 2 (.tmp 24), none⟩,
  ⟨some 4, .mov (.tmp 27), none⟩,
  ⟨some 5, .mov (.tmp 28), none⟩,
  ⟨some 6, .mov (.tmp 29), none⟩] :: K) fr S := rfl
def ref11_read_r2 : List POper := [
  ⟨some 30, .mov (.tmp 6), none⟩,
  ⟨some 31, .un .not (.tmp 30), none⟩]
@[simp] theorem ref11_read_r2_go (T : Tbl) (K : List Kt) (fr : Fr) (S : St) : gval T (.ops ref11_read_r2 :: K) fr S = gval T (.ops [
  ⟨some 30, .mov (.tmp 6), none⟩,
  ⟨some 31, .un .not (.tmp 30), none⟩] :: K) fr S := rfl
def ref11_read_r3 : List POper := [
  ⟨some 32, .build [(.int .i64 0), .nils, .nils, .nils, (.int .i64 0), (.int .i64 0)] [], none⟩,
  ⟨none, .store 6 (.tmp 2) (.tmp 32), none⟩,
  ⟨some 3, .mov (.cst (.bool false)), none⟩]
@[simp] theorem ref11_read_r3_go (T : Tbl) (K : List Kt) (fr : Fr) (S : St) : gval T (.ops ref11_read_r3 :: K) fr S = gval T (.ops [
  ⟨some 32, .build [(.int .i64 0), .nils, .nils, .nils, (.int .i64 0), (.int .i64 0)] [], none⟩,
  ⟨none, .store 6 (.tmp 2) (.tmp 32), none⟩,
  ⟨some 3, .mov (.cst (.bool false)), none⟩] :: K) fr S := rfl
def ref11_read_r4 : List POper := [
  ⟨some 33, .mov (.tmp 4), none⟩,
  ⟨some 34, .iaddr 1 (.tmp 33) (.cst (.int .i64 0)), none⟩,
  ⟨some 35, .load false 1 false (.tmp 34), none⟩,
  ⟨some 36, .build [(.int .i64 0), .nils, .nils, .nils, (.int .i64 0), (.int .i64 0)] [(0, 1, (.tmp 35))], none⟩,
  ⟨some 7, .alloc false [(.int .i64 0), .nils, .nils, .nils, (.int .i64 0), (.int .i64 0)], none⟩,
  ⟨none, .store 6 (.tmp 7) (.tmp 36), none⟩]
@[simp] theorem ref11_read_r4_go (T : Tbl) (K : List Kt) (fr : Fr) (S : St) : gval T (.ops ref11_read_r4 :: K) fr S = gval T (.ops [
  ⟨some 33, .mov (.tmp 4), none⟩,
  ⟨some 34, .iaddr 1 (.tmp 33) (.cst (.int .i64 0)), none⟩,
  ⟨some 35, .load false 1 false (.tmp 34), none⟩,
  ⟨some 36, .build [(.int .i64 0), .nils, .nils, .nils, (.int .i64 0), (.int .i64 0)] [(0, 1, (.tmp 35))], none⟩,
  ⟨some 7, .alloc false [(.int .i64 0), .nils, .nils, .nils, (.int .i64 0), (.int .i64 0)], none⟩,
  ⟨none, .store 6 (.tmp 7) (.tmp 36), none⟩] :: K) fr S := rfl
def ref11_read_r5 : List POper := [
  ⟨some 37, .faddr 0 (.tmp 7), none⟩,
  ⟨some 38, .load false 1 false (.tmp 37), none⟩]
@[simp] theorem ref11_read_r5_go (T : Tbl) (K : List Kt) (fr : Fr) (S : St) : gval T (.ops ref11_read_r5 :: K) fr S = gval T (.ops [
  ⟨some 37, .faddr 0 (.tmp 7), none⟩,
  ⟨some 38, .load false 1 false (.tmp 37), none⟩] :: K) fr S := rfl
def ref11_read_r6 : List POper := [
  ⟨some 40, .arith .eql (.tmp 38) (.cst (.int .i64 1)), none⟩,
  ⟨some 39, .mov (.tmp 40), none⟩]
@[simp] theorem ref11_read_r6_go (T : Tbl) (K : List Kt) (fr : Fr) (S : St) : gval T (.ops ref11_read_r6 :: K) fr S = gval T (.ops [
  ⟨some 40, .arith .eql (.tmp 38) (.cst (.int .i64 1)), none⟩,
  ⟨some 39, .mov (.tmp 40), none⟩] :: K) fr S := rfl
def ref11_read_r7 : List POper := [
  ⟨some 42, .mov (.tmp 0), none⟩,
  ⟨some 43, .mov (.tmp 5), none⟩,
  ⟨some 44, .call .std 32 [(.tmp 42), (.tmp 43)], none⟩,
  ⟨some 41, .mov (.tmp 44), none⟩,
  ⟨some 45, .extract 0 (.tmp 41), none⟩,
  ⟨some 46, .extract 1 (.tmp 41), none⟩,
  ⟨some 47, .extract 2 (.tmp 41), none⟩,
  ⟨some 8, .mov (.tmp 45), none⟩,
  ⟨some 9, .mov (.tmp 46), none⟩,
  ⟨some 10, .mov (.tmp 47), none⟩]
@[simp] theorem ref11_read_r7_go (T : Tbl) (K : List Kt) (fr : Fr) (S : St) : gval T (.ops ref11_read_r7 :: K) fr S = gval T (.ops [
  ⟨some 42, .mov (.tmp 0), none⟩,
  ⟨some 43, .mov (.tmp 5), none⟩,
  ⟨some 44, .call .std 32 [(.tmp 42), (.tmp 43)], none⟩,
  ⟨some 41, .mov (.tmp 44), none⟩,
  ⟨some 45, .extract 0 (.tmp 41), none⟩,
  ⟨some 46, .extract 1 (.tmp 41), none⟩,
  ⟨some 47, .extract 2 (.tmp 41), none⟩,
  ⟨some 8, .mov (.tmp 45), none⟩,
  ⟨some 9, .mov (.tmp 46), none⟩,
  ⟨some 10, .mov (.tmp 47), none⟩] :: K) fr S := rfl
def ref11_read_r8 : List POper := [
  ⟨some 48, .mov (.tmp 8), none⟩,
  ⟨some 49, .faddr 1 (.tmp 7), none⟩,
  ⟨none, .store 1 (.tmp 49) (.tmp 48), none⟩]
@[simp] theorem ref11_read_r8_go (T : Tbl) (K : List Kt) (fr : Fr) (S : St) : gval T (.ops ref11_read_r8 :: K) fr S = gval T (.ops [
  ⟨some 48, .mov (.tmp 8), none⟩,
  ⟨some 49, .faddr 1 (.tmp 7), none⟩,
  ⟨none, .store 1 (.tmp 49) (.tmp 48), none⟩] :: K) fr S := rfl
def ref11_read_r9 : List POper := [
  ⟨some 50, .load true 6 false (.tmp 7), none⟩,
  ⟨some 51, .mov (.tmp 10), none⟩,
  ⟨some 52, .arith .eql (.tmp 51) (.cst (.int .i64 0)), none⟩,
  ⟨none, .store 6 (.tmp 2) (.tmp 50), none⟩,
  ⟨some 3, .mov (.tmp 52), none⟩]
@[simp] theorem ref11_read_r9_go (T : Tbl) (K : List Kt) (fr : Fr) (S : St) : gval T (.ops ref11_read_r9 :: K) fr S = gval T (.ops [
  ⟨some 50, .load true 6 false (.tmp 7), none⟩,
  ⟨some 51, .mov (.tmp 10), none⟩,
  ⟨some 52, .arith .eql (.tmp 51) (.cst (.int .i64 0)), none⟩,
  ⟨none, .store 6 (.tmp 2) (.tmp 50), none⟩,
  ⟨some 3, .mov (.tmp 52), none⟩] :: K) fr S := rfl
def ref11_read_r10 : List POper := [
  ⟨some 54, .arith .eql (.tmp 38) (.cst (.int .i64 2)), none⟩,
  ⟨some 53, .mov (.tmp 54), none⟩]
@[simp] theorem ref11_read_r10_go (T : Tbl) (K : List Kt) (fr : Fr) (S : St) : gval T (.ops ref11_read_r10 :: K) fr S = gval T (.ops [
  ⟨some 54, .arith .eql (.tmp 38) (.cst (.int .i64 2)), none⟩,
  ⟨some 53, .mov (.tmp 54), none⟩] :: K) fr S := rfl
def ref11_read_r11 : List POper := [
  ⟨some 56, .mov (.tmp 0), none⟩,
  ⟨some 57, .mov (.tmp 5), none⟩,
  ⟨some 58, .call .std 399 [(.tmp 56), (.tmp 57), (.cst (.int .i64 1))], none⟩,
  ⟨some 55, .mov (.tmp 58), none⟩,
  ⟨some 59, .extract 0 (.tmp 55), none⟩,
  ⟨some 60, .extract 1 (.tmp 55), none⟩,
  ⟨some 61, .extract 2 (.tmp 55), none⟩,
  ⟨some 11, .mov (.tmp 59), none⟩,
  ⟨some 12, .mov (.tmp 60), none⟩,
  ⟨some 13, .mov (.tmp 61), none⟩]
@[simp] theorem ref11_read_r11_go (T : Tbl) (K : List Kt) (fr : Fr) (S : St) : gval T (.ops ref11_read_r11 :: K) fr S = gval T (.ops [
  ⟨some 56, .mov (.tmp 0), none⟩,
  ⟨some 57, .mov (.tmp 5), none⟩,
  ⟨some 58, .call .std 399 [(.tmp 56), (.tmp 57), (.cst (.int .i64 1))], none⟩,
  ⟨some 55, .mov (.tmp 58), none⟩,
  ⟨some 59, .extract 0 (.tmp 55), none⟩,
  ⟨some 60, .extract 1 (.tmp 55), none⟩,
  ⟨some 61, .extract 2 (.tmp 55), none⟩,
  ⟨some 11, .mov (.tmp 59), none⟩,
  ⟨some 12, .mov (.tmp 60), none⟩,
  ⟨some 13, .mov (.tmp 61), none⟩] :: K) fr S := rfl
def ref11_read_r12 : List POper := [
  ⟨some 62, .mov (.tmp 13), none⟩,
  ⟨some 63, .un .not (.tmp 62), none⟩,
  ⟨some 64, .mov (.tmp 63), none⟩,
  ⟨some 65, .mov (.tmp 11), some (64, false)⟩,
  ⟨some 66, .iaddr 1 (.tmp 65) (.cst (.int .i64 0)), some (64, false)⟩,
  ⟨some 67, .load false 1 false (.tmp 66), some (64, false)⟩,
  ⟨some 68, .arith .gtr (.tmp 67) (.cst (.int .i64 64)), some (64, false)⟩,
  ⟨some 69, .pick (.tmp 64) (.cst (.bool true)) (.tmp 68), none⟩]
@[simp] theorem ref11_read_r12_go (T : Tbl) (K : List Kt) (fr : Fr) (S : St) : gval T (.ops ref11_read_r12 :: K) fr S = gval T (.ops [
  ⟨some 62, .mov (.tmp 13), none⟩,
  ⟨some 63, .un .not (.tmp 62), none⟩,
  ⟨some 64, .mov (.tmp 63), none⟩,
  ⟨some 65, .mov (.tmp 11), some (64, false)⟩,
  ⟨some 66, .iaddr 1 (.tmp 65) (.cst (.int .i64 0)), some (64, false)⟩,
  ⟨some 67, .load false 1 false (.tmp 66), some (64, false)⟩,
  ⟨some 68, .arith .gtr (.tmp 67) (.cst (.int .i64 64)), some (64, false)⟩,
  ⟨some 69, .pick (.tmp 64) (.cst (.bool true)) (.tmp 68), none⟩] :: K) fr S := rfl
def ref11_read_r13 : List POper := [
  ⟨some 70, .build [(.int .i64 0), .nils, .nils, .nils, (.int .i64 0), (.int .i64 0)] [], none⟩,
  ⟨none, .store 6 (.tmp 2) (.tmp 70), none⟩,
  ⟨some 3, .mov (.cst (.bool false)), none⟩]
@[simp] theorem ref11_read_r13_go (T : Tbl) (K : List Kt) (fr : Fr) (S : St) : gval T (.ops ref11_read_r13 :: K) fr S = gval T (.ops [
  ⟨some 70, .build [(.int .i64 0), .nils, .nils, .nils, (.int .i64 0), (.int .i64 0)] [], none⟩,
  ⟨none, .store 6 (.tmp 2) (.tmp 70), none⟩,
  ⟨some 3, .mov (.cst (.bool false)), none⟩] :: K) fr S := rfl
def ref11_read_r14 : List POper := [
  ⟨some 72, .mov (.tmp 0), none⟩,
  ⟨some 73, .mov (.tmp 12), none⟩,
  ⟨some 74, .mov (.tmp 11), none⟩,
  ⟨some 75, .iaddr 1 (.tmp 74) (.cst (.int .i64 0)), none⟩,
  ⟨some 76, .load false 1 false (.tmp 75), none⟩,
  ⟨some 77, .arith .mul (.cst (.int .i64 3)) (.tmp 76), none⟩,
  ⟨some 78, .call .std 399 [(.tmp 72), (.tmp 73), (.tmp 77)], none⟩,
  ⟨some 71, .mov (.tmp 78), none⟩,
  ⟨some 79, .extract 0 (.tmp 71), none⟩,
  ⟨some 80, .extract 1 (.tmp 71), none⟩,
  ⟨some 81, .extract 2 (.tmp 71), none⟩,
  ⟨some 14, .mov (.tmp 79), none⟩,
  ⟨some 15, .mov (.tmp 80), none⟩,
  ⟨some 13, .mov (.tmp 81), none⟩]
@[simp] theorem ref11_read_r14_go (T : Tbl) (K : List Kt) (fr : Fr) (S : St) : gval T (.ops ref11_read_r14 :: K) fr S = gval T (.ops [
  ⟨some 72, .mov (.tmp 0), none⟩,
  ⟨some 73, .mov (.tmp 12), none⟩,
  ⟨some 74, .mov (.tmp 11), none⟩,
  ⟨some 75, .iaddr 1 (.tmp 74) (.cst (.int .i64 0)), none⟩,
  ⟨some 76, .load false 1 false (.tmp 75), none⟩,
  ⟨some 77, .arith .mul (.cst (.int .i64 3)) (.tmp 76), none⟩,
  ⟨some 78, .call .std 399 [(.tmp 72), (.tmp 73), (.tmp 77)], none⟩,
  ⟨some 71, .mov (.tmp 78), none⟩,
  ⟨some 79, .extract 0 (.tmp 71), none⟩,
  ⟨some 80, .extract 1 (.tmp 71), none⟩,
  ⟨some 81, .extract 2 (.tmp 71), none⟩,
  ⟨some 14, .mov (.tmp 79), none⟩,
  ⟨some 15, .mov (.tmp 80), none⟩,
  ⟨some 13, .mov (.tmp 81), none⟩] :: K) fr S := rfl
def ref11_read_r15 : List POper := [
  ⟨some 16, .mov (.cst (.int .i64 0)), none⟩]
@[simp] theorem ref11_read_r15_go (T : Tbl) (K : List Kt) (fr : Fr) (S : St) : gval T (.ops ref11_read_r15 :: K) fr S = gval T (.ops [
  ⟨some 16, .mov (.cst (.int .i64 0)), none⟩] :: K) fr S := rfl
def ref11_read_r16 : List POper := [
  ⟨some 82, .mov (.tmp 16), none⟩,
  ⟨some 83, .arith .add (.tmp 82) (.cst (.int .i64 2)), none⟩,
  ⟨some 84, .mov (.tmp 14), none⟩,
  ⟨some 85, .len false (.tmp 84), none⟩,
  ⟨some 86, .arith .lss (.tmp 83) (.tmp 85), none⟩]
@[simp] theorem ref11_read_r16_go (T : Tbl) (K : List Kt) (fr : Fr) (S : St) : gval T (.ops ref11_read_r16 :: K) fr S = gval T (.ops [
  ⟨some 82, .mov (.tmp 16), none⟩,
  ⟨some 83, .arith .add (.tmp 82) (.cst (.int .i64 2)), none⟩,
  ⟨some 84, .mov (.tmp 14), none⟩,
  ⟨some 85, .len false (.tmp 84), none⟩,
  ⟨some 86, .arith .lss (.tmp 83) (.tmp 85), none⟩] :: K) fr S := rfl
def ref11_read_r18 : List POper := [
  ⟨some 89, .mov (.tmp 14), none⟩,
  ⟨some 90, .mov (.tmp 16), none⟩,
  ⟨some 91, .arith .add (.tmp 90) (.cst (.int .i64 2)), none⟩,
  ⟨some 92, .iaddr 1 (.tmp 89) (.tmp 91), none⟩,
  ⟨some 93, .load false 1 false (.tmp 92), none⟩,
  ⟨some 94, .arith .quo (.tmp 93) (.cst (.int .i64 2)), none⟩,
  ⟨some 17, .mov (.tmp 94), none⟩]
@[simp] theorem ref11_read_r18_go (T : Tbl) (K : List Kt) (fr : Fr) (S : St) : gval T (.ops ref11_read_r18 :: K) fr S = gval T (.ops [
  ⟨some 89, .mov (.tmp 14), none⟩,
  ⟨some 90, .mov (.tmp 16), none⟩,
  ⟨some 91, .arith .add (.tmp 90) (.cst (.int .i64 2)), none⟩,
  ⟨some 92, .iaddr 1 (.tmp 89) (.tmp 91), none⟩,
  ⟨some 93, .load false 1 false (.tmp 92), none⟩,
  ⟨some 94, .arith .quo (.tmp 93) (.cst (.int .i64 2)), none⟩,
  ⟨some 17, .mov (.tmp 94), none⟩] :: K) fr S := rfl
def ref11_read_r19 : List POper := [
  ⟨some 95, .mov (.tmp 14), none⟩,
  ⟨some 96, .mov (.tmp 16), none⟩,
  ⟨some 97, .arith .add (.tmp 96) (.cst (.int .i64 2)), none⟩,
  ⟨some 98, .iaddr 1 (.tmp 95) (.tmp 97), none⟩,
  ⟨some 99, .load false 1 false (.tmp 98), none⟩,
  ⟨some 100, .arith .rem (.tmp 99) (.cst (.int .i64 2)), none⟩,
  ⟨some 101, .arith .eql (.tmp 100) (.cst (.int .i64 1)), none⟩]
@[simp] theorem ref11_read_r19_go (T : Tbl) (K : List Kt) (fr : Fr) (S : St) : gval T (.ops ref11_read_r19 :: K) fr S = gval T (.ops [
  ⟨some 95, .mov (.tmp 14), none⟩,
  ⟨some 96, .mov (.tmp 16), none⟩,
  ⟨some 97, .arith .add (.tmp 96) (.cst (.int .i64 2)), none⟩,
  ⟨some 98, .iaddr 1 (.tmp 95) (.tmp 97), none⟩,
  ⟨some 99, .load false 1 false (.tmp 98), none⟩,
  ⟨some 100, .arith .rem (.tmp 99) (.cst (.int .i64 2)), none⟩,
  ⟨some 101, .arith .eql (.tmp 100) (.cst (.int .i64 1)), none⟩] :: K) fr S := rfl
def ref11_read_r20 : List POper := [
  ⟨some 102, .mov (.tmp 17), none⟩,
  ⟨some 103, .un .neg (.tmp 102), none⟩,
  ⟨some 104, .arith .sub (.tmp 103) (.cst (.int .i64 1)), none⟩,
  ⟨some 17, .mov (.tmp 104), none⟩]
@[simp] theorem ref11_read_r20_go (T : Tbl) (K : List Kt) (fr : Fr) (S : St) : gval T (.ops ref11_read_r20 :: K) fr S = gval T (.ops [
  ⟨some 102, .mov (.tmp 17), none⟩,
  ⟨some 103, .un .neg (.tmp 102), none⟩,
  ⟨some 104, .arith .sub (.tmp 103) (.cst (.int .i64 1)), none⟩,
  ⟨some 17, .mov (.tmp 104), none⟩] :: K) fr S := rfl
def ref11_read_r21 : List POper := [
  ⟨some 105, .faddr 2 (.tmp 7), none⟩,
  ⟨some 106, .load false 1 false (.tmp 105), none⟩,
  ⟨some 107, .mov (.tmp 14), none⟩,
  ⟨some 108, .mov (.tmp 16), none⟩,
  ⟨some 109, .iaddr 1 (.tmp 107) (.tmp 108), none⟩,
  ⟨some 110, .load false 1 true (.tmp 109), none⟩,
  ⟨some 111, .mov (.tmp 14), none⟩,
  ⟨some 112, .mov (.tmp 16), none⟩,
  ⟨some 113, .arith .add (.tmp 112) (.cst (.int .i64 1)), none⟩,
  ⟨some 114, .iaddr 1 (.tmp 111) (.tmp 113), none⟩,
  ⟨some 115, .load false 1 true (.tmp 114), none⟩,
  ⟨some 116, .mov (.tmp 17), none⟩,
  ⟨some 117, .build [(.int .i64 0), (.int .i64 0)] [(0, 1, (.tmp 115)), (1, 1, (.tmp 116))], none⟩,
  ⟨some 118, .build [(.int .i64 0), (.int .i64 0), (.int .i64 0)] [(0, 1, (.tmp 110)), (1, 2, (.tmp 117))], none⟩,
  ⟨some 119, .bsl false (.agg [(.int .i64 0), (.int .i64 0), (.int .i64 0)]) 1 [(0, (.tmp 118))], none⟩,
  ⟨some 120, .app 3 24 (.tmp 106) (.tmp 119), none⟩,
  ⟨some 121, .faddr 2 (.tmp 7), none⟩,
  ⟨none, .store 1 (.tmp 121) (.tmp 120), none⟩]
@[simp] theorem ref11_read_r21_go (T : Tbl) (K : List Kt) (fr : Fr) (S : St) : gval T (.ops ref11_read_r21 :: K) fr S = gval T (.ops [
  ⟨some 105, .faddr 2 (.tmp 7), none⟩,
  ⟨some 106, .load false 1 false (.tmp 105), none⟩,
  ⟨some 107, .mov (.tmp 14), none⟩,
  ⟨some 108, .mov (.tmp 16), none⟩,
  ⟨some 109, .iaddr 1 (.tmp 107) (.tmp 108), none⟩,
  ⟨some 110, .load false 1 true (.tmp 109), none⟩,
  ⟨some 111, .mov (.tmp 14), none⟩,
  ⟨some 112, .mov (.tmp 16), none⟩,
  ⟨some 113, .arith .add (.tmp 112) (.cst (.int .i64 1)), none⟩,
  ⟨some 114, .iaddr 1 (.tmp 111) (.tmp 113), none⟩,
  ⟨some 115, .load false 1 true (.tmp 114), none⟩,
  ⟨some 116, .mov (.tmp 17), none⟩,
  ⟨some 117, .build [(.int .i64 0), (.int .i64 0)] [(0, 1, (.tmp 115)), (1, 1, (.tmp 116))], none⟩,
  ⟨some 118, .build [(.int .i64 0), (.int .i64 0), (.int .i64 0)] [(0, 1, (.tmp 110)), (1, 2, (.tmp 117))], none⟩,
  ⟨some 119, .bsl false (.agg [(.int .i64 0), (.int .i64 0), (.int .i64 0)]) 1 [(0, (.tmp 118))], none⟩,
  ⟨some 120, .app 3 24 (.tmp 106) (.tmp 119), none⟩,
  ⟨some 121, .faddr 2 (.tmp 7), none⟩,
  ⟨none, .store 1 (.tmp 121) (.tmp 120), none⟩] :: K) fr S := rfl
def ref11_read_r17 : List POper := [
  ⟨some 87, .mov (.tmp 16), none⟩,
  ⟨some 88, .arith .add (.tmp 87) (.cst (.int .i64 3)), none⟩,
  ⟨some 16, .mov (.tmp 88), none⟩]
@[simp] theorem ref11_read_r17_go (T : Tbl) (K : List Kt) (fr : Fr) (S : St) : gval T (.ops ref11_read_r17 :: K) fr S = gval T (.ops [
  ⟨some 87, .mov (.tmp 16), none⟩,
  ⟨some 88, .arith .add (.tmp 87) (.cst (.int .i64 3)), none⟩,
  ⟨some 16, .mov (.tmp 88), none⟩] :: K) fr S := rfl
def ref11_read_l0 : PCode :=
  (.seq (.seq (.clr [(82, 86)] (.region ref11_read_r16)) (.cond (.tmp 86) .skip (.exit 1))) (.seq (.block 2 (.seq (.clr [(89, 95)] (.region ref11_read_r18)) (.seq (.seq (.clr [(95, 101)] (.region ref11_read_r19)) (.cond (.tmp 101) (.clr [(102, 105)] (.region ref11_read_r20)) .skip)) (.clr [(105, 122)] (.region ref11_read_r21))))) (.clr [(87, 89)] (.region ref11_read_r17))))
@[simp] theorem ref11_read_l0_go (T : Tbl) (K : List Kt) (fr : Fr) (S : St) : gval T (.code ref11_read_l0 :: K) fr S = gval T (.code (.seq (.seq (.clr [(82, 86)] (.region ref11_read_r16)) (.cond (.tmp 86) .skip (.exit 1))) (.seq (.block 2 (.seq (.clr [(89, 95)] (.region ref11_read_r18)) (.seq (.seq (.clr [(95, 101)] (.region ref11_read_r19)) (.cond (.tmp 101) (.clr [(102, 105)] (.region ref11_read_r20)) .skip)) (.clr [(105, 122)] (.region ref11_read_r21))))) (.clr [(87, 89)] (.region ref11_read_r17)))) :: K) fr S := rfl
def ref11_read_r22 : List POper := [
  ⟨some 122, .load true 6 false (.tmp 7), none⟩,
  ⟨some 123, .mov (.tmp 13), none⟩,
  ⟨none, .store 6 (.tmp 2) (.tmp 122), none⟩,
  ⟨some 3, .mov (.tmp 123), none⟩]
@[simp] theorem ref11_read_r22_go (T : Tbl) (K : List Kt) (fr : Fr) (S : St) : gval T (.ops ref11_read_r22 :: K) fr S = gval T (.ops [
  ⟨some 122, .load true 6 false (.tmp 7), none⟩,
  ⟨some 123, .mov (.tmp 13), none⟩,
  ⟨none, .store 6 (.tmp 2) (.tmp 122), none⟩,
  ⟨some 3, .mov (.tmp 123), none⟩] :: K) fr S := rfl
def ref11_read_r23 : List POper := [
  ⟨some 125, .arith .eql (.tmp 38) (.cst (.int .i64 3)), none⟩,
  ⟨some 124, .mov (.tmp 125), none⟩]
@[simp] theorem ref11_read_r23_go (T : Tbl) (K : List Kt) (fr : Fr) (S : St) : gval T (.ops ref11_read_r23 :: K) fr S = gval T (.ops [
  ⟨some 125, .arith .eql (.tmp 38) (.cst (.int .i64 3)), none⟩,
  ⟨some 124, .mov (.tmp 125), none⟩] :: K) fr S := rfl
def ref11_read_r24 : List POper := [
  ⟨some 127, .mov (.tmp 0), none⟩,
  ⟨some 128, .mov (.tmp 5), none⟩,
  ⟨some 129, .call .std 400 [(.tmp 127), (.tmp 128)], none⟩,
  ⟨some 126, .mov (.tmp 129), none⟩,
  ⟨some 130, .extract 0 (.tmp 126), none⟩,
  ⟨some 131, .extract 1 (.tmp 126), none⟩,
  ⟨some 132, .extract 2 (.tmp 126), none⟩,
  ⟨some 18, .mov (.tmp 130), none⟩,
  ⟨some 19, .mov (.tmp 131), none⟩,
  ⟨some 20, .mov (.tmp 132), none⟩]
@[simp] theorem ref11_read_r24_go (T : Tbl) (K : List Kt) (fr : Fr) (S : St) : gval T (.ops ref11_read_r24 :: K) fr S = gval T (.ops [
  ⟨some 127, .mov (.tmp 0), none⟩,
  ⟨some 128, .mov (.tmp 5), none⟩,
  ⟨some 129, .call .std 400 [(.tmp 127), (.tmp 128)], none⟩,
  ⟨some 126, .mov (.tmp 129), none⟩,
  ⟨some 130, .extract 0 (.tmp 126), none⟩,
  ⟨some 131, .extract 1 (.tmp 126), none⟩,
  ⟨some 132, .extract 2 (.tmp 126), none⟩,
  ⟨some 18, .mov (.tmp 130), none⟩,
  ⟨some 19, .mov (.tmp 131), none⟩,
  ⟨some 20, .mov (.tmp 132), none⟩] :: K) fr S := rfl
def ref11_read_r25 : List POper := [
  ⟨some 134, .mov (.tmp 0), none⟩,
  ⟨some 135, .mov (.tmp 19), none⟩,
  ⟨some 136, .call .std 399 [(.tmp 134), (.tmp 135), (.cst (.int .i64 2))], none⟩,
  ⟨some 133, .mov (.tmp 136), none⟩,
  ⟨some 137, .extract 0 (.tmp 133), none⟩,
  ⟨some 138, .extract 1 (.tmp 133), none⟩,
  ⟨some 139, .extract 2 (.tmp 133), none⟩,
  ⟨some 21, .mov (.tmp 137), none⟩,
  ⟨some 22, .mov (.tmp 138), none⟩,
  ⟨some 23, .mov (.tmp 139), none⟩]
@[simp] theorem ref11_read_r25_go (T : Tbl) (K : List Kt) (fr : Fr) (S : St) : gval T (.ops ref11_read_r25 :: K) fr S = gval T (.ops [
  ⟨some 134, .mov (.tmp 0), none⟩,
  ⟨some 135, .mov (.tmp 19), none⟩,
  ⟨some 136, .call .std 399 [(.tmp 134), (.tmp 135), (.cst (.int .i64 2))], none⟩,
  ⟨some 133, .mov (.tmp 136), none⟩,
  ⟨some 137, .extract 0 (.tmp 133), none⟩,
  ⟨some 138, .extract 1 (.tmp 133), none⟩,
  ⟨some 139, .extract 2 (.tmp 133), none⟩,
  ⟨some 21, .mov (.tmp 137), none⟩,
  ⟨some 22, .mov (.tmp 138), none⟩,
  ⟨some 23, .mov (.tmp 139), none⟩] :: K) fr S := rfl
def ref11_read_r26 : List POper := [
  ⟨some 140, .mov (.tmp 20), none⟩,
  ⟨some 141, .arith .neq (.tmp 140) (.cst (.int .i64 0)), none⟩,
  ⟨some 142, .mov (.tmp 141), none⟩,
  ⟨some 143, .mov (.tmp 23), some (142, false)⟩,
  ⟨some 144, .un .not (.tmp 143), some (142, false)⟩,
  ⟨some 145, .pick (.tmp 142) (.cst (.bool true)) (.tmp 144), none⟩]
@[simp] theorem ref11_read_r26_go (T : Tbl) (K : List Kt) (fr : Fr) (S : St) : gval T (.ops ref11_read_r26 :: K) fr S = gval T (.ops [
  ⟨some 140, .mov (.tmp 20), none⟩,
  ⟨some 141, .arith .neq (.tmp 140) (.cst (.int .i64 0)), none⟩,
  ⟨some 142, .mov (.tmp 141), none⟩,
  ⟨some 143, .mov (.tmp 23), some (142, false)⟩,
  ⟨some 144, .un .not (.tmp 143), some (142, false)⟩,
  ⟨some 145, .pick (.tmp 142) (.cst (.bool true)) (.tmp 144), none⟩] :: K) fr S := rfl
def ref11_read_r27 : List POper := [
  ⟨some 146, .build [(.int .i64 0), .nils, .nils, .nils, (.int .i64 0), (.int .i64 0)] [], none⟩,
  ⟨none, .store 6 (.tmp 2) (.tmp 146), none⟩,
  ⟨some 3, .mov (.cst (.bool false)), none⟩]
@[simp] theorem ref11_read_r27_go (T : Tbl) (K : List Kt) (fr : Fr) (S : St) : gval T (.ops ref11_read_r27 :: K) fr S = gval T (.ops [
  ⟨some 146, .build [(.int .i64 0), .nils, .nils, .nils, (.int .i64 0), (.int .i64 0)] [], none⟩,
  ⟨none, .store 6 (.tmp 2) (.tmp 146), none⟩,
  ⟨some 3, .mov (.cst (.bool false)), none⟩] :: K) fr S := rfl
def ref11_read_r28 : List POper := [
  ⟨some 147, .mov (.tmp 18), none⟩,
  ⟨some 148, .mov (.tmp 21), none⟩,
  ⟨some 149, .iaddr 1 (.tmp 148) (.cst (.int .i64 0)), none⟩,
  ⟨some 150, .load false 1 true (.tmp 149), none⟩,
  ⟨some 151, .mov (.tmp 21), none⟩,
  ⟨some 152, .iaddr 1 (.tmp 151) (.cst (.int .i64 1)), none⟩,
  ⟨some 153, .load false 1 true (.tmp 152), none⟩,
  ⟨some 154, .faddr 3 (.tmp 7), none⟩,
  ⟨none, .store 1 (.tmp 154) (.tmp 147), none⟩,
  ⟨some 155, .faddr 4 (.tmp 7), none⟩,
  ⟨none, .store 1 (.tmp 155) (.tmp 150), none⟩,
  ⟨some 156, .faddr 5 (.tmp 7), none⟩,
  ⟨none, .store 1 (.tmp 156) (.tmp 153), none⟩]
@[simp] theorem ref11_read_r28_go (T : Tbl) (K : List Kt) (fr : Fr) (S : St) : gval T (.ops ref11_read_r28 :: K) fr S = gval T (.ops [
  ⟨some 147, .mov (.tmp 18), none⟩,
  ⟨some 148, .mov (.tmp 21), none⟩,
  ⟨some 149, .iaddr 1 (.tmp 148) (.cst (.int .i64 0)), none⟩,
  ⟨some 150, .load false 1 true (.tmp 149), none⟩,
  ⟨some 151, .mov (.tmp 21), none⟩,
  ⟨some 152, .iaddr 1 (.tmp 151) (.cst (.int .i64 1)), none⟩,
  ⟨some 153, .load false 1 true (.tmp 152), none⟩,
  ⟨some 154, .faddr 3 (.tmp 7), none⟩,
  ⟨none, .store 1 (.tmp 154) (.tmp 147), none⟩,
  ⟨some 155, .faddr 4 (.tmp 7), none⟩,
  ⟨none, .store 1 (.tmp 155) (.tmp 150), none⟩,
  ⟨some 156, .faddr 5 (.tmp 7), none⟩,
  ⟨none, .store 1 (.tmp 156) (.tmp 153), none⟩] :: K) fr S := rfl
def ref11_read_r29 : List POper := [
  ⟨some 157, .load true 6 false (.tmp 7), none⟩,
  ⟨none, .store 6 (.tmp 2) (.tmp 157), none⟩,
  ⟨some 3, .mov (.cst (.bool true)), none⟩]
@[simp] theorem ref11_read_r29_go (T : Tbl) (K : List Kt) (fr : Fr) (S : St) : gval T (.ops ref11_read_r29 :: K) fr S = gval T (.ops [
  ⟨some 157, .load true 6 false (.tmp 7), none⟩,
  ⟨none, .store 6 (.tmp 2) (.tmp 157), none⟩,
  ⟨some 3, .mov (.cst (.bool true)), none⟩] :: K) fr S := rfl
def ref11_read_r30 : List POper := [
  ⟨some 158, .build [(.int .i64 0), .nils, .nils, .nils, (.int .i64 0), (.int .i64 0)] [], none⟩,
  ⟨none, .store 6 (.tmp 2) (.tmp 158), none⟩,
  ⟨some 3, .mov (.cst (.bool false)), none⟩]
@[simp] theorem ref11_read_r30_go (T : Tbl) (K : List Kt) (fr : Fr) (S : St) : gval T (.ops ref11_read_r30 :: K) fr S = gval T (.ops [
  ⟨some 158, .build [(.int .i64 0), .nils, .nils, .nils, (.int .i64 0), (.int .i64 0)] [], none⟩,
  ⟨none, .store 6 (.tmp 2) (.tmp 158), none⟩,
  ⟨some 3, .mov (.cst (.bool false)), none⟩] :: K) fr S := rfl
def ref11_read : PCodeFn :=
  ⟨1, [.cell 2 true 6, .tmp 3],
  (.seq (.region ref11_read_r0) (.seq (.clr [(24, 30)] (.region ref11_read_r1)) (.seq (.seq (.clr [(30, 31)] (.region ref11_read_r2)) (.cond (.tmp 31) (.seq (.clr [(32, 33)] (.region ref11_read_r3)) .ret) .skip)) (.seq (.clr [(33, 37)] (.region ref11_read_r4)) (.seq (.seq (.clr [(37, 38)] (.region ref11_read_r5)) (.block 0 (.seq (.clr [(40, 41)] (.region ref11_read_r6)) (.cond (.tmp 39) (.seq (.clr [(9, 10), (41, 48)] (.region ref11_read_r7)) (.seq (.clr [(48, 50)] (.region ref11_read_r8)) (.seq (.clr [(50, 53)] (.region ref11_read_r9)) .ret))) (.seq (.clr [(54, 55)] (.region ref11_read_r10)) (.cond (.tmp 53) (.seq (.clr [(55, 62)] (.region ref11_read_r11)) (.seq (.seq (.clr [(62, 69)] (.region ref11_read_r12)) (.cond (.tmp 69) (.seq (.clr [(70, 71)] (.region ref11_read_r13)) .ret) .skip)) (.seq (.clr [(15, 16), (71, 82)] (.region ref11_read_r14)) (.seq (.seq (.region ref11_read_r15) (.block 1 (.loop ref11_read_l0))) (.seq (.clr [(122, 124)] (.region ref11_read_r22)) .ret))))) (.seq (.clr [(125, 126)] (.region ref11_read_r23)) (.cond (.tmp 124) (.seq (.clr [(126, 133)] (.region ref11_read_r24)) (.seq (.clr [(22, 23), (133, 140)] (.region ref11_read_r25)) (.seq (.seq (.clr [(140, 145)] (.region ref11_read_r26)) (.cond (.tmp 145) (.seq (.clr [(146, 147)] (.region ref11_read_r27)) .ret) .skip)) (.seq (.clr [(147, 157)] (.region ref11_read_r28)) (.seq (.clr [(157, 158)] (.region ref11_read_r29)) .ret))))) .skip)))))))) (.seq (.clr [(158, 159)] (.region ref11_read_r30)) .ret)))))), false⟩

/-! gauge/disk.New: 16 -/
def disk_New_r0 : List POper := [
  ⟨some 2, .mov (.cst .nilp), none⟩,
  ⟨some 3, .mov (.cst (.int .i64 0)), none⟩]
@[simp] theorem disk_New_r0_go (T : Tbl) (K : List Kt) (fr : Fr) (S : St) : gval T (.ops disk_New_r0 :: K) fr S = gval T (.ops [
  ⟨some 2, .mov (.cst .nilp), none⟩,
  ⟨some 3, .mov (.cst (.int .i64 0)), none⟩] :: K) fr S := rfl
def disk_New_r1 : List POper := [
  ⟨some 4, .mov (.tmp 0), none⟩,
  ⟨some 5, .arith .lss (.tmp 4) (.cst (.int .i64 1)), none⟩,
  ⟨some 6, .mov (.tmp 5), none⟩,
  ⟨some 7, .mov (.tmp 0), some (6, false)⟩,
  ⟨some 8, .arith .gtr (.tmp 7) (.cst (.int .i64 4194304)), some (6, false)⟩,
  ⟨some 9, .pick (.tmp 6) (.cst (.bool true)) (.tmp 8), none⟩]
@[simp] theorem disk_New_r1_go (T : Tbl) (K : List Kt) (fr : Fr) (S : St) : gval T (.ops disk_New_r1 :: K) fr S = gval T (.ops [
  ⟨some 4, .mov (.tmp 0), none⟩,
  ⟨some 5, .arith .lss (.tmp 4) (.cst (.int .i64 1)), none⟩,
  ⟨some 6, .mov (.tmp 5), none⟩,
  ⟨some 7, .mov (.tmp 0), some (6, false)⟩,
  ⟨some 8, .arith .gtr (.tmp 7) (.cst (.int .i64 4194304)), some (6, false)⟩,
  ⟨some 9, .pick (.tmp 6) (.cst (.bool true)) (.tmp 8), none⟩] :: K) fr S := rfl
def disk_New_r2 : List POper := [
  ⟨some 2, .mov (.cst .nilp), none⟩,
  ⟨some 3, .mov (.cst (.int .i64 2)), none⟩]
@[simp] theorem disk_New_r2_go (T : Tbl) (K : List Kt) (fr : Fr) (S : St) : gval T (.ops disk_New_r2 :: K) fr S = gval T (.ops [
  ⟨some 2, .mov (.cst .nilp), none⟩,
  ⟨some 3, .mov (.cst (.int .i64 2)), none⟩] :: K) fr S := rfl
def disk_New_r3 : List POper := [
  ⟨some 10, .mov (.tmp 0), none⟩,
  ⟨some 11, .mkm, none⟩,
  ⟨some 12, .mkm, none⟩,
  ⟨some 13, .build [(.int .i64 0), .nilm, .nilm, .nils, (.int .i64 0), (.int .i64 0), (.bool false)] [(0, 1, (.tmp 10)), (1, 1, (.tmp 11)), (2, 1, (.tmp 12)), (4, 1, (.cst (.int .i64 (-1))))], none⟩,
  ⟨some 14, .box false (.tmp 13), none⟩,
  ⟨some 2, .mov (.tmp 14), none⟩,
  ⟨some 3, .mov (.cst (.int .i64 0)), none⟩]
@[simp] theorem disk_New_r3_go (T : Tbl) (K : List Kt) (fr : Fr) (S : St) : gval T (.ops disk_New_r3 :: K) fr S = gval T (.ops [
  ⟨some 10, .mov (.tmp 0), none⟩,
  ⟨some 11, .mkm, none⟩,
  ⟨some 12, .mkm, none⟩,
  ⟨some 13, .build [(.int .i64 0), .nilm, .nilm, .nils, (.int .i64 0), (.int .i64 0), (.bool false)] [(0, 1, (.tmp 10)), (1, 1, (.tmp 11)), (2, 1, (.tmp 12)), (4, 1, (.cst (.int .i64 (-1))))], none⟩,
  ⟨some 14, .box false (.tmp 13), none⟩,
  ⟨some 2, .mov (.tmp 14), none⟩,
  ⟨some 3, .mov (.cst (.int .i64 0)), none⟩] :: K) fr S := rfl
def disk_New : PCodeFn :=
  ⟨1, [.tmp 2, .tmp 3],
  (.seq (.region disk_New_r0) (.seq (.seq (.clr [(4, 9)] (.region disk_New_r1)) (.cond (.tmp 9) (.seq (.region disk_New_r2) .ret) .skip)) (.seq (.clr [(10, 15)] (.region disk_New_r3)) .ret))), false⟩

/-! gauge/frame.Put: 256 -/
def frame_Put_r0 : List POper := [
  ⟨some 4, .mov (.cst .nils), none⟩,
  ⟨some 5, .mov (.cst (.int .i64 0)), none⟩]
@[simp] theorem frame_Put_r0_go (T : Tbl) (K : List Kt) (fr : Fr) (S : St) : gval T (.ops frame_Put_r0 :: K) fr S = gval T (.ops [
  ⟨some 4, .mov (.cst .nils), none⟩,
  ⟨some 5, .mov (.cst (.int .i64 0)), none⟩] :: K) fr S := rfl
def frame_Put_r1 : List POper := [
  ⟨some 7, .mov (.tmp 1), none⟩,
  ⟨some 8, .len false (.tmp 7), none⟩,
  ⟨some 9, .arith .gtr (.tmp 8) (.cst (.int .i64 65535)), none⟩]
@[simp] theorem frame_Put_r1_go (T : Tbl) (K : List Kt) (fr : Fr) (S : St) : gval T (.ops frame_Put_r1 :: K) fr S = gval T (.ops [
  ⟨some 7, .mov (.tmp 1), none⟩,
  ⟨some 8, .len false (.tmp 7), none⟩,
  ⟨some 9, .arith .gtr (.tmp 8) (.cst (.int .i64 65535)), none⟩] :: K) fr S := rfl
def frame_Put_r2 : List POper := [
  ⟨some 4, .mov (.cst .nils), none⟩,
  ⟨some 5, .mov (.cst (.int .i64 3)), none⟩]
@[simp] theorem frame_Put_r2_go (T : Tbl) (K : List Kt) (fr : Fr) (S : St) : gval T (.ops frame_Put_r2 :: K) fr S = gval T (.ops [
  ⟨some 4, .mov (.cst .nils), none⟩,
  ⟨some 5, .mov (.cst (.int .i64 3)), none⟩] :: K) fr S := rfl
def frame_Put_r3 : List POper := [
  ⟨some 10, .mov (.tmp 0), none⟩,
  ⟨some 11, .mov (.tmp 1), none⟩,
  ⟨some 12, .len false (.tmp 11), none⟩,
  ⟨some 13, .arith .add (.tmp 12) (.cst (.int .i64 6)), none⟩,
  ⟨some 14, .call .std 218 [(.tmp 10), (.tmp 13)], none⟩,
  ⟨some 15, .mov (.tmp 1), none⟩,
  ⟨some 16, .len false (.tmp 15), none⟩,
  ⟨some 17, .arith .shr (.tmp 16) (.cst (.int .u64 8)), none⟩,
  ⟨some 18, .toInt .u8 (.tmp 17), none⟩,
  ⟨some 19, .mov (.tmp 1), none⟩,
  ⟨some 20, .len false (.tmp 19), none⟩,
  ⟨some 21, .toInt .u8 (.tmp 20), none⟩,
  ⟨some 22, .bsl false (.int .u8 0) 2 [(0, (.tmp 18)), (1, (.tmp 21))], none⟩,
  ⟨some 23, .app 1 1 (.tmp 14) (.tmp 22), none⟩,
  ⟨some 24, .mov (.tmp 1), none⟩,
  ⟨some 25, .app 1 1 (.tmp 23) (.tmp 24), none⟩,
  ⟨some 6, .mov (.tmp 25), none⟩]
@[simp] theorem frame_Put_r3_go (T : Tbl) (K : List Kt) (fr : Fr) (S : St) : gval T (.ops frame_Put_r3 :: K) fr S = gval T (.ops [
  ⟨some 10, .mov (.tmp 0), none⟩,
  ⟨some 11, .mov (.tmp 1), none⟩,
  ⟨some 12, .len false (.tmp 11), none⟩,
  ⟨some 13, .arith .add (.tmp 12) (.cst (.int .i64 6)), none⟩,
  ⟨some 14, .call .std 218 [(.tmp 10), (.tmp 13)], none⟩,
  ⟨some 15, .mov (.tmp 1), none⟩,
  ⟨some 16, .len false (.tmp 15), none⟩,
  ⟨some 17, .arith .shr (.tmp 16) (.cst (.int .u64 8)), none⟩,
  ⟨some 18, .toInt .u8 (.tmp 17), none⟩,
  ⟨some 19, .mov (.tmp 1), none⟩,
  ⟨some 20, .len false (.tmp 19), none⟩,
  ⟨some 21, .toInt .u8 (.tmp 20), none⟩,
  ⟨some 22, .bsl false (.int .u8 0) 2 [(0, (.tmp 18)), (1, (.tmp 21))], none⟩,
  ⟨some 23, .app 1 1 (.tmp 14) (.tmp 22), none⟩,
  ⟨some 24, .mov (.tmp 1), none⟩,
  ⟨some 25, .app 1 1 (.tmp 23) (.tmp 24), none⟩,
  ⟨some 6, .mov (.tmp 25), none⟩] :: K) fr S := rfl
def frame_Put_r4 : List POper := [
  ⟨some 26, .mov (.tmp 6), none⟩,
  ⟨some 27, .mov (.tmp 6), none⟩,
  ⟨some 28, .mov (.tmp 0), none⟩,
  ⟨some 29, .len false (.tmp 28), none⟩,
  ⟨some 30, .slc 1 (some (.tmp 29)) none (.tmp 27), none⟩,
  ⟨some 31, .call .std 328 [(.tmp 26), (.tmp 30)], none⟩,
  ⟨some 4, .mov (.tmp 31), none⟩,
  ⟨some 5, .mov (.cst (.int .i64 0)), none⟩]
@[simp] theorem frame_Put_r4_go (T : Tbl) (K : List Kt) (fr : Fr) (S : St) : gval T (.ops frame_Put_r4 :: K) fr S = gval T (.ops [
  ⟨some 26, .mov (.tmp 6), none⟩,
  ⟨some 27, .mov (.tmp 6), none⟩,
  ⟨some 28, .mov (.tmp 0), none⟩,
  ⟨some 29, .len false (.tmp 28), none⟩,
  ⟨some 30, .slc 1 (some (.tmp 29)) none (.tmp 27), none⟩,
  ⟨some 31, .call .std 328 [(.tmp 26), (.tmp 30)], none⟩,
  ⟨some 4, .mov (.tmp 31), none⟩,
  ⟨some 5, .mov (.cst (.int .i64 0)), none⟩] :: K) fr S := rfl
def frame_Put : PCodeFn :=
  ⟨2, [.tmp 4, .tmp 5],
  (.seq (.region frame_Put_r0) (.seq (.seq (.clr [(7, 9)] (.region frame_Put_r1)) (.cond (.tmp 9) (.seq (.region frame_Put_r2) .ret) .skip)) (.seq (.clr [(10, 26)] (.region frame_Put_r3)) (.seq (.clr [(26, 32)] (.region frame_Put_r4)) .ret)))), false⟩

/-! (*gauge/disk.Disk).find: 194 -/
def disk_Disk_find_r0 : List POper := [
  ⟨some 4, .mov (.cst .nilp), none⟩,
  ⟨some 5, .mov (.cst (.int .i64 0)), none⟩]
@[simp] theorem disk_Disk_find_r0_go (T : Tbl) (K : List Kt) (fr : Fr) (S : St) : gval T (.ops disk_Disk_find_r0 :: K) fr S = gval T (.ops [
  ⟨some 4, .mov (.cst .nilp), none⟩,
  ⟨some 5, .mov (.cst (.int .i64 0)), none⟩] :: K) fr S := rfl
def disk_Disk_find_r1 : List POper := [
  ⟨some 7, .mov (.tmp 0), none⟩,
  ⟨some 8, .eqn false .p (.tmp 7), none⟩,
  ⟨some 9, .mov (.tmp 8), none⟩,
  ⟨some 10, .mov (.tmp 0), some (9, false)⟩,
  ⟨some 11, .nilck (.tmp 10), some (9, false)⟩,
  ⟨some 12, .faddr 2 (.tmp 11), some (9, false)⟩,
  ⟨some 13, .load false 1 false (.tmp 12), some (9, false)⟩,
  ⟨some 14, .eqn false .m (.tmp 13), some (9, false)⟩,
  ⟨some 15, .pick (.tmp 9) (.cst (.bool true)) (.tmp 14), none⟩,
  ⟨some 6, .mov (.tmp 15), none⟩]
@[simp] theorem disk_Disk_find_r1_go (T : Tbl) (K : List Kt) (fr : Fr) (S : St) : gval T (.ops disk_Disk_find_r1 :: K) fr S = gval T (.ops [
  ⟨some 7, .mov (.tmp 0), none⟩,
  ⟨some 8, .eqn false .p (.tmp 7), none⟩,
  ⟨some 9, .mov (.tmp 8), none⟩,
  ⟨some 10, .mov (.tmp 0), some (9, false)⟩,
  ⟨some 11, .nilck (.tmp 10), some (9, false)⟩,
  ⟨some 12, .faddr 2 (.tmp 11), some (9, false)⟩,
  ⟨some 13, .load false 1 false (.tmp 12), some (9, false)⟩,
  ⟨some 14, .eqn false .m (.tmp 13), some (9, false)⟩,
  ⟨some 15, .pick (.tmp 9) (.cst (.bool true)) (.tmp 14), none⟩,
  ⟨some 6, .mov (.tmp 15), none⟩] :: K) fr S := rfl
def disk_Disk_find_r2 : List POper := [
  ⟨some 4, .mov (.cst .nilp), none⟩,
  ⟨some 5, .mov (.cst (.int .i64 1)), none⟩]
@[simp] theorem disk_Disk_find_r2_go (T : Tbl) (K : List Kt) (fr : Fr) (S : St) : gval T (.ops disk_Disk_find_r2 :: K) fr S = gval T (.ops [
  ⟨some 4, .mov (.cst .nilp), none⟩,
  ⟨some 5, .mov (.cst (.int .i64 1)), none⟩] :: K) fr S := rfl
def disk_Disk_find_r3 : List POper := [
  ⟨some 17, .mov (.tmp 1), none⟩,
  ⟨some 18, .call .pur 202 [(.tmp 17)], none⟩,
  ⟨some 19, .un .not (.tmp 18), none⟩,
  ⟨some 16, .mov (.tmp 19), none⟩]
@[simp] theorem disk_Disk_find_r3_go (T : Tbl) (K : List Kt) (fr : Fr) (S : St) : gval T (.ops disk_Disk_find_r3 :: K) fr S = gval T (.ops [
  ⟨some 17, .mov (.tmp 1), none⟩,
  ⟨some 18, .call .pur 202 [(.tmp 17)], none⟩,
  ⟨some 19, .un .not (.tmp 18), none⟩,
  ⟨some 16, .mov (.tmp 19), none⟩] :: K) fr S := rfl
def disk_Disk_find_r4 : List POper := [
  ⟨some 4, .mov (.cst .nilp), none⟩,
  ⟨some 5, .mov (.cst (.int .i64 8)), none⟩]
@[simp] theorem disk_Disk_find_r4_go (T : Tbl) (K : List Kt) (fr : Fr) (S : St) : gval T (.ops disk_Disk_find_r4 :: K) fr S = gval T (.ops [
  ⟨some 4, .mov (.cst .nilp), none⟩,
  ⟨some 5, .mov (.cst (.int .i64 8)), none⟩] :: K) fr S := rfl
def disk_Disk_find_r5 : List POper := [
  ⟨some 21, .mov (.tmp 0), none⟩,
  ⟨some 22, .nilck (.tmp 21), none⟩,
  ⟨some 23, .faddr 2 (.tmp 22), none⟩,
  ⟨some 24, .load false 1 false (.tmp 23), none⟩,
  ⟨some 25, .mov (.tmp 1), none⟩,
  ⟨some 26, .mlk true false .nilp (.tmp 24) (.tmp 25), none⟩,
  ⟨some 27, .eqn false .p (.tmp 26), none⟩,
  ⟨some 20, .mov (.tmp 27), none⟩]
@[simp] theorem disk_Disk_find_r5_go (T : Tbl) (K : List Kt) (fr : Fr) (S : St) : gval T (.ops disk_Disk_find_r5 :: K) fr S = gval T (.ops [
  ⟨some 21, .mov (.tmp 0), none⟩,
  ⟨some 22, .nilck (.tmp 21), none⟩,
  ⟨some 23, .faddr 2 (.tmp 22), none⟩,
  ⟨some 24, .load false 1 false (.tmp 23), none⟩,
  ⟨some 25, .mov (.tmp 1), none⟩,
  ⟨some 26, .mlk true false .nilp (.tmp 24) (.tmp 25), none⟩,
  ⟨some 27, .eqn false .p (.tmp 26), none⟩,
  ⟨some 20, .mov (.tmp 27), none⟩] :: K) fr S := rfl
def disk_Disk_find_r6 : List POper := [
  ⟨some 4, .mov (.cst .nilp), none⟩,
  ⟨some 5, .mov (.cst (.int .i64 9)), none⟩]
@[simp] theorem disk_Disk_find_r6_go (T : Tbl) (K : List Kt) (fr : Fr) (S : St) : gval T (.ops disk_Disk_find_r6 :: K) fr S = gval T (.ops [
  ⟨some 4, .mov (.cst .nilp), none⟩,
  ⟨some 5, .mov (.cst (.int .i64 9)), none⟩] :: K) fr S := rfl
def disk_Disk_find_r7 : List POper := [
  ⟨some 28, .mov (.tmp 0), none⟩,
  ⟨some 29, .nilck (.tmp 28), none⟩,
  ⟨some 30, .faddr 2 (.tmp 29), none⟩,
  ⟨some 31, .load false 1 false (.tmp 30), none⟩,
  ⟨some 32, .mov (.tmp 1), none⟩,
  ⟨some 33, .mlk true false .nilp (.tmp 31) (.tmp 32), none⟩,
  ⟨some 4, .mov (.tmp 33), none⟩,
  ⟨some 5, .mov (.cst (.int .i64 0)), none⟩]
@[simp] theorem disk_Disk_find_r7_go (T : Tbl) (K : List Kt) (fr : Fr) (S : St) : gval T (.ops disk_Disk_find_r7 :: K) fr S = gval T (.ops [
  ⟨some 28, .mov (.tmp 0), none⟩,
  ⟨some 29, .nilck (.tmp 28), none⟩,
  ⟨some 30, .faddr 2 (.tmp 29), none⟩,
  ⟨some 31, .load false 1 false (.tmp 30), none⟩,
  ⟨some 32, .mov (.tmp 1), none⟩,
  ⟨some 33, .mlk true false .nilp (.tmp 31) (.tmp 32), none⟩,
  ⟨some 4, .mov (.tmp 33), none⟩,
  ⟨some 5, .mov (.cst (.int .i64 0)), none⟩] :: K) fr S := rfl
def disk_Disk_find : PCodeFn :=
  ⟨2, [.tmp 4, .tmp 5],
  (.seq (.region disk_Disk_find_r0) (.seq (.block 0 (.seq (.clr [(7, 16)] (.region disk_Disk_find_r1)) (.cond (.tmp 6) (.seq (.region disk_Disk_find_r2) .ret) (.seq (.clr [(17, 20)] (.region disk_Disk_find_r3)) (.cond (.tmp 16) (.seq (.region disk_Disk_find_r4) .ret) (.seq (.clr [(21, 28)] (.region disk_Disk_find_r5)) (.cond (.tmp 20) (.seq (.region disk_Disk_find_r6) .ret) .skip))))))) (.seq (.clr [(28, 34)] (.region disk_Disk_find_r7)) .ret))), false⟩

/-! (*gauge/disk.Disk).step: 196 -/
def disk_Disk_step_r0 : List POper := [
  ⟨some 2, .mov (.cst (.int .i64 0)), none⟩]
@[simp] theorem disk_Disk_step_r0_go (T : Tbl) (K : List Kt) (fr : Fr) (S : St) : gval T (.ops disk_Disk_step_r0 :: K) fr S = gval T (.ops [
  ⟨some 2, .mov (.cst (.int .i64 0)), none⟩] :: K) fr S := rfl
def disk_Disk_step_r1 : List POper := [
  ⟨some 3, .mov (.tmp 0), none⟩,
  ⟨some 4, .nilck (.tmp 3), none⟩,
  ⟨some 5, .faddr 4 (.tmp 4), none⟩,
  ⟨some 6, .load false 1 false (.tmp 5), none⟩,
  ⟨some 7, .arith .eql (.tmp 6) (.cst (.int .i64 0)), none⟩]
@[simp] theorem disk_Disk_step_r1_go (T : Tbl) (K : List Kt) (fr : Fr) (S : St) : gval T (.ops disk_Disk_step_r1 :: K) fr S = gval T (.ops [
  ⟨some 3, .mov (.tmp 0), none⟩,
  ⟨some 4, .nilck (.tmp 3), none⟩,
  ⟨some 5, .faddr 4 (.tmp 4), none⟩,
  ⟨some 6, .load false 1 false (.tmp 5), none⟩,
  ⟨some 7, .arith .eql (.tmp 6) (.cst (.int .i64 0)), none⟩] :: K) fr S := rfl
def disk_Disk_step_r2 : List POper := [
  ⟨some 8, .mov (.tmp 0), none⟩,
  ⟨some 9, .nilck (.tmp 8), none⟩,
  ⟨some 10, .faddr 6 (.tmp 9), none⟩,
  ⟨none, .store 1 (.tmp 10) (.cst (.bool true)), none⟩]
@[simp] theorem disk_Disk_step_r2_go (T : Tbl) (K : List Kt) (fr : Fr) (S : St) : gval T (.ops disk_Disk_step_r2 :: K) fr S = gval T (.ops [
  ⟨some 8, .mov (.tmp 0), none⟩,
  ⟨some 9, .nilck (.tmp 8), none⟩,
  ⟨some 10, .faddr 6 (.tmp 9), none⟩,
  ⟨none, .store 1 (.tmp 10) (.cst (.bool true)), none⟩] :: K) fr S := rfl
def disk_Disk_step_r3 : List POper := [
  ⟨some 11, .mov (.tmp 0), none⟩,
  ⟨some 12, .nilck (.tmp 11), none⟩,
  ⟨some 13, .faddr 6 (.tmp 12), none⟩,
  ⟨some 14, .load false 1 false (.tmp 13), none⟩]
@[simp] theorem disk_Disk_step_r3_go (T : Tbl) (K : List Kt) (fr : Fr) (S : St) : gval T (.ops disk_Disk_step_r3 :: K) fr S = gval T (.ops [
  ⟨some 11, .mov (.tmp 0), none⟩,
  ⟨some 12, .nilck (.tmp 11), none⟩,
  ⟨some 13, .faddr 6 (.tmp 12), none⟩,
  ⟨some 14, .load false 1 false (.tmp 13), none⟩] :: K) fr S := rfl
def disk_Disk_step_r4 : List POper := [
  ⟨some 2, .mov (.cst (.int .i64 6)), none⟩]
@[simp] theorem disk_Disk_step_r4_go (T : Tbl) (K : List Kt) (fr : Fr) (S : St) : gval T (.ops disk_Disk_step_r4 :: K) fr S = gval T (.ops [
  ⟨some 2, .mov (.cst (.int .i64 6)), none⟩] :: K) fr S := rfl
def disk_Disk_step_r5 : List POper := [
  ⟨some 15, .mov (.tmp 0), none⟩,
  ⟨some 16, .nilck (.tmp 15), none⟩,
  ⟨some 17, .faddr 4 (.tmp 16), none⟩,
  ⟨some 18, .load false 1 false (.tmp 17), none⟩,
  ⟨some 19, .arith .gtr (.tmp 18) (.cst (.int .i64 0)), none⟩]
@[simp] theorem disk_Disk_step_r5_go (T : Tbl) (K : List Kt) (fr : Fr) (S : St) : gval T (.ops disk_Disk_step_r5 :: K) fr S = gval T (.ops [
  ⟨some 15, .mov (.tmp 0), none⟩,
  ⟨some 16, .nilck (.tmp 15), none⟩,
  ⟨some 17, .faddr 4 (.tmp 16), none⟩,
  ⟨some 18, .load false 1 false (.tmp 17), none⟩,
  ⟨some 19, .arith .gtr (.tmp 18) (.cst (.int .i64 0)), none⟩] :: K) fr S := rfl
def disk_Disk_step_r6 : List POper := [
  ⟨some 20, .mov (.tmp 0), none⟩,
  ⟨some 21, .nilck (.tmp 20), none⟩,
  ⟨some 22, .faddr 4 (.tmp 21), none⟩,
  ⟨some 23, .load false 1 false (.tmp 22), none⟩,
  ⟨some 24, .arith .sub (.tmp 23) (.cst (.int .i64 1)), none⟩,
  ⟨some 25, .nilck (.tmp 20), none⟩,
  ⟨some 26, .faddr 4 (.tmp 25), none⟩,
  ⟨none, .store 1 (.tmp 26) (.tmp 24), none⟩]
@[simp] theorem disk_Disk_step_r6_go (T : Tbl) (K : List Kt) (fr : Fr) (S : St) : gval T (.ops disk_Disk_step_r6 :: K) fr S = gval T (.ops [
  ⟨some 20, .mov (.tmp 0), none⟩,
  ⟨some 21, .nilck (.tmp 20), none⟩,
  ⟨some 22, .faddr 4 (.tmp 21), none⟩,
  ⟨some 23, .load false 1 false (.tmp 22), none⟩,
  ⟨some 24, .arith .sub (.tmp 23) (.cst (.int .i64 1)), none⟩,
  ⟨some 25, .nilck (.tmp 20), none⟩,
  ⟨some 26, .faddr 4 (.tmp 25), none⟩,
  ⟨none, .store 1 (.tmp 26) (.tmp 24), none⟩] :: K) fr S := rfl
def disk_Disk_step_r7 : List POper := [
  ⟨some 27, .mov (.tmp 0), none⟩,
  ⟨some 28, .nilck (.tmp 27), none⟩,
  ⟨some 29, .faddr 5 (.tmp 28), none⟩,
  ⟨some 30, .load false 1 false (.tmp 29), none⟩,
  ⟨some 31, .arith .add (.tmp 30) (.cst (.int .i64 1)), none⟩,
  ⟨some 32, .nilck (.tmp 27), none⟩,
  ⟨some 33, .faddr 5 (.tmp 32), none⟩,
  ⟨none, .store 1 (.tmp 33) (.tmp 31), none⟩]
@[simp] theorem disk_Disk_step_r7_go (T : Tbl) (K : List Kt) (fr : Fr) (S : St) : gval T (.ops disk_Disk_step_r7 :: K) fr S = gval T (.ops [
  ⟨some 27, .mov (.tmp 0), none⟩,
  ⟨some 28, .nilck (.tmp 27), none⟩,
  ⟨some 29, .faddr 5 (.tmp 28), none⟩,
  ⟨some 30, .load false 1 false (.tmp 29), none⟩,
  ⟨some 31, .arith .add (.tmp 30) (.cst (.int .i64 1)), none⟩,
  ⟨some 32, .nilck (.tmp 27), none⟩,
  ⟨some 33, .faddr 5 (.tmp 32), none⟩,
  ⟨none, .store 1 (.tmp 33) (.tmp 31), none⟩] :: K) fr S := rfl
def disk_Disk_step_r8 : List POper := [
  ⟨some 2, .mov (.cst (.int .i64 0)), none⟩]
@[simp] theorem disk_Disk_step_r8_go (T : Tbl) (K : List Kt) (fr : Fr) (S : St) : gval T (.ops disk_Disk_step_r8 :: K) fr S = gval T (.ops [
  ⟨some 2, .mov (.cst (.int .i64 0)), none⟩] :: K) fr S := rfl
def disk_Disk_step : PCodeFn :=
  ⟨1, [.tmp 2],
  (.seq (.region disk_Disk_step_r0) (.seq (.seq (.clr [(3, 7)] (.region disk_Disk_step_r1)) (.cond (.tmp 7) (.clr [(8, 11)] (.region disk_Disk_step_r2)) .skip)) (.seq (.seq (.clr [(11, 14)] (.region disk_Disk_step_r3)) (.cond (.tmp 14) (.seq (.region disk_Disk_step_r4) .ret) .skip)) (.seq (.seq (.clr [(15, 19)] (.region disk_Disk_step_r5)) (.cond (.tmp 19) (.clr [(20, 27)] (.region disk_Disk_step_r6)) .skip)) (.seq (.clr [(27, 34)] (.region disk_Disk_step_r7)) (.seq (.region disk_Disk_step_r8) .ret)))))), false⟩

/-! gauge/wal.each: 247 -/
def wal_each_r0 : List POper := [
  ⟨some 2, .mov (.cst (.int .i64 0)), none⟩]
@[simp] theorem wal_each_r0_go (T : Tbl) (K : List Kt) (fr : Fr) (S : St) : gval T (.ops wal_each_r0 :: K) fr S = gval T (.ops [
  ⟨some 2, .mov (.cst (.int .i64 0)), none⟩] :: K) fr S := rfl
def wal_each_r1 : List POper := [
  ⟨some 6, .mov (.tmp 0), none⟩,
  ⟨some 7, .len false (.tmp 6), none⟩,
  ⟨some 8, .mov (.cst (.int .i64 0)), none⟩]
@[simp] theorem wal_each_r1_go (T : Tbl) (K : List Kt) (fr : Fr) (S : St) : gval T (.ops wal_each_r1 :: K) fr S = gval T (.ops [
  ⟨some 6, .mov (.tmp 0), none⟩,
  ⟨some 7, .len false (.tmp 6), none⟩,
  ⟨some 8, .mov (.cst (.int .i64 0)), none⟩] :: K) fr S := rfl
def wal_each_r2 : List POper := [
  ⟨some 9, .arith .lss (.tmp 8) (.tmp 7), none⟩]
@[simp] theorem wal_each_r2_go (T : Tbl) (K : List Kt) (fr : Fr) (S : St) : gval T (.ops wal_each_r2 :: K) fr S = gval T (.ops [
  ⟨some 9, .arith .lss (.tmp 8) (.tmp 7), none⟩] :: K) fr S := rfl
def wal_each_r3 : List POper := [
  ⟨some 10, .iaddr 1 (.tmp 6) (.tmp 8), none⟩,
  ⟨some 11, .load false 1 false (.tmp 10), none⟩,
  ⟨some 4, .mov (.tmp 11), none⟩]
@[simp] theorem wal_each_r3_go (T : Tbl) (K : List Kt) (fr : Fr) (S : St) : gval T (.ops wal_each_r3 :: K) fr S = gval T (.ops [
  ⟨some 10, .iaddr 1 (.tmp 6) (.tmp 8), none⟩,
  ⟨some 11, .load false 1 false (.tmp 10), none⟩,
  ⟨some 4, .mov (.tmp 11), none⟩] :: K) fr S := rfl
def wal_each_r4 : List POper := [
  ⟨some 12, .mov (.tmp 4), none⟩,
  ⟨some 13, .callv .std (.tmp 12) [], none⟩,
  ⟨some 5, .mov (.tmp 13), none⟩]
@[simp] theorem wal_each_r4_go (T : Tbl) (K : List Kt) (fr : Fr) (S : St) : gval T (.ops wal_each_r4 :: K) fr S = gval T (.ops [
  ⟨some 12, .mov (.tmp 4), none⟩,
  ⟨some 13, .callv .std (.tmp 12) [], none⟩,
  ⟨some 5, .mov (.tmp 13), none⟩] :: K) fr S := rfl
def wal_each_r5 : List POper := [
  ⟨some 14, .mov (.tmp 5), none⟩,
  ⟨some 15, .arith .neq (.tmp 14) (.cst (.int .i64 0)), none⟩]
@[simp] theorem wal_each_r5_go (T : Tbl) (K : List Kt) (fr : Fr) (S : St) : gval T (.ops wal_each_r5 :: K) fr S = gval T (.ops [
  ⟨some 14, .mov (.tmp 5), none⟩,
  ⟨some 15, .arith .neq (.tmp 14) (.cst (.int .i64 0)), none⟩] :: K) fr S := rfl
def wal_each_r6 : List POper := [
  ⟨some 16, .mov (.tmp 5), none⟩,
  ⟨some 2, .mov (.tmp 16), none⟩]
@[simp] theorem wal_each_r6_go (T : Tbl) (K : List Kt) (fr : Fr) (S : St) : gval T (.ops wal_each_r6 :: K) fr S = gval T (.ops [
  ⟨some 16, .mov (.tmp 5), none⟩,
  ⟨some 2, .mov (.tmp 16), none⟩] :: K) fr S := rfl
def wal_each_r7 : List POper := [
  ⟨some 17, .arith .add (.tmp 8) (.cst (.int .i64 1)), none⟩,
  ⟨some 8, .mov (.tmp 17), none⟩]
@[simp] theorem wal_each_r7_go (T : Tbl) (K : List Kt) (fr : Fr) (S : St) : gval T (.ops wal_each_r7 :: K) fr S = gval T (.ops [
  ⟨some 17, .arith .add (.tmp 8) (.cst (.int .i64 1)), none⟩,
  ⟨some 8, .mov (.tmp 17), none⟩] :: K) fr S := rfl
def wal_each_l0 : PCode :=
  (.seq (.region wal_each_r2) (.seq (.cond (.tmp 9) .skip (.exit 0)) (.seq (.block 1 (.seq (.clr [(10, 12)] (.region wal_each_r3)) (.seq (.clr [(12, 14)] (.region wal_each_r4)) (.seq (.clr [(14, 15)] (.region wal_each_r5)) (.cond (.tmp 15) (.seq (.clr [(16, 17)] (.region wal_each_r6)) .ret) .skip))))) (.clr [(17, 18)] (.region wal_each_r7)))))
@[simp] theorem wal_each_l0_go (T : Tbl) (K : List Kt) (fr : Fr) (S : St) : gval T (.code wal_each_l0 :: K) fr S = gval T (.code (.seq (.region wal_each_r2) (.seq (.cond (.tmp 9) .skip (.exit 0)) (.seq (.block 1 (.seq (.clr [(10, 12)] (.region wal_each_r3)) (.seq (.clr [(12, 14)] (.region wal_each_r4)) (.seq (.clr [(14, 15)] (.region wal_each_r5)) (.cond (.tmp 15) (.seq (.clr [(16, 17)] (.region wal_each_r6)) .ret) .skip))))) (.clr [(17, 18)] (.region wal_each_r7))))) :: K) fr S := rfl
def wal_each_r8 : List POper := [
  ⟨some 2, .mov (.cst (.int .i64 0)), none⟩]
@[simp] theorem wal_each_r8_go (T : Tbl) (K : List Kt) (fr : Fr) (S : St) : gval T (.ops wal_each_r8 :: K) fr S = gval T (.ops [
  ⟨some 2, .mov (.cst (.int .i64 0)), none⟩] :: K) fr S := rfl
def wal_each : PCodeFn :=
  ⟨1, [.tmp 2],
  (.seq (.region wal_each_r0) (.seq (.seq (.region wal_each_r1) (.block 0 (.loop wal_each_l0))) (.seq (.region wal_each_r8) .ret))), false⟩

/-! gauge/wal.Open.1: 248 -/
def wal_Open_1_r0 : List POper := [
  ⟨some 2, .mov (.cst (.int .i64 0)), none⟩]
@[simp] theorem wal_Open_1_r0_go (T : Tbl) (K : List Kt) (fr : Fr) (S : St) : gval T (.ops wal_Open_1_r0 :: K) fr S = gval T (.ops [
  ⟨some 2, .mov (.cst (.int .i64 0)), none⟩] :: K) fr S := rfl
def wal_Open_1_r1 : List POper := [
  ⟨some 3, .load false 1 false (.tmp 0), none⟩,
  ⟨some 4, .load false 1 false (.tmp 1), none⟩,
  ⟨some 5, .call .std 77 [(.tmp 3), (.tmp 4)], none⟩,
  ⟨some 2, .mov (.tmp 5), none⟩]
@[simp] theorem wal_Open_1_r1_go (T : Tbl) (K : List Kt) (fr : Fr) (S : St) : gval T (.ops wal_Open_1_r1 :: K) fr S = gval T (.ops [
  ⟨some 3, .load false 1 false (.tmp 0), none⟩,
  ⟨some 4, .load false 1 false (.tmp 1), none⟩,
  ⟨some 5, .call .std 77 [(.tmp 3), (.tmp 4)], none⟩,
  ⟨some 2, .mov (.tmp 5), none⟩] :: K) fr S := rfl
def wal_Open_1 : PCodeFn :=
  ⟨2, [.tmp 2],
  (.seq (.region wal_Open_1_r0) (.seq (.clr [(3, 6)] (.region wal_Open_1_r1)) .ret)), false⟩

end Ps
