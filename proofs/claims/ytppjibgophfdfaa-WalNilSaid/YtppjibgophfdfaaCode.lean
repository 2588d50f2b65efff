/- The functions' code, as the pure semantics has it: printed by program. -/
import Derived.Test.YtppjibgophfdfaaCodeD
namespace Ps
open Go
set_option maxRecDepth 10000

/-! gauge/disk.named: 202 -/
def disk_named_r0 : List POper := [
  ⟨some 2, .mov (.cst (.bool false)), none⟩]
@[simp] theorem disk_named_r0_go (T : Tbl) (K : List Kt) (fr : Fr) (S : St) : gval T (.ops disk_named_r0 :: K) fr S = gval T (.ops [
  ⟨some 2, .mov (.cst (.bool false)), none⟩] :: K) fr S := rfl
def disk_named_r1 : List POper := [
  ⟨some 5, .mov (.tmp 0), none⟩,
  ⟨some 6, .len true (.tmp 5), none⟩,
  ⟨some 7, .mov (.cst (.int .i64 0)), none⟩]
@[simp] theorem disk_named_r1_go (T : Tbl) (K : List Kt) (fr : Fr) (S : St) : gval T (.ops disk_named_r1 :: K) fr S = gval T (.ops [
  ⟨some 5, .mov (.tmp 0), none⟩,
  ⟨some 6, .len true (.tmp 5), none⟩,
  ⟨some 7, .mov (.cst (.int .i64 0)), none⟩] :: K) fr S := rfl
def disk_named_r2 : List POper := [
  ⟨some 8, .arith .lss (.tmp 7) (.tmp 6), none⟩]
@[simp] theorem disk_named_r2_go (T : Tbl) (K : List Kt) (fr : Fr) (S : St) : gval T (.ops disk_named_r2 :: K) fr S = gval T (.ops [
  ⟨some 8, .arith .lss (.tmp 7) (.tmp 6), none⟩] :: K) fr S := rfl
def disk_named_r3 : List POper := [
  ⟨some 9, .mov (.tmp 7), none⟩,
  ⟨some 3, .mov (.tmp 9), none⟩]
@[simp] theorem disk_named_r3_go (T : Tbl) (K : List Kt) (fr : Fr) (S : St) : gval T (.ops disk_named_r3 :: K) fr S = gval T (.ops [
  ⟨some 9, .mov (.tmp 7), none⟩,
  ⟨some 3, .mov (.tmp 9), none⟩] :: K) fr S := rfl
def disk_named_r4 : List POper := [
  ⟨some 10, .mov (.tmp 0), none⟩,
  ⟨some 11, .mov (.tmp 3), none⟩,
  ⟨some 12, .idxs (.tmp 10) (.tmp 11), none⟩,
  ⟨some 4, .mov (.tmp 12), none⟩]
@[simp] theorem disk_named_r4_go (T : Tbl) (K : List Kt) (fr : Fr) (S : St) : gval T (.ops disk_named_r4 :: K) fr S = gval T (.ops [
  ⟨some 10, .mov (.tmp 0), none⟩,
  ⟨some 11, .mov (.tmp 3), none⟩,
  ⟨some 12, .idxs (.tmp 10) (.tmp 11), none⟩,
  ⟨some 4, .mov (.tmp 12), none⟩] :: K) fr S := rfl
def disk_named_r5 : List POper := [
  ⟨some 13, .mov (.tmp 4), none⟩,
  ⟨some 14, .arith .geq (.tmp 13) (.cst (.int .u8 97)), none⟩,
  ⟨some 15, .mov (.tmp 14), none⟩,
  ⟨some 16, .mov (.tmp 4), some (15, true)⟩,
  ⟨some 17, .arith .leq (.tmp 16) (.cst (.int .u8 122)), some (15, true)⟩,
  ⟨some 18, .pick (.tmp 15) (.tmp 17) (.cst (.bool false)), none⟩,
  ⟨some 19, .mov (.tmp 18), none⟩,
  ⟨some 20, .mov (.tmp 4), some (19, false)⟩,
  ⟨some 21, .arith .geq (.tmp 20) (.cst (.int .u8 48)), some (19, false)⟩,
  ⟨some 22, .mov (.tmp 21), some (19, false)⟩,
  ⟨some 23, .mov (.tmp 4), some (22, true)⟩,
  ⟨some 24, .arith .leq (.tmp 23) (.cst (.int .u8 57)), some (22, true)⟩,
  ⟨some 25, .pick (.tmp 22) (.tmp 24) (.cst (.bool false)), some (19, false)⟩,
  ⟨some 26, .pick (.tmp 19) (.cst (.bool true)) (.tmp 25), none⟩,
  ⟨some 27, .mov (.tmp 26), none⟩,
  ⟨some 28, .mov (.tmp 4), some (27, false)⟩,
  ⟨some 29, .arith .eql (.tmp 28) (.cst (.int .u8 46)), some (27, false)⟩,
  ⟨some 30, .pick (.tmp 27) (.cst (.bool true)) (.tmp 29), none⟩,
  ⟨some 31, .mov (.tmp 30), none⟩,
  ⟨some 32, .mov (.tmp 4), some (31, false)⟩,
  ⟨some 33, .arith .eql (.tmp 32) (.cst (.int .u8 45)), some (31, false)⟩,
  ⟨some 34, .pick (.tmp 31) (.cst (.bool true)) (.tmp 33), none⟩,
  ⟨some 35, .un .not (.tmp 34), none⟩]
@[simp] theorem disk_named_r5_go (T : Tbl) (K : List Kt) (fr : Fr) (S : St) : gval T (.ops disk_named_r5 :: K) fr S = gval T (.ops [
  ⟨some 13, .mov (.tmp 4), none⟩,
  ⟨some 14, .arith .geq (.tmp 13) (.cst (.int .u8 97)), none⟩,
  ⟨some 15, .mov (.tmp 14), none⟩,
  ⟨some 16, .mov (.tmp 4), some (15, true)⟩,
  ⟨some 17, .arith .leq (.tmp 16) (.cst (.int .u8 122)), some (15, true)⟩,
  ⟨some 18, .pick (.tmp 15) (.tmp 17) (.cst (.bool false)), none⟩,
  ⟨some 19, .mov (.tmp 18), none⟩,
  ⟨some 20, .mov (.tmp 4), some (19, false)⟩,
  ⟨some 21, .arith .geq (.tmp 20) (.cst (.int .u8 48)), some (19, false)⟩,
  ⟨some 22, .mov (.tmp 21), some (19, false)⟩,
  ⟨some 23, .mov (.tmp 4), some (22, true)⟩,
  ⟨some 24, .arith .leq (.tmp 23) (.cst (.int .u8 57)), some (22, true)⟩,
  ⟨some 25, .pick (.tmp 22) (.tmp 24) (.cst (.bool false)), some (19, false)⟩,
  ⟨some 26, .pick (.tmp 19) (.cst (.bool true)) (.tmp 25), none⟩,
  ⟨some 27, .mov (.tmp 26), none⟩,
  ⟨some 28, .mov (.tmp 4), some (27, false)⟩,
  ⟨some 29, .arith .eql (.tmp 28) (.cst (.int .u8 46)), some (27, false)⟩,
  ⟨some 30, .pick (.tmp 27) (.cst (.bool true)) (.tmp 29), none⟩,
  ⟨some 31, .mov (.tmp 30), none⟩,
  ⟨some 32, .mov (.tmp 4), some (31, false)⟩,
  ⟨some 33, .arith .eql (.tmp 32) (.cst (.int .u8 45)), some (31, false)⟩,
  ⟨some 34, .pick (.tmp 31) (.cst (.bool true)) (.tmp 33), none⟩,
  ⟨some 35, .un .not (.tmp 34), none⟩] :: K) fr S := rfl
def disk_named_r6 : List POper := [
  ⟨some 2, .mov (.cst (.bool false)), none⟩]
@[simp] theorem disk_named_r6_go (T : Tbl) (K : List Kt) (fr : Fr) (S : St) : gval T (.ops disk_named_r6 :: K) fr S = gval T (.ops [
  ⟨some 2, .mov (.cst (.bool false)), none⟩] :: K) fr S := rfl
def disk_named_r7 : List POper := [
  ⟨some 36, .arith .add (.tmp 7) (.cst (.int .i64 1)), none⟩,
  ⟨some 7, .mov (.tmp 36), none⟩]
@[simp] theorem disk_named_r7_go (T : Tbl) (K : List Kt) (fr : Fr) (S : St) : gval T (.ops disk_named_r7 :: K) fr S = gval T (.ops [
  ⟨some 36, .arith .add (.tmp 7) (.cst (.int .i64 1)), none⟩,
  ⟨some 7, .mov (.tmp 36), none⟩] :: K) fr S := rfl
def disk_named_l0 : PCode :=
  (.seq (.region disk_named_r2) (.seq (.cond (.tmp 8) .skip (.exit 0)) (.seq (.block 1 (.seq (.clr [(9, 10)] (.region disk_named_r3)) (.seq (.clr [(10, 13)] (.region disk_named_r4)) (.seq (.clr [(13, 35)] (.region disk_named_r5)) (.cond (.tmp 35) (.seq (.region disk_named_r6) .ret) .skip))))) (.clr [(36, 37)] (.region disk_named_r7)))))
@[simp] theorem disk_named_l0_go (T : Tbl) (K : List Kt) (fr : Fr) (S : St) : gval T (.code disk_named_l0 :: K) fr S = gval T (.code (.seq (.region disk_named_r2) (.seq (.cond (.tmp 8) .skip (.exit 0)) (.seq (.block 1 (.seq (.clr [(9, 10)] (.region disk_named_r3)) (.seq (.clr [(10, 13)] (.region disk_named_r4)) (.seq (.clr [(13, 35)] (.region disk_named_r5)) (.cond (.tmp 35) (.seq (.region disk_named_r6) .ret) .skip))))) (.clr [(36, 37)] (.region disk_named_r7))))) :: K) fr S := rfl
def disk_named_r8 : List POper := [
  ⟨some 37, .mov (.tmp 0), none⟩,
  ⟨some 38, .arith .neq (.tmp 37) (.cst (.str [])), none⟩,
  ⟨some 39, .mov (.tmp 38), none⟩,
  ⟨some 40, .mov (.tmp 0), some (39, true)⟩,
  ⟨some 41, .len true (.tmp 40), some (39, true)⟩,
  ⟨some 42, .arith .leq (.tmp 41) (.cst (.int .i64 24)), some (39, true)⟩,
  ⟨some 43, .pick (.tmp 39) (.tmp 42) (.cst (.bool false)), none⟩,
  ⟨some 2, .mov (.tmp 43), none⟩]
@[simp] theorem disk_named_r8_go (T : Tbl) (K : List Kt) (fr : Fr) (S : St) : gval T (.ops disk_named_r8 :: K) fr S = gval T (.ops [
  ⟨some 37, .mov (.tmp 0), none⟩,
  ⟨some 38, .arith .neq (.tmp 37) (.cst (.str [])), none⟩,
  ⟨some 39, .mov (.tmp 38), none⟩,
  ⟨some 40, .mov (.tmp 0), some (39, true)⟩,
  ⟨some 41, .len true (.tmp 40), some (39, true)⟩,
  ⟨some 42, .arith .leq (.tmp 41) (.cst (.int .i64 24)), some (39, true)⟩,
  ⟨some 43, .pick (.tmp 39) (.tmp 42) (.cst (.bool false)), none⟩,
  ⟨some 2, .mov (.tmp 43), none⟩] :: K) fr S := rfl
def disk_named : PCodeFn :=
  ⟨1, [.tmp 2],
  (.seq (.region disk_named_r0) (.seq (.seq (.clr [(5, 6)] (.region disk_named_r1)) (.block 0 (.loop disk_named_l0))) (.seq (.clr [(37, 44)] (.region disk_named_r8)) .ret))), false⟩

/-! (*gauge/disk.Disk).enter: 195 -/
def disk_Disk_enter_r0 : List POper := [
  ⟨some 3, .box true (.tmp 1), none⟩,
  ⟨some 4, .mov (.cst (.int .i64 0)), none⟩]
@[simp] theorem disk_Disk_enter_r0_go (T : Tbl) (K : List Kt) (fr : Fr) (S : St) : gval T (.ops disk_Disk_enter_r0 :: K) fr S = gval T (.ops [
  ⟨some 3, .box true (.tmp 1), none⟩,
  ⟨some 4, .mov (.cst (.int .i64 0)), none⟩] :: K) fr S := rfl
def disk_Disk_enter_r1 : List POper := [
  ⟨some 6, .mov (.tmp 0), none⟩,
  ⟨some 7, .call .std 196 [(.tmp 6)], none⟩,
  ⟨some 5, .mov (.tmp 7), none⟩]
@[simp] theorem disk_Disk_enter_r1_go (T : Tbl) (K : List Kt) (fr : Fr) (S : St) : gval T (.ops disk_Disk_enter_r1 :: K) fr S = gval T (.ops [
  ⟨some 6, .mov (.tmp 0), none⟩,
  ⟨some 7, .call .std 196 [(.tmp 6)], none⟩,
  ⟨some 5, .mov (.tmp 7), none⟩] :: K) fr S := rfl
def disk_Disk_enter_r2 : List POper := [
  ⟨some 8, .mov (.tmp 5), none⟩,
  ⟨some 9, .arith .neq (.tmp 8) (.cst (.int .i64 0)), none⟩]
@[simp] theorem disk_Disk_enter_r2_go (T : Tbl) (K : List Kt) (fr : Fr) (S : St) : gval T (.ops disk_Disk_enter_r2 :: K) fr S = gval T (.ops [
  ⟨some 8, .mov (.tmp 5), none⟩,
  ⟨some 9, .arith .neq (.tmp 8) (.cst (.int .i64 0)), none⟩] :: K) fr S := rfl
def disk_Disk_enter_r3 : List POper := [
  ⟨some 10, .mov (.tmp 5), none⟩,
  ⟨some 4, .mov (.tmp 10), none⟩]
@[simp] theorem disk_Disk_enter_r3_go (T : Tbl) (K : List Kt) (fr : Fr) (S : St) : gval T (.ops disk_Disk_enter_r3 :: K) fr S = gval T (.ops [
  ⟨some 10, .mov (.tmp 5), none⟩,
  ⟨some 4, .mov (.tmp 10), none⟩] :: K) fr S := rfl
def disk_Disk_enter_r4 : List POper := [
  ⟨some 11, .load true 3 true (.tmp 3), none⟩,
  ⟨some 12, .mov (.tmp 0), none⟩,
  ⟨some 13, .nilck (.tmp 12), none⟩,
  ⟨some 14, .faddr 2 (.tmp 13), none⟩,
  ⟨some 15, .load false 1 false (.tmp 14), none⟩,
  ⟨some 16, .call .std 198 [(.tmp 11), (.tmp 15)], none⟩]
@[simp] theorem disk_Disk_enter_r4_go (T : Tbl) (K : List Kt) (fr : Fr) (S : St) : gval T (.ops disk_Disk_enter_r4 :: K) fr S = gval T (.ops [
  ⟨some 11, .load true 3 true (.tmp 3), none⟩,
  ⟨some 12, .mov (.tmp 0), none⟩,
  ⟨some 13, .nilck (.tmp 12), none⟩,
  ⟨some 14, .faddr 2 (.tmp 13), none⟩,
  ⟨some 15, .load false 1 false (.tmp 14), none⟩,
  ⟨some 16, .call .std 198 [(.tmp 11), (.tmp 15)], none⟩] :: K) fr S := rfl
def disk_Disk_enter_r5 : List POper := [
  ⟨some 17, .mov (.tmp 0), none⟩,
  ⟨some 18, .mov (.tmp 0), none⟩,
  ⟨some 19, .nilck (.tmp 18), none⟩,
  ⟨some 20, .faddr 3 (.tmp 19), none⟩,
  ⟨some 21, .load false 1 false (.tmp 20), none⟩,
  ⟨some 22, .load true 3 true (.tmp 3), none⟩,
  ⟨some 23, .bsl false (.agg [(.str []), (.str []), .nilp]) 1 [(0, (.tmp 22))], none⟩,
  ⟨some 24, .app 3 40 (.tmp 21) (.tmp 23), none⟩,
  ⟨some 25, .nilck (.tmp 17), none⟩,
  ⟨some 26, .faddr 3 (.tmp 25), none⟩,
  ⟨none, .store 1 (.tmp 26) (.tmp 24), none⟩]
@[simp] theorem disk_Disk_enter_r5_go (T : Tbl) (K : List Kt) (fr : Fr) (S : St) : gval T (.ops disk_Disk_enter_r5 :: K) fr S = gval T (.ops [
  ⟨some 17, .mov (.tmp 0), none⟩,
  ⟨some 18, .mov (.tmp 0), none⟩,
  ⟨some 19, .nilck (.tmp 18), none⟩,
  ⟨some 20, .faddr 3 (.tmp 19), none⟩,
  ⟨some 21, .load false 1 false (.tmp 20), none⟩,
  ⟨some 22, .load true 3 true (.tmp 3), none⟩,
  ⟨some 23, .bsl false (.agg [(.str []), (.str []), .nilp]) 1 [(0, (.tmp 22))], none⟩,
  ⟨some 24, .app 3 40 (.tmp 21) (.tmp 23), none⟩,
  ⟨some 25, .nilck (.tmp 17), none⟩,
  ⟨some 26, .faddr 3 (.tmp 25), none⟩,
  ⟨none, .store 1 (.tmp 26) (.tmp 24), none⟩] :: K) fr S := rfl
def disk_Disk_enter_r6 : List POper := [
  ⟨some 4, .mov (.cst (.int .i64 0)), none⟩]
@[simp] theorem disk_Disk_enter_r6_go (T : Tbl) (K : List Kt) (fr : Fr) (S : St) : gval T (.ops disk_Disk_enter_r6 :: K) fr S = gval T (.ops [
  ⟨some 4, .mov (.cst (.int .i64 0)), none⟩] :: K) fr S := rfl
def disk_Disk_enter : PCodeFn :=
  ⟨2, [.tmp 4],
  (.seq (.region disk_Disk_enter_r0) (.seq (.seq (.clr [(6, 8)] (.region disk_Disk_enter_r1)) (.seq (.clr [(8, 9)] (.region disk_Disk_enter_r2)) (.cond (.tmp 9) (.seq (.clr [(10, 11)] (.region disk_Disk_enter_r3)) .ret) .skip))) (.seq (.clr [(11, 17)] (.region disk_Disk_enter_r4)) (.seq (.clr [(17, 27)] (.region disk_Disk_enter_r5)) (.seq (.region disk_Disk_enter_r6) .ret))))), false⟩

/-! gauge/frame.Get: 319 -/
def frame_Get_r0 : List POper := [
  ⟨some 4, .mov (.cst .nils), none⟩,
  ⟨some 5, .mov (.cst (.int .i64 0)), none⟩,
  ⟨some 6, .mov (.cst (.int .i64 0)), none⟩]
@[simp] theorem frame_Get_r0_go (T : Tbl) (K : List Kt) (fr : Fr) (S : St) : gval T (.ops frame_Get_r0 :: K) fr S = gval T (.ops [
  ⟨some 4, .mov (.cst .nils), none⟩,
  ⟨some 5, .mov (.cst (.int .i64 0)), none⟩,
  ⟨some 6, .mov (.cst (.int .i64 0)), none⟩] :: K) fr S := rfl
def frame_Get_r1 : List POper := [
  ⟨some 9, .mov (.tmp 1), none⟩,
  ⟨some 10, .arith .lss (.tmp 9) (.cst (.int .i64 0)), none⟩,
  ⟨some 11, .mov (.tmp 10), none⟩,
  ⟨some 12, .mov (.tmp 1), some (11, false)⟩,
  ⟨some 13, .mov (.tmp 0), some (11, false)⟩,
  ⟨some 14, .len false (.tmp 13), some (11, false)⟩,
  ⟨some 15, .arith .gtr (.tmp 12) (.tmp 14), some (11, false)⟩,
  ⟨some 16, .pick (.tmp 11) (.cst (.bool true)) (.tmp 15), none⟩]
@[simp] theorem frame_Get_r1_go (T : Tbl) (K : List Kt) (fr : Fr) (S : St) : gval T (.ops frame_Get_r1 :: K) fr S = gval T (.ops [
  ⟨some 9, .mov (.tmp 1), none⟩,
  ⟨some 10, .arith .lss (.tmp 9) (.cst (.int .i64 0)), none⟩,
  ⟨some 11, .mov (.tmp 10), none⟩,
  ⟨some 12, .mov (.tmp 1), some (11, false)⟩,
  ⟨some 13, .mov (.tmp 0), some (11, false)⟩,
  ⟨some 14, .len false (.tmp 13), some (11, false)⟩,
  ⟨some 15, .arith .gtr (.tmp 12) (.tmp 14), some (11, false)⟩,
  ⟨some 16, .pick (.tmp 11) (.cst (.bool true)) (.tmp 15), none⟩] :: K) fr S := rfl
def frame_Get_r2 : List POper := [
  ⟨some 4, .mov (.cst .nils), none⟩,
  ⟨some 5, .mov (.cst (.int .i64 0)), none⟩,
  ⟨some 6, .mov (.cst (.int .i64 2)), none⟩]
@[simp] theorem frame_Get_r2_go (T : Tbl) (K : List Kt) (fr : Fr) (S : St) : gval T (.ops frame_Get_r2 :: K) fr S = gval T (.ops [
  ⟨some 4, .mov (.cst .nils), none⟩,
  ⟨some 5, .mov (.cst (.int .i64 0)), none⟩,
  ⟨some 6, .mov (.cst (.int .i64 2)), none⟩] :: K) fr S := rfl
def frame_Get_r3 : List POper := [
  ⟨some 17, .mov (.tmp 0), none⟩,
  ⟨some 18, .mov (.tmp 1), none⟩,
  ⟨some 19, .slc 1 (some (.tmp 18)) none (.tmp 17), none⟩,
  ⟨some 7, .mov (.tmp 19), none⟩]
@[simp] theorem frame_Get_r3_go (T : Tbl) (K : List Kt) (fr : Fr) (S : St) : gval T (.ops frame_Get_r3 :: K) fr S = gval T (.ops [
  ⟨some 17, .mov (.tmp 0), none⟩,
  ⟨some 18, .mov (.tmp 1), none⟩,
  ⟨some 19, .slc 1 (some (.tmp 18)) none (.tmp 17), none⟩,
  ⟨some 7, .mov (.tmp 19), none⟩] :: K) fr S := rfl
def frame_Get_r4 : List POper := [
  ⟨some 20, .mov (.tmp 7), none⟩,
  ⟨some 21, .len false (.tmp 20), none⟩,
  ⟨some 22, .arith .lss (.tmp 21) (.cst (.int .i64 6)), none⟩]
@[simp] theorem frame_Get_r4_go (T : Tbl) (K : List Kt) (fr : Fr) (S : St) : gval T (.ops frame_Get_r4 :: K) fr S = gval T (.ops [
  ⟨some 20, .mov (.tmp 7), none⟩,
  ⟨some 21, .len false (.tmp 20), none⟩,
  ⟨some 22, .arith .lss (.tmp 21) (.cst (.int .i64 6)), none⟩] :: K) fr S := rfl
def frame_Get_r5 : List POper := [
  ⟨some 4, .mov (.cst .nils), none⟩,
  ⟨some 5, .mov (.cst (.int .i64 0)), none⟩,
  ⟨some 6, .mov (.cst (.int .i64 4)), none⟩]
@[simp] theorem frame_Get_r5_go (T : Tbl) (K : List Kt) (fr : Fr) (S : St) : gval T (.ops frame_Get_r5 :: K) fr S = gval T (.ops [
  ⟨some 4, .mov (.cst .nils), none⟩,
  ⟨some 5, .mov (.cst (.int .i64 0)), none⟩,
  ⟨some 6, .mov (.cst (.int .i64 4)), none⟩] :: K) fr S := rfl
def frame_Get_r6 : List POper := [
  ⟨some 23, .mov (.tmp 7), none⟩,
  ⟨some 24, .iaddr 1 (.tmp 23) (.cst (.int .i64 0)), none⟩,
  ⟨some 25, .load false 1 true (.tmp 24), none⟩,
  ⟨some 26, .toInt .i64 (.tmp 25), none⟩,
  ⟨some 27, .arith .shl (.tmp 26) (.cst (.int .u64 8)), none⟩,
  ⟨some 28, .mov (.tmp 7), none⟩,
  ⟨some 29, .iaddr 1 (.tmp 28) (.cst (.int .i64 1)), none⟩,
  ⟨some 30, .load false 1 true (.tmp 29), none⟩,
  ⟨some 31, .toInt .i64 (.tmp 30), none⟩,
  ⟨some 32, .arith .or (.tmp 27) (.tmp 31), none⟩,
  ⟨some 8, .mov (.tmp 32), none⟩]
@[simp] theorem frame_Get_r6_go (T : Tbl) (K : List Kt) (fr : Fr) (S : St) : gval T (.ops frame_Get_r6 :: K) fr S = gval T (.ops [
  ⟨some 23, .mov (.tmp 7), none⟩,
  ⟨some 24, .iaddr 1 (.tmp 23) (.cst (.int .i64 0)), none⟩,
  ⟨some 25, .load false 1 true (.tmp 24), none⟩,
  ⟨some 26, .toInt .i64 (.tmp 25), none⟩,
  ⟨some 27, .arith .shl (.tmp 26) (.cst (.int .u64 8)), none⟩,
  ⟨some 28, .mov (.tmp 7), none⟩,
  ⟨some 29, .iaddr 1 (.tmp 28) (.cst (.int .i64 1)), none⟩,
  ⟨some 30, .load false 1 true (.tmp 29), none⟩,
  ⟨some 31, .toInt .i64 (.tmp 30), none⟩,
  ⟨some 32, .arith .or (.tmp 27) (.tmp 31), none⟩,
  ⟨some 8, .mov (.tmp 32), none⟩] :: K) fr S := rfl
def frame_Get_r7 : List POper := [
  ⟨some 33, .mov (.tmp 8), none⟩,
  ⟨some 34, .mov (.tmp 7), none⟩,
  ⟨some 35, .len false (.tmp 34), none⟩,
  ⟨some 36, .arith .sub (.tmp 35) (.cst (.int .i64 6)), none⟩,
  ⟨some 37, .arith .gtr (.tmp 33) (.tmp 36), none⟩]
@[simp] theorem frame_Get_r7_go (T : Tbl) (K : List Kt) (fr : Fr) (S : St) : gval T (.ops frame_Get_r7 :: K) fr S = gval T (.ops [
  ⟨some 33, .mov (.tmp 8), none⟩,
  ⟨some 34, .mov (.tmp 7), none⟩,
  ⟨some 35, .len false (.tmp 34), none⟩,
  ⟨some 36, .arith .sub (.tmp 35) (.cst (.int .i64 6)), none⟩,
  ⟨some 37, .arith .gtr (.tmp 33) (.tmp 36), none⟩] :: K) fr S := rfl
def frame_Get_r8 : List POper := [
  ⟨some 4, .mov (.cst .nils), none⟩,
  ⟨some 5, .mov (.cst (.int .i64 0)), none⟩,
  ⟨some 6, .mov (.cst (.int .i64 4)), none⟩]
@[simp] theorem frame_Get_r8_go (T : Tbl) (K : List Kt) (fr : Fr) (S : St) : gval T (.ops frame_Get_r8 :: K) fr S = gval T (.ops [
  ⟨some 4, .mov (.cst .nils), none⟩,
  ⟨some 5, .mov (.cst (.int .i64 0)), none⟩,
  ⟨some 6, .mov (.cst (.int .i64 4)), none⟩] :: K) fr S := rfl
def frame_Get_r9 : List POper := [
  ⟨some 38, .mov (.tmp 7), none⟩,
  ⟨some 39, .mov (.tmp 8), none⟩,
  ⟨some 40, .arith .add (.cst (.int .i64 2)) (.tmp 39), none⟩,
  ⟨some 41, .slc 1 none (some (.tmp 40)) (.tmp 38), none⟩,
  ⟨some 42, .call .std 328 [(.cst .nils), (.tmp 41)], none⟩,
  ⟨some 43, .toStr (.tmp 42), none⟩,
  ⟨some 44, .mov (.tmp 7), none⟩,
  ⟨some 45, .mov (.tmp 8), none⟩,
  ⟨some 46, .arith .add (.cst (.int .i64 2)) (.tmp 45), none⟩,
  ⟨some 47, .mov (.tmp 8), none⟩,
  ⟨some 48, .arith .add (.cst (.int .i64 6)) (.tmp 47), none⟩,
  ⟨some 49, .slc 1 (some (.tmp 46)) (some (.tmp 48)) (.tmp 44), none⟩,
  ⟨some 50, .toStr (.tmp 49), none⟩,
  ⟨some 51, .arith .neq (.tmp 43) (.tmp 50), none⟩]
@[simp] theorem frame_Get_r9_go (T : Tbl) (K : List Kt) (fr : Fr) (S : St) : gval T (.ops frame_Get_r9 :: K) fr S = gval T (.ops [
  ⟨some 38, .mov (.tmp 7), none⟩,
  ⟨some 39, .mov (.tmp 8), none⟩,
  ⟨some 40, .arith .add (.cst (.int .i64 2)) (.tmp 39), none⟩,
  ⟨some 41, .slc 1 none (some (.tmp 40)) (.tmp 38), none⟩,
  ⟨some 42, .call .std 328 [(.cst .nils), (.tmp 41)], none⟩,
  ⟨some 43, .toStr (.tmp 42), none⟩,
  ⟨some 44, .mov (.tmp 7), none⟩,
  ⟨some 45, .mov (.tmp 8), none⟩,
  ⟨some 46, .arith .add (.cst (.int .i64 2)) (.tmp 45), none⟩,
  ⟨some 47, .mov (.tmp 8), none⟩,
  ⟨some 48, .arith .add (.cst (.int .i64 6)) (.tmp 47), none⟩,
  ⟨some 49, .slc 1 (some (.tmp 46)) (some (.tmp 48)) (.tmp 44), none⟩,
  ⟨some 50, .toStr (.tmp 49), none⟩,
  ⟨some 51, .arith .neq (.tmp 43) (.tmp 50), none⟩] :: K) fr S := rfl
def frame_Get_r10 : List POper := [
  ⟨some 4, .mov (.cst .nils), none⟩,
  ⟨some 5, .mov (.cst (.int .i64 0)), none⟩,
  ⟨some 6, .mov (.cst (.int .i64 5)), none⟩]
@[simp] theorem frame_Get_r10_go (T : Tbl) (K : List Kt) (fr : Fr) (S : St) : gval T (.ops frame_Get_r10 :: K) fr S = gval T (.ops [
  ⟨some 4, .mov (.cst .nils), none⟩,
  ⟨some 5, .mov (.cst (.int .i64 0)), none⟩,
  ⟨some 6, .mov (.cst (.int .i64 5)), none⟩] :: K) fr S := rfl
def frame_Get_r11 : List POper := [
  ⟨some 52, .mov (.tmp 7), none⟩,
  ⟨some 53, .mov (.tmp 8), none⟩,
  ⟨some 54, .arith .add (.cst (.int .i64 2)) (.tmp 53), none⟩,
  ⟨some 55, .slc 1 (some (.cst (.int .i64 2))) (some (.tmp 54)) (.tmp 52), none⟩,
  ⟨some 56, .call .std 218 [(.tmp 55), (.cst (.int .i64 0))], none⟩,
  ⟨some 57, .mov (.tmp 1), none⟩,
  ⟨some 58, .arith .add (.tmp 57) (.cst (.int .i64 6)), none⟩,
  ⟨some 59, .mov (.tmp 8), none⟩,
  ⟨some 60, .arith .add (.tmp 58) (.tmp 59), none⟩,
  ⟨some 4, .mov (.tmp 56), none⟩,
  ⟨some 5, .mov (.tmp 60), none⟩,
  ⟨some 6, .mov (.cst (.int .i64 0)), none⟩]
@[simp] theorem frame_Get_r11_go (T : Tbl) (K : List Kt) (fr : Fr) (S : St) : gval T (.ops frame_Get_r11 :: K) fr S = gval T (.ops [
  ⟨some 52, .mov (.tmp 7), none⟩,
  ⟨some 53, .mov (.tmp 8), none⟩,
  ⟨some 54, .arith .add (.cst (.int .i64 2)) (.tmp 53), none⟩,
  ⟨some 55, .slc 1 (some (.cst (.int .i64 2))) (some (.tmp 54)) (.tmp 52), none⟩,
  ⟨some 56, .call .std 218 [(.tmp 55), (.cst (.int .i64 0))], none⟩,
  ⟨some 57, .mov (.tmp 1), none⟩,
  ⟨some 58, .arith .add (.tmp 57) (.cst (.int .i64 6)), none⟩,
  ⟨some 59, .mov (.tmp 8), none⟩,
  ⟨some 60, .arith .add (.tmp 58) (.tmp 59), none⟩,
  ⟨some 4, .mov (.tmp 56), none⟩,
  ⟨some 5, .mov (.tmp 60), none⟩,
  ⟨some 6, .mov (.cst (.int .i64 0)), none⟩] :: K) fr S := rfl
def frame_Get : PCodeFn :=
  ⟨2, [.tmp 4, .tmp 5, .tmp 6],
  (.seq (.region frame_Get_r0) (.seq (.seq (.clr [(9, 16)] (.region frame_Get_r1)) (.cond (.tmp 16) (.seq (.region frame_Get_r2) .ret) .skip)) (.seq (.clr [(17, 20)] (.region frame_Get_r3)) (.seq (.seq (.clr [(20, 22)] (.region frame_Get_r4)) (.cond (.tmp 22) (.seq (.region frame_Get_r5) .ret) .skip)) (.seq (.clr [(23, 33)] (.region frame_Get_r6)) (.seq (.seq (.clr [(33, 37)] (.region frame_Get_r7)) (.cond (.tmp 37) (.seq (.region frame_Get_r8) .ret) .skip)) (.seq (.seq (.clr [(38, 51)] (.region frame_Get_r9)) (.cond (.tmp 51) (.seq (.region frame_Get_r10) .ret) .skip)) (.seq (.clr [(52, 61)] (.region frame_Get_r11)) .ret)))))))), false⟩

/-! slices.Contains[[]string,string]: 118 -/
def slices_Contains_string_r0 : List POper := [
  ⟨some 4, .mov (.cst (.bool false)), none⟩]
@[simp] theorem slices_Contains_string_r0_go (T : Tbl) (K : List Kt) (fr : Fr) (S : St) : gval T (.ops slices_Contains_string_r0 :: K) fr S = gval T (.ops [
  ⟨some 4, .mov (.cst (.bool false)), none⟩] :: K) fr S := rfl
def slices_Contains_string_r1 : List POper := [
  ⟨some 5, .mov (.tmp 0), none⟩,
  ⟨some 6, .mov (.tmp 1), none⟩,
  ⟨some 7, .call .std 221 [(.tmp 5), (.tmp 6)], none⟩,
  ⟨some 8, .arith .geq (.tmp 7) (.cst (.int .i64 0)), none⟩,
  ⟨some 4, .mov (.tmp 8), none⟩]
@[simp] theorem slices_Contains_string_r1_go (T : Tbl) (K : List Kt) (fr : Fr) (S : St) : gval T (.ops slices_Contains_string_r1 :: K) fr S = gval T (.ops [
  ⟨some 5, .mov (.tmp 0), none⟩,
  ⟨some 6, .mov (.tmp 1), none⟩,
  ⟨some 7, .call .std 221 [(.tmp 5), (.tmp 6)], none⟩,
  ⟨some 8, .arith .geq (.tmp 7) (.cst (.int .i64 0)), none⟩,
  ⟨some 4, .mov (.tmp 8), none⟩] :: K) fr S := rfl
def slices_Contains_string : PCodeFn :=
  ⟨2, [.tmp 4],
  (.seq (.region slices_Contains_string_r0) (.seq (.clr [(5, 9)] (.region slices_Contains_string_r1)) .ret)), false⟩

/-! (*gauge/disk.Disk).List: 90 -/
def disk_Disk_List_r0 : List POper := [
  ⟨some 2, .mov (.cst .nils), none⟩]
@[simp] theorem disk_Disk_List_r0_go (T : Tbl) (K : List Kt) (fr : Fr) (S : St) : gval T (.ops disk_Disk_List_r0 :: K) fr S = gval T (.ops [
  ⟨some 2, .mov (.cst .nils), none⟩] :: K) fr S := rfl
def disk_Disk_List_r1 : List POper := [
  ⟨some 3, .mov (.tmp 0), none⟩,
  ⟨some 4, .eqn false .p (.tmp 3), none⟩,
  ⟨some 5, .mov (.tmp 4), none⟩,
  ⟨some 6, .mov (.tmp 0), some (5, false)⟩,
  ⟨some 7, .nilck (.tmp 6), some (5, false)⟩,
  ⟨some 8, .faddr 2 (.tmp 7), some (5, false)⟩,
  ⟨some 9, .load false 1 false (.tmp 8), some (5, false)⟩,
  ⟨some 10, .eqn false .m (.tmp 9), some (5, false)⟩,
  ⟨some 11, .pick (.tmp 5) (.cst (.bool true)) (.tmp 10), none⟩,
  ⟨some 12, .mov (.tmp 11), none⟩,
  ⟨some 13, .mov (.tmp 0), some (12, false)⟩,
  ⟨some 14, .nilck (.tmp 13), some (12, false)⟩,
  ⟨some 15, .faddr 6 (.tmp 14), some (12, false)⟩,
  ⟨some 16, .load false 1 false (.tmp 15), some (12, false)⟩,
  ⟨some 17, .pick (.tmp 12) (.cst (.bool true)) (.tmp 16), none⟩]
@[simp] theorem disk_Disk_List_r1_go (T : Tbl) (K : List Kt) (fr : Fr) (S : St) : gval T (.ops disk_Disk_List_r1 :: K) fr S = gval T (.ops [
  ⟨some 3, .mov (.tmp 0), none⟩,
  ⟨some 4, .eqn false .p (.tmp 3), none⟩,
  ⟨some 5, .mov (.tmp 4), none⟩,
  ⟨some 6, .mov (.tmp 0), some (5, false)⟩,
  ⟨some 7, .nilck (.tmp 6), some (5, false)⟩,
  ⟨some 8, .faddr 2 (.tmp 7), some (5, false)⟩,
  ⟨some 9, .load false 1 false (.tmp 8), some (5, false)⟩,
  ⟨some 10, .eqn false .m (.tmp 9), some (5, false)⟩,
  ⟨some 11, .pick (.tmp 5) (.cst (.bool true)) (.tmp 10), none⟩,
  ⟨some 12, .mov (.tmp 11), none⟩,
  ⟨some 13, .mov (.tmp 0), some (12, false)⟩,
  ⟨some 14, .nilck (.tmp 13), some (12, false)⟩,
  ⟨some 15, .faddr 6 (.tmp 14), some (12, false)⟩,
  ⟨some 16, .load false 1 false (.tmp 15), some (12, false)⟩,
  ⟨some 17, .pick (.tmp 12) (.cst (.bool true)) (.tmp 16), none⟩] :: K) fr S := rfl
def disk_Disk_List_r2 : List POper := [
  ⟨some 2, .mov (.cst .nils), none⟩]
@[simp] theorem disk_Disk_List_r2_go (T : Tbl) (K : List Kt) (fr : Fr) (S : St) : gval T (.ops disk_Disk_List_r2 :: K) fr S = gval T (.ops [
  ⟨some 2, .mov (.cst .nils), none⟩] :: K) fr S := rfl
def disk_Disk_List_r3 : List POper := [
  ⟨some 18, .mov (.tmp 0), none⟩,
  ⟨some 19, .nilck (.tmp 18), none⟩,
  ⟨some 20, .faddr 2 (.tmp 19), none⟩,
  ⟨some 21, .load false 1 false (.tmp 20), none⟩,
  ⟨some 22, .call .std 200 [(.tmp 21)], none⟩,
  ⟨some 23, .call .std 199 [(.tmp 22)], none⟩,
  ⟨some 2, .mov (.tmp 23), none⟩]
@[simp] theorem disk_Disk_List_r3_go (T : Tbl) (K : List Kt) (fr : Fr) (S : St) : gval T (.ops disk_Disk_List_r3 :: K) fr S = gval T (.ops [
  ⟨some 18, .mov (.tmp 0), none⟩,
  ⟨some 19, .nilck (.tmp 18), none⟩,
  ⟨some 20, .faddr 2 (.tmp 19), none⟩,
  ⟨some 21, .load false 1 false (.tmp 20), none⟩,
  ⟨some 22, .call .std 200 [(.tmp 21)], none⟩,
  ⟨some 23, .call .std 199 [(.tmp 22)], none⟩,
  ⟨some 2, .mov (.tmp 23), none⟩] :: K) fr S := rfl
def disk_Disk_List : PCodeFn :=
  ⟨1, [.tmp 2],
  (.seq (.region disk_Disk_List_r0) (.seq (.seq (.clr [(3, 17)] (.region disk_Disk_List_r1)) (.cond (.tmp 17) (.seq (.region disk_Disk_List_r2) .ret) .skip)) (.seq (.clr [(18, 24)] (.region disk_Disk_List_r3)) .ret))), false⟩

/-! (*gauge/disk.Disk).Remove: 83 -/
def disk_Disk_Remove_r0 : List POper := [
  ⟨some 4, .mov (.cst (.int .i64 0)), none⟩]
@[simp] theorem disk_Disk_Remove_r0_go (T : Tbl) (K : List Kt) (fr : Fr) (S : St) : gval T (.ops disk_Disk_Remove_r0 :: K) fr S = gval T (.ops [
  ⟨some 4, .mov (.cst (.int .i64 0)), none⟩] :: K) fr S := rfl
def disk_Disk_Remove_r1 : List POper := [
  ⟨some 8, .mov (.tmp 0), none⟩,
  ⟨some 9, .mov (.tmp 1), none⟩,
  ⟨some 10, .call .std 194 [(.tmp 8), (.tmp 9)], none⟩,
  ⟨some 7, .mov (.tmp 10), none⟩,
  ⟨some 11, .extract 0 (.tmp 7), none⟩,
  ⟨some 12, .extract 1 (.tmp 7), none⟩,
  ⟨some 5, .mov (.tmp 11), none⟩,
  ⟨some 6, .mov (.tmp 12), none⟩]
@[simp] theorem disk_Disk_Remove_r1_go (T : Tbl) (K : List Kt) (fr : Fr) (S : St) : gval T (.ops disk_Disk_Remove_r1 :: K) fr S = gval T (.ops [
  ⟨some 8, .mov (.tmp 0), none⟩,
  ⟨some 9, .mov (.tmp 1), none⟩,
  ⟨some 10, .call .std 194 [(.tmp 8), (.tmp 9)], none⟩,
  ⟨some 7, .mov (.tmp 10), none⟩,
  ⟨some 11, .extract 0 (.tmp 7), none⟩,
  ⟨some 12, .extract 1 (.tmp 7), none⟩,
  ⟨some 5, .mov (.tmp 11), none⟩,
  ⟨some 6, .mov (.tmp 12), none⟩] :: K) fr S := rfl
def disk_Disk_Remove_r2 : List POper := [
  ⟨some 13, .mov (.tmp 6), none⟩,
  ⟨some 14, .arith .neq (.tmp 13) (.cst (.int .i64 0)), none⟩]
@[simp] theorem disk_Disk_Remove_r2_go (T : Tbl) (K : List Kt) (fr : Fr) (S : St) : gval T (.ops disk_Disk_Remove_r2 :: K) fr S = gval T (.ops [
  ⟨some 13, .mov (.tmp 6), none⟩,
  ⟨some 14, .arith .neq (.tmp 13) (.cst (.int .i64 0)), none⟩] :: K) fr S := rfl
def disk_Disk_Remove_r3 : List POper := [
  ⟨some 15, .mov (.tmp 6), none⟩,
  ⟨some 4, .mov (.tmp 15), none⟩]
@[simp] theorem disk_Disk_Remove_r3_go (T : Tbl) (K : List Kt) (fr : Fr) (S : St) : gval T (.ops disk_Disk_Remove_r3 :: K) fr S = gval T (.ops [
  ⟨some 15, .mov (.tmp 6), none⟩,
  ⟨some 4, .mov (.tmp 15), none⟩] :: K) fr S := rfl
def disk_Disk_Remove_r4 : List POper := [
  ⟨some 16, .mov (.tmp 0), none⟩,
  ⟨some 17, .mov (.tmp 1), none⟩,
  ⟨some 18, .build [(.str []), (.str []), .nilp] [(0, 1, (.tmp 17))], none⟩,
  ⟨some 19, .call .std 195 [(.tmp 16), (.tmp 18)], none⟩,
  ⟨some 4, .mov (.tmp 19), none⟩]
@[simp] theorem disk_Disk_Remove_r4_go (T : Tbl) (K : List Kt) (fr : Fr) (S : St) : gval T (.ops disk_Disk_Remove_r4 :: K) fr S = gval T (.ops [
  ⟨some 16, .mov (.tmp 0), none⟩,
  ⟨some 17, .mov (.tmp 1), none⟩,
  ⟨some 18, .build [(.str []), (.str []), .nilp] [(0, 1, (.tmp 17))], none⟩,
  ⟨some 19, .call .std 195 [(.tmp 16), (.tmp 18)], none⟩,
  ⟨some 4, .mov (.tmp 19), none⟩] :: K) fr S := rfl
def disk_Disk_Remove : PCodeFn :=
  ⟨2, [.tmp 4],
  (.seq (.region disk_Disk_Remove_r0) (.seq (.seq (.clr [(5, 6), (7, 13)] (.region disk_Disk_Remove_r1)) (.seq (.clr [(13, 14)] (.region disk_Disk_Remove_r2)) (.cond (.tmp 14) (.seq (.clr [(15, 16)] (.region disk_Disk_Remove_r3)) .ret) .skip))) (.seq (.clr [(16, 20)] (.region disk_Disk_Remove_r4)) .ret))), false⟩

/-! gauge/wal.anew.1: 320 -/
def wal_anew_1_r0 : List POper := [
  ⟨some 1, .mov (.cst (.int .i64 0)), none⟩]
@[simp] theorem wal_anew_1_r0_go (T : Tbl) (K : List Kt) (fr : Fr) (S : St) : gval T (.ops wal_anew_1_r0 :: K) fr S = gval T (.ops [
  ⟨some 1, .mov (.cst (.int .i64 0)), none⟩] :: K) fr S := rfl
def wal_anew_1_r1 : List POper := [
  ⟨some 2, .load false 1 false (.tmp 0), none⟩,
  ⟨some 3, .call .std 77 [(.tmp 2), (.cst (.str [116, 109, 112]))], none⟩,
  ⟨some 1, .mov (.tmp 3), none⟩]
@[simp] theorem wal_anew_1_r1_go (T : Tbl) (K : List Kt) (fr : Fr) (S : St) : gval T (.ops wal_anew_1_r1 :: K) fr S = gval T (.ops [
  ⟨some 2, .load false 1 false (.tmp 0), none⟩,
  ⟨some 3, .call .std 77 [(.tmp 2), (.cst (.str [116, 109, 112]))], none⟩,
  ⟨some 1, .mov (.tmp 3), none⟩] :: K) fr S := rfl
def wal_anew_1 : PCodeFn :=
  ⟨1, [.tmp 1],
  (.seq (.region wal_anew_1_r0) (.seq (.clr [(2, 4)] (.region wal_anew_1_r1)) .ret)), false⟩

/-! gauge/wal.anew.2: 321 -/
def wal_anew_2_r0 : List POper := [
  ⟨some 2, .mov (.cst (.int .i64 0)), none⟩]
@[simp] theorem wal_anew_2_r0_go (T : Tbl) (K : List Kt) (fr : Fr) (S : St) : gval T (.ops wal_anew_2_r0 :: K) fr S = gval T (.ops [
  ⟨some 2, .mov (.cst (.int .i64 0)), none⟩] :: K) fr S := rfl
def wal_anew_2_r1 : List POper := [
  ⟨some 3, .load false 1 false (.tmp 0), none⟩,
  ⟨some 4, .load false 1 false (.tmp 1), none⟩,
  ⟨some 5, .call .std 78 [(.tmp 3), (.cst (.str [116, 109, 112])), (.tmp 4)], none⟩,
  ⟨some 2, .mov (.tmp 5), none⟩]
@[simp] theorem wal_anew_2_r1_go (T : Tbl) (K : List Kt) (fr : Fr) (S : St) : gval T (.ops wal_anew_2_r1 :: K) fr S = gval T (.ops [
  ⟨some 3, .load false 1 false (.tmp 0), none⟩,
  ⟨some 4, .load false 1 false (.tmp 1), none⟩,
  ⟨some 5, .call .std 78 [(.tmp 3), (.cst (.str [116, 109, 112])), (.tmp 4)], none⟩,
  ⟨some 2, .mov (.tmp 5), none⟩] :: K) fr S := rfl
def wal_anew_2 : PCodeFn :=
  ⟨2, [.tmp 2],
  (.seq (.region wal_anew_2_r0) (.seq (.clr [(3, 6)] (.region wal_anew_2_r1)) .ret)), false⟩

/-! gauge/wal.anew.3: 322 -/
def wal_anew_3_r0 : List POper := [
  ⟨some 1, .mov (.cst (.int .i64 0)), none⟩]
@[simp] theorem wal_anew_3_r0_go (T : Tbl) (K : List Kt) (fr : Fr) (S : St) : gval T (.ops wal_anew_3_r0 :: K) fr S = gval T (.ops [
  ⟨some 1, .mov (.cst (.int .i64 0)), none⟩] :: K) fr S := rfl
def wal_anew_3_r1 : List POper := [
  ⟨some 2, .load false 1 false (.tmp 0), none⟩,
  ⟨some 3, .call .std 84 [(.tmp 2), (.cst (.str [116, 109, 112]))], none⟩,
  ⟨some 1, .mov (.tmp 3), none⟩]
@[simp] theorem wal_anew_3_r1_go (T : Tbl) (K : List Kt) (fr : Fr) (S : St) : gval T (.ops wal_anew_3_r1 :: K) fr S = gval T (.ops [
  ⟨some 2, .load false 1 false (.tmp 0), none⟩,
  ⟨some 3, .call .std 84 [(.tmp 2), (.cst (.str [116, 109, 112]))], none⟩,
  ⟨some 1, .mov (.tmp 3), none⟩] :: K) fr S := rfl
def wal_anew_3 : PCodeFn :=
  ⟨1, [.tmp 1],
  (.seq (.region wal_anew_3_r0) (.seq (.clr [(2, 4)] (.region wal_anew_3_r1)) .ret)), false⟩

/-! gauge/wal.anew.4: 323 -/
def wal_anew_4_r0 : List POper := [
  ⟨some 2, .mov (.cst (.int .i64 0)), none⟩]
@[simp] theorem wal_anew_4_r0_go (T : Tbl) (K : List Kt) (fr : Fr) (S : St) : gval T (.ops wal_anew_4_r0 :: K) fr S = gval T (.ops [
  ⟨some 2, .mov (.cst (.int .i64 0)), none⟩] :: K) fr S := rfl
def wal_anew_4_r1 : List POper := [
  ⟨some 3, .load false 1 false (.tmp 0), none⟩,
  ⟨some 4, .load false 1 false (.tmp 1), none⟩,
  ⟨some 5, .call .std 82 [(.tmp 3), (.cst (.str [116, 109, 112])), (.tmp 4)], none⟩,
  ⟨some 2, .mov (.tmp 5), none⟩]
@[simp] theorem wal_anew_4_r1_go (T : Tbl) (K : List Kt) (fr : Fr) (S : St) : gval T (.ops wal_anew_4_r1 :: K) fr S = gval T (.ops [
  ⟨some 3, .load false 1 false (.tmp 0), none⟩,
  ⟨some 4, .load false 1 false (.tmp 1), none⟩,
  ⟨some 5, .call .std 82 [(.tmp 3), (.cst (.str [116, 109, 112])), (.tmp 4)], none⟩,
  ⟨some 2, .mov (.tmp 5), none⟩] :: K) fr S := rfl
def wal_anew_4 : PCodeFn :=
  ⟨2, [.tmp 2],
  (.seq (.region wal_anew_4_r0) (.seq (.clr [(3, 6)] (.region wal_anew_4_r1)) .ret)), false⟩

/-! (*gauge/disk.Disk).Rename: 82 -/
def disk_Disk_Rename_r0 : List POper := [
  ⟨some 6, .mov (.cst (.int .i64 0)), none⟩]
@[simp] theorem disk_Disk_Rename_r0_go (T : Tbl) (K : List Kt) (fr : Fr) (S : St) : gval T (.ops disk_Disk_Rename_r0 :: K) fr S = gval T (.ops [
  ⟨some 6, .mov (.cst (.int .i64 0)), none⟩] :: K) fr S := rfl
def disk_Disk_Rename_r1 : List POper := [
  ⟨some 10, .mov (.tmp 0), none⟩,
  ⟨some 11, .mov (.tmp 1), none⟩,
  ⟨some 12, .call .std 194 [(.tmp 10), (.tmp 11)], none⟩,
  ⟨some 9, .mov (.tmp 12), none⟩,
  ⟨some 13, .extract 0 (.tmp 9), none⟩,
  ⟨some 14, .extract 1 (.tmp 9), none⟩,
  ⟨some 7, .mov (.tmp 13), none⟩,
  ⟨some 8, .mov (.tmp 14), none⟩]
@[simp] theorem disk_Disk_Rename_r1_go (T : Tbl) (K : List Kt) (fr : Fr) (S : St) : gval T (.ops disk_Disk_Rename_r1 :: K) fr S = gval T (.ops [
  ⟨some 10, .mov (.tmp 0), none⟩,
  ⟨some 11, .mov (.tmp 1), none⟩,
  ⟨some 12, .call .std 194 [(.tmp 10), (.tmp 11)], none⟩,
  ⟨some 9, .mov (.tmp 12), none⟩,
  ⟨some 13, .extract 0 (.tmp 9), none⟩,
  ⟨some 14, .extract 1 (.tmp 9), none⟩,
  ⟨some 7, .mov (.tmp 13), none⟩,
  ⟨some 8, .mov (.tmp 14), none⟩] :: K) fr S := rfl
def disk_Disk_Rename_r2 : List POper := [
  ⟨some 15, .mov (.tmp 8), none⟩,
  ⟨some 16, .arith .neq (.tmp 15) (.cst (.int .i64 0)), none⟩,
  ⟨some 17, .mov (.tmp 16), none⟩,
  ⟨some 18, .mov (.tmp 8), some (17, true)⟩,
  ⟨some 19, .arith .neq (.tmp 18) (.cst (.int .i64 9)), some (17, true)⟩,
  ⟨some 20, .pick (.tmp 17) (.tmp 19) (.cst (.bool false)), none⟩]
@[simp] theorem disk_Disk_Rename_r2_go (T : Tbl) (K : List Kt) (fr : Fr) (S : St) : gval T (.ops disk_Disk_Rename_r2 :: K) fr S = gval T (.ops [
  ⟨some 15, .mov (.tmp 8), none⟩,
  ⟨some 16, .arith .neq (.tmp 15) (.cst (.int .i64 0)), none⟩,
  ⟨some 17, .mov (.tmp 16), none⟩,
  ⟨some 18, .mov (.tmp 8), some (17, true)⟩,
  ⟨some 19, .arith .neq (.tmp 18) (.cst (.int .i64 9)), some (17, true)⟩,
  ⟨some 20, .pick (.tmp 17) (.tmp 19) (.cst (.bool false)), none⟩] :: K) fr S := rfl
def disk_Disk_Rename_r3 : List POper := [
  ⟨some 21, .mov (.tmp 8), none⟩,
  ⟨some 6, .mov (.tmp 21), none⟩]
@[simp] theorem disk_Disk_Rename_r3_go (T : Tbl) (K : List Kt) (fr : Fr) (S : St) : gval T (.ops disk_Disk_Rename_r3 :: K) fr S = gval T (.ops [
  ⟨some 21, .mov (.tmp 8), none⟩,
  ⟨some 6, .mov (.tmp 21), none⟩] :: K) fr S := rfl
def disk_Disk_Rename_r4 : List POper := [
  ⟨some 22, .mov (.tmp 2), none⟩,
  ⟨some 23, .call .pur 202 [(.tmp 22)], none⟩,
  ⟨some 24, .un .not (.tmp 23), none⟩]
@[simp] theorem disk_Disk_Rename_r4_go (T : Tbl) (K : List Kt) (fr : Fr) (S : St) : gval T (.ops disk_Disk_Rename_r4 :: K) fr S = gval T (.ops [
  ⟨some 22, .mov (.tmp 2), none⟩,
  ⟨some 23, .call .pur 202 [(.tmp 22)], none⟩,
  ⟨some 24, .un .not (.tmp 23), none⟩] :: K) fr S := rfl
def disk_Disk_Rename_r5 : List POper := [
  ⟨some 6, .mov (.cst (.int .i64 8)), none⟩]
@[simp] theorem disk_Disk_Rename_r5_go (T : Tbl) (K : List Kt) (fr : Fr) (S : St) : gval T (.ops disk_Disk_Rename_r5 :: K) fr S = gval T (.ops [
  ⟨some 6, .mov (.cst (.int .i64 8)), none⟩] :: K) fr S := rfl
def disk_Disk_Rename_r6 : List POper := [
  ⟨some 25, .mov (.tmp 8), none⟩,
  ⟨some 26, .arith .neq (.tmp 25) (.cst (.int .i64 0)), none⟩]
@[simp] theorem disk_Disk_Rename_r6_go (T : Tbl) (K : List Kt) (fr : Fr) (S : St) : gval T (.ops disk_Disk_Rename_r6 :: K) fr S = gval T (.ops [
  ⟨some 25, .mov (.tmp 8), none⟩,
  ⟨some 26, .arith .neq (.tmp 25) (.cst (.int .i64 0)), none⟩] :: K) fr S := rfl
def disk_Disk_Rename_r7 : List POper := [
  ⟨some 27, .mov (.tmp 8), none⟩,
  ⟨some 6, .mov (.tmp 27), none⟩]
@[simp] theorem disk_Disk_Rename_r7_go (T : Tbl) (K : List Kt) (fr : Fr) (S : St) : gval T (.ops disk_Disk_Rename_r7 :: K) fr S = gval T (.ops [
  ⟨some 27, .mov (.tmp 8), none⟩,
  ⟨some 6, .mov (.tmp 27), none⟩] :: K) fr S := rfl
def disk_Disk_Rename_r8 : List POper := [
  ⟨some 28, .mov (.tmp 0), none⟩,
  ⟨some 29, .mov (.tmp 1), none⟩,
  ⟨some 30, .mov (.tmp 2), none⟩,
  ⟨some 31, .build [(.str []), (.str []), .nilp] [(0, 1, (.tmp 29)), (1, 1, (.tmp 30))], none⟩,
  ⟨some 32, .call .std 195 [(.tmp 28), (.tmp 31)], none⟩,
  ⟨some 6, .mov (.tmp 32), none⟩]
@[simp] theorem disk_Disk_Rename_r8_go (T : Tbl) (K : List Kt) (fr : Fr) (S : St) : gval T (.ops disk_Disk_Rename_r8 :: K) fr S = gval T (.ops [
  ⟨some 28, .mov (.tmp 0), none⟩,
  ⟨some 29, .mov (.tmp 1), none⟩,
  ⟨some 30, .mov (.tmp 2), none⟩,
  ⟨some 31, .build [(.str []), (.str []), .nilp] [(0, 1, (.tmp 29)), (1, 1, (.tmp 30))], none⟩,
  ⟨some 32, .call .std 195 [(.tmp 28), (.tmp 31)], none⟩,
  ⟨some 6, .mov (.tmp 32), none⟩] :: K) fr S := rfl
def disk_Disk_Rename : PCodeFn :=
  ⟨3, [.tmp 6],
  (.seq (.region disk_Disk_Rename_r0) (.seq (.clr [(7, 8), (9, 15)] (.region disk_Disk_Rename_r1)) (.seq (.seq (.clr [(15, 20)] (.region disk_Disk_Rename_r2)) (.cond (.tmp 20) (.seq (.clr [(21, 22)] (.region disk_Disk_Rename_r3)) .ret) .skip)) (.seq (.seq (.clr [(22, 24)] (.region disk_Disk_Rename_r4)) (.cond (.tmp 24) (.seq (.region disk_Disk_Rename_r5) .ret) .skip)) (.seq (.seq (.clr [(25, 26)] (.region disk_Disk_Rename_r6)) (.cond (.tmp 26) (.seq (.clr [(27, 28)] (.region disk_Disk_Rename_r7)) .ret) .skip)) (.seq (.clr [(28, 33)] (.region disk_Disk_Rename_r8)) .ret)))))), false⟩

/-! gauge/chunk.may: 260 -/
def chunk_may_r0 : List POper := [
  ⟨some 1, .box true (.tmp 0), none⟩,
  ⟨some 2, .mov (.cst (.bool false)), none⟩]
@[simp] theorem chunk_may_r0_go (T : Tbl) (K : List Kt) (fr : Fr) (S : St) : gval T (.ops chunk_may_r0 :: K) fr S = gval T (.ops [
  ⟨some 1, .box true (.tmp 0), none⟩,
  ⟨some 2, .mov (.cst (.bool false)), none⟩] :: K) fr S := rfl
def chunk_may_r1 : List POper := [
  ⟨some 3, .faddr 0 (.tmp 1), none⟩,
  ⟨some 4, .load false 1 false (.tmp 3), none⟩,
  ⟨some 5, .arith .leq (.cst (.int .i64 0)) (.tmp 4), none⟩,
  ⟨some 6, .mov (.tmp 5), none⟩,
  ⟨some 7, .faddr 0 (.tmp 1), some (6, true)⟩,
  ⟨some 8, .load false 1 false (.tmp 7), some (6, true)⟩,
  ⟨some 9, .arith .leq (.tmp 8) (.cst (.int .i64 1099511627776)), some (6, true)⟩,
  ⟨some 10, .pick (.tmp 6) (.tmp 9) (.cst (.bool false)), none⟩,
  ⟨some 11, .mov (.tmp 10), none⟩,
  ⟨some 12, .faddr 1 (.tmp 1), some (11, true)⟩,
  ⟨some 13, .load false 1 false (.tmp 12), some (11, true)⟩,
  ⟨some 14, .arith .leq (.cst (.int .i64 (-1152921504606846976))) (.tmp 13), some (11, true)⟩,
  ⟨some 15, .pick (.tmp 11) (.tmp 14) (.cst (.bool false)), none⟩,
  ⟨some 16, .mov (.tmp 15), none⟩,
  ⟨some 17, .faddr 1 (.tmp 1), some (16, true)⟩,
  ⟨some 18, .load false 1 false (.tmp 17), some (16, true)⟩,
  ⟨some 19, .arith .leq (.tmp 18) (.cst (.int .i64 1152921504606846976)), some (16, true)⟩,
  ⟨some 20, .pick (.tmp 16) (.tmp 19) (.cst (.bool false)), none⟩,
  ⟨some 2, .mov (.tmp 20), none⟩]
@[simp] theorem chunk_may_r1_go (T : Tbl) (K : List Kt) (fr : Fr) (S : St) : gval T (.ops chunk_may_r1 :: K) fr S = gval T (.ops [
  ⟨some 3, .faddr 0 (.tmp 1), none⟩,
  ⟨some 4, .load false 1 false (.tmp 3), none⟩,
  ⟨some 5, .arith .leq (.cst (.int .i64 0)) (.tmp 4), none⟩,
  ⟨some 6, .mov (.tmp 5), none⟩,
  ⟨some 7, .faddr 0 (.tmp 1), some (6, true)⟩,
  ⟨some 8, .load false 1 false (.tmp 7), some (6, true)⟩,
  ⟨some 9, .arith .leq (.tmp 8) (.cst (.int .i64 1099511627776)), some (6, true)⟩,
  ⟨some 10, .pick (.tmp 6) (.tmp 9) (.cst (.bool false)), none⟩,
  ⟨some 11, .mov (.tmp 10), none⟩,
  ⟨some 12, .faddr 1 (.tmp 1), some (11, true)⟩,
  ⟨some 13, .load false 1 false (.tmp 12), some (11, true)⟩,
  ⟨some 14, .arith .leq (.cst (.int .i64 (-1152921504606846976))) (.tmp 13), some (11, true)⟩,
  ⟨some 15, .pick (.tmp 11) (.tmp 14) (.cst (.bool false)), none⟩,
  ⟨some 16, .mov (.tmp 15), none⟩,
  ⟨some 17, .faddr 1 (.tmp 1), some (16, true)⟩,
  ⟨some 18, .load false 1 false (.tmp 17), some (16, true)⟩,
  ⟨some 19, .arith .leq (.tmp 18) (.cst (.int .i64 1152921504606846976)), some (16, true)⟩,
  ⟨some 20, .pick (.tmp 16) (.tmp 19) (.cst (.bool false)), none⟩,
  ⟨some 2, .mov (.tmp 20), none⟩] :: K) fr S := rfl
def chunk_may : PCodeFn :=
  ⟨1, [.tmp 2],
  (.seq (.region chunk_may_r0) (.seq (.clr [(3, 21)] (.region chunk_may_r1)) .ret)), false⟩

/-! gauge/gaugeref06.text: 216 -/
def ref06_text_r0 : List POper := [
  ⟨some 4, .mov (.cst (.int .i64 0)), none⟩]
@[simp] theorem ref06_text_r0_go (T : Tbl) (K : List Kt) (fr : Fr) (S : St) : gval T (.ops ref06_text_r0 :: K) fr S = gval T (.ops [
  ⟨some 4, .mov (.cst (.int .i64 0)), none⟩] :: K) fr S := rfl
def ref06_text_r1 : List POper := [
  ⟨some 5, .mov (.tmp 0), none⟩,
  ⟨some 6, .mov (.tmp 1), none⟩,
  ⟨some 7, .arith .lss (.tmp 5) (.tmp 6), none⟩]
@[simp] theorem ref06_text_r1_go (T : Tbl) (K : List Kt) (fr : Fr) (S : St) : gval T (.ops ref06_text_r1 :: K) fr S = gval T (.ops [
  ⟨some 5, .mov (.tmp 0), none⟩,
  ⟨some 6, .mov (.tmp 1), none⟩,
  ⟨some 7, .arith .lss (.tmp 5) (.tmp 6), none⟩] :: K) fr S := rfl
def ref06_text_r2 : List POper := [
  ⟨some 4, .mov (.cst (.int .i64 (-1))), none⟩]
@[simp] theorem ref06_text_r2_go (T : Tbl) (K : List Kt) (fr : Fr) (S : St) : gval T (.ops ref06_text_r2 :: K) fr S = gval T (.ops [
  ⟨some 4, .mov (.cst (.int .i64 (-1))), none⟩] :: K) fr S := rfl
def ref06_text_r3 : List POper := [
  ⟨some 8, .mov (.tmp 0), none⟩,
  ⟨some 9, .mov (.tmp 1), none⟩,
  ⟨some 10, .arith .gtr (.tmp 8) (.tmp 9), none⟩]
@[simp] theorem ref06_text_r3_go (T : Tbl) (K : List Kt) (fr : Fr) (S : St) : gval T (.ops ref06_text_r3 :: K) fr S = gval T (.ops [
  ⟨some 8, .mov (.tmp 0), none⟩,
  ⟨some 9, .mov (.tmp 1), none⟩,
  ⟨some 10, .arith .gtr (.tmp 8) (.tmp 9), none⟩] :: K) fr S := rfl
def ref06_text_r4 : List POper := [
  ⟨some 4, .mov (.cst (.int .i64 1)), none⟩]
@[simp] theorem ref06_text_r4_go (T : Tbl) (K : List Kt) (fr : Fr) (S : St) : gval T (.ops ref06_text_r4 :: K) fr S = gval T (.ops [
  ⟨some 4, .mov (.cst (.int .i64 1)), none⟩] :: K) fr S := rfl
def ref06_text_r5 : List POper := [
  ⟨some 4, .mov (.cst (.int .i64 0)), none⟩]
@[simp] theorem ref06_text_r5_go (T : Tbl) (K : List Kt) (fr : Fr) (S : St) : gval T (.ops ref06_text_r5 :: K) fr S = gval T (.ops [
  ⟨some 4, .mov (.cst (.int .i64 0)), none⟩] :: K) fr S := rfl
def ref06_text : PCodeFn :=
  ⟨2, [.tmp 4],
  (.seq (.region ref06_text_r0) (.seq (.seq (.clr [(5, 7)] (.region ref06_text_r1)) (.cond (.tmp 7) (.seq (.region ref06_text_r2) .ret) .skip)) (.seq (.seq (.clr [(8, 10)] (.region ref06_text_r3)) (.cond (.tmp 10) (.seq (.region ref06_text_r4) .ret) .skip)) (.seq (.region ref06_text_r5) .ret)))), false⟩

/-! gauge/gaugeref02.GetUint: 112 -/
def ref02_GetUint_r0 : List POper := [
  ⟨some 4, .mov (.cst (.int .i64 0)), none⟩,
  ⟨some 5, .mov (.cst (.int .i64 0)), none⟩,
  ⟨some 6, .mov (.cst (.int .i64 0)), none⟩]
@[simp] theorem ref02_GetUint_r0_go (T : Tbl) (K : List Kt) (fr : Fr) (S : St) : gval T (.ops ref02_GetUint_r0 :: K) fr S = gval T (.ops [
  ⟨some 4, .mov (.cst (.int .i64 0)), none⟩,
  ⟨some 5, .mov (.cst (.int .i64 0)), none⟩,
  ⟨some 6, .mov (.cst (.int .i64 0)), none⟩] :: K) fr S := rfl
def ref02_GetUint_r1 : List POper := [
  ⟨some 11, .mov (.tmp 1), none⟩,
  ⟨some 12, .arith .lss (.tmp 11) (.cst (.int .i64 0)), none⟩,
  ⟨some 13, .mov (.tmp 12), none⟩,
  ⟨some 14, .mov (.tmp 1), some (13, false)⟩,
  ⟨some 15, .mov (.tmp 0), some (13, false)⟩,
  ⟨some 16, .len false (.tmp 15), some (13, false)⟩,
  ⟨some 17, .arith .gtr (.tmp 14) (.tmp 16), some (13, false)⟩,
  ⟨some 18, .pick (.tmp 13) (.cst (.bool true)) (.tmp 17), none⟩]
@[simp] theorem ref02_GetUint_r1_go (T : Tbl) (K : List Kt) (fr : Fr) (S : St) : gval T (.ops ref02_GetUint_r1 :: K) fr S = gval T (.ops [
  ⟨some 11, .mov (.tmp 1), none⟩,
  ⟨some 12, .arith .lss (.tmp 11) (.cst (.int .i64 0)), none⟩,
  ⟨some 13, .mov (.tmp 12), none⟩,
  ⟨some 14, .mov (.tmp 1), some (13, false)⟩,
  ⟨some 15, .mov (.tmp 0), some (13, false)⟩,
  ⟨some 16, .len false (.tmp 15), some (13, false)⟩,
  ⟨some 17, .arith .gtr (.tmp 14) (.tmp 16), some (13, false)⟩,
  ⟨some 18, .pick (.tmp 13) (.cst (.bool true)) (.tmp 17), none⟩] :: K) fr S := rfl
def ref02_GetUint_r2 : List POper := [
  ⟨some 4, .mov (.cst (.int .i64 0)), none⟩,
  ⟨some 5, .mov (.cst (.int .i64 0)), none⟩,
  ⟨some 6, .mov (.cst (.int .i64 2)), none⟩]
@[simp] theorem ref02_GetUint_r2_go (T : Tbl) (K : List Kt) (fr : Fr) (S : St) : gval T (.ops ref02_GetUint_r2 :: K) fr S = gval T (.ops [
  ⟨some 4, .mov (.cst (.int .i64 0)), none⟩,
  ⟨some 5, .mov (.cst (.int .i64 0)), none⟩,
  ⟨some 6, .mov (.cst (.int .i64 2)), none⟩] :: K) fr S := rfl
def ref02_GetUint_r3 : List POper := [
  ⟨some 7, .mov (.cst (.int .i64 0)), none⟩,
  ⟨some 8, .mov (.cst (.int .i64 1)), none⟩]
@[simp] theorem ref02_GetUint_r3_go (T : Tbl) (K : List Kt) (fr : Fr) (S : St) : gval T (.ops ref02_GetUint_r3 :: K) fr S = gval T (.ops [
  ⟨some 7, .mov (.cst (.int .i64 0)), none⟩,
  ⟨some 8, .mov (.cst (.int .i64 1)), none⟩] :: K) fr S := rfl
def ref02_GetUint_r4 : List POper := [
  ⟨some 9, .mov (.cst (.int .i64 0)), none⟩]
@[simp] theorem ref02_GetUint_r4_go (T : Tbl) (K : List Kt) (fr : Fr) (S : St) : gval T (.ops ref02_GetUint_r4 :: K) fr S = gval T (.ops [
  ⟨some 9, .mov (.cst (.int .i64 0)), none⟩] :: K) fr S := rfl
def ref02_GetUint_r5 : List POper := [
  ⟨some 19, .mov (.tmp 9), none⟩,
  ⟨some 20, .arith .lss (.tmp 19) (.cst (.int .i64 9)), none⟩]
@[simp] theorem ref02_GetUint_r5_go (T : Tbl) (K : List Kt) (fr : Fr) (S : St) : gval T (.ops ref02_GetUint_r5 :: K) fr S = gval T (.ops [
  ⟨some 19, .mov (.tmp 9), none⟩,
  ⟨some 20, .arith .lss (.tmp 19) (.cst (.int .i64 9)), none⟩] :: K) fr S := rfl
def ref02_GetUint_r7 : List POper := [
  ⟨some 23, .mov (.tmp 1), none⟩,
  ⟨some 24, .mov (.tmp 9), none⟩,
  ⟨some 25, .arith .add (.tmp 23) (.tmp 24), none⟩,
  ⟨some 26, .mov (.tmp 0), none⟩,
  ⟨some 27, .len false (.tmp 26), none⟩,
  ⟨some 28, .arith .geq (.tmp 25) (.tmp 27), none⟩]
@[simp] theorem ref02_GetUint_r7_go (T : Tbl) (K : List Kt) (fr : Fr) (S : St) : gval T (.ops ref02_GetUint_r7 :: K) fr S = gval T (.ops [
  ⟨some 23, .mov (.tmp 1), none⟩,
  ⟨some 24, .mov (.tmp 9), none⟩,
  ⟨some 25, .arith .add (.tmp 23) (.tmp 24), none⟩,
  ⟨some 26, .mov (.tmp 0), none⟩,
  ⟨some 27, .len false (.tmp 26), none⟩,
  ⟨some 28, .arith .geq (.tmp 25) (.tmp 27), none⟩] :: K) fr S := rfl
def ref02_GetUint_r8 : List POper := [
  ⟨some 4, .mov (.cst (.int .i64 0)), none⟩,
  ⟨some 5, .mov (.cst (.int .i64 0)), none⟩,
  ⟨some 6, .mov (.cst (.int .i64 4)), none⟩]
@[simp] theorem ref02_GetUint_r8_go (T : Tbl) (K : List Kt) (fr : Fr) (S : St) : gval T (.ops ref02_GetUint_r8 :: K) fr S = gval T (.ops [
  ⟨some 4, .mov (.cst (.int .i64 0)), none⟩,
  ⟨some 5, .mov (.cst (.int .i64 0)), none⟩,
  ⟨some 6, .mov (.cst (.int .i64 4)), none⟩] :: K) fr S := rfl
def ref02_GetUint_r9 : List POper := [
  ⟨some 29, .mov (.tmp 0), none⟩,
  ⟨some 30, .mov (.tmp 1), none⟩,
  ⟨some 31, .mov (.tmp 9), none⟩,
  ⟨some 32, .arith .add (.tmp 30) (.tmp 31), none⟩,
  ⟨some 33, .iaddr 1 (.tmp 29) (.tmp 32), none⟩,
  ⟨some 34, .load false 1 false (.tmp 33), none⟩,
  ⟨some 35, .toInt .i64 (.tmp 34), none⟩,
  ⟨some 10, .mov (.tmp 35), none⟩]
@[simp] theorem ref02_GetUint_r9_go (T : Tbl) (K : List Kt) (fr : Fr) (S : St) : gval T (.ops ref02_GetUint_r9 :: K) fr S = gval T (.ops [
  ⟨some 29, .mov (.tmp 0), none⟩,
  ⟨some 30, .mov (.tmp 1), none⟩,
  ⟨some 31, .mov (.tmp 9), none⟩,
  ⟨some 32, .arith .add (.tmp 30) (.tmp 31), none⟩,
  ⟨some 33, .iaddr 1 (.tmp 29) (.tmp 32), none⟩,
  ⟨some 34, .load false 1 false (.tmp 33), none⟩,
  ⟨some 35, .toInt .i64 (.tmp 34), none⟩,
  ⟨some 10, .mov (.tmp 35), none⟩] :: K) fr S := rfl
def ref02_GetUint_r10 : List POper := [
  ⟨some 36, .mov (.tmp 7), none⟩,
  ⟨some 37, .mov (.tmp 10), none⟩,
  ⟨some 38, .arith .rem (.tmp 37) (.cst (.int .i64 128)), none⟩,
  ⟨some 39, .mov (.tmp 8), none⟩,
  ⟨some 40, .arith .mul (.tmp 38) (.tmp 39), none⟩,
  ⟨some 41, .arith .add (.tmp 36) (.tmp 40), none⟩,
  ⟨some 7, .mov (.tmp 41), none⟩]
@[simp] theorem ref02_GetUint_r10_go (T : Tbl) (K : List Kt) (fr : Fr) (S : St) : gval T (.ops ref02_GetUint_r10 :: K) fr S = gval T (.ops [
  ⟨some 36, .mov (.tmp 7), none⟩,
  ⟨some 37, .mov (.tmp 10), none⟩,
  ⟨some 38, .arith .rem (.tmp 37) (.cst (.int .i64 128)), none⟩,
  ⟨some 39, .mov (.tmp 8), none⟩,
  ⟨some 40, .arith .mul (.tmp 38) (.tmp 39), none⟩,
  ⟨some 41, .arith .add (.tmp 36) (.tmp 40), none⟩,
  ⟨some 7, .mov (.tmp 41), none⟩] :: K) fr S := rfl
def ref02_GetUint_r11 : List POper := [
  ⟨some 42, .mov (.tmp 10), none⟩,
  ⟨some 43, .arith .lss (.tmp 42) (.cst (.int .i64 128)), none⟩]
@[simp] theorem ref02_GetUint_r11_go (T : Tbl) (K : List Kt) (fr : Fr) (S : St) : gval T (.ops ref02_GetUint_r11 :: K) fr S = gval T (.ops [
  ⟨some 42, .mov (.tmp 10), none⟩,
  ⟨some 43, .arith .lss (.tmp 42) (.cst (.int .i64 128)), none⟩] :: K) fr S := rfl
def ref02_GetUint_r12 : List POper := [
  ⟨some 44, .mov (.tmp 10), none⟩,
  ⟨some 45, .arith .eql (.tmp 44) (.cst (.int .i64 0)), none⟩,
  ⟨some 46, .mov (.tmp 45), none⟩,
  ⟨some 47, .mov (.tmp 9), some (46, true)⟩,
  ⟨some 48, .arith .gtr (.tmp 47) (.cst (.int .i64 0)), some (46, true)⟩,
  ⟨some 49, .pick (.tmp 46) (.tmp 48) (.cst (.bool false)), none⟩]
@[simp] theorem ref02_GetUint_r12_go (T : Tbl) (K : List Kt) (fr : Fr) (S : St) : gval T (.ops ref02_GetUint_r12 :: K) fr S = gval T (.ops [
  ⟨some 44, .mov (.tmp 10), none⟩,
  ⟨some 45, .arith .eql (.tmp 44) (.cst (.int .i64 0)), none⟩,
  ⟨some 46, .mov (.tmp 45), none⟩,
  ⟨some 47, .mov (.tmp 9), some (46, true)⟩,
  ⟨some 48, .arith .gtr (.tmp 47) (.cst (.int .i64 0)), some (46, true)⟩,
  ⟨some 49, .pick (.tmp 46) (.tmp 48) (.cst (.bool false)), none⟩] :: K) fr S := rfl
def ref02_GetUint_r13 : List POper := [
  ⟨some 4, .mov (.cst (.int .i64 0)), none⟩,
  ⟨some 5, .mov (.cst (.int .i64 0)), none⟩,
  ⟨some 6, .mov (.cst (.int .i64 5)), none⟩]
@[simp] theorem ref02_GetUint_r13_go (T : Tbl) (K : List Kt) (fr : Fr) (S : St) : gval T (.ops ref02_GetUint_r13 :: K) fr S = gval T (.ops [
  ⟨some 4, .mov (.cst (.int .i64 0)), none⟩,
  ⟨some 5, .mov (.cst (.int .i64 0)), none⟩,
  ⟨some 6, .mov (.cst (.int .i64 5)), none⟩] :: K) fr S := rfl
def ref02_GetUint_r14 : List POper := [
  ⟨some 50, .mov (.tmp 7), none⟩,
  ⟨some 51, .mov (.tmp 1), none⟩,
  ⟨some 52, .mov (.tmp 9), none⟩,
  ⟨some 53, .arith .add (.tmp 51) (.tmp 52), none⟩,
  ⟨some 54, .arith .add (.tmp 53) (.cst (.int .i64 1)), none⟩,
  ⟨some 4, .mov (.tmp 50), none⟩,
  ⟨some 5, .mov (.tmp 54), none⟩,
  ⟨some 6, .mov (.cst (.int .i64 0)), none⟩]
@[simp] theorem ref02_GetUint_r14_go (T : Tbl) (K : List Kt) (fr : Fr) (S : St) : gval T (.ops ref02_GetUint_r14 :: K) fr S = gval T (.ops [
  ⟨some 50, .mov (.tmp 7), none⟩,
  ⟨some 51, .mov (.tmp 1), none⟩,
  ⟨some 52, .mov (.tmp 9), none⟩,
  ⟨some 53, .arith .add (.tmp 51) (.tmp 52), none⟩,
  ⟨some 54, .arith .add (.tmp 53) (.cst (.int .i64 1)), none⟩,
  ⟨some 4, .mov (.tmp 50), none⟩,
  ⟨some 5, .mov (.tmp 54), none⟩,
  ⟨some 6, .mov (.cst (.int .i64 0)), none⟩] :: K) fr S := rfl
def ref02_GetUint_r15 : List POper := [
  ⟨some 55, .mov (.tmp 9), none⟩,
  ⟨some 56, .arith .lss (.tmp 55) (.cst (.int .i64 8)), none⟩]
@[simp] theorem ref02_GetUint_r15_go (T : Tbl) (K : List Kt) (fr : Fr) (S : St) : gval T (.ops ref02_GetUint_r15 :: K) fr S = gval T (.ops [
  ⟨some 55, .mov (.tmp 9), none⟩,
  ⟨some 56, .arith .lss (.tmp 55) (.cst (.int .i64 8)), none⟩] :: K) fr S := rfl
def ref02_GetUint_r16 : List POper := [
  ⟨some 57, .mov (.tmp 8), none⟩,
  ⟨some 58, .arith .mul (.tmp 57) (.cst (.int .i64 128)), none⟩,
  ⟨some 8, .mov (.tmp 58), none⟩]
@[simp] theorem ref02_GetUint_r16_go (T : Tbl) (K : List Kt) (fr : Fr) (S : St) : gval T (.ops ref02_GetUint_r16 :: K) fr S = gval T (.ops [
  ⟨some 57, .mov (.tmp 8), none⟩,
  ⟨some 58, .arith .mul (.tmp 57) (.cst (.int .i64 128)), none⟩,
  ⟨some 8, .mov (.tmp 58), none⟩] :: K) fr S := rfl
def ref02_GetUint_r6 : List POper := [
  ⟨some 21, .mov (.tmp 9), none⟩,
  ⟨some 22, .arith .add (.tmp 21) (.cst (.int .i64 1)), none⟩,
  ⟨some 9, .mov (.tmp 22), none⟩]
@[simp] theorem ref02_GetUint_r6_go (T : Tbl) (K : List Kt) (fr : Fr) (S : St) : gval T (.ops ref02_GetUint_r6 :: K) fr S = gval T (.ops [
  ⟨some 21, .mov (.tmp 9), none⟩,
  ⟨some 22, .arith .add (.tmp 21) (.cst (.int .i64 1)), none⟩,
  ⟨some 9, .mov (.tmp 22), none⟩] :: K) fr S := rfl
def ref02_GetUint_l0 : PCode :=
  (.seq (.seq (.clr [(19, 20)] (.region ref02_GetUint_r5)) (.cond (.tmp 20) .skip (.exit 0))) (.seq (.block 1 (.seq (.seq (.clr [(23, 28)] (.region ref02_GetUint_r7)) (.cond (.tmp 28) (.seq (.region ref02_GetUint_r8) .ret) .skip)) (.seq (.clr [(29, 36)] (.region ref02_GetUint_r9)) (.seq (.clr [(36, 42)] (.region ref02_GetUint_r10)) (.seq (.seq (.clr [(42, 43)] (.region ref02_GetUint_r11)) (.cond (.tmp 43) (.seq (.seq (.clr [(44, 49)] (.region ref02_GetUint_r12)) (.cond (.tmp 49) (.seq (.region ref02_GetUint_r13) .ret) .skip)) (.seq (.clr [(50, 55)] (.region ref02_GetUint_r14)) .ret)) .skip)) (.seq (.clr [(55, 56)] (.region ref02_GetUint_r15)) (.cond (.tmp 56) (.clr [(57, 59)] (.region ref02_GetUint_r16)) .skip))))))) (.clr [(21, 23)] (.region ref02_GetUint_r6))))
@[simp] theorem ref02_GetUint_l0_go (T : Tbl) (K : List Kt) (fr : Fr) (S : St) : gval T (.code ref02_GetUint_l0 :: K) fr S = gval T (.code (.seq (.seq (.clr [(19, 20)] (.region ref02_GetUint_r5)) (.cond (.tmp 20) .skip (.exit 0))) (.seq (.block 1 (.seq (.seq (.clr [(23, 28)] (.region ref02_GetUint_r7)) (.cond (.tmp 28) (.seq (.region ref02_GetUint_r8) .ret) .skip)) (.seq (.clr [(29, 36)] (.region ref02_GetUint_r9)) (.seq (.clr [(36, 42)] (.region ref02_GetUint_r10)) (.seq (.seq (.clr [(42, 43)] (.region ref02_GetUint_r11)) (.cond (.tmp 43) (.seq (.seq (.clr [(44, 49)] (.region ref02_GetUint_r12)) (.cond (.tmp 49) (.seq (.region ref02_GetUint_r13) .ret) .skip)) (.seq (.clr [(50, 55)] (.region ref02_GetUint_r14)) .ret)) .skip)) (.seq (.clr [(55, 56)] (.region ref02_GetUint_r15)) (.cond (.tmp 56) (.clr [(57, 59)] (.region ref02_GetUint_r16)) .skip))))))) (.clr [(21, 23)] (.region ref02_GetUint_r6)))) :: K) fr S := rfl
def ref02_GetUint_r17 : List POper := [
  ⟨some 4, .mov (.cst (.int .i64 0)), none⟩,
  ⟨some 5, .mov (.cst (.int .i64 0)), none⟩,
  ⟨some 6, .mov (.cst (.int .i64 5)), none⟩]
@[simp] theorem ref02_GetUint_r17_go (T : Tbl) (K : List Kt) (fr : Fr) (S : St) : gval T (.ops ref02_GetUint_r17 :: K) fr S = gval T (.ops [
  ⟨some 4, .mov (.cst (.int .i64 0)), none⟩,
  ⟨some 5, .mov (.cst (.int .i64 0)), none⟩,
  ⟨some 6, .mov (.cst (.int .i64 5)), none⟩] :: K) fr S := rfl
def ref02_GetUint : PCodeFn :=
  ⟨2, [.tmp 4, .tmp 5, .tmp 6],
  (.seq (.region ref02_GetUint_r0) (.seq (.seq (.clr [(11, 18)] (.region ref02_GetUint_r1)) (.cond (.tmp 18) (.seq (.region ref02_GetUint_r2) .ret) .skip)) (.seq (.region ref02_GetUint_r3) (.seq (.seq (.region ref02_GetUint_r4) (.block 0 (.loop ref02_GetUint_l0))) (.seq (.region ref02_GetUint_r17) .ret))))), false⟩

/-! gauge/gaugeref02.GetText: 113 -/
def ref02_GetText_r0 : List POper := [
  ⟨some 4, .mov (.cst (.str [])), none⟩,
  ⟨some 5, .mov (.cst (.int .i64 0)), none⟩,
  ⟨some 6, .mov (.cst (.int .i64 0)), none⟩]
@[simp] theorem ref02_GetText_r0_go (T : Tbl) (K : List Kt) (fr : Fr) (S : St) : gval T (.ops ref02_GetText_r0 :: K) fr S = gval T (.ops [
  ⟨some 4, .mov (.cst (.str [])), none⟩,
  ⟨some 5, .mov (.cst (.int .i64 0)), none⟩,
  ⟨some 6, .mov (.cst (.int .i64 0)), none⟩] :: K) fr S := rfl
def ref02_GetText_r1 : List POper := [
  ⟨some 11, .mov (.tmp 0), none⟩,
  ⟨some 12, .mov (.tmp 1), none⟩,
  ⟨some 13, .call .std 112 [(.tmp 11), (.tmp 12)], none⟩,
  ⟨some 10, .mov (.tmp 13), none⟩,
  ⟨some 14, .extract 0 (.tmp 10), none⟩,
  ⟨some 15, .extract 1 (.tmp 10), none⟩,
  ⟨some 16, .extract 2 (.tmp 10), none⟩,
  ⟨some 7, .mov (.tmp 14), none⟩,
  ⟨some 8, .mov (.tmp 15), none⟩,
  ⟨some 9, .mov (.tmp 16), none⟩]
@[simp] theorem ref02_GetText_r1_go (T : Tbl) (K : List Kt) (fr : Fr) (S : St) : gval T (.ops ref02_GetText_r1 :: K) fr S = gval T (.ops [
  ⟨some 11, .mov (.tmp 0), none⟩,
  ⟨some 12, .mov (.tmp 1), none⟩,
  ⟨some 13, .call .std 112 [(.tmp 11), (.tmp 12)], none⟩,
  ⟨some 10, .mov (.tmp 13), none⟩,
  ⟨some 14, .extract 0 (.tmp 10), none⟩,
  ⟨some 15, .extract 1 (.tmp 10), none⟩,
  ⟨some 16, .extract 2 (.tmp 10), none⟩,
  ⟨some 7, .mov (.tmp 14), none⟩,
  ⟨some 8, .mov (.tmp 15), none⟩,
  ⟨some 9, .mov (.tmp 16), none⟩] :: K) fr S := rfl
def ref02_GetText_r2 : List POper := [
  ⟨some 17, .mov (.tmp 9), none⟩,
  ⟨some 18, .arith .neq (.tmp 17) (.cst (.int .i64 0)), none⟩]
@[simp] theorem ref02_GetText_r2_go (T : Tbl) (K : List Kt) (fr : Fr) (S : St) : gval T (.ops ref02_GetText_r2 :: K) fr S = gval T (.ops [
  ⟨some 17, .mov (.tmp 9), none⟩,
  ⟨some 18, .arith .neq (.tmp 17) (.cst (.int .i64 0)), none⟩] :: K) fr S := rfl
def ref02_GetText_r3 : List POper := [
  ⟨some 19, .mov (.tmp 9), none⟩,
  ⟨some 4, .mov (.cst (.str [])), none⟩,
  ⟨some 5, .mov (.cst (.int .i64 0)), none⟩,
  ⟨some 6, .mov (.tmp 19), none⟩]
@[simp] theorem ref02_GetText_r3_go (T : Tbl) (K : List Kt) (fr : Fr) (S : St) : gval T (.ops ref02_GetText_r3 :: K) fr S = gval T (.ops [
  ⟨some 19, .mov (.tmp 9), none⟩,
  ⟨some 4, .mov (.cst (.str [])), none⟩,
  ⟨some 5, .mov (.cst (.int .i64 0)), none⟩,
  ⟨some 6, .mov (.tmp 19), none⟩] :: K) fr S := rfl
def ref02_GetText_r4 : List POper := [
  ⟨some 20, .mov (.tmp 7), none⟩,
  ⟨some 21, .arith .gtr (.tmp 20) (.cst (.int .i64 65535)), none⟩]
@[simp] theorem ref02_GetText_r4_go (T : Tbl) (K : List Kt) (fr : Fr) (S : St) : gval T (.ops ref02_GetText_r4 :: K) fr S = gval T (.ops [
  ⟨some 20, .mov (.tmp 7), none⟩,
  ⟨some 21, .arith .gtr (.tmp 20) (.cst (.int .i64 65535)), none⟩] :: K) fr S := rfl
def ref02_GetText_r5 : List POper := [
  ⟨some 4, .mov (.cst (.str [])), none⟩,
  ⟨some 5, .mov (.cst (.int .i64 0)), none⟩,
  ⟨some 6, .mov (.cst (.int .i64 3)), none⟩]
@[simp] theorem ref02_GetText_r5_go (T : Tbl) (K : List Kt) (fr : Fr) (S : St) : gval T (.ops ref02_GetText_r5 :: K) fr S = gval T (.ops [
  ⟨some 4, .mov (.cst (.str [])), none⟩,
  ⟨some 5, .mov (.cst (.int .i64 0)), none⟩,
  ⟨some 6, .mov (.cst (.int .i64 3)), none⟩] :: K) fr S := rfl
def ref02_GetText_r6 : List POper := [
  ⟨some 22, .mov (.tmp 7), none⟩,
  ⟨some 23, .mov (.tmp 0), none⟩,
  ⟨some 24, .len false (.tmp 23), none⟩,
  ⟨some 25, .mov (.tmp 8), none⟩,
  ⟨some 26, .arith .sub (.tmp 24) (.tmp 25), none⟩,
  ⟨some 27, .arith .gtr (.tmp 22) (.tmp 26), none⟩]
@[simp] theorem ref02_GetText_r6_go (T : Tbl) (K : List Kt) (fr : Fr) (S : St) : gval T (.ops ref02_GetText_r6 :: K) fr S = gval T (.ops [
  ⟨some 22, .mov (.tmp 7), none⟩,
  ⟨some 23, .mov (.tmp 0), none⟩,
  ⟨some 24, .len false (.tmp 23), none⟩,
  ⟨some 25, .mov (.tmp 8), none⟩,
  ⟨some 26, .arith .sub (.tmp 24) (.tmp 25), none⟩,
  ⟨some 27, .arith .gtr (.tmp 22) (.tmp 26), none⟩] :: K) fr S := rfl
def ref02_GetText_r7 : List POper := [
  ⟨some 4, .mov (.cst (.str [])), none⟩,
  ⟨some 5, .mov (.cst (.int .i64 0)), none⟩,
  ⟨some 6, .mov (.cst (.int .i64 4)), none⟩]
@[simp] theorem ref02_GetText_r7_go (T : Tbl) (K : List Kt) (fr : Fr) (S : St) : gval T (.ops ref02_GetText_r7 :: K) fr S = gval T (.ops [
  ⟨some 4, .mov (.cst (.str [])), none⟩,
  ⟨some 5, .mov (.cst (.int .i64 0)), none⟩,
  ⟨some 6, .mov (.cst (.int .i64 4)), none⟩] :: K) fr S := rfl
def ref02_GetText_r8 : List POper := [
  ⟨some 28, .mov (.tmp 0), none⟩,
  ⟨some 29, .mov (.tmp 8), none⟩,
  ⟨some 30, .mov (.tmp 8), none⟩,
  ⟨some 31, .mov (.tmp 7), none⟩,
  ⟨some 32, .arith .add (.tmp 30) (.tmp 31), none⟩,
  ⟨some 33, .slc 1 (some (.tmp 29)) (some (.tmp 32)) (.tmp 28), none⟩,
  ⟨some 34, .toStr (.tmp 33), none⟩,
  ⟨some 35, .mov (.tmp 8), none⟩,
  ⟨some 36, .mov (.tmp 7), none⟩,
  ⟨some 37, .arith .add (.tmp 35) (.tmp 36), none⟩,
  ⟨some 4, .mov (.tmp 34), none⟩,
  ⟨some 5, .mov (.tmp 37), none⟩,
  ⟨some 6, .mov (.cst (.int .i64 0)), none⟩]
@[simp] theorem ref02_GetText_r8_go (T : Tbl) (K : List Kt) (fr : Fr) (S : St) : gval T (.ops ref02_GetText_r8 :: K) fr S = gval T (.ops [
  ⟨some 28, .mov (.tmp 0), none⟩,
  ⟨some 29, .mov (.tmp 8), none⟩,
  ⟨some 30, .mov (.tmp 8), none⟩,
  ⟨some 31, .mov (.tmp 7), none⟩,
  ⟨some 32, .arith .add (.tmp 30) (.tmp 31), none⟩,
  ⟨some 33, .slc 1 (some (.tmp 29)) (some (.tmp 32)) (.tmp 28), none⟩,
  ⟨some 34, .toStr (.tmp 33), none⟩,
  ⟨some 35, .mov (.tmp 8), none⟩,
  ⟨some 36, .mov (.tmp 7), none⟩,
  ⟨some 37, .arith .add (.tmp 35) (.tmp 36), none⟩,
  ⟨some 4, .mov (.tmp 34), none⟩,
  ⟨some 5, .mov (.tmp 37), none⟩,
  ⟨some 6, .mov (.cst (.int .i64 0)), none⟩] :: K) fr S := rfl
def ref02_GetText : PCodeFn :=
  ⟨2, [.tmp 4, .tmp 5, .tmp 6],
  (.seq (.region ref02_GetText_r0) (.seq (.clr [(10, 17)] (.region ref02_GetText_r1)) (.seq (.seq (.clr [(17, 18)] (.region ref02_GetText_r2)) (.cond (.tmp 18) (.seq (.clr [(19, 20)] (.region ref02_GetText_r3)) .ret) .skip)) (.seq (.seq (.clr [(20, 21)] (.region ref02_GetText_r4)) (.cond (.tmp 21) (.seq (.region ref02_GetText_r5) .ret) .skip)) (.seq (.seq (.clr [(22, 27)] (.region ref02_GetText_r6)) (.cond (.tmp 27) (.seq (.region ref02_GetText_r7) .ret) .skip)) (.seq (.clr [(28, 38)] (.region ref02_GetText_r8)) .ret)))))), false⟩

/-! gauge/frame.Sum: 270 -/
def frame_Sum_r0 : List POper := [
  ⟨some 2, .mov (.cst (.int .u32 0)), none⟩]
@[simp] theorem frame_Sum_r0_go (T : Tbl) (K : List Kt) (fr : Fr) (S : St) : gval T (.ops frame_Sum_r0 :: K) fr S = gval T (.ops [
  ⟨some 2, .mov (.cst (.int .u32 0)), none⟩] :: K) fr S := rfl
def frame_Sum_r1 : List POper := [
  ⟨some 3, .alloc false [(.int .u32 0)], none⟩,
  ⟨none, .store 1 (.tmp 3) (.cst (.int .u32 4294967295)), none⟩]
@[simp] theorem frame_Sum_r1_go (T : Tbl) (K : List Kt) (fr : Fr) (S : St) : gval T (.ops frame_Sum_r1 :: K) fr S = gval T (.ops [
  ⟨some 3, .alloc false [(.int .u32 0)], none⟩,
  ⟨none, .store 1 (.tmp 3) (.cst (.int .u32 4294967295)), none⟩] :: K) fr S := rfl
def frame_Sum_r2 : List POper := [
  ⟨some 7, .mkfn 342 [(.tmp 3)], none⟩,
  ⟨some 4, .mov (.tmp 7), none⟩]
@[simp] theorem frame_Sum_r2_go (T : Tbl) (K : List Kt) (fr : Fr) (S : St) : gval T (.ops frame_Sum_r2 :: K) fr S = gval T (.ops [
  ⟨some 7, .mkfn 342 [(.tmp 3)], none⟩,
  ⟨some 4, .mov (.tmp 7), none⟩] :: K) fr S := rfl
def frame_Sum_r3 : List POper := [
  ⟨some 8, .mov (.tmp 0), none⟩,
  ⟨some 9, .len false (.tmp 8), none⟩,
  ⟨some 10, .mov (.cst (.int .i64 0)), none⟩]
@[simp] theorem frame_Sum_r3_go (T : Tbl) (K : List Kt) (fr : Fr) (S : St) : gval T (.ops frame_Sum_r3 :: K) fr S = gval T (.ops [
  ⟨some 8, .mov (.tmp 0), none⟩,
  ⟨some 9, .len false (.tmp 8), none⟩,
  ⟨some 10, .mov (.cst (.int .i64 0)), none⟩] :: K) fr S := rfl
def frame_Sum_r4 : List POper := [
  ⟨some 11, .arith .lss (.tmp 10) (.tmp 9), none⟩]
@[simp] theorem frame_Sum_r4_go (T : Tbl) (K : List Kt) (fr : Fr) (S : St) : gval T (.ops frame_Sum_r4 :: K) fr S = gval T (.ops [
  ⟨some 11, .arith .lss (.tmp 10) (.tmp 9), none⟩] :: K) fr S := rfl
def frame_Sum_r5 : List POper := [
  ⟨some 12, .iaddr 1 (.tmp 8) (.tmp 10), none⟩,
  ⟨some 13, .load false 1 false (.tmp 12), none⟩,
  ⟨some 6, .mov (.tmp 13), none⟩]
@[simp] theorem frame_Sum_r5_go (T : Tbl) (K : List Kt) (fr : Fr) (S : St) : gval T (.ops frame_Sum_r5 :: K) fr S = gval T (.ops [
  ⟨some 12, .iaddr 1 (.tmp 8) (.tmp 10), none⟩,
  ⟨some 13, .load false 1 false (.tmp 12), none⟩,
  ⟨some 6, .mov (.tmp 13), none⟩] :: K) fr S := rfl
def frame_Sum_r6 : List POper := [
  ⟨some 14, .load false 1 false (.tmp 3), none⟩,
  ⟨some 15, .mov (.tmp 6), none⟩,
  ⟨some 16, .toInt .u32 (.tmp 15), none⟩,
  ⟨some 17, .arith .xor (.tmp 14) (.tmp 16), none⟩,
  ⟨none, .store 1 (.tmp 3) (.tmp 17), none⟩]
@[simp] theorem frame_Sum_r6_go (T : Tbl) (K : List Kt) (fr : Fr) (S : St) : gval T (.ops frame_Sum_r6 :: K) fr S = gval T (.ops [
  ⟨some 14, .load false 1 false (.tmp 3), none⟩,
  ⟨some 15, .mov (.tmp 6), none⟩,
  ⟨some 16, .toInt .u32 (.tmp 15), none⟩,
  ⟨some 17, .arith .xor (.tmp 14) (.tmp 16), none⟩,
  ⟨none, .store 1 (.tmp 3) (.tmp 17), none⟩] :: K) fr S := rfl
def frame_Sum_r7 : List POper := [
  ⟨some 18, .mov (.cst (.int .i64 0)), none⟩]
@[simp] theorem frame_Sum_r7_go (T : Tbl) (K : List Kt) (fr : Fr) (S : St) : gval T (.ops frame_Sum_r7 :: K) fr S = gval T (.ops [
  ⟨some 18, .mov (.cst (.int .i64 0)), none⟩] :: K) fr S := rfl
def frame_Sum_r8 : List POper := [
  ⟨some 19, .arith .lss (.tmp 18) (.cst (.int .i64 8)), none⟩]
@[simp] theorem frame_Sum_r8_go (T : Tbl) (K : List Kt) (fr : Fr) (S : St) : gval T (.ops frame_Sum_r8 :: K) fr S = gval T (.ops [
  ⟨some 19, .arith .lss (.tmp 18) (.cst (.int .i64 8)), none⟩] :: K) fr S := rfl
def frame_Sum_r9 : List POper := [
  ⟨some 20, .mov (.tmp 4), none⟩,
  ⟨some 21, .callv .std (.tmp 20) [], none⟩]
@[simp] theorem frame_Sum_r9_go (T : Tbl) (K : List Kt) (fr : Fr) (S : St) : gval T (.ops frame_Sum_r9 :: K) fr S = gval T (.ops [
  ⟨some 20, .mov (.tmp 4), none⟩,
  ⟨some 21, .callv .std (.tmp 20) [], none⟩] :: K) fr S := rfl
def frame_Sum_r10 : List POper := [
  ⟨some 22, .arith .add (.tmp 18) (.cst (.int .i64 1)), none⟩,
  ⟨some 18, .mov (.tmp 22), none⟩]
@[simp] theorem frame_Sum_r10_go (T : Tbl) (K : List Kt) (fr : Fr) (S : St) : gval T (.ops frame_Sum_r10 :: K) fr S = gval T (.ops [
  ⟨some 22, .arith .add (.tmp 18) (.cst (.int .i64 1)), none⟩,
  ⟨some 18, .mov (.tmp 22), none⟩] :: K) fr S := rfl
def frame_Sum_l1 : PCode :=
  (.seq (.region frame_Sum_r8) (.seq (.cond (.tmp 19) .skip (.exit 2)) (.seq (.block 3 (.clr [(20, 22)] (.region frame_Sum_r9))) (.clr [(22, 23)] (.region frame_Sum_r10)))))
@[simp] theorem frame_Sum_l1_go (T : Tbl) (K : List Kt) (fr : Fr) (S : St) : gval T (.code frame_Sum_l1 :: K) fr S = gval T (.code (.seq (.region frame_Sum_r8) (.seq (.cond (.tmp 19) .skip (.exit 2)) (.seq (.block 3 (.clr [(20, 22)] (.region frame_Sum_r9))) (.clr [(22, 23)] (.region frame_Sum_r10))))) :: K) fr S := rfl
def frame_Sum_r11 : List POper := [
  ⟨some 23, .arith .add (.tmp 10) (.cst (.int .i64 1)), none⟩,
  ⟨some 10, .mov (.tmp 23), none⟩]
@[simp] theorem frame_Sum_r11_go (T : Tbl) (K : List Kt) (fr : Fr) (S : St) : gval T (.ops frame_Sum_r11 :: K) fr S = gval T (.ops [
  ⟨some 23, .arith .add (.tmp 10) (.cst (.int .i64 1)), none⟩,
  ⟨some 10, .mov (.tmp 23), none⟩] :: K) fr S := rfl
def frame_Sum_l0 : PCode :=
  (.seq (.region frame_Sum_r4) (.seq (.cond (.tmp 11) .skip (.exit 0)) (.seq (.block 1 (.seq (.clr [(12, 14)] (.region frame_Sum_r5)) (.seq (.clr [(14, 18)] (.region frame_Sum_r6)) (.seq (.region frame_Sum_r7) (.block 2 (.loop frame_Sum_l1)))))) (.clr [(23, 24)] (.region frame_Sum_r11)))))
@[simp] theorem frame_Sum_l0_go (T : Tbl) (K : List Kt) (fr : Fr) (S : St) : gval T (.code frame_Sum_l0 :: K) fr S = gval T (.code (.seq (.region frame_Sum_r4) (.seq (.cond (.tmp 11) .skip (.exit 0)) (.seq (.block 1 (.seq (.clr [(12, 14)] (.region frame_Sum_r5)) (.seq (.clr [(14, 18)] (.region frame_Sum_r6)) (.seq (.region frame_Sum_r7) (.block 2 (.loop frame_Sum_l1)))))) (.clr [(23, 24)] (.region frame_Sum_r11))))) :: K) fr S := rfl
def frame_Sum_r12 : List POper := [
  ⟨some 24, .load false 1 false (.tmp 3), none⟩,
  ⟨some 25, .un .xor (.tmp 24), none⟩,
  ⟨some 2, .mov (.tmp 25), none⟩]
@[simp] theorem frame_Sum_r12_go (T : Tbl) (K : List Kt) (fr : Fr) (S : St) : gval T (.ops frame_Sum_r12 :: K) fr S = gval T (.ops [
  ⟨some 24, .load false 1 false (.tmp 3), none⟩,
  ⟨some 25, .un .xor (.tmp 24), none⟩,
  ⟨some 2, .mov (.tmp 25), none⟩] :: K) fr S := rfl
def frame_Sum : PCodeFn :=
  ⟨1, [.tmp 2],
  (.seq (.region frame_Sum_r0) (.seq (.region frame_Sum_r1) (.seq (.clr [(7, 8)] (.region frame_Sum_r2)) (.seq (.seq (.region frame_Sum_r3) (.block 0 (.loop frame_Sum_l0))) (.seq (.clr [(24, 26)] (.region frame_Sum_r12)) .ret))))), false⟩

/-! slices.Index[[]string,string]: 221 -/
def slices_Index_string_r0 : List POper := [
  ⟨some 4, .mov (.cst (.int .i64 0)), none⟩]
@[simp] theorem slices_Index_string_r0_go (T : Tbl) (K : List Kt) (fr : Fr) (S : St) : gval T (.ops slices_Index_string_r0 :: K) fr S = gval T (.ops [
  ⟨some 4, .mov (.cst (.int .i64 0)), none⟩] :: K) fr S := rfl
def slices_Index_string_r1 : List POper := [
  ⟨some 6, .mov (.tmp 0), none⟩,
  ⟨some 7, .len false (.tmp 6), none⟩,
  ⟨some 8, .mov (.cst (.int .i64 0)), none⟩]
@[simp] theorem slices_Index_string_r1_go (T : Tbl) (K : List Kt) (fr : Fr) (S : St) : gval T (.ops slices_Index_string_r1 :: K) fr S = gval T (.ops [
  ⟨some 6, .mov (.tmp 0), none⟩,
  ⟨some 7, .len false (.tmp 6), none⟩,
  ⟨some 8, .mov (.cst (.int .i64 0)), none⟩] :: K) fr S := rfl
def slices_Index_string_r2 : List POper := [
  ⟨some 9, .arith .lss (.tmp 8) (.tmp 7), none⟩]
@[simp] theorem slices_Index_string_r2_go (T : Tbl) (K : List Kt) (fr : Fr) (S : St) : gval T (.ops slices_Index_string_r2 :: K) fr S = gval T (.ops [
  ⟨some 9, .arith .lss (.tmp 8) (.tmp 7), none⟩] :: K) fr S := rfl
def slices_Index_string_r3 : List POper := [
  ⟨some 10, .mov (.tmp 8), none⟩,
  ⟨some 5, .mov (.tmp 10), none⟩]
@[simp] theorem slices_Index_string_r3_go (T : Tbl) (K : List Kt) (fr : Fr) (S : St) : gval T (.ops slices_Index_string_r3 :: K) fr S = gval T (.ops [
  ⟨some 10, .mov (.tmp 8), none⟩,
  ⟨some 5, .mov (.tmp 10), none⟩] :: K) fr S := rfl
def slices_Index_string_r4 : List POper := [
  ⟨some 11, .mov (.tmp 1), none⟩,
  ⟨some 12, .mov (.tmp 0), none⟩,
  ⟨some 13, .mov (.tmp 5), none⟩,
  ⟨some 14, .iaddr 1 (.tmp 12) (.tmp 13), none⟩,
  ⟨some 15, .load false 1 false (.tmp 14), none⟩,
  ⟨some 16, .arith .eql (.tmp 11) (.tmp 15), none⟩]
@[simp] theorem slices_Index_string_r4_go (T : Tbl) (K : List Kt) (fr : Fr) (S : St) : gval T (.ops slices_Index_string_r4 :: K) fr S = gval T (.ops [
  ⟨some 11, .mov (.tmp 1), none⟩,
  ⟨some 12, .mov (.tmp 0), none⟩,
  ⟨some 13, .mov (.tmp 5), none⟩,
  ⟨some 14, .iaddr 1 (.tmp 12) (.tmp 13), none⟩,
  ⟨some 15, .load false 1 false (.tmp 14), none⟩,
  ⟨some 16, .arith .eql (.tmp 11) (.tmp 15), none⟩] :: K) fr S := rfl
def slices_Index_string_r5 : List POper := [
  ⟨some 17, .mov (.tmp 5), none⟩,
  ⟨some 4, .mov (.tmp 17), none⟩]
@[simp] theorem slices_Index_string_r5_go (T : Tbl) (K : List Kt) (fr : Fr) (S : St) : gval T (.ops slices_Index_string_r5 :: K) fr S = gval T (.ops [
  ⟨some 17, .mov (.tmp 5), none⟩,
  ⟨some 4, .mov (.tmp 17), none⟩] :: K) fr S := rfl
def slices_Index_string_r6 : List POper := [
  ⟨some 18, .arith .add (.tmp 8) (.cst (.int .i64 1)), none⟩,
  ⟨some 8, .mov (.tmp 18), none⟩]
@[simp] theorem slices_Index_string_r6_go (T : Tbl) (K : List Kt) (fr : Fr) (S : St) : gval T (.ops slices_Index_string_r6 :: K) fr S = gval T (.ops [
  ⟨some 18, .arith .add (.tmp 8) (.cst (.int .i64 1)), none⟩,
  ⟨some 8, .mov (.tmp 18), none⟩] :: K) fr S := rfl
def slices_Index_string_l0 : PCode :=
  (.seq (.region slices_Index_string_r2) (.seq (.cond (.tmp 9) .skip (.exit 0)) (.seq (.block 1 (.seq (.clr [(10, 11)] (.region slices_Index_string_r3)) (.seq (.clr [(11, 16)] (.region slices_Index_string_r4)) (.cond (.tmp 16) (.seq (.clr [(17, 18)] (.region slices_Index_string_r5)) .ret) .skip)))) (.clr [(18, 19)] (.region slices_Index_string_r6)))))
@[simp] theorem slices_Index_string_l0_go (T : Tbl) (K : List Kt) (fr : Fr) (S : St) : gval T (.code slices_Index_string_l0 :: K) fr S = gval T (.code (.seq (.region slices_Index_string_r2) (.seq (.cond (.tmp 9) .skip (.exit 0)) (.seq (.block 1 (.seq (.clr [(10, 11)] (.region slices_Index_string_r3)) (.seq (.clr [(11, 16)] (.region slices_Index_string_r4)) (.cond (.tmp 16) (.seq (.clr [(17, 18)] (.region slices_Index_string_r5)) .ret) .skip)))) (.clr [(18, 19)] (.region slices_Index_string_r6))))) :: K) fr S := rfl
def slices_Index_string_r7 : List POper := [
  ⟨some 4, .mov (.cst (.int .i64 (-1))), none⟩]
@[simp] theorem slices_Index_string_r7_go (T : Tbl) (K : List Kt) (fr : Fr) (S : St) : gval T (.ops slices_Index_string_r7 :: K) fr S = gval T (.ops [
  ⟨some 4, .mov (.cst (.int .i64 (-1))), none⟩] :: K) fr S := rfl
def slices_Index_string : PCodeFn :=
  ⟨2, [.tmp 4],
  (.seq (.region slices_Index_string_r0) (.seq (.seq (.clr [(6, 7)] (.region slices_Index_string_r1)) (.block 0 (.loop slices_Index_string_l0))) (.seq (.region slices_Index_string_r7) .ret))), false⟩

/-! gauge/frame.Sum.1: 342 -/
def frame_Sum_1_r0 : List POper := [
  ⟨some 2, .load false 1 false (.tmp 0), none⟩,
  ⟨some 3, .arith .and (.tmp 2) (.cst (.int .u32 1)), none⟩,
  ⟨some 1, .mov (.tmp 3), none⟩]
@[simp] theorem frame_Sum_1_r0_go (T : Tbl) (K : List Kt) (fr : Fr) (S : St) : gval T (.ops frame_Sum_1_r0 :: K) fr S = gval T (.ops [
  ⟨some 2, .load false 1 false (.tmp 0), none⟩,
  ⟨some 3, .arith .and (.tmp 2) (.cst (.int .u32 1)), none⟩,
  ⟨some 1, .mov (.tmp 3), none⟩] :: K) fr S := rfl
def frame_Sum_1_r1 : List POper := [
  ⟨some 4, .load false 1 false (.tmp 0), none⟩,
  ⟨some 5, .arith .shr (.tmp 4) (.cst (.int .u64 1)), none⟩,
  ⟨some 6, .mov (.tmp 1), none⟩,
  ⟨some 7, .un .neg (.tmp 6), none⟩,
  ⟨some 8, .arith .and (.cst (.int .u32 2197175160)) (.tmp 7), none⟩,
  ⟨some 9, .arith .xor (.tmp 5) (.tmp 8), none⟩,
  ⟨none, .store 1 (.tmp 0) (.tmp 9), none⟩]
@[simp] theorem frame_Sum_1_r1_go (T : Tbl) (K : List Kt) (fr : Fr) (S : St) : gval T (.ops frame_Sum_1_r1 :: K) fr S = gval T (.ops [
  ⟨some 4, .load false 1 false (.tmp 0), none⟩,
  ⟨some 5, .arith .shr (.tmp 4) (.cst (.int .u64 1)), none⟩,
  ⟨some 6, .mov (.tmp 1), none⟩,
  ⟨some 7, .un .neg (.tmp 6), none⟩,
  ⟨some 8, .arith .and (.cst (.int .u32 2197175160)) (.tmp 7), none⟩,
  ⟨some 9, .arith .xor (.tmp 5) (.tmp 8), none⟩,
  ⟨none, .store 1 (.tmp 0) (.tmp 9), none⟩] :: K) fr S := rfl
def frame_Sum_1 : PCodeFn :=
  ⟨1, [],
  (.seq (.clr [(2, 4)] (.region frame_Sum_1_r0)) (.clr [(4, 10)] (.region frame_Sum_1_r1))), false⟩

/-! slices.order2Ordered[string]: 411 -/
def slices_order2Ordered_string_r0 : List POper := [
  ⟨some 8, .mov (.cst (.int .i64 0)), none⟩,
  ⟨some 9, .mov (.cst (.int .i64 0)), none⟩]
@[simp] theorem slices_order2Ordered_string_r0_go (T : Tbl) (K : List Kt) (fr : Fr) (S : St) : gval T (.ops slices_order2Ordered_string_r0 :: K) fr S = gval T (.ops [
  ⟨some 8, .mov (.cst (.int .i64 0)), none⟩,
  ⟨some 9, .mov (.cst (.int .i64 0)), none⟩] :: K) fr S := rfl
def slices_order2Ordered_string_r1 : List POper := [
  ⟨some 10, .mov (.tmp 0), none⟩,
  ⟨some 11, .mov (.tmp 2), none⟩,
  ⟨some 12, .iaddr 1 (.tmp 10) (.tmp 11), none⟩,
  ⟨some 13, .load false 1 true (.tmp 12), none⟩,
  ⟨some 14, .mov (.tmp 0), none⟩,
  ⟨some 15, .mov (.tmp 1), none⟩,
  ⟨some 16, .iaddr 1 (.tmp 14) (.tmp 15), none⟩,
  ⟨some 17, .load false 1 true (.tmp 16), none⟩,
  ⟨some 18, .call .pur 369 [(.tmp 13), (.tmp 17)], none⟩]
@[simp] theorem slices_order2Ordered_string_r1_go (T : Tbl) (K : List Kt) (fr : Fr) (S : St) : gval T (.ops slices_order2Ordered_string_r1 :: K) fr S = gval T (.ops [
  ⟨some 10, .mov (.tmp 0), none⟩,
  ⟨some 11, .mov (.tmp 2), none⟩,
  ⟨some 12, .iaddr 1 (.tmp 10) (.tmp 11), none⟩,
  ⟨some 13, .load false 1 true (.tmp 12), none⟩,
  ⟨some 14, .mov (.tmp 0), none⟩,
  ⟨some 15, .mov (.tmp 1), none⟩,
  ⟨some 16, .iaddr 1 (.tmp 14) (.tmp 15), none⟩,
  ⟨some 17, .load false 1 true (.tmp 16), none⟩,
  ⟨some 18, .call .pur 369 [(.tmp 13), (.tmp 17)], none⟩] :: K) fr S := rfl
def slices_order2Ordered_string_r2 : List POper := [
  ⟨some 19, .mov (.tmp 3), none⟩,
  ⟨some 20, .nilck (.tmp 19), none⟩,
  ⟨some 21, .load false 1 false (.tmp 20), none⟩,
  ⟨some 22, .arith .add (.tmp 21) (.cst (.int .i64 1)), none⟩,
  ⟨some 23, .nilck (.tmp 19), none⟩,
  ⟨none, .store 1 (.tmp 23) (.tmp 22), none⟩]
@[simp] theorem slices_order2Ordered_string_r2_go (T : Tbl) (K : List Kt) (fr : Fr) (S : St) : gval T (.ops slices_order2Ordered_string_r2 :: K) fr S = gval T (.ops [
  ⟨some 19, .mov (.tmp 3), none⟩,
  ⟨some 20, .nilck (.tmp 19), none⟩,
  ⟨some 21, .load false 1 false (.tmp 20), none⟩,
  ⟨some 22, .arith .add (.tmp 21) (.cst (.int .i64 1)), none⟩,
  ⟨some 23, .nilck (.tmp 19), none⟩,
  ⟨none, .store 1 (.tmp 23) (.tmp 22), none⟩] :: K) fr S := rfl
def slices_order2Ordered_string_r3 : List POper := [
  ⟨some 24, .mov (.tmp 2), none⟩,
  ⟨some 25, .mov (.tmp 1), none⟩,
  ⟨some 8, .mov (.tmp 24), none⟩,
  ⟨some 9, .mov (.tmp 25), none⟩]
@[simp] theorem slices_order2Ordered_string_r3_go (T : Tbl) (K : List Kt) (fr : Fr) (S : St) : gval T (.ops slices_order2Ordered_string_r3 :: K) fr S = gval T (.ops [
  ⟨some 24, .mov (.tmp 2), none⟩,
  ⟨some 25, .mov (.tmp 1), none⟩,
  ⟨some 8, .mov (.tmp 24), none⟩,
  ⟨some 9, .mov (.tmp 25), none⟩] :: K) fr S := rfl
def slices_order2Ordered_string_r4 : List POper := [
  ⟨some 26, .mov (.tmp 1), none⟩,
  ⟨some 27, .mov (.tmp 2), none⟩,
  ⟨some 8, .mov (.tmp 26), none⟩,
  ⟨some 9, .mov (.tmp 27), none⟩]
@[simp] theorem slices_order2Ordered_string_r4_go (T : Tbl) (K : List Kt) (fr : Fr) (S : St) : gval T (.ops slices_order2Ordered_string_r4 :: K) fr S = gval T (.ops [
  ⟨some 26, .mov (.tmp 1), none⟩,
  ⟨some 27, .mov (.tmp 2), none⟩,
  ⟨some 8, .mov (.tmp 26), none⟩,
  ⟨some 9, .mov (.tmp 27), none⟩] :: K) fr S := rfl
def slices_order2Ordered_string : PCodeFn :=
  ⟨4, [.tmp 8, .tmp 9],
  (.seq (.region slices_order2Ordered_string_r0) (.seq (.seq (.clr [(10, 18)] (.region slices_order2Ordered_string_r1)) (.cond (.tmp 18) (.seq (.clr [(19, 24)] (.region slices_order2Ordered_string_r2)) (.seq (.clr [(24, 26)] (.region slices_order2Ordered_string_r3)) .ret)) .skip)) (.seq (.clr [(26, 28)] (.region slices_order2Ordered_string_r4)) .ret))), false⟩


end Ps
