/- The functions' code, as the pure semantics has it: printed by program. -/
import Derived.Test.YtedmhhncckddmaaCodeB
namespace Ps
open Go
set_option maxRecDepth 10000

/-! slices.Sorted[string]: 199 -/
def slices_Sorted_string_r0 : List POper := [
  ⟨some 2, .mov (.cst .nils), none⟩]
@[simp] theorem slices_Sorted_string_r0_go (T : Tbl) (K : List Kt) (fr : Fr) (S : St) : gval T (.ops slices_Sorted_string_r0 :: K) fr S = gval T (.ops [
  ⟨some 2, .mov (.cst .nils), none⟩] :: K) fr S := rfl
def slices_Sorted_string_r1 : List POper := [
  ⟨some 4, .mov (.tmp 0), none⟩,
  ⟨some 5, .call .std 293 [(.tmp 4)], none⟩,
  ⟨some 3, .mov (.tmp 5), none⟩]
@[simp] theorem slices_Sorted_string_r1_go (T : Tbl) (K : List Kt) (fr : Fr) (S : St) : gval T (.ops slices_Sorted_string_r1 :: K) fr S = gval T (.ops [
  ⟨some 4, .mov (.tmp 0), none⟩,
  ⟨some 5, .call .std 293 [(.tmp 4)], none⟩,
  ⟨some 3, .mov (.tmp 5), none⟩] :: K) fr S := rfl
def slices_Sorted_string_r2 : List POper := [
  ⟨some 6, .mov (.tmp 3), none⟩,
  ⟨some 7, .call .std 239 [(.tmp 6)], none⟩]
@[simp] theorem slices_Sorted_string_r2_go (T : Tbl) (K : List Kt) (fr : Fr) (S : St) : gval T (.ops slices_Sorted_string_r2 :: K) fr S = gval T (.ops [
  ⟨some 6, .mov (.tmp 3), none⟩,
  ⟨some 7, .call .std 239 [(.tmp 6)], none⟩] :: K) fr S := rfl
def slices_Sorted_string_r3 : List POper := [
  ⟨some 8, .mov (.tmp 3), none⟩,
  ⟨some 2, .mov (.tmp 8), none⟩]
@[simp] theorem slices_Sorted_string_r3_go (T : Tbl) (K : List Kt) (fr : Fr) (S : St) : gval T (.ops slices_Sorted_string_r3 :: K) fr S = gval T (.ops [
  ⟨some 8, .mov (.tmp 3), none⟩,
  ⟨some 2, .mov (.tmp 8), none⟩] :: K) fr S := rfl
def slices_Sorted_string : PCodeFn :=
  ⟨1, [.tmp 2],
  (.seq (.region slices_Sorted_string_r0) (.seq (.clr [(4, 6)] (.region slices_Sorted_string_r1)) (.seq (.clr [(6, 8)] (.region slices_Sorted_string_r2)) (.seq (.clr [(8, 9)] (.region slices_Sorted_string_r3)) .ret)))), false⟩

/-! maps.Keys[gauge/disk.dir,string,*gauge/disk.file]: 200 -/
def maps_Keys_file_r0 : List POper := [
  ⟨some 1, .box false (.tmp 0), none⟩,
  ⟨some 2, .mov (.cst .nilf), none⟩]
@[simp] theorem maps_Keys_file_r0_go (T : Tbl) (K : List Kt) (fr : Fr) (S : St) : gval T (.ops maps_Keys_file_r0 :: K) fr S = gval T (.ops [
  ⟨some 1, .box false (.tmp 0), none⟩,
  ⟨some 2, .mov (.cst .nilf), none⟩] :: K) fr S := rfl
def maps_Keys_file_r1 : List POper := [
  ⟨some 3, .mkfn 294 [(.tmp 1)], none⟩,
  ⟨some 2, .mov (.tmp 3), none⟩]
@[simp] theorem maps_Keys_file_r1_go (T : Tbl) (K : List Kt) (fr : Fr) (S : St) : gval T (.ops maps_Keys_file_r1 :: K) fr S = gval T (.ops [
  ⟨some 3, .mkfn 294 [(.tmp 1)], none⟩,
  ⟨some 2, .mov (.tmp 3), none⟩] :: K) fr S := rfl
def maps_Keys_file : PCodeFn :=
  ⟨1, [.tmp 2],
  (.seq (.region maps_Keys_file_r0) (.seq (.clr [(3, 4)] (.region maps_Keys_file_r1)) .ret)), false⟩

/-! slices.Clone[[]byte,byte]: 201 -/
def slices_Clone_byte_r0 : List POper := [
  ⟨some 2, .mov (.cst .nils), none⟩]
@[simp] theorem slices_Clone_byte_r0_go (T : Tbl) (K : List Kt) (fr : Fr) (S : St) : gval T (.ops slices_Clone_byte_r0 :: K) fr S = gval T (.ops [
  ⟨some 2, .mov (.cst .nils), none⟩] :: K) fr S := rfl
def slices_Clone_byte_r1 : List POper := [
  ⟨some 3, .mov (.tmp 0), none⟩,
  ⟨some 4, .eqn false .s (.tmp 3), none⟩]
@[simp] theorem slices_Clone_byte_r1_go (T : Tbl) (K : List Kt) (fr : Fr) (S : St) : gval T (.ops slices_Clone_byte_r1 :: K) fr S = gval T (.ops [
  ⟨some 3, .mov (.tmp 0), none⟩,
  ⟨some 4, .eqn false .s (.tmp 3), none⟩] :: K) fr S := rfl
def slices_Clone_byte_r2 : List POper := [
  ⟨some 2, .mov (.cst .nils), none⟩]
@[simp] theorem slices_Clone_byte_r2_go (T : Tbl) (K : List Kt) (fr : Fr) (S : St) : gval T (.ops slices_Clone_byte_r2 :: K) fr S = gval T (.ops [
  ⟨some 2, .mov (.cst .nils), none⟩] :: K) fr S := rfl
def slices_Clone_byte_r3 : List POper := [
  ⟨some 5, .bsl false (.int .u8 0) 0 [], none⟩,
  ⟨some 6, .mov (.tmp 0), none⟩,
  ⟨some 7, .app 1 1 (.tmp 5) (.tmp 6), none⟩,
  ⟨some 2, .mov (.tmp 7), none⟩]
@[simp] theorem slices_Clone_byte_r3_go (T : Tbl) (K : List Kt) (fr : Fr) (S : St) : gval T (.ops slices_Clone_byte_r3 :: K) fr S = gval T (.ops [
  ⟨some 5, .bsl false (.int .u8 0) 0 [], none⟩,
  ⟨some 6, .mov (.tmp 0), none⟩,
  ⟨some 7, .app 1 1 (.tmp 5) (.tmp 6), none⟩,
  ⟨some 2, .mov (.tmp 7), none⟩] :: K) fr S := rfl
def slices_Clone_byte : PCodeFn :=
  ⟨1, [.tmp 2],
  (.seq (.region slices_Clone_byte_r0) (.seq (.seq (.clr [(3, 4)] (.region slices_Clone_byte_r1)) (.cond (.tmp 4) (.seq (.region slices_Clone_byte_r2) .ret) .skip)) (.seq (.clr [(5, 8)] (.region slices_Clone_byte_r3)) .ret))), false⟩

/-! (*gauge/disk.Disk).Remove: 83 -/
def disk_Disk_Remove_r0 : List POper := [
  ⟨some 4, .mov (.cst (.int .i64 0)), none⟩]
@[simp] theorem disk_Disk_Remove_r0_go (T : Tbl) (K : List Kt) (fr : Fr) (S : St) : gval T (.ops disk_Disk_Remove_r0 :: K) fr S = gval T (.ops [
  ⟨some 4, .mov (.cst (.int .i64 0)), none⟩] :: K) fr S := rfl
def disk_Disk_Remove_r1 : List POper := [
  ⟨some 8, .mov (.tmp 0), none⟩,
  ⟨some 9, .mov (.tmp 1), none⟩,
  ⟨some 10, .call .std 194 [(.tmp 8), (.tmp 9)], none⟩,
  ⟨some 7, .mov (.tmp 10), none⟩,
  ⟨some 11, .extract 0 (.tmp 7), none⟩,
  ⟨some 12, .extract 1 (.tmp 7), none⟩,
  ⟨some 5, .mov (.tmp 11), none⟩,
  ⟨some 6, .mov (.tmp 12), none⟩]
@[simp] theorem disk_Disk_Remove_r1_go (T : Tbl) (K : List Kt) (fr : Fr) (S : St) : gval T (.ops disk_Disk_Remove_r1 :: K) fr S = gval T (.ops [
  ⟨some 8, .mov (.tmp 0), none⟩,
  ⟨some 9, .mov (.tmp 1), none⟩,
  ⟨some 10, .call .std 194 [(.tmp 8), (.tmp 9)], none⟩,
  ⟨some 7, .mov (.tmp 10), none⟩,
  ⟨some 11, .extract 0 (.tmp 7), none⟩,
  ⟨some 12, .extract 1 (.tmp 7), none⟩,
  ⟨some 5, .mov (.tmp 11), none⟩,
  ⟨some 6, .mov (.tmp 12), none⟩] :: K) fr S := rfl
def disk_Disk_Remove_r2 : List POper := [
  ⟨some 13, .mov (.tmp 6), none⟩,
  ⟨some 14, .arith .neq (.tmp 13) (.cst (.int .i64 0)), none⟩]
@[simp] theorem disk_Disk_Remove_r2_go (T : Tbl) (K : List Kt) (fr : Fr) (S : St) : gval T (.ops disk_Disk_Remove_r2 :: K) fr S = gval T (.ops [
  ⟨some 13, .mov (.tmp 6), none⟩,
  ⟨some 14, .arith .neq (.tmp 13) (.cst (.int .i64 0)), none⟩] :: K) fr S := rfl
def disk_Disk_Remove_r3 : List POper := [
  ⟨some 15, .mov (.tmp 6), none⟩,
  ⟨some 4, .mov (.tmp 15), none⟩]
@[simp] theorem disk_Disk_Remove_r3_go (T : Tbl) (K : List Kt) (fr : Fr) (S : St) : gval T (.ops disk_Disk_Remove_r3 :: K) fr S = gval T (.ops [
  ⟨some 15, .mov (.tmp 6), none⟩,
  ⟨some 4, .mov (.tmp 15), none⟩] :: K) fr S := rfl
def disk_Disk_Remove_r4 : List POper := [
  ⟨some 16, .mov (.tmp 0), none⟩,
  ⟨some 17, .mov (.tmp 1), none⟩,
  ⟨some 18, .build [(.str []), (.str []), .nilp] [(0, 1, (.tmp 17))], none⟩,
  ⟨some 19, .call .std 195 [(.tmp 16), (.tmp 18)], none⟩,
  ⟨some 4, .mov (.tmp 19), none⟩]
@[simp] theorem disk_Disk_Remove_r4_go (T : Tbl) (K : List Kt) (fr : Fr) (S : St) : gval T (.ops disk_Disk_Remove_r4 :: K) fr S = gval T (.ops [
  ⟨some 16, .mov (.tmp 0), none⟩,
  ⟨some 17, .mov (.tmp 1), none⟩,
  ⟨some 18, .build [(.str []), (.str []), .nilp] [(0, 1, (.tmp 17))], none⟩,
  ⟨some 19, .call .std 195 [(.tmp 16), (.tmp 18)], none⟩,
  ⟨some 4, .mov (.tmp 19), none⟩] :: K) fr S := rfl
def disk_Disk_Remove : PCodeFn :=
  ⟨2, [.tmp 4],
  (.seq (.region disk_Disk_Remove_r0) (.seq (.seq (.clr [(5, 6), (7, 13)] (.region disk_Disk_Remove_r1)) (.seq (.clr [(13, 14)] (.region disk_Disk_Remove_r2)) (.cond (.tmp 14) (.seq (.clr [(15, 16)] (.region disk_Disk_Remove_r3)) .ret) .skip))) (.seq (.clr [(16, 20)] (.region disk_Disk_Remove_r4)) .ret))), false⟩

/-! gauge/gaugeref04.Change: 86 -/
def ref04_Change_r0 : List POper := [
  ⟨some 5, .box false (.tmp 0), none⟩,
  ⟨some 10, .alloc false [(.int .i64 0), .nils, .nils, .nils, (.int .i64 0), (.bool false), (.int .i64 0)], none⟩,
  ⟨some 11, .mov (.cst (.int .i64 0)), none⟩]
@[simp] theorem ref04_Change_r0_go (T : Tbl) (K : List Kt) (fr : Fr) (S : St) : gval T (.ops ref04_Change_r0 :: K) fr S = gval T (.ops [
  ⟨some 5, .box false (.tmp 0), none⟩,
  ⟨some 10, .alloc false [(.int .i64 0), .nils, .nils, .nils, (.int .i64 0), (.bool false), (.int .i64 0)], none⟩,
  ⟨some 11, .mov (.cst (.int .i64 0)), none⟩] :: K) fr S := rfl
def ref04_Change_r1 : List POper := [
  ⟨some 19, .mov (.tmp 1), none⟩,
  ⟨some 20, .arith .neq (.tmp 19) (.cst (.int .i64 6)), none⟩,
  ⟨some 21, .mov (.tmp 20), none⟩,
  ⟨some 22, .mov (.tmp 2), some (21, true)⟩,
  ⟨some 23, .call .pur 203 [(.tmp 22)], some (21, true)⟩,
  ⟨some 24, .un .not (.tmp 23), some (21, true)⟩,
  ⟨some 25, .pick (.tmp 21) (.tmp 24) (.cst (.bool false)), none⟩,
  ⟨some 26, .mov (.tmp 25), none⟩,
  ⟨some 27, .mov (.tmp 1), some (26, false)⟩,
  ⟨some 28, .arith .eql (.tmp 27) (.cst (.int .i64 3)), some (26, false)⟩,
  ⟨some 29, .mov (.tmp 28), some (26, false)⟩,
  ⟨some 30, .mov (.tmp 3), some (29, true)⟩,
  ⟨some 31, .call .pur 203 [(.tmp 30)], some (29, true)⟩,
  ⟨some 32, .un .not (.tmp 31), some (29, true)⟩,
  ⟨some 33, .pick (.tmp 29) (.tmp 32) (.cst (.bool false)), some (26, false)⟩,
  ⟨some 34, .pick (.tmp 26) (.cst (.bool true)) (.tmp 33), none⟩]
@[simp] theorem ref04_Change_r1_go (T : Tbl) (K : List Kt) (fr : Fr) (S : St) : gval T (.ops ref04_Change_r1 :: K) fr S = gval T (.ops [
  ⟨some 19, .mov (.tmp 1), none⟩,
  ⟨some 20, .arith .neq (.tmp 19) (.cst (.int .i64 6)), none⟩,
  ⟨some 21, .mov (.tmp 20), none⟩,
  ⟨some 22, .mov (.tmp 2), some (21, true)⟩,
  ⟨some 23, .call .pur 203 [(.tmp 22)], some (21, true)⟩,
  ⟨some 24, .un .not (.tmp 23), some (21, true)⟩,
  ⟨some 25, .pick (.tmp 21) (.tmp 24) (.cst (.bool false)), none⟩,
  ⟨some 26, .mov (.tmp 25), none⟩,
  ⟨some 27, .mov (.tmp 1), some (26, false)⟩,
  ⟨some 28, .arith .eql (.tmp 27) (.cst (.int .i64 3)), some (26, false)⟩,
  ⟨some 29, .mov (.tmp 28), some (26, false)⟩,
  ⟨some 30, .mov (.tmp 3), some (29, true)⟩,
  ⟨some 31, .call .pur 203 [(.tmp 30)], some (29, true)⟩,
  ⟨some 32, .un .not (.tmp 31), some (29, true)⟩,
  ⟨some 33, .pick (.tmp 29) (.tmp 32) (.cst (.bool false)), some (26, false)⟩,
  ⟨some 34, .pick (.tmp 26) (.cst (.bool true)) (.tmp 33), none⟩] :: K) fr S := rfl
def ref04_Change_r2 : List POper := [
  ⟨some 35, .load true 7 false (.tmp 5), none⟩,
  ⟨none, .store 7 (.tmp 10) (.tmp 35), none⟩,
  ⟨some 11, .mov (.cst (.int .i64 8)), none⟩]
@[simp] theorem ref04_Change_r2_go (T : Tbl) (K : List Kt) (fr : Fr) (S : St) : gval T (.ops ref04_Change_r2 :: K) fr S = gval T (.ops [
  ⟨some 35, .load true 7 false (.tmp 5), none⟩,
  ⟨none, .store 7 (.tmp 10) (.tmp 35), none⟩,
  ⟨some 11, .mov (.cst (.int .i64 8)), none⟩] :: K) fr S := rfl
def ref04_Change_r3 : List POper := [
  ⟨some 36, .load true 7 false (.tmp 5), none⟩,
  ⟨some 37, .call .std 204 [(.tmp 36)], none⟩,
  ⟨some 12, .mov (.tmp 37), none⟩]
@[simp] theorem ref04_Change_r3_go (T : Tbl) (K : List Kt) (fr : Fr) (S : St) : gval T (.ops ref04_Change_r3 :: K) fr S = gval T (.ops [
  ⟨some 36, .load true 7 false (.tmp 5), none⟩,
  ⟨some 37, .call .std 204 [(.tmp 36)], none⟩,
  ⟨some 12, .mov (.tmp 37), none⟩] :: K) fr S := rfl
def ref04_Change_r4 : List POper := [
  ⟨some 38, .mov (.tmp 12), none⟩,
  ⟨some 39, .mov (.tmp 2), none⟩,
  ⟨some 40, .call .std 205 [(.tmp 38), (.tmp 39)], none⟩,
  ⟨some 13, .mov (.tmp 40), none⟩]
@[simp] theorem ref04_Change_r4_go (T : Tbl) (K : List Kt) (fr : Fr) (S : St) : gval T (.ops ref04_Change_r4 :: K) fr S = gval T (.ops [
  ⟨some 38, .mov (.tmp 12), none⟩,
  ⟨some 39, .mov (.tmp 2), none⟩,
  ⟨some 40, .call .std 205 [(.tmp 38), (.tmp 39)], none⟩,
  ⟨some 13, .mov (.tmp 40), none⟩] :: K) fr S := rfl
def ref04_Change_r5 : List POper := [
  ⟨some 41, .mov (.tmp 1), none⟩,
  ⟨some 42, .arith .eql (.tmp 41) (.cst (.int .i64 1)), none⟩,
  ⟨some 43, .mov (.tmp 42), none⟩,
  ⟨some 44, .mov (.tmp 13), some (43, true)⟩,
  ⟨some 45, .arith .geq (.tmp 44) (.cst (.int .i64 0)), some (43, true)⟩,
  ⟨some 46, .pick (.tmp 43) (.tmp 45) (.cst (.bool false)), none⟩]
@[simp] theorem ref04_Change_r5_go (T : Tbl) (K : List Kt) (fr : Fr) (S : St) : gval T (.ops ref04_Change_r5 :: K) fr S = gval T (.ops [
  ⟨some 41, .mov (.tmp 1), none⟩,
  ⟨some 42, .arith .eql (.tmp 41) (.cst (.int .i64 1)), none⟩,
  ⟨some 43, .mov (.tmp 42), none⟩,
  ⟨some 44, .mov (.tmp 13), some (43, true)⟩,
  ⟨some 45, .arith .geq (.tmp 44) (.cst (.int .i64 0)), some (43, true)⟩,
  ⟨some 46, .pick (.tmp 43) (.tmp 45) (.cst (.bool false)), none⟩] :: K) fr S := rfl
def ref04_Change_r6 : List POper := [
  ⟨some 47, .load true 7 false (.tmp 5), none⟩,
  ⟨none, .store 7 (.tmp 10) (.tmp 47), none⟩,
  ⟨some 11, .mov (.cst (.int .i64 10)), none⟩]
@[simp] theorem ref04_Change_r6_go (T : Tbl) (K : List Kt) (fr : Fr) (S : St) : gval T (.ops ref04_Change_r6 :: K) fr S = gval T (.ops [
  ⟨some 47, .load true 7 false (.tmp 5), none⟩,
  ⟨none, .store 7 (.tmp 10) (.tmp 47), none⟩,
  ⟨some 11, .mov (.cst (.int .i64 10)), none⟩] :: K) fr S := rfl
def ref04_Change_r7 : List POper := [
  ⟨some 48, .mov (.tmp 1), none⟩,
  ⟨some 49, .arith .eql (.tmp 48) (.cst (.int .i64 1)), none⟩,
  ⟨some 50, .mov (.tmp 49), none⟩,
  ⟨some 51, .mov (.tmp 12), some (50, true)⟩,
  ⟨some 52, .len false (.tmp 51), some (50, true)⟩,
  ⟨some 53, .arith .geq (.tmp 52) (.cst (.int .i64 64)), some (50, true)⟩,
  ⟨some 54, .pick (.tmp 50) (.tmp 53) (.cst (.bool false)), none⟩]
@[simp] theorem ref04_Change_r7_go (T : Tbl) (K : List Kt) (fr : Fr) (S : St) : gval T (.ops ref04_Change_r7 :: K) fr S = gval T (.ops [
  ⟨some 48, .mov (.tmp 1), none⟩,
  ⟨some 49, .arith .eql (.tmp 48) (.cst (.int .i64 1)), none⟩,
  ⟨some 50, .mov (.tmp 49), none⟩,
  ⟨some 51, .mov (.tmp 12), some (50, true)⟩,
  ⟨some 52, .len false (.tmp 51), some (50, true)⟩,
  ⟨some 53, .arith .geq (.tmp 52) (.cst (.int .i64 64)), some (50, true)⟩,
  ⟨some 54, .pick (.tmp 50) (.tmp 53) (.cst (.bool false)), none⟩] :: K) fr S := rfl
def ref04_Change_r8 : List POper := [
  ⟨some 55, .load true 7 false (.tmp 5), none⟩,
  ⟨none, .store 7 (.tmp 10) (.tmp 55), none⟩,
  ⟨some 11, .mov (.cst (.int .i64 7)), none⟩]
@[simp] theorem ref04_Change_r8_go (T : Tbl) (K : List Kt) (fr : Fr) (S : St) : gval T (.ops ref04_Change_r8 :: K) fr S = gval T (.ops [
  ⟨some 55, .load true 7 false (.tmp 5), none⟩,
  ⟨none, .store 7 (.tmp 10) (.tmp 55), none⟩,
  ⟨some 11, .mov (.cst (.int .i64 7)), none⟩] :: K) fr S := rfl
def ref04_Change_r9 : List POper := [
  ⟨some 56, .mov (.tmp 1), none⟩,
  ⟨some 57, .arith .gtr (.tmp 56) (.cst (.int .i64 1)), none⟩,
  ⟨some 58, .mov (.tmp 57), none⟩,
  ⟨some 59, .mov (.tmp 1), some (58, true)⟩,
  ⟨some 60, .arith .lss (.tmp 59) (.cst (.int .i64 6)), some (58, true)⟩,
  ⟨some 61, .pick (.tmp 58) (.tmp 60) (.cst (.bool false)), none⟩,
  ⟨some 62, .mov (.tmp 61), none⟩,
  ⟨some 63, .mov (.tmp 13), some (62, true)⟩,
  ⟨some 64, .arith .lss (.tmp 63) (.cst (.int .i64 0)), some (62, true)⟩,
  ⟨some 65, .pick (.tmp 62) (.tmp 64) (.cst (.bool false)), none⟩]
@[simp] theorem ref04_Change_r9_go (T : Tbl) (K : List Kt) (fr : Fr) (S : St) : gval T (.ops ref04_Change_r9 :: K) fr S = gval T (.ops [
  ⟨some 56, .mov (.tmp 1), none⟩,
  ⟨some 57, .arith .gtr (.tmp 56) (.cst (.int .i64 1)), none⟩,
  ⟨some 58, .mov (.tmp 57), none⟩,
  ⟨some 59, .mov (.tmp 1), some (58, true)⟩,
  ⟨some 60, .arith .lss (.tmp 59) (.cst (.int .i64 6)), some (58, true)⟩,
  ⟨some 61, .pick (.tmp 58) (.tmp 60) (.cst (.bool false)), none⟩,
  ⟨some 62, .mov (.tmp 61), none⟩,
  ⟨some 63, .mov (.tmp 13), some (62, true)⟩,
  ⟨some 64, .arith .lss (.tmp 63) (.cst (.int .i64 0)), some (62, true)⟩,
  ⟨some 65, .pick (.tmp 62) (.tmp 64) (.cst (.bool false)), none⟩] :: K) fr S := rfl
def ref04_Change_r10 : List POper := [
  ⟨some 66, .load true 7 false (.tmp 5), none⟩,
  ⟨none, .store 7 (.tmp 10) (.tmp 66), none⟩,
  ⟨some 11, .mov (.cst (.int .i64 9)), none⟩]
@[simp] theorem ref04_Change_r10_go (T : Tbl) (K : List Kt) (fr : Fr) (S : St) : gval T (.ops ref04_Change_r10 :: K) fr S = gval T (.ops [
  ⟨some 66, .load true 7 false (.tmp 5), none⟩,
  ⟨none, .store 7 (.tmp 10) (.tmp 66), none⟩,
  ⟨some 11, .mov (.cst (.int .i64 9)), none⟩] :: K) fr S := rfl
def ref04_Change_r11 : List POper := [
  ⟨some 14, .mov (.cst (.int .i64 0)), none⟩]
@[simp] theorem ref04_Change_r11_go (T : Tbl) (K : List Kt) (fr : Fr) (S : St) : gval T (.ops ref04_Change_r11 :: K) fr S = gval T (.ops [
  ⟨some 14, .mov (.cst (.int .i64 0)), none⟩] :: K) fr S := rfl
def ref04_Change_r12 : List POper := [
  ⟨some 15, .mov (.cst (.int .i64 0)), none⟩]
@[simp] theorem ref04_Change_r12_go (T : Tbl) (K : List Kt) (fr : Fr) (S : St) : gval T (.ops ref04_Change_r12 :: K) fr S = gval T (.ops [
  ⟨some 15, .mov (.cst (.int .i64 0)), none⟩] :: K) fr S := rfl
def ref04_Change_r13 : List POper := [
  ⟨some 67, .mov (.tmp 15), none⟩,
  ⟨some 68, .mov (.tmp 12), none⟩,
  ⟨some 69, .len false (.tmp 68), none⟩,
  ⟨some 70, .arith .lss (.tmp 67) (.tmp 69), none⟩]
@[simp] theorem ref04_Change_r13_go (T : Tbl) (K : List Kt) (fr : Fr) (S : St) : gval T (.ops ref04_Change_r13 :: K) fr S = gval T (.ops [
  ⟨some 67, .mov (.tmp 15), none⟩,
  ⟨some 68, .mov (.tmp 12), none⟩,
  ⟨some 69, .len false (.tmp 68), none⟩,
  ⟨some 70, .arith .lss (.tmp 67) (.tmp 69), none⟩] :: K) fr S := rfl
def ref04_Change_r15 : List POper := [
  ⟨some 73, .mov (.tmp 14), none⟩,
  ⟨some 74, .faddr 1 (.tmp 5), none⟩,
  ⟨some 75, .load false 1 false (.tmp 74), none⟩,
  ⟨some 76, .mov (.tmp 12), none⟩,
  ⟨some 77, .mov (.tmp 15), none⟩,
  ⟨some 78, .iaddr 2 (.tmp 76) (.tmp 77), none⟩,
  ⟨some 79, .faddr 1 (.tmp 78), none⟩,
  ⟨some 80, .load false 1 true (.tmp 79), none⟩,
  ⟨some 81, .iaddr 2 (.tmp 75) (.tmp 80), none⟩,
  ⟨some 82, .faddr 0 (.tmp 81), none⟩,
  ⟨some 83, .load false 1 true (.tmp 82), none⟩,
  ⟨some 84, .len false (.tmp 83), none⟩,
  ⟨some 85, .arith .add (.tmp 73) (.tmp 84), none⟩,
  ⟨some 14, .mov (.tmp 85), none⟩]
@[simp] theorem ref04_Change_r15_go (T : Tbl) (K : List Kt) (fr : Fr) (S : St) : gval T (.ops ref04_Change_r15 :: K) fr S = gval T (.ops [
  ⟨some 73, .mov (.tmp 14), none⟩,
  ⟨some 74, .faddr 1 (.tmp 5), none⟩,
  ⟨some 75, .load false 1 false (.tmp 74), none⟩,
  ⟨some 76, .mov (.tmp 12), none⟩,
  ⟨some 77, .mov (.tmp 15), none⟩,
  ⟨some 78, .iaddr 2 (.tmp 76) (.tmp 77), none⟩,
  ⟨some 79, .faddr 1 (.tmp 78), none⟩,
  ⟨some 80, .load false 1 true (.tmp 79), none⟩,
  ⟨some 81, .iaddr 2 (.tmp 75) (.tmp 80), none⟩,
  ⟨some 82, .faddr 0 (.tmp 81), none⟩,
  ⟨some 83, .load false 1 true (.tmp 82), none⟩,
  ⟨some 84, .len false (.tmp 83), none⟩,
  ⟨some 85, .arith .add (.tmp 73) (.tmp 84), none⟩,
  ⟨some 14, .mov (.tmp 85), none⟩] :: K) fr S := rfl
def ref04_Change_r14 : List POper := [
  ⟨some 71, .mov (.tmp 15), none⟩,
  ⟨some 72, .arith .add (.tmp 71) (.cst (.int .i64 1)), none⟩,
  ⟨some 15, .mov (.tmp 72), none⟩]
@[simp] theorem ref04_Change_r14_go (T : Tbl) (K : List Kt) (fr : Fr) (S : St) : gval T (.ops ref04_Change_r14 :: K) fr S = gval T (.ops [
  ⟨some 71, .mov (.tmp 15), none⟩,
  ⟨some 72, .arith .add (.tmp 71) (.cst (.int .i64 1)), none⟩,
  ⟨some 15, .mov (.tmp 72), none⟩] :: K) fr S := rfl
def ref04_Change_l0 : PCode :=
  (.seq (.seq (.clr [(67, 70)] (.region ref04_Change_r13)) (.cond (.tmp 70) .skip (.exit 0))) (.seq (.block 1 (.clr [(73, 86)] (.region ref04_Change_r15))) (.clr [(71, 73)] (.region ref04_Change_r14))))
@[simp] theorem ref04_Change_l0_go (T : Tbl) (K : List Kt) (fr : Fr) (S : St) : gval T (.code ref04_Change_l0 :: K) fr S = gval T (.code (.seq (.seq (.clr [(67, 70)] (.region ref04_Change_r13)) (.cond (.tmp 70) .skip (.exit 0))) (.seq (.block 1 (.clr [(73, 86)] (.region ref04_Change_r15))) (.clr [(71, 73)] (.region ref04_Change_r14)))) :: K) fr S := rfl
def ref04_Change_r16 : List POper := [
  ⟨some 86, .mov (.tmp 1), none⟩,
  ⟨some 87, .arith .eql (.tmp 86) (.cst (.int .i64 2)), none⟩,
  ⟨some 88, .mov (.tmp 87), none⟩,
  ⟨some 89, .mov (.tmp 4), some (88, true)⟩,
  ⟨some 90, .len false (.tmp 89), some (88, true)⟩,
  ⟨some 91, .faddr 0 (.tmp 5), some (88, true)⟩,
  ⟨some 92, .load false 1 false (.tmp 91), some (88, true)⟩,
  ⟨some 93, .mov (.tmp 14), some (88, true)⟩,
  ⟨some 94, .arith .sub (.tmp 92) (.tmp 93), some (88, true)⟩,
  ⟨some 95, .arith .gtr (.tmp 90) (.tmp 94), some (88, true)⟩,
  ⟨some 96, .pick (.tmp 88) (.tmp 95) (.cst (.bool false)), none⟩]
@[simp] theorem ref04_Change_r16_go (T : Tbl) (K : List Kt) (fr : Fr) (S : St) : gval T (.ops ref04_Change_r16 :: K) fr S = gval T (.ops [
  ⟨some 86, .mov (.tmp 1), none⟩,
  ⟨some 87, .arith .eql (.tmp 86) (.cst (.int .i64 2)), none⟩,
  ⟨some 88, .mov (.tmp 87), none⟩,
  ⟨some 89, .mov (.tmp 4), some (88, true)⟩,
  ⟨some 90, .len false (.tmp 89), some (88, true)⟩,
  ⟨some 91, .faddr 0 (.tmp 5), some (88, true)⟩,
  ⟨some 92, .load false 1 false (.tmp 91), some (88, true)⟩,
  ⟨some 93, .mov (.tmp 14), some (88, true)⟩,
  ⟨some 94, .arith .sub (.tmp 92) (.tmp 93), some (88, true)⟩,
  ⟨some 95, .arith .gtr (.tmp 90) (.tmp 94), some (88, true)⟩,
  ⟨some 96, .pick (.tmp 88) (.tmp 95) (.cst (.bool false)), none⟩] :: K) fr S := rfl
def ref04_Change_r17 : List POper := [
  ⟨some 97, .load true 7 false (.tmp 5), none⟩,
  ⟨none, .store 7 (.tmp 10) (.tmp 97), none⟩,
  ⟨some 11, .mov (.cst (.int .i64 7)), none⟩]
@[simp] theorem ref04_Change_r17_go (T : Tbl) (K : List Kt) (fr : Fr) (S : St) : gval T (.ops ref04_Change_r17 :: K) fr S = gval T (.ops [
  ⟨some 97, .load true 7 false (.tmp 5), none⟩,
  ⟨none, .store 7 (.tmp 10) (.tmp 97), none⟩,
  ⟨some 11, .mov (.cst (.int .i64 7)), none⟩] :: K) fr S := rfl
def ref04_Change_r18 : List POper := [
  ⟨some 99, .load true 7 false (.tmp 5), none⟩,
  ⟨some 100, .call .std 206 [(.tmp 99)], none⟩,
  ⟨some 98, .mov (.tmp 100), none⟩,
  ⟨some 101, .extract 0 (.tmp 98), none⟩,
  ⟨some 102, .extract 1 (.tmp 98), none⟩,
  ⟨none, .store 7 (.tmp 5) (.tmp 101), none⟩,
  ⟨some 16, .mov (.tmp 102), none⟩]
@[simp] theorem ref04_Change_r18_go (T : Tbl) (K : List Kt) (fr : Fr) (S : St) : gval T (.ops ref04_Change_r18 :: K) fr S = gval T (.ops [
  ⟨some 99, .load true 7 false (.tmp 5), none⟩,
  ⟨some 100, .call .std 206 [(.tmp 99)], none⟩,
  ⟨some 98, .mov (.tmp 100), none⟩,
  ⟨some 101, .extract 0 (.tmp 98), none⟩,
  ⟨some 102, .extract 1 (.tmp 98), none⟩,
  ⟨none, .store 7 (.tmp 5) (.tmp 101), none⟩,
  ⟨some 16, .mov (.tmp 102), none⟩] :: K) fr S := rfl
def ref04_Change_r19 : List POper := [
  ⟨some 103, .mov (.tmp 16), none⟩,
  ⟨some 104, .arith .neq (.tmp 103) (.cst (.int .i64 0)), none⟩]
@[simp] theorem ref04_Change_r19_go (T : Tbl) (K : List Kt) (fr : Fr) (S : St) : gval T (.ops ref04_Change_r19 :: K) fr S = gval T (.ops [
  ⟨some 103, .mov (.tmp 16), none⟩,
  ⟨some 104, .arith .neq (.tmp 103) (.cst (.int .i64 0)), none⟩] :: K) fr S := rfl
def ref04_Change_r20 : List POper := [
  ⟨some 105, .load true 7 false (.tmp 5), none⟩,
  ⟨some 106, .mov (.tmp 16), none⟩,
  ⟨none, .store 7 (.tmp 10) (.tmp 105), none⟩,
  ⟨some 11, .mov (.tmp 106), none⟩]
@[simp] theorem ref04_Change_r20_go (T : Tbl) (K : List Kt) (fr : Fr) (S : St) : gval T (.ops ref04_Change_r20 :: K) fr S = gval T (.ops [
  ⟨some 105, .load true 7 false (.tmp 5), none⟩,
  ⟨some 106, .mov (.tmp 16), none⟩,
  ⟨none, .store 7 (.tmp 10) (.tmp 105), none⟩,
  ⟨some 11, .mov (.tmp 106), none⟩] :: K) fr S := rfl
def ref04_Change_r21 : List POper := [
  ⟨some 107, .bsl false (.agg [.nils, (.int .i64 0)]) 0 [], none⟩,
  ⟨some 108, .faddr 1 (.tmp 5), none⟩,
  ⟨some 109, .load false 1 false (.tmp 108), none⟩,
  ⟨some 110, .app 2 32 (.tmp 107) (.tmp 109), none⟩,
  ⟨some 17, .mov (.tmp 110), none⟩]
@[simp] theorem ref04_Change_r21_go (T : Tbl) (K : List Kt) (fr : Fr) (S : St) : gval T (.ops ref04_Change_r21 :: K) fr S = gval T (.ops [
  ⟨some 107, .bsl false (.agg [.nils, (.int .i64 0)]) 0 [], none⟩,
  ⟨some 108, .faddr 1 (.tmp 5), none⟩,
  ⟨some 109, .load false 1 false (.tmp 108), none⟩,
  ⟨some 110, .app 2 32 (.tmp 107) (.tmp 109), none⟩,
  ⟨some 17, .mov (.tmp 110), none⟩] :: K) fr S := rfl
def ref04_Change_r22 : List POper := [
  ⟨some 111, .bsl false (.agg [(.int .i64 0), (.str []), (.str []), (.int .i64 0)]) 0 [], none⟩,
  ⟨some 112, .faddr 3 (.tmp 5), none⟩,
  ⟨some 113, .load false 1 false (.tmp 112), none⟩,
  ⟨some 114, .app 4 48 (.tmp 111) (.tmp 113), none⟩,
  ⟨some 18, .mov (.tmp 114), none⟩]
@[simp] theorem ref04_Change_r22_go (T : Tbl) (K : List Kt) (fr : Fr) (S : St) : gval T (.ops ref04_Change_r22 :: K) fr S = gval T (.ops [
  ⟨some 111, .bsl false (.agg [(.int .i64 0), (.str []), (.str []), (.int .i64 0)]) 0 [], none⟩,
  ⟨some 112, .faddr 3 (.tmp 5), none⟩,
  ⟨some 113, .load false 1 false (.tmp 112), none⟩,
  ⟨some 114, .app 4 48 (.tmp 111) (.tmp 113), none⟩,
  ⟨some 18, .mov (.tmp 114), none⟩] :: K) fr S := rfl
def ref04_Change_r23 : List POper := [
  ⟨some 115, .mov (.tmp 1), none⟩]
@[simp] theorem ref04_Change_r23_go (T : Tbl) (K : List Kt) (fr : Fr) (S : St) : gval T (.ops ref04_Change_r23 :: K) fr S = gval T (.ops [
  ⟨some 115, .mov (.tmp 1), none⟩] :: K) fr S := rfl
def ref04_Change_r24 : List POper := [
  ⟨some 117, .arith .eql (.tmp 115) (.cst (.int .i64 1)), none⟩,
  ⟨some 116, .mov (.tmp 117), none⟩]
@[simp] theorem ref04_Change_r24_go (T : Tbl) (K : List Kt) (fr : Fr) (S : St) : gval T (.ops ref04_Change_r24 :: K) fr S = gval T (.ops [
  ⟨some 117, .arith .eql (.tmp 115) (.cst (.int .i64 1)), none⟩,
  ⟨some 116, .mov (.tmp 117), none⟩] :: K) fr S := rfl
def ref04_Change_r25 : List POper := [
  ⟨some 118, .mov (.tmp 18), none⟩,
  ⟨some 119, .mov (.tmp 2), none⟩,
  ⟨some 120, .mov (.tmp 17), none⟩,
  ⟨some 121, .len false (.tmp 120), none⟩,
  ⟨some 122, .build [(.int .i64 0), (.str []), (.str []), (.int .i64 0)] [(0, 1, (.cst (.int .i64 1))), (1, 1, (.tmp 119)), (3, 1, (.tmp 121))], none⟩,
  ⟨some 123, .bsl false (.agg [(.int .i64 0), (.str []), (.str []), (.int .i64 0)]) 1 [(0, (.tmp 122))], none⟩,
  ⟨some 124, .app 4 48 (.tmp 118) (.tmp 123), none⟩,
  ⟨some 18, .mov (.tmp 124), none⟩]
@[simp] theorem ref04_Change_r25_go (T : Tbl) (K : List Kt) (fr : Fr) (S : St) : gval T (.ops ref04_Change_r25 :: K) fr S = gval T (.ops [
  ⟨some 118, .mov (.tmp 18), none⟩,
  ⟨some 119, .mov (.tmp 2), none⟩,
  ⟨some 120, .mov (.tmp 17), none⟩,
  ⟨some 121, .len false (.tmp 120), none⟩,
  ⟨some 122, .build [(.int .i64 0), (.str []), (.str []), (.int .i64 0)] [(0, 1, (.cst (.int .i64 1))), (1, 1, (.tmp 119)), (3, 1, (.tmp 121))], none⟩,
  ⟨some 123, .bsl false (.agg [(.int .i64 0), (.str []), (.str []), (.int .i64 0)]) 1 [(0, (.tmp 122))], none⟩,
  ⟨some 124, .app 4 48 (.tmp 118) (.tmp 123), none⟩,
  ⟨some 18, .mov (.tmp 124), none⟩] :: K) fr S := rfl
def ref04_Change_r26 : List POper := [
  ⟨some 125, .mov (.tmp 17), none⟩,
  ⟨some 126, .build [.nils, (.int .i64 0)] [], none⟩,
  ⟨some 127, .bsl false (.agg [.nils, (.int .i64 0)]) 1 [(0, (.tmp 126))], none⟩,
  ⟨some 128, .app 2 32 (.tmp 125) (.tmp 127), none⟩,
  ⟨some 17, .mov (.tmp 128), none⟩]
@[simp] theorem ref04_Change_r26_go (T : Tbl) (K : List Kt) (fr : Fr) (S : St) : gval T (.ops ref04_Change_r26 :: K) fr S = gval T (.ops [
  ⟨some 125, .mov (.tmp 17), none⟩,
  ⟨some 126, .build [.nils, (.int .i64 0)] [], none⟩,
  ⟨some 127, .bsl false (.agg [.nils, (.int .i64 0)]) 1 [(0, (.tmp 126))], none⟩,
  ⟨some 128, .app 2 32 (.tmp 125) (.tmp 127), none⟩,
  ⟨some 17, .mov (.tmp 128), none⟩] :: K) fr S := rfl
def ref04_Change_r27 : List POper := [
  ⟨some 130, .arith .eql (.tmp 115) (.cst (.int .i64 2)), none⟩,
  ⟨some 129, .mov (.tmp 130), none⟩]
@[simp] theorem ref04_Change_r27_go (T : Tbl) (K : List Kt) (fr : Fr) (S : St) : gval T (.ops ref04_Change_r27 :: K) fr S = gval T (.ops [
  ⟨some 130, .arith .eql (.tmp 115) (.cst (.int .i64 2)), none⟩,
  ⟨some 129, .mov (.tmp 130), none⟩] :: K) fr S := rfl
def ref04_Change_r28 : List POper := [
  ⟨some 131, .mov (.tmp 17), none⟩,
  ⟨some 132, .mov (.tmp 13), none⟩,
  ⟨some 133, .bsl false (.int .u8 0) 0 [], none⟩,
  ⟨some 134, .mov (.tmp 17), none⟩,
  ⟨some 135, .mov (.tmp 13), none⟩,
  ⟨some 136, .iaddr 2 (.tmp 134) (.tmp 135), none⟩,
  ⟨some 137, .faddr 0 (.tmp 136), none⟩,
  ⟨some 138, .load false 1 false (.tmp 137), none⟩,
  ⟨some 139, .app 1 1 (.tmp 133) (.tmp 138), none⟩,
  ⟨some 140, .mov (.tmp 4), none⟩,
  ⟨some 141, .app 1 1 (.tmp 139) (.tmp 140), none⟩,
  ⟨some 142, .iaddr 2 (.tmp 131) (.tmp 132), none⟩,
  ⟨some 143, .faddr 0 (.tmp 142), none⟩,
  ⟨none, .store 1 (.tmp 143) (.tmp 141), none⟩]
@[simp] theorem ref04_Change_r28_go (T : Tbl) (K : List Kt) (fr : Fr) (S : St) : gval T (.ops ref04_Change_r28 :: K) fr S = gval T (.ops [
  ⟨some 131, .mov (.tmp 17), none⟩,
  ⟨some 132, .mov (.tmp 13), none⟩,
  ⟨some 133, .bsl false (.int .u8 0) 0 [], none⟩,
  ⟨some 134, .mov (.tmp 17), none⟩,
  ⟨some 135, .mov (.tmp 13), none⟩,
  ⟨some 136, .iaddr 2 (.tmp 134) (.tmp 135), none⟩,
  ⟨some 137, .faddr 0 (.tmp 136), none⟩,
  ⟨some 138, .load false 1 false (.tmp 137), none⟩,
  ⟨some 139, .app 1 1 (.tmp 133) (.tmp 138), none⟩,
  ⟨some 140, .mov (.tmp 4), none⟩,
  ⟨some 141, .app 1 1 (.tmp 139) (.tmp 140), none⟩,
  ⟨some 142, .iaddr 2 (.tmp 131) (.tmp 132), none⟩,
  ⟨some 143, .faddr 0 (.tmp 142), none⟩,
  ⟨none, .store 1 (.tmp 143) (.tmp 141), none⟩] :: K) fr S := rfl
def ref04_Change_r29 : List POper := [
  ⟨some 145, .arith .eql (.tmp 115) (.cst (.int .i64 3)), none⟩,
  ⟨some 144, .mov (.tmp 145), none⟩]
@[simp] theorem ref04_Change_r29_go (T : Tbl) (K : List Kt) (fr : Fr) (S : St) : gval T (.ops ref04_Change_r29 :: K) fr S = gval T (.ops [
  ⟨some 145, .arith .eql (.tmp 115) (.cst (.int .i64 3)), none⟩,
  ⟨some 144, .mov (.tmp 145), none⟩] :: K) fr S := rfl
def ref04_Change_r30 : List POper := [
  ⟨some 146, .mov (.tmp 18), none⟩,
  ⟨some 147, .mov (.tmp 2), none⟩,
  ⟨some 148, .mov (.tmp 3), none⟩,
  ⟨some 149, .build [(.int .i64 0), (.str []), (.str []), (.int .i64 0)] [(0, 1, (.cst (.int .i64 2))), (1, 1, (.tmp 147)), (2, 1, (.tmp 148))], none⟩,
  ⟨some 150, .bsl false (.agg [(.int .i64 0), (.str []), (.str []), (.int .i64 0)]) 1 [(0, (.tmp 149))], none⟩,
  ⟨some 151, .app 4 48 (.tmp 146) (.tmp 150), none⟩,
  ⟨some 18, .mov (.tmp 151), none⟩]
@[simp] theorem ref04_Change_r30_go (T : Tbl) (K : List Kt) (fr : Fr) (S : St) : gval T (.ops ref04_Change_r30 :: K) fr S = gval T (.ops [
  ⟨some 146, .mov (.tmp 18), none⟩,
  ⟨some 147, .mov (.tmp 2), none⟩,
  ⟨some 148, .mov (.tmp 3), none⟩,
  ⟨some 149, .build [(.int .i64 0), (.str []), (.str []), (.int .i64 0)] [(0, 1, (.cst (.int .i64 2))), (1, 1, (.tmp 147)), (2, 1, (.tmp 148))], none⟩,
  ⟨some 150, .bsl false (.agg [(.int .i64 0), (.str []), (.str []), (.int .i64 0)]) 1 [(0, (.tmp 149))], none⟩,
  ⟨some 151, .app 4 48 (.tmp 146) (.tmp 150), none⟩,
  ⟨some 18, .mov (.tmp 151), none⟩] :: K) fr S := rfl
def ref04_Change_r31 : List POper := [
  ⟨some 153, .arith .eql (.tmp 115) (.cst (.int .i64 4)), none⟩,
  ⟨some 152, .mov (.tmp 153), none⟩]
@[simp] theorem ref04_Change_r31_go (T : Tbl) (K : List Kt) (fr : Fr) (S : St) : gval T (.ops ref04_Change_r31 :: K) fr S = gval T (.ops [
  ⟨some 153, .arith .eql (.tmp 115) (.cst (.int .i64 4)), none⟩,
  ⟨some 152, .mov (.tmp 153), none⟩] :: K) fr S := rfl
def ref04_Change_r32 : List POper := [
  ⟨some 154, .mov (.tmp 18), none⟩,
  ⟨some 155, .mov (.tmp 2), none⟩,
  ⟨some 156, .build [(.int .i64 0), (.str []), (.str []), (.int .i64 0)] [(0, 1, (.cst (.int .i64 3))), (1, 1, (.tmp 155))], none⟩,
  ⟨some 157, .bsl false (.agg [(.int .i64 0), (.str []), (.str []), (.int .i64 0)]) 1 [(0, (.tmp 156))], none⟩,
  ⟨some 158, .app 4 48 (.tmp 154) (.tmp 157), none⟩,
  ⟨some 18, .mov (.tmp 158), none⟩]
@[simp] theorem ref04_Change_r32_go (T : Tbl) (K : List Kt) (fr : Fr) (S : St) : gval T (.ops ref04_Change_r32 :: K) fr S = gval T (.ops [
  ⟨some 154, .mov (.tmp 18), none⟩,
  ⟨some 155, .mov (.tmp 2), none⟩,
  ⟨some 156, .build [(.int .i64 0), (.str []), (.str []), (.int .i64 0)] [(0, 1, (.cst (.int .i64 3))), (1, 1, (.tmp 155))], none⟩,
  ⟨some 157, .bsl false (.agg [(.int .i64 0), (.str []), (.str []), (.int .i64 0)]) 1 [(0, (.tmp 156))], none⟩,
  ⟨some 158, .app 4 48 (.tmp 154) (.tmp 157), none⟩,
  ⟨some 18, .mov (.tmp 158), none⟩] :: K) fr S := rfl
def ref04_Change_r33 : List POper := [
  ⟨some 160, .arith .eql (.tmp 115) (.cst (.int .i64 5)), none⟩,
  ⟨some 159, .mov (.tmp 160), none⟩]
@[simp] theorem ref04_Change_r33_go (T : Tbl) (K : List Kt) (fr : Fr) (S : St) : gval T (.ops ref04_Change_r33 :: K) fr S = gval T (.ops [
  ⟨some 160, .arith .eql (.tmp 115) (.cst (.int .i64 5)), none⟩,
  ⟨some 159, .mov (.tmp 160), none⟩] :: K) fr S := rfl
def ref04_Change_r34 : List POper := [
  ⟨some 161, .mov (.tmp 17), none⟩,
  ⟨some 162, .mov (.tmp 13), none⟩,
  ⟨some 163, .mov (.tmp 17), none⟩,
  ⟨some 164, .mov (.tmp 13), none⟩,
  ⟨some 165, .iaddr 2 (.tmp 163) (.tmp 164), none⟩,
  ⟨some 166, .faddr 0 (.tmp 165), none⟩,
  ⟨some 167, .load false 1 false (.tmp 166), none⟩,
  ⟨some 168, .len false (.tmp 167), none⟩,
  ⟨some 169, .iaddr 2 (.tmp 161) (.tmp 162), none⟩,
  ⟨some 170, .faddr 1 (.tmp 169), none⟩,
  ⟨none, .store 1 (.tmp 170) (.tmp 168), none⟩]
@[simp] theorem ref04_Change_r34_go (T : Tbl) (K : List Kt) (fr : Fr) (S : St) : gval T (.ops ref04_Change_r34 :: K) fr S = gval T (.ops [
  ⟨some 161, .mov (.tmp 17), none⟩,
  ⟨some 162, .mov (.tmp 13), none⟩,
  ⟨some 163, .mov (.tmp 17), none⟩,
  ⟨some 164, .mov (.tmp 13), none⟩,
  ⟨some 165, .iaddr 2 (.tmp 163) (.tmp 164), none⟩,
  ⟨some 166, .faddr 0 (.tmp 165), none⟩,
  ⟨some 167, .load false 1 false (.tmp 166), none⟩,
  ⟨some 168, .len false (.tmp 167), none⟩,
  ⟨some 169, .iaddr 2 (.tmp 161) (.tmp 162), none⟩,
  ⟨some 170, .faddr 1 (.tmp 169), none⟩,
  ⟨none, .store 1 (.tmp 170) (.tmp 168), none⟩] :: K) fr S := rfl
def ref04_Change_r35 : List POper := [
  ⟨some 172, .arith .eql (.tmp 115) (.cst (.int .i64 6)), none⟩,
  ⟨some 171, .mov (.tmp 172), none⟩]
@[simp] theorem ref04_Change_r35_go (T : Tbl) (K : List Kt) (fr : Fr) (S : St) : gval T (.ops ref04_Change_r35 :: K) fr S = gval T (.ops [
  ⟨some 172, .arith .eql (.tmp 115) (.cst (.int .i64 6)), none⟩,
  ⟨some 171, .mov (.tmp 172), none⟩] :: K) fr S := rfl
def ref04_Change_r36 : List POper := [
  ⟨some 173, .mov (.tmp 12), none⟩,
  ⟨some 174, .faddr 2 (.tmp 5), none⟩,
  ⟨none, .store 1 (.tmp 174) (.tmp 173), none⟩]
@[simp] theorem ref04_Change_r36_go (T : Tbl) (K : List Kt) (fr : Fr) (S : St) : gval T (.ops ref04_Change_r36 :: K) fr S = gval T (.ops [
  ⟨some 173, .mov (.tmp 12), none⟩,
  ⟨some 174, .faddr 2 (.tmp 5), none⟩,
  ⟨none, .store 1 (.tmp 174) (.tmp 173), none⟩] :: K) fr S := rfl
def ref04_Change_r37 : List POper := [
  ⟨some 18, .mov (.cst .nils), none⟩]
@[simp] theorem ref04_Change_r37_go (T : Tbl) (K : List Kt) (fr : Fr) (S : St) : gval T (.ops ref04_Change_r37 :: K) fr S = gval T (.ops [
  ⟨some 18, .mov (.cst .nils), none⟩] :: K) fr S := rfl
def ref04_Change_r38 : List POper := [
  ⟨some 175, .mov (.tmp 17), none⟩,
  ⟨some 176, .mov (.tmp 18), none⟩,
  ⟨some 177, .faddr 1 (.tmp 5), none⟩,
  ⟨none, .store 1 (.tmp 177) (.tmp 175), none⟩,
  ⟨some 178, .faddr 3 (.tmp 5), none⟩,
  ⟨none, .store 1 (.tmp 178) (.tmp 176), none⟩]
@[simp] theorem ref04_Change_r38_go (T : Tbl) (K : List Kt) (fr : Fr) (S : St) : gval T (.ops ref04_Change_r38 :: K) fr S = gval T (.ops [
  ⟨some 175, .mov (.tmp 17), none⟩,
  ⟨some 176, .mov (.tmp 18), none⟩,
  ⟨some 177, .faddr 1 (.tmp 5), none⟩,
  ⟨none, .store 1 (.tmp 177) (.tmp 175), none⟩,
  ⟨some 178, .faddr 3 (.tmp 5), none⟩,
  ⟨none, .store 1 (.tmp 178) (.tmp 176), none⟩] :: K) fr S := rfl
def ref04_Change_r39 : List POper := [
  ⟨some 179, .load true 7 false (.tmp 5), none⟩,
  ⟨none, .store 7 (.tmp 10) (.tmp 179), none⟩,
  ⟨some 11, .mov (.cst (.int .i64 0)), none⟩]
@[simp] theorem ref04_Change_r39_go (T : Tbl) (K : List Kt) (fr : Fr) (S : St) : gval T (.ops ref04_Change_r39 :: K) fr S = gval T (.ops [
  ⟨some 179, .load true 7 false (.tmp 5), none⟩,
  ⟨none, .store 7 (.tmp 10) (.tmp 179), none⟩,
  ⟨some 11, .mov (.cst (.int .i64 0)), none⟩] :: K) fr S := rfl
def ref04_Change : PCodeFn :=
  ⟨5, [.cell 10 true 7, .tmp 11],
  (.seq (.region ref04_Change_r0) (.seq (.seq (.clr [(19, 34)] (.region ref04_Change_r1)) (.cond (.tmp 34) (.seq (.clr [(35, 36)] (.region ref04_Change_r2)) .ret) .skip)) (.seq (.clr [(36, 38)] (.region ref04_Change_r3)) (.seq (.clr [(38, 41)] (.region ref04_Change_r4)) (.seq (.seq (.clr [(41, 46)] (.region ref04_Change_r5)) (.cond (.tmp 46) (.seq (.clr [(47, 48)] (.region ref04_Change_r6)) .ret) .skip)) (.seq (.seq (.clr [(48, 54)] (.region ref04_Change_r7)) (.cond (.tmp 54) (.seq (.clr [(55, 56)] (.region ref04_Change_r8)) .ret) .skip)) (.seq (.seq (.clr [(56, 65)] (.region ref04_Change_r9)) (.cond (.tmp 65) (.seq (.clr [(66, 67)] (.region ref04_Change_r10)) .ret) .skip)) (.seq (.region ref04_Change_r11) (.seq (.seq (.region ref04_Change_r12) (.block 0 (.loop ref04_Change_l0))) (.seq (.seq (.clr [(86, 96)] (.region ref04_Change_r16)) (.cond (.tmp 96) (.seq (.clr [(97, 98)] (.region ref04_Change_r17)) .ret) .skip)) (.seq (.clr [(98, 103)] (.region ref04_Change_r18)) (.seq (.seq (.clr [(103, 104)] (.region ref04_Change_r19)) (.cond (.tmp 104) (.seq (.clr [(105, 107)] (.region ref04_Change_r20)) .ret) .skip)) (.seq (.clr [(107, 111)] (.region ref04_Change_r21)) (.seq (.clr [(111, 115)] (.region ref04_Change_r22)) (.seq (.seq (.region ref04_Change_r23) (.block 2 (.seq (.clr [(117, 118)] (.region ref04_Change_r24)) (.cond (.tmp 116) (.seq (.clr [(118, 125)] (.region ref04_Change_r25)) (.clr [(125, 129)] (.region ref04_Change_r26))) (.seq (.clr [(130, 131)] (.region ref04_Change_r27)) (.cond (.tmp 129) (.clr [(131, 144)] (.region ref04_Change_r28)) (.seq (.clr [(145, 146)] (.region ref04_Change_r29)) (.cond (.tmp 144) (.clr [(146, 152)] (.region ref04_Change_r30)) (.seq (.clr [(153, 154)] (.region ref04_Change_r31)) (.cond (.tmp 152) (.clr [(154, 159)] (.region ref04_Change_r32)) (.seq (.clr [(160, 161)] (.region ref04_Change_r33)) (.cond (.tmp 159) (.clr [(161, 171)] (.region ref04_Change_r34)) (.seq (.clr [(172, 173)] (.region ref04_Change_r35)) (.cond (.tmp 171) (.seq (.clr [(173, 175)] (.region ref04_Change_r36)) (.region ref04_Change_r37)) .skip)))))))))))))) (.seq (.clr [(175, 179)] (.region ref04_Change_r38)) (.seq (.clr [(179, 180)] (.region ref04_Change_r39)) .ret))))))))))))))))), false⟩

/-! gauge/gaugeref04.Read: 87 -/
def ref04_Read_r0 : List POper := [
  ⟨some 2, .box true (.tmp 0), none⟩,
  ⟨some 4, .mov (.cst .nils), none⟩,
  ⟨some 5, .mov (.cst (.int .i64 0)), none⟩]
@[simp] theorem ref04_Read_r0_go (T : Tbl) (K : List Kt) (fr : Fr) (S : St) : gval T (.ops ref04_Read_r0 :: K) fr S = gval T (.ops [
  ⟨some 2, .box true (.tmp 0), none⟩,
  ⟨some 4, .mov (.cst .nils), none⟩,
  ⟨some 5, .mov (.cst (.int .i64 0)), none⟩] :: K) fr S := rfl
def ref04_Read_r1 : List POper := [
  ⟨some 7, .mov (.tmp 1), none⟩,
  ⟨some 8, .call .pur 203 [(.tmp 7)], none⟩,
  ⟨some 9, .un .not (.tmp 8), none⟩]
@[simp] theorem ref04_Read_r1_go (T : Tbl) (K : List Kt) (fr : Fr) (S : St) : gval T (.ops ref04_Read_r1 :: K) fr S = gval T (.ops [
  ⟨some 7, .mov (.tmp 1), none⟩,
  ⟨some 8, .call .pur 203 [(.tmp 7)], none⟩,
  ⟨some 9, .un .not (.tmp 8), none⟩] :: K) fr S := rfl
def ref04_Read_r2 : List POper := [
  ⟨some 4, .mov (.cst .nils), none⟩,
  ⟨some 5, .mov (.cst (.int .i64 8)), none⟩]
@[simp] theorem ref04_Read_r2_go (T : Tbl) (K : List Kt) (fr : Fr) (S : St) : gval T (.ops ref04_Read_r2 :: K) fr S = gval T (.ops [
  ⟨some 4, .mov (.cst .nils), none⟩,
  ⟨some 5, .mov (.cst (.int .i64 8)), none⟩] :: K) fr S := rfl
def ref04_Read_r3 : List POper := [
  ⟨some 10, .load true 7 false (.tmp 2), none⟩,
  ⟨some 11, .call .std 204 [(.tmp 10)], none⟩,
  ⟨some 12, .mov (.tmp 1), none⟩,
  ⟨some 13, .call .std 205 [(.tmp 11), (.tmp 12)], none⟩,
  ⟨some 6, .mov (.tmp 13), none⟩]
@[simp] theorem ref04_Read_r3_go (T : Tbl) (K : List Kt) (fr : Fr) (S : St) : gval T (.ops ref04_Read_r3 :: K) fr S = gval T (.ops [
  ⟨some 10, .load true 7 false (.tmp 2), none⟩,
  ⟨some 11, .call .std 204 [(.tmp 10)], none⟩,
  ⟨some 12, .mov (.tmp 1), none⟩,
  ⟨some 13, .call .std 205 [(.tmp 11), (.tmp 12)], none⟩,
  ⟨some 6, .mov (.tmp 13), none⟩] :: K) fr S := rfl
def ref04_Read_r4 : List POper := [
  ⟨some 14, .mov (.tmp 6), none⟩,
  ⟨some 15, .arith .lss (.tmp 14) (.cst (.int .i64 0)), none⟩]
@[simp] theorem ref04_Read_r4_go (T : Tbl) (K : List Kt) (fr : Fr) (S : St) : gval T (.ops ref04_Read_r4 :: K) fr S = gval T (.ops [
  ⟨some 14, .mov (.tmp 6), none⟩,
  ⟨some 15, .arith .lss (.tmp 14) (.cst (.int .i64 0)), none⟩] :: K) fr S := rfl
def ref04_Read_r5 : List POper := [
  ⟨some 4, .mov (.cst .nils), none⟩,
  ⟨some 5, .mov (.cst (.int .i64 9)), none⟩]
@[simp] theorem ref04_Read_r5_go (T : Tbl) (K : List Kt) (fr : Fr) (S : St) : gval T (.ops ref04_Read_r5 :: K) fr S = gval T (.ops [
  ⟨some 4, .mov (.cst .nils), none⟩,
  ⟨some 5, .mov (.cst (.int .i64 9)), none⟩] :: K) fr S := rfl
def ref04_Read_r6 : List POper := [
  ⟨some 16, .faddr 5 (.tmp 2), none⟩,
  ⟨some 17, .load false 1 false (.tmp 16), none⟩]
@[simp] theorem ref04_Read_r6_go (T : Tbl) (K : List Kt) (fr : Fr) (S : St) : gval T (.ops ref04_Read_r6 :: K) fr S = gval T (.ops [
  ⟨some 16, .faddr 5 (.tmp 2), none⟩,
  ⟨some 17, .load false 1 false (.tmp 16), none⟩] :: K) fr S := rfl
def ref04_Read_r7 : List POper := [
  ⟨some 4, .mov (.cst .nils), none⟩,
  ⟨some 5, .mov (.cst (.int .i64 6)), none⟩]
@[simp] theorem ref04_Read_r7_go (T : Tbl) (K : List Kt) (fr : Fr) (S : St) : gval T (.ops ref04_Read_r7 :: K) fr S = gval T (.ops [
  ⟨some 4, .mov (.cst .nils), none⟩,
  ⟨some 5, .mov (.cst (.int .i64 6)), none⟩] :: K) fr S := rfl
def ref04_Read_r8 : List POper := [
  ⟨some 18, .faddr 1 (.tmp 2), none⟩,
  ⟨some 19, .load false 1 false (.tmp 18), none⟩,
  ⟨some 20, .mov (.tmp 6), none⟩,
  ⟨some 21, .iaddr 2 (.tmp 19) (.tmp 20), none⟩,
  ⟨some 22, .faddr 0 (.tmp 21), none⟩,
  ⟨some 23, .load false 1 false (.tmp 22), none⟩,
  ⟨some 4, .mov (.tmp 23), none⟩,
  ⟨some 5, .mov (.cst (.int .i64 0)), none⟩]
@[simp] theorem ref04_Read_r8_go (T : Tbl) (K : List Kt) (fr : Fr) (S : St) : gval T (.ops ref04_Read_r8 :: K) fr S = gval T (.ops [
  ⟨some 18, .faddr 1 (.tmp 2), none⟩,
  ⟨some 19, .load false 1 false (.tmp 18), none⟩,
  ⟨some 20, .mov (.tmp 6), none⟩,
  ⟨some 21, .iaddr 2 (.tmp 19) (.tmp 20), none⟩,
  ⟨some 22, .faddr 0 (.tmp 21), none⟩,
  ⟨some 23, .load false 1 false (.tmp 22), none⟩,
  ⟨some 4, .mov (.tmp 23), none⟩,
  ⟨some 5, .mov (.cst (.int .i64 0)), none⟩] :: K) fr S := rfl
def ref04_Read : PCodeFn :=
  ⟨2, [.tmp 4, .tmp 5],
  (.seq (.region ref04_Read_r0) (.seq (.seq (.clr [(7, 9)] (.region ref04_Read_r1)) (.cond (.tmp 9) (.seq (.region ref04_Read_r2) .ret) .skip)) (.seq (.clr [(10, 14)] (.region ref04_Read_r3)) (.seq (.seq (.clr [(14, 15)] (.region ref04_Read_r4)) (.cond (.tmp 15) (.seq (.region ref04_Read_r5) .ret) .skip)) (.seq (.seq (.clr [(16, 17)] (.region ref04_Read_r6)) (.cond (.tmp 17) (.seq (.region ref04_Read_r7) .ret) .skip)) (.seq (.clr [(18, 24)] (.region ref04_Read_r8)) .ret)))))), false⟩

/-! gauge/gaugeref04.Fuse: 88 -/
def ref04_Fuse_r0 : List POper := [
  ⟨some 2, .box false (.tmp 0), none⟩,
  ⟨some 4, .alloc false [(.int .i64 0), .nils, .nils, .nils, (.int .i64 0), (.bool false), (.int .i64 0)], none⟩]
@[simp] theorem ref04_Fuse_r0_go (T : Tbl) (K : List Kt) (fr : Fr) (S : St) : gval T (.ops ref04_Fuse_r0 :: K) fr S = gval T (.ops [
  ⟨some 2, .box false (.tmp 0), none⟩,
  ⟨some 4, .alloc false [(.int .i64 0), .nils, .nils, .nils, (.int .i64 0), (.bool false), (.int .i64 0)], none⟩] :: K) fr S := rfl
def ref04_Fuse_r1 : List POper := [
  ⟨some 5, .mov (.tmp 1), none⟩,
  ⟨some 6, .mnmx true (.tmp 5) (.cst (.int .i64 (-1))), none⟩,
  ⟨some 7, .faddr 4 (.tmp 2), none⟩,
  ⟨none, .store 1 (.tmp 7) (.tmp 6), none⟩]
@[simp] theorem ref04_Fuse_r1_go (T : Tbl) (K : List Kt) (fr : Fr) (S : St) : gval T (.ops ref04_Fuse_r1 :: K) fr S = gval T (.ops [
  ⟨some 5, .mov (.tmp 1), none⟩,
  ⟨some 6, .mnmx true (.tmp 5) (.cst (.int .i64 (-1))), none⟩,
  ⟨some 7, .faddr 4 (.tmp 2), none⟩,
  ⟨none, .store 1 (.tmp 7) (.tmp 6), none⟩] :: K) fr S := rfl
def ref04_Fuse_r2 : List POper := [
  ⟨some 8, .load true 7 false (.tmp 2), none⟩,
  ⟨none, .store 7 (.tmp 4) (.tmp 8), none⟩]
@[simp] theorem ref04_Fuse_r2_go (T : Tbl) (K : List Kt) (fr : Fr) (S : St) : gval T (.ops ref04_Fuse_r2 :: K) fr S = gval T (.ops [
  ⟨some 8, .load true 7 false (.tmp 2), none⟩,
  ⟨none, .store 7 (.tmp 4) (.tmp 8), none⟩] :: K) fr S := rfl
def ref04_Fuse : PCodeFn :=
  ⟨2, [.cell 4 true 7],
  (.seq (.region ref04_Fuse_r0) (.seq (.clr [(5, 8)] (.region ref04_Fuse_r1)) (.seq (.clr [(8, 9)] (.region ref04_Fuse_r2)) .ret))), false⟩

/-! gauge/gaugeref04.Crash: 89 -/
def ref04_Crash_r0 : List POper := [
  ⟨some 3, .box true (.tmp 0), none⟩,
  ⟨some 6, .alloc false [(.int .i64 0), .nils, .nils, .nils, (.int .i64 0), (.bool false), (.int .i64 0)], none⟩]
@[simp] theorem ref04_Crash_r0_go (T : Tbl) (K : List Kt) (fr : Fr) (S : St) : gval T (.ops ref04_Crash_r0 :: K) fr S = gval T (.ops [
  ⟨some 3, .box true (.tmp 0), none⟩,
  ⟨some 6, .alloc false [(.int .i64 0), .nils, .nils, .nils, (.int .i64 0), (.bool false), (.int .i64 0)], none⟩] :: K) fr S := rfl
def ref04_Crash_r1 : List POper := [
  ⟨some 12, .load true 7 true (.tmp 3), none⟩,
  ⟨some 13, .mov (.tmp 1), none⟩,
  ⟨some 14, .toInt .u64 (.tmp 13), none⟩,
  ⟨some 15, .faddr 3 (.tmp 3), none⟩,
  ⟨some 16, .load false 1 true (.tmp 15), none⟩,
  ⟨some 17, .len false (.tmp 16), none⟩,
  ⟨some 18, .arith .add (.tmp 17) (.cst (.int .i64 1)), none⟩,
  ⟨some 19, .toInt .u64 (.tmp 18), none⟩,
  ⟨some 20, .arith .rem (.tmp 14) (.tmp 19), none⟩,
  ⟨some 21, .toInt .i64 (.tmp 20), none⟩,
  ⟨some 22, .call .std 207 [(.tmp 12), (.tmp 21)], none⟩,
  ⟨some 7, .mov (.tmp 22), none⟩]
@[simp] theorem ref04_Crash_r1_go (T : Tbl) (K : List Kt) (fr : Fr) (S : St) : gval T (.ops ref04_Crash_r1 :: K) fr S = gval T (.ops [
  ⟨some 12, .load true 7 true (.tmp 3), none⟩,
  ⟨some 13, .mov (.tmp 1), none⟩,
  ⟨some 14, .toInt .u64 (.tmp 13), none⟩,
  ⟨some 15, .faddr 3 (.tmp 3), none⟩,
  ⟨some 16, .load false 1 true (.tmp 15), none⟩,
  ⟨some 17, .len false (.tmp 16), none⟩,
  ⟨some 18, .arith .add (.tmp 17) (.cst (.int .i64 1)), none⟩,
  ⟨some 19, .toInt .u64 (.tmp 18), none⟩,
  ⟨some 20, .arith .rem (.tmp 14) (.tmp 19), none⟩,
  ⟨some 21, .toInt .i64 (.tmp 20), none⟩,
  ⟨some 22, .call .std 207 [(.tmp 12), (.tmp 21)], none⟩,
  ⟨some 7, .mov (.tmp 22), none⟩] :: K) fr S := rfl
def ref04_Crash_r2 : List POper := [
  ⟨some 23, .bsl false (.agg [.nils, (.int .i64 0)]) 0 [], none⟩,
  ⟨some 24, .faddr 1 (.tmp 3), none⟩,
  ⟨some 25, .load false 1 false (.tmp 24), none⟩,
  ⟨some 26, .app 2 32 (.tmp 23) (.tmp 25), none⟩,
  ⟨some 8, .mov (.tmp 26), none⟩]
@[simp] theorem ref04_Crash_r2_go (T : Tbl) (K : List Kt) (fr : Fr) (S : St) : gval T (.ops ref04_Crash_r2 :: K) fr S = gval T (.ops [
  ⟨some 23, .bsl false (.agg [.nils, (.int .i64 0)]) 0 [], none⟩,
  ⟨some 24, .faddr 1 (.tmp 3), none⟩,
  ⟨some 25, .load false 1 false (.tmp 24), none⟩,
  ⟨some 26, .app 2 32 (.tmp 23) (.tmp 25), none⟩,
  ⟨some 8, .mov (.tmp 26), none⟩] :: K) fr S := rfl
def ref04_Crash_r3 : List POper := [
  ⟨some 9, .mov (.cst (.int .i64 0)), none⟩]
@[simp] theorem ref04_Crash_r3_go (T : Tbl) (K : List Kt) (fr : Fr) (S : St) : gval T (.ops ref04_Crash_r3 :: K) fr S = gval T (.ops [
  ⟨some 9, .mov (.cst (.int .i64 0)), none⟩] :: K) fr S := rfl
def ref04_Crash_r4 : List POper := [
  ⟨some 27, .mov (.tmp 9), none⟩,
  ⟨some 28, .mov (.tmp 7), none⟩,
  ⟨some 29, .len false (.tmp 28), none⟩,
  ⟨some 30, .arith .lss (.tmp 27) (.tmp 29), none⟩]
@[simp] theorem ref04_Crash_r4_go (T : Tbl) (K : List Kt) (fr : Fr) (S : St) : gval T (.ops ref04_Crash_r4 :: K) fr S = gval T (.ops [
  ⟨some 27, .mov (.tmp 9), none⟩,
  ⟨some 28, .mov (.tmp 7), none⟩,
  ⟨some 29, .len false (.tmp 28), none⟩,
  ⟨some 30, .arith .lss (.tmp 27) (.tmp 29), none⟩] :: K) fr S := rfl
def ref04_Crash_r6 : List POper := [
  ⟨some 33, .mov (.tmp 8), none⟩,
  ⟨some 34, .mov (.tmp 7), none⟩,
  ⟨some 35, .mov (.tmp 9), none⟩,
  ⟨some 36, .iaddr 2 (.tmp 34) (.tmp 35), none⟩,
  ⟨some 37, .faddr 1 (.tmp 36), none⟩,
  ⟨some 38, .load false 1 false (.tmp 37), none⟩,
  ⟨some 39, .iaddr 2 (.tmp 33) (.tmp 38), none⟩,
  ⟨some 40, .load true 2 false (.tmp 39), none⟩,
  ⟨some 10, .alloc false [.nils, (.int .i64 0)], none⟩,
  ⟨none, .store 2 (.tmp 10) (.tmp 40), none⟩]
@[simp] theorem ref04_Crash_r6_go (T : Tbl) (K : List Kt) (fr : Fr) (S : St) : gval T (.ops ref04_Crash_r6 :: K) fr S = gval T (.ops [
  ⟨some 33, .mov (.tmp 8), none⟩,
  ⟨some 34, .mov (.tmp 7), none⟩,
  ⟨some 35, .mov (.tmp 9), none⟩,
  ⟨some 36, .iaddr 2 (.tmp 34) (.tmp 35), none⟩,
  ⟨some 37, .faddr 1 (.tmp 36), none⟩,
  ⟨some 38, .load false 1 false (.tmp 37), none⟩,
  ⟨some 39, .iaddr 2 (.tmp 33) (.tmp 38), none⟩,
  ⟨some 40, .load true 2 false (.tmp 39), none⟩,
  ⟨some 10, .alloc false [.nils, (.int .i64 0)], none⟩,
  ⟨none, .store 2 (.tmp 10) (.tmp 40), none⟩] :: K) fr S := rfl
def ref04_Crash_r7 : List POper := [
  ⟨some 11, .mov (.cst (.int .i64 0)), none⟩]
@[simp] theorem ref04_Crash_r7_go (T : Tbl) (K : List Kt) (fr : Fr) (S : St) : gval T (.ops ref04_Crash_r7 :: K) fr S = gval T (.ops [
  ⟨some 11, .mov (.cst (.int .i64 0)), none⟩] :: K) fr S := rfl
def ref04_Crash_r8 : List POper := [
  ⟨some 41, .mov (.tmp 9), none⟩,
  ⟨some 42, .mov (.tmp 2), none⟩,
  ⟨some 43, .len false (.tmp 42), none⟩,
  ⟨some 44, .arith .lss (.tmp 41) (.tmp 43), none⟩]
@[simp] theorem ref04_Crash_r8_go (T : Tbl) (K : List Kt) (fr : Fr) (S : St) : gval T (.ops ref04_Crash_r8 :: K) fr S = gval T (.ops [
  ⟨some 41, .mov (.tmp 9), none⟩,
  ⟨some 42, .mov (.tmp 2), none⟩,
  ⟨some 43, .len false (.tmp 42), none⟩,
  ⟨some 44, .arith .lss (.tmp 41) (.tmp 43), none⟩] :: K) fr S := rfl
def ref04_Crash_r9 : List POper := [
  ⟨some 45, .mov (.tmp 2), none⟩,
  ⟨some 46, .mov (.tmp 9), none⟩,
  ⟨some 47, .iaddr 1 (.tmp 45) (.tmp 46), none⟩,
  ⟨some 48, .load false 1 true (.tmp 47), none⟩,
  ⟨some 49, .toInt .u64 (.tmp 48), none⟩,
  ⟨some 50, .faddr 0 (.tmp 10), none⟩,
  ⟨some 51, .load false 1 false (.tmp 50), none⟩,
  ⟨some 52, .len false (.tmp 51), none⟩,
  ⟨some 53, .faddr 1 (.tmp 10), none⟩,
  ⟨some 54, .load false 1 false (.tmp 53), none⟩,
  ⟨some 55, .arith .sub (.tmp 52) (.tmp 54), none⟩,
  ⟨some 56, .arith .add (.tmp 55) (.cst (.int .i64 1)), none⟩,
  ⟨some 57, .toInt .u64 (.tmp 56), none⟩,
  ⟨some 58, .arith .rem (.tmp 49) (.tmp 57), none⟩,
  ⟨some 59, .toInt .i64 (.tmp 58), none⟩,
  ⟨some 11, .mov (.tmp 59), none⟩]
@[simp] theorem ref04_Crash_r9_go (T : Tbl) (K : List Kt) (fr : Fr) (S : St) : gval T (.ops ref04_Crash_r9 :: K) fr S = gval T (.ops [
  ⟨some 45, .mov (.tmp 2), none⟩,
  ⟨some 46, .mov (.tmp 9), none⟩,
  ⟨some 47, .iaddr 1 (.tmp 45) (.tmp 46), none⟩,
  ⟨some 48, .load false 1 true (.tmp 47), none⟩,
  ⟨some 49, .toInt .u64 (.tmp 48), none⟩,
  ⟨some 50, .faddr 0 (.tmp 10), none⟩,
  ⟨some 51, .load false 1 false (.tmp 50), none⟩,
  ⟨some 52, .len false (.tmp 51), none⟩,
  ⟨some 53, .faddr 1 (.tmp 10), none⟩,
  ⟨some 54, .load false 1 false (.tmp 53), none⟩,
  ⟨some 55, .arith .sub (.tmp 52) (.tmp 54), none⟩,
  ⟨some 56, .arith .add (.tmp 55) (.cst (.int .i64 1)), none⟩,
  ⟨some 57, .toInt .u64 (.tmp 56), none⟩,
  ⟨some 58, .arith .rem (.tmp 49) (.tmp 57), none⟩,
  ⟨some 59, .toInt .i64 (.tmp 58), none⟩,
  ⟨some 11, .mov (.tmp 59), none⟩] :: K) fr S := rfl
def ref04_Crash_r10 : List POper := [
  ⟨some 60, .mov (.tmp 8), none⟩,
  ⟨some 61, .mov (.tmp 7), none⟩,
  ⟨some 62, .mov (.tmp 9), none⟩,
  ⟨some 63, .iaddr 2 (.tmp 61) (.tmp 62), none⟩,
  ⟨some 64, .faddr 1 (.tmp 63), none⟩,
  ⟨some 65, .load false 1 true (.tmp 64), none⟩,
  ⟨some 66, .faddr 0 (.tmp 10), none⟩,
  ⟨some 67, .load false 1 false (.tmp 66), none⟩,
  ⟨some 68, .faddr 1 (.tmp 10), none⟩,
  ⟨some 69, .load false 1 false (.tmp 68), none⟩,
  ⟨some 70, .mov (.tmp 11), none⟩,
  ⟨some 71, .arith .add (.tmp 69) (.tmp 70), none⟩,
  ⟨some 72, .slc 1 none (some (.tmp 71)) (.tmp 67), none⟩,
  ⟨some 73, .faddr 1 (.tmp 10), none⟩,
  ⟨some 74, .load false 1 false (.tmp 73), none⟩,
  ⟨some 75, .mov (.tmp 11), none⟩,
  ⟨some 76, .arith .add (.tmp 74) (.tmp 75), none⟩,
  ⟨some 77, .build [.nils, (.int .i64 0)] [(0, 1, (.tmp 72)), (1, 1, (.tmp 76))], none⟩,
  ⟨some 78, .iaddr 2 (.tmp 60) (.tmp 65), none⟩,
  ⟨none, .store 2 (.tmp 78) (.tmp 77), none⟩]
@[simp] theorem ref04_Crash_r10_go (T : Tbl) (K : List Kt) (fr : Fr) (S : St) : gval T (.ops ref04_Crash_r10 :: K) fr S = gval T (.ops [
  ⟨some 60, .mov (.tmp 8), none⟩,
  ⟨some 61, .mov (.tmp 7), none⟩,
  ⟨some 62, .mov (.tmp 9), none⟩,
  ⟨some 63, .iaddr 2 (.tmp 61) (.tmp 62), none⟩,
  ⟨some 64, .faddr 1 (.tmp 63), none⟩,
  ⟨some 65, .load false 1 true (.tmp 64), none⟩,
  ⟨some 66, .faddr 0 (.tmp 10), none⟩,
  ⟨some 67, .load false 1 false (.tmp 66), none⟩,
  ⟨some 68, .faddr 1 (.tmp 10), none⟩,
  ⟨some 69, .load false 1 false (.tmp 68), none⟩,
  ⟨some 70, .mov (.tmp 11), none⟩,
  ⟨some 71, .arith .add (.tmp 69) (.tmp 70), none⟩,
  ⟨some 72, .slc 1 none (some (.tmp 71)) (.tmp 67), none⟩,
  ⟨some 73, .faddr 1 (.tmp 10), none⟩,
  ⟨some 74, .load false 1 false (.tmp 73), none⟩,
  ⟨some 75, .mov (.tmp 11), none⟩,
  ⟨some 76, .arith .add (.tmp 74) (.tmp 75), none⟩,
  ⟨some 77, .build [.nils, (.int .i64 0)] [(0, 1, (.tmp 72)), (1, 1, (.tmp 76))], none⟩,
  ⟨some 78, .iaddr 2 (.tmp 60) (.tmp 65), none⟩,
  ⟨none, .store 2 (.tmp 78) (.tmp 77), none⟩] :: K) fr S := rfl
def ref04_Crash_r5 : List POper := [
  ⟨some 31, .mov (.tmp 9), none⟩,
  ⟨some 32, .arith .add (.tmp 31) (.cst (.int .i64 1)), none⟩,
  ⟨some 9, .mov (.tmp 32), none⟩]
@[simp] theorem ref04_Crash_r5_go (T : Tbl) (K : List Kt) (fr : Fr) (S : St) : gval T (.ops ref04_Crash_r5 :: K) fr S = gval T (.ops [
  ⟨some 31, .mov (.tmp 9), none⟩,
  ⟨some 32, .arith .add (.tmp 31) (.cst (.int .i64 1)), none⟩,
  ⟨some 9, .mov (.tmp 32), none⟩] :: K) fr S := rfl
def ref04_Crash_l0 : PCode :=
  (.seq (.seq (.clr [(27, 30)] (.region ref04_Crash_r4)) (.cond (.tmp 30) .skip (.exit 0))) (.seq (.block 1 (.seq (.clr [(33, 41)] (.region ref04_Crash_r6)) (.seq (.region ref04_Crash_r7) (.seq (.seq (.clr [(41, 44)] (.region ref04_Crash_r8)) (.cond (.tmp 44) (.clr [(45, 60)] (.region ref04_Crash_r9)) .skip)) (.clr [(60, 79)] (.region ref04_Crash_r10)))))) (.clr [(31, 33)] (.region ref04_Crash_r5))))
@[simp] theorem ref04_Crash_l0_go (T : Tbl) (K : List Kt) (fr : Fr) (S : St) : gval T (.code ref04_Crash_l0 :: K) fr S = gval T (.code (.seq (.seq (.clr [(27, 30)] (.region ref04_Crash_r4)) (.cond (.tmp 30) .skip (.exit 0))) (.seq (.block 1 (.seq (.clr [(33, 41)] (.region ref04_Crash_r6)) (.seq (.region ref04_Crash_r7) (.seq (.seq (.clr [(41, 44)] (.region ref04_Crash_r8)) (.cond (.tmp 44) (.clr [(45, 60)] (.region ref04_Crash_r9)) .skip)) (.clr [(60, 79)] (.region ref04_Crash_r10)))))) (.clr [(31, 33)] (.region ref04_Crash_r5)))) :: K) fr S := rfl
def ref04_Crash_r11 : List POper := [
  ⟨some 79, .faddr 0 (.tmp 3), none⟩,
  ⟨some 80, .load false 1 false (.tmp 79), none⟩,
  ⟨some 81, .mov (.tmp 8), none⟩,
  ⟨some 82, .mov (.tmp 7), none⟩,
  ⟨some 83, .faddr 6 (.tmp 3), none⟩,
  ⟨some 84, .load false 1 false (.tmp 83), none⟩,
  ⟨some 85, .build [(.int .i64 0), .nils, .nils, .nils, (.int .i64 0), (.bool false), (.int .i64 0)] [(0, 1, (.tmp 80)), (1, 1, (.tmp 81)), (2, 1, (.tmp 82)), (4, 1, (.cst (.int .i64 (-1)))), (6, 1, (.tmp 84))], none⟩,
  ⟨none, .store 7 (.tmp 6) (.tmp 85), none⟩]
@[simp] theorem ref04_Crash_r11_go (T : Tbl) (K : List Kt) (fr : Fr) (S : St) : gval T (.ops ref04_Crash_r11 :: K) fr S = gval T (.ops [
  ⟨some 79, .faddr 0 (.tmp 3), none⟩,
  ⟨some 80, .load false 1 false (.tmp 79), none⟩,
  ⟨some 81, .mov (.tmp 8), none⟩,
  ⟨some 82, .mov (.tmp 7), none⟩,
  ⟨some 83, .faddr 6 (.tmp 3), none⟩,
  ⟨some 84, .load false 1 false (.tmp 83), none⟩,
  ⟨some 85, .build [(.int .i64 0), .nils, .nils, .nils, (.int .i64 0), (.bool false), (.int .i64 0)] [(0, 1, (.tmp 80)), (1, 1, (.tmp 81)), (2, 1, (.tmp 82)), (4, 1, (.cst (.int .i64 (-1)))), (6, 1, (.tmp 84))], none⟩,
  ⟨none, .store 7 (.tmp 6) (.tmp 85), none⟩] :: K) fr S := rfl
def ref04_Crash : PCodeFn :=
  ⟨3, [.cell 6 true 7],
  (.seq (.region ref04_Crash_r0) (.seq (.clr [(12, 23)] (.region ref04_Crash_r1)) (.seq (.clr [(23, 27)] (.region ref04_Crash_r2)) (.seq (.seq (.region ref04_Crash_r3) (.block 0 (.loop ref04_Crash_l0))) (.seq (.clr [(79, 86)] (.region ref04_Crash_r11)) .ret))))), false⟩

/-! gauge/gaugeref04.List: 92 -/
def ref04_List_r0 : List POper := [
  ⟨some 1, .box true (.tmp 0), none⟩,
  ⟨some 2, .mov (.cst .nils), none⟩]
@[simp] theorem ref04_List_r0_go (T : Tbl) (K : List Kt) (fr : Fr) (S : St) : gval T (.ops ref04_List_r0 :: K) fr S = gval T (.ops [
  ⟨some 1, .box true (.tmp 0), none⟩,
  ⟨some 2, .mov (.cst .nils), none⟩] :: K) fr S := rfl
def ref04_List_r1 : List POper := [
  ⟨some 3, .mov (.cst .nils), none⟩]
@[simp] theorem ref04_List_r1_go (T : Tbl) (K : List Kt) (fr : Fr) (S : St) : gval T (.ops ref04_List_r1 :: K) fr S = gval T (.ops [
  ⟨some 3, .mov (.cst .nils), none⟩] :: K) fr S := rfl
def ref04_List_r2 : List POper := [
  ⟨some 6, .load true 7 false (.tmp 1), none⟩,
  ⟨some 7, .call .std 204 [(.tmp 6)], none⟩,
  ⟨some 4, .mov (.tmp 7), none⟩]
@[simp] theorem ref04_List_r2_go (T : Tbl) (K : List Kt) (fr : Fr) (S : St) : gval T (.ops ref04_List_r2 :: K) fr S = gval T (.ops [
  ⟨some 6, .load true 7 false (.tmp 1), none⟩,
  ⟨some 7, .call .std 204 [(.tmp 6)], none⟩,
  ⟨some 4, .mov (.tmp 7), none⟩] :: K) fr S := rfl
def ref04_List_r3 : List POper := [
  ⟨some 5, .mov (.cst (.int .i64 0)), none⟩]
@[simp] theorem ref04_List_r3_go (T : Tbl) (K : List Kt) (fr : Fr) (S : St) : gval T (.ops ref04_List_r3 :: K) fr S = gval T (.ops [
  ⟨some 5, .mov (.cst (.int .i64 0)), none⟩] :: K) fr S := rfl
def ref04_List_r4 : List POper := [
  ⟨some 8, .mov (.tmp 5), none⟩,
  ⟨some 9, .mov (.tmp 4), none⟩,
  ⟨some 10, .len false (.tmp 9), none⟩,
  ⟨some 11, .arith .lss (.tmp 8) (.tmp 10), none⟩,
  ⟨some 12, .mov (.tmp 11), none⟩,
  ⟨some 13, .faddr 5 (.tmp 1), some (12, true)⟩,
  ⟨some 14, .load false 1 false (.tmp 13), some (12, true)⟩,
  ⟨some 15, .un .not (.tmp 14), some (12, true)⟩,
  ⟨some 16, .pick (.tmp 12) (.tmp 15) (.cst (.bool false)), none⟩]
@[simp] theorem ref04_List_r4_go (T : Tbl) (K : List Kt) (fr : Fr) (S : St) : gval T (.ops ref04_List_r4 :: K) fr S = gval T (.ops [
  ⟨some 8, .mov (.tmp 5), none⟩,
  ⟨some 9, .mov (.tmp 4), none⟩,
  ⟨some 10, .len false (.tmp 9), none⟩,
  ⟨some 11, .arith .lss (.tmp 8) (.tmp 10), none⟩,
  ⟨some 12, .mov (.tmp 11), none⟩,
  ⟨some 13, .faddr 5 (.tmp 1), some (12, true)⟩,
  ⟨some 14, .load false 1 false (.tmp 13), some (12, true)⟩,
  ⟨some 15, .un .not (.tmp 14), some (12, true)⟩,
  ⟨some 16, .pick (.tmp 12) (.tmp 15) (.cst (.bool false)), none⟩] :: K) fr S := rfl
def ref04_List_r6 : List POper := [
  ⟨some 19, .mov (.tmp 3), none⟩,
  ⟨some 20, .mov (.tmp 4), none⟩,
  ⟨some 21, .mov (.tmp 5), none⟩,
  ⟨some 22, .iaddr 2 (.tmp 20) (.tmp 21), none⟩,
  ⟨some 23, .faddr 0 (.tmp 22), none⟩,
  ⟨some 24, .load false 1 false (.tmp 23), none⟩,
  ⟨some 25, .bsl false (.str []) 1 [(0, (.tmp 24))], none⟩,
  ⟨some 26, .app 1 16 (.tmp 19) (.tmp 25), none⟩,
  ⟨some 3, .mov (.tmp 26), none⟩]
@[simp] theorem ref04_List_r6_go (T : Tbl) (K : List Kt) (fr : Fr) (S : St) : gval T (.ops ref04_List_r6 :: K) fr S = gval T (.ops [
  ⟨some 19, .mov (.tmp 3), none⟩,
  ⟨some 20, .mov (.tmp 4), none⟩,
  ⟨some 21, .mov (.tmp 5), none⟩,
  ⟨some 22, .iaddr 2 (.tmp 20) (.tmp 21), none⟩,
  ⟨some 23, .faddr 0 (.tmp 22), none⟩,
  ⟨some 24, .load false 1 false (.tmp 23), none⟩,
  ⟨some 25, .bsl false (.str []) 1 [(0, (.tmp 24))], none⟩,
  ⟨some 26, .app 1 16 (.tmp 19) (.tmp 25), none⟩,
  ⟨some 3, .mov (.tmp 26), none⟩] :: K) fr S := rfl
def ref04_List_r5 : List POper := [
  ⟨some 17, .mov (.tmp 5), none⟩,
  ⟨some 18, .arith .add (.tmp 17) (.cst (.int .i64 1)), none⟩,
  ⟨some 5, .mov (.tmp 18), none⟩]
@[simp] theorem ref04_List_r5_go (T : Tbl) (K : List Kt) (fr : Fr) (S : St) : gval T (.ops ref04_List_r5 :: K) fr S = gval T (.ops [
  ⟨some 17, .mov (.tmp 5), none⟩,
  ⟨some 18, .arith .add (.tmp 17) (.cst (.int .i64 1)), none⟩,
  ⟨some 5, .mov (.tmp 18), none⟩] :: K) fr S := rfl
def ref04_List_l0 : PCode :=
  (.seq (.seq (.clr [(8, 16)] (.region ref04_List_r4)) (.cond (.tmp 16) .skip (.exit 0))) (.seq (.block 1 (.clr [(19, 27)] (.region ref04_List_r6))) (.clr [(17, 19)] (.region ref04_List_r5))))
@[simp] theorem ref04_List_l0_go (T : Tbl) (K : List Kt) (fr : Fr) (S : St) : gval T (.code ref04_List_l0 :: K) fr S = gval T (.code (.seq (.seq (.clr [(8, 16)] (.region ref04_List_r4)) (.cond (.tmp 16) .skip (.exit 0))) (.seq (.block 1 (.clr [(19, 27)] (.region ref04_List_r6))) (.clr [(17, 19)] (.region ref04_List_r5)))) :: K) fr S := rfl
def ref04_List_r7 : List POper := [
  ⟨some 27, .mov (.tmp 3), none⟩,
  ⟨some 2, .mov (.tmp 27), none⟩]
@[simp] theorem ref04_List_r7_go (T : Tbl) (K : List Kt) (fr : Fr) (S : St) : gval T (.ops ref04_List_r7 :: K) fr S = gval T (.ops [
  ⟨some 27, .mov (.tmp 3), none⟩,
  ⟨some 2, .mov (.tmp 27), none⟩] :: K) fr S := rfl
def ref04_List : PCodeFn :=
  ⟨1, [.tmp 2],
  (.seq (.region ref04_List_r0) (.seq (.region ref04_List_r1) (.seq (.clr [(6, 8)] (.region ref04_List_r2)) (.seq (.seq (.region ref04_List_r3) (.block 0 (.loop ref04_List_l0))) (.seq (.clr [(27, 28)] (.region ref04_List_r7)) .ret))))), false⟩

/-! (*gauge/disk.Disk).Copy.1: 463 -/
def disk_Disk_Copy_1_r0 : List POper := [
  ⟨some 3, .mov (.cst .nilp), none⟩]
@[simp] theorem disk_Disk_Copy_1_r0_go (T : Tbl) (K : List Kt) (fr : Fr) (S : St) : gval T (.ops disk_Disk_Copy_1_r0 :: K) fr S = gval T (.ops [
  ⟨some 3, .mov (.cst .nilp), none⟩] :: K) fr S := rfl
def disk_Disk_Copy_1_r1 : List POper := [
  ⟨some 4, .mov (.tmp 0), none⟩,
  ⟨some 5, .eqn false .p (.tmp 4), none⟩]
@[simp] theorem disk_Disk_Copy_1_r1_go (T : Tbl) (K : List Kt) (fr : Fr) (S : St) : gval T (.ops disk_Disk_Copy_1_r1 :: K) fr S = gval T (.ops [
  ⟨some 4, .mov (.tmp 0), none⟩,
  ⟨some 5, .eqn false .p (.tmp 4), none⟩] :: K) fr S := rfl
def disk_Disk_Copy_1_r2 : List POper := [
  ⟨some 3, .mov (.cst .nilp), none⟩]
@[simp] theorem disk_Disk_Copy_1_r2_go (T : Tbl) (K : List Kt) (fr : Fr) (S : St) : gval T (.ops disk_Disk_Copy_1_r2 :: K) fr S = gval T (.ops [
  ⟨some 3, .mov (.cst .nilp), none⟩] :: K) fr S := rfl
def disk_Disk_Copy_1 : PCodeFn :=
  ⟨2, [.tmp 3],
  (.seq (.region disk_Disk_Copy_1_r0) (.seq (.seq (.clr [(4, 5)] (.region disk_Disk_Copy_1_r1)) (.cond (.tmp 5) (.seq (.region disk_Disk_Copy_1_r2) .ret) .skip)) (.seq (.seq .bad (.cond (.tmp 9) .bad .skip)) (.seq .bad .ret)))), false⟩

/-! (*gauge/disk.Disk).Copy.2: 464 -/
def disk_Disk_Copy_2_r0 : List POper := [
  ⟨some 3, .mov (.cst .nilm), none⟩]
@[simp] theorem disk_Disk_Copy_2_r0_go (T : Tbl) (K : List Kt) (fr : Fr) (S : St) : gval T (.ops disk_Disk_Copy_2_r0 :: K) fr S = gval T (.ops [
  ⟨some 3, .mov (.cst .nilm), none⟩] :: K) fr S := rfl
def disk_Disk_Copy_2_r1 : List POper := [
  ⟨some 7, .mkm, none⟩,
  ⟨some 4, .mov (.tmp 7), none⟩]
@[simp] theorem disk_Disk_Copy_2_r1_go (T : Tbl) (K : List Kt) (fr : Fr) (S : St) : gval T (.ops disk_Disk_Copy_2_r1 :: K) fr S = gval T (.ops [
  ⟨some 7, .mkm, none⟩,
  ⟨some 4, .mov (.tmp 7), none⟩] :: K) fr S := rfl
def disk_Disk_Copy_2_r5 : List POper := [
  ⟨some 15, .mov (.tmp 4), none⟩,
  ⟨some 16, .mov (.tmp 5), none⟩,
  ⟨some 17, .load false 1 false (.tmp 1), none⟩,
  ⟨some 18, .mov (.tmp 6), none⟩,
  ⟨some 19, .callv .std (.tmp 17) [(.tmp 18)], none⟩,
  ⟨none, .mset true (.tmp 15) (.tmp 16) (.tmp 19), none⟩]
@[simp] theorem disk_Disk_Copy_2_r5_go (T : Tbl) (K : List Kt) (fr : Fr) (S : St) : gval T (.ops disk_Disk_Copy_2_r5 :: K) fr S = gval T (.ops [
  ⟨some 15, .mov (.tmp 4), none⟩,
  ⟨some 16, .mov (.tmp 5), none⟩,
  ⟨some 17, .load false 1 false (.tmp 1), none⟩,
  ⟨some 18, .mov (.tmp 6), none⟩,
  ⟨some 19, .callv .std (.tmp 17) [(.tmp 18)], none⟩,
  ⟨none, .mset true (.tmp 15) (.tmp 16) (.tmp 19), none⟩] :: K) fr S := rfl
def disk_Disk_Copy_2_l0 : PCode :=
  (.seq .bad (.seq (.cond (.tmp 11) .skip (.exit 0)) (.block 1 (.seq .bad (.clr [(15, 20)] (.region disk_Disk_Copy_2_r5))))))
@[simp] theorem disk_Disk_Copy_2_l0_go (T : Tbl) (K : List Kt) (fr : Fr) (S : St) : gval T (.code disk_Disk_Copy_2_l0 :: K) fr S = gval T (.code (.seq .bad (.seq (.cond (.tmp 11) .skip (.exit 0)) (.block 1 (.seq .bad (.clr [(15, 20)] (.region disk_Disk_Copy_2_r5)))))) :: K) fr S := rfl
def disk_Disk_Copy_2_r6 : List POper := [
  ⟨some 20, .mov (.tmp 4), none⟩,
  ⟨some 3, .mov (.tmp 20), none⟩]
@[simp] theorem disk_Disk_Copy_2_r6_go (T : Tbl) (K : List Kt) (fr : Fr) (S : St) : gval T (.ops disk_Disk_Copy_2_r6 :: K) fr S = gval T (.ops [
  ⟨some 20, .mov (.tmp 4), none⟩,
  ⟨some 3, .mov (.tmp 20), none⟩] :: K) fr S := rfl
def disk_Disk_Copy_2 : PCodeFn :=
  ⟨2, [.tmp 3],
  (.seq (.region disk_Disk_Copy_2_r0) (.seq (.clr [(7, 8)] (.region disk_Disk_Copy_2_r1)) (.seq (.seq .bad (.block 0 (.loop disk_Disk_Copy_2_l0))) (.seq (.clr [(20, 21)] (.region disk_Disk_Copy_2_r6)) .ret)))), false⟩

/-! gauge/gaugeref04.Named: 203 -/
def ref04_Named_r0 : List POper := [
  ⟨some 2, .mov (.cst (.bool false)), none⟩]
@[simp] theorem ref04_Named_r0_go (T : Tbl) (K : List Kt) (fr : Fr) (S : St) : gval T (.ops ref04_Named_r0 :: K) fr S = gval T (.ops [
  ⟨some 2, .mov (.cst (.bool false)), none⟩] :: K) fr S := rfl
def ref04_Named_r1 : List POper := [
  ⟨some 3, .mov (.cst (.int .i64 0)), none⟩]
@[simp] theorem ref04_Named_r1_go (T : Tbl) (K : List Kt) (fr : Fr) (S : St) : gval T (.ops ref04_Named_r1 :: K) fr S = gval T (.ops [
  ⟨some 3, .mov (.cst (.int .i64 0)), none⟩] :: K) fr S := rfl
def ref04_Named_r2 : List POper := [
  ⟨some 5, .mov (.tmp 3), none⟩,
  ⟨some 6, .mov (.tmp 0), none⟩,
  ⟨some 7, .len true (.tmp 6), none⟩,
  ⟨some 8, .arith .lss (.tmp 5) (.tmp 7), none⟩]
@[simp] theorem ref04_Named_r2_go (T : Tbl) (K : List Kt) (fr : Fr) (S : St) : gval T (.ops ref04_Named_r2 :: K) fr S = gval T (.ops [
  ⟨some 5, .mov (.tmp 3), none⟩,
  ⟨some 6, .mov (.tmp 0), none⟩,
  ⟨some 7, .len true (.tmp 6), none⟩,
  ⟨some 8, .arith .lss (.tmp 5) (.tmp 7), none⟩] :: K) fr S := rfl
def ref04_Named_r4 : List POper := [
  ⟨some 11, .mov (.tmp 0), none⟩,
  ⟨some 12, .mov (.tmp 3), none⟩,
  ⟨some 13, .idxs (.tmp 11) (.tmp 12), none⟩,
  ⟨some 4, .mov (.tmp 13), none⟩]
@[simp] theorem ref04_Named_r4_go (T : Tbl) (K : List Kt) (fr : Fr) (S : St) : gval T (.ops ref04_Named_r4 :: K) fr S = gval T (.ops [
  ⟨some 11, .mov (.tmp 0), none⟩,
  ⟨some 12, .mov (.tmp 3), none⟩,
  ⟨some 13, .idxs (.tmp 11) (.tmp 12), none⟩,
  ⟨some 4, .mov (.tmp 13), none⟩] :: K) fr S := rfl
def ref04_Named_r5 : List POper := [
  ⟨some 14, .mov (.tmp 4), none⟩,
  ⟨some 15, .arith .lss (.tmp 14) (.cst (.int .u8 97)), none⟩,
  ⟨some 16, .mov (.tmp 15), none⟩,
  ⟨some 17, .mov (.tmp 4), some (16, false)⟩,
  ⟨some 18, .arith .gtr (.tmp 17) (.cst (.int .u8 122)), some (16, false)⟩,
  ⟨some 19, .pick (.tmp 16) (.cst (.bool true)) (.tmp 18), none⟩,
  ⟨some 20, .mov (.tmp 19), none⟩,
  ⟨some 21, .mov (.tmp 4), some (20, true)⟩,
  ⟨some 22, .arith .lss (.tmp 21) (.cst (.int .u8 48)), some (20, true)⟩,
  ⟨some 23, .mov (.tmp 22), some (20, true)⟩,
  ⟨some 24, .mov (.tmp 4), some (23, false)⟩,
  ⟨some 25, .arith .gtr (.tmp 24) (.cst (.int .u8 57)), some (23, false)⟩,
  ⟨some 26, .pick (.tmp 23) (.cst (.bool true)) (.tmp 25), some (20, true)⟩,
  ⟨some 27, .pick (.tmp 20) (.tmp 26) (.cst (.bool false)), none⟩,
  ⟨some 28, .mov (.tmp 27), none⟩,
  ⟨some 29, .mov (.tmp 4), some (28, true)⟩,
  ⟨some 30, .arith .neq (.tmp 29) (.cst (.int .u8 46)), some (28, true)⟩,
  ⟨some 31, .pick (.tmp 28) (.tmp 30) (.cst (.bool false)), none⟩,
  ⟨some 32, .mov (.tmp 31), none⟩,
  ⟨some 33, .mov (.tmp 4), some (32, true)⟩,
  ⟨some 34, .arith .neq (.tmp 33) (.cst (.int .u8 45)), some (32, true)⟩,
  ⟨some 35, .pick (.tmp 32) (.tmp 34) (.cst (.bool false)), none⟩]
@[simp] theorem ref04_Named_r5_go (T : Tbl) (K : List Kt) (fr : Fr) (S : St) : gval T (.ops ref04_Named_r5 :: K) fr S = gval T (.ops [
  ⟨some 14, .mov (.tmp 4), none⟩,
  ⟨some 15, .arith .lss (.tmp 14) (.cst (.int .u8 97)), none⟩,
  ⟨some 16, .mov (.tmp 15), none⟩,
  ⟨some 17, .mov (.tmp 4), some (16, false)⟩,
  ⟨some 18, .arith .gtr (.tmp 17) (.cst (.int .u8 122)), some (16, false)⟩,
  ⟨some 19, .pick (.tmp 16) (.cst (.bool true)) (.tmp 18), none⟩,
  ⟨some 20, .mov (.tmp 19), none⟩,
  ⟨some 21, .mov (.tmp 4), some (20, true)⟩,
  ⟨some 22, .arith .lss (.tmp 21) (.cst (.int .u8 48)), some (20, true)⟩,
  ⟨some 23, .mov (.tmp 22), some (20, true)⟩,
  ⟨some 24, .mov (.tmp 4), some (23, false)⟩,
  ⟨some 25, .arith .gtr (.tmp 24) (.cst (.int .u8 57)), some (23, false)⟩,
  ⟨some 26, .pick (.tmp 23) (.cst (.bool true)) (.tmp 25), some (20, true)⟩,
  ⟨some 27, .pick (.tmp 20) (.tmp 26) (.cst (.bool false)), none⟩,
  ⟨some 28, .mov (.tmp 27), none⟩,
  ⟨some 29, .mov (.tmp 4), some (28, true)⟩,
  ⟨some 30, .arith .neq (.tmp 29) (.cst (.int .u8 46)), some (28, true)⟩,
  ⟨some 31, .pick (.tmp 28) (.tmp 30) (.cst (.bool false)), none⟩,
  ⟨some 32, .mov (.tmp 31), none⟩,
  ⟨some 33, .mov (.tmp 4), some (32, true)⟩,
  ⟨some 34, .arith .neq (.tmp 33) (.cst (.int .u8 45)), some (32, true)⟩,
  ⟨some 35, .pick (.tmp 32) (.tmp 34) (.cst (.bool false)), none⟩] :: K) fr S := rfl
def ref04_Named_r6 : List POper := [
  ⟨some 2, .mov (.cst (.bool false)), none⟩]
@[simp] theorem ref04_Named_r6_go (T : Tbl) (K : List Kt) (fr : Fr) (S : St) : gval T (.ops ref04_Named_r6 :: K) fr S = gval T (.ops [
  ⟨some 2, .mov (.cst (.bool false)), none⟩] :: K) fr S := rfl
def ref04_Named_r3 : List POper := [
  ⟨some 9, .mov (.tmp 3), none⟩,
  ⟨some 10, .arith .add (.tmp 9) (.cst (.int .i64 1)), none⟩,
  ⟨some 3, .mov (.tmp 10), none⟩]
@[simp] theorem ref04_Named_r3_go (T : Tbl) (K : List Kt) (fr : Fr) (S : St) : gval T (.ops ref04_Named_r3 :: K) fr S = gval T (.ops [
  ⟨some 9, .mov (.tmp 3), none⟩,
  ⟨some 10, .arith .add (.tmp 9) (.cst (.int .i64 1)), none⟩,
  ⟨some 3, .mov (.tmp 10), none⟩] :: K) fr S := rfl
def ref04_Named_l0 : PCode :=
  (.seq (.seq (.clr [(5, 8)] (.region ref04_Named_r2)) (.cond (.tmp 8) .skip (.exit 0))) (.seq (.block 1 (.seq (.clr [(11, 14)] (.region ref04_Named_r4)) (.seq (.clr [(14, 35)] (.region ref04_Named_r5)) (.cond (.tmp 35) (.seq (.region ref04_Named_r6) .ret) .skip)))) (.clr [(9, 11)] (.region ref04_Named_r3))))
@[simp] theorem ref04_Named_l0_go (T : Tbl) (K : List Kt) (fr : Fr) (S : St) : gval T (.code ref04_Named_l0 :: K) fr S = gval T (.code (.seq (.seq (.clr [(5, 8)] (.region ref04_Named_r2)) (.cond (.tmp 8) .skip (.exit 0))) (.seq (.block 1 (.seq (.clr [(11, 14)] (.region ref04_Named_r4)) (.seq (.clr [(14, 35)] (.region ref04_Named_r5)) (.cond (.tmp 35) (.seq (.region ref04_Named_r6) .ret) .skip)))) (.clr [(9, 11)] (.region ref04_Named_r3)))) :: K) fr S := rfl
def ref04_Named_r7 : List POper := [
  ⟨some 36, .mov (.tmp 0), none⟩,
  ⟨some 37, .arith .neq (.tmp 36) (.cst (.str [])), none⟩,
  ⟨some 38, .mov (.tmp 37), none⟩,
  ⟨some 39, .mov (.tmp 0), some (38, true)⟩,
  ⟨some 40, .len true (.tmp 39), some (38, true)⟩,
  ⟨some 41, .arith .leq (.tmp 40) (.cst (.int .i64 24)), some (38, true)⟩,
  ⟨some 42, .pick (.tmp 38) (.tmp 41) (.cst (.bool false)), none⟩,
  ⟨some 2, .mov (.tmp 42), none⟩]
@[simp] theorem ref04_Named_r7_go (T : Tbl) (K : List Kt) (fr : Fr) (S : St) : gval T (.ops ref04_Named_r7 :: K) fr S = gval T (.ops [
  ⟨some 36, .mov (.tmp 0), none⟩,
  ⟨some 37, .arith .neq (.tmp 36) (.cst (.str [])), none⟩,
  ⟨some 38, .mov (.tmp 37), none⟩,
  ⟨some 39, .mov (.tmp 0), some (38, true)⟩,
  ⟨some 40, .len true (.tmp 39), some (38, true)⟩,
  ⟨some 41, .arith .leq (.tmp 40) (.cst (.int .i64 24)), some (38, true)⟩,
  ⟨some 42, .pick (.tmp 38) (.tmp 41) (.cst (.bool false)), none⟩,
  ⟨some 2, .mov (.tmp 42), none⟩] :: K) fr S := rfl
def ref04_Named : PCodeFn :=
  ⟨1, [.tmp 2],
  (.seq (.region ref04_Named_r0) (.seq (.seq (.region ref04_Named_r1) (.block 0 (.loop ref04_Named_l0))) (.seq (.clr [(36, 43)] (.region ref04_Named_r7)) .ret))), false⟩

/-! gauge/gaugeref04.Live: 204 -/
def ref04_Live_r0 : List POper := [
  ⟨some 1, .box true (.tmp 0), none⟩,
  ⟨some 2, .mov (.cst .nils), none⟩]
@[simp] theorem ref04_Live_r0_go (T : Tbl) (K : List Kt) (fr : Fr) (S : St) : gval T (.ops ref04_Live_r0 :: K) fr S = gval T (.ops [
  ⟨some 1, .box true (.tmp 0), none⟩,
  ⟨some 2, .mov (.cst .nils), none⟩] :: K) fr S := rfl
def ref04_Live_r1 : List POper := [
  ⟨some 3, .load true 7 false (.tmp 1), none⟩,
  ⟨some 4, .faddr 3 (.tmp 1), none⟩,
  ⟨some 5, .load false 1 false (.tmp 4), none⟩,
  ⟨some 6, .len false (.tmp 5), none⟩,
  ⟨some 7, .call .std 207 [(.tmp 3), (.tmp 6)], none⟩,
  ⟨some 2, .mov (.tmp 7), none⟩]
@[simp] theorem ref04_Live_r1_go (T : Tbl) (K : List Kt) (fr : Fr) (S : St) : gval T (.ops ref04_Live_r1 :: K) fr S = gval T (.ops [
  ⟨some 3, .load true 7 false (.tmp 1), none⟩,
  ⟨some 4, .faddr 3 (.tmp 1), none⟩,
  ⟨some 5, .load false 1 false (.tmp 4), none⟩,
  ⟨some 6, .len false (.tmp 5), none⟩,
  ⟨some 7, .call .std 207 [(.tmp 3), (.tmp 6)], none⟩,
  ⟨some 2, .mov (.tmp 7), none⟩] :: K) fr S := rfl
def ref04_Live : PCodeFn :=
  ⟨1, [.tmp 2],
  (.seq (.region ref04_Live_r0) (.seq (.clr [(3, 8)] (.region ref04_Live_r1)) .ret)), false⟩

/-! gauge/gaugeref04.At: 205 -/
def ref04_At_r0 : List POper := [
  ⟨some 4, .mov (.cst (.int .i64 0)), none⟩]
@[simp] theorem ref04_At_r0_go (T : Tbl) (K : List Kt) (fr : Fr) (S : St) : gval T (.ops ref04_At_r0 :: K) fr S = gval T (.ops [
  ⟨some 4, .mov (.cst (.int .i64 0)), none⟩] :: K) fr S := rfl
def ref04_At_r1 : List POper := [
  ⟨some 5, .mov (.cst (.int .i64 0)), none⟩]
@[simp] theorem ref04_At_r1_go (T : Tbl) (K : List Kt) (fr : Fr) (S : St) : gval T (.ops ref04_At_r1 :: K) fr S = gval T (.ops [
  ⟨some 5, .mov (.cst (.int .i64 0)), none⟩] :: K) fr S := rfl
def ref04_At_r2 : List POper := [
  ⟨some 6, .mov (.tmp 5), none⟩,
  ⟨some 7, .mov (.tmp 0), none⟩,
  ⟨some 8, .len false (.tmp 7), none⟩,
  ⟨some 9, .arith .lss (.tmp 6) (.tmp 8), none⟩]
@[simp] theorem ref04_At_r2_go (T : Tbl) (K : List Kt) (fr : Fr) (S : St) : gval T (.ops ref04_At_r2 :: K) fr S = gval T (.ops [
  ⟨some 6, .mov (.tmp 5), none⟩,
  ⟨some 7, .mov (.tmp 0), none⟩,
  ⟨some 8, .len false (.tmp 7), none⟩,
  ⟨some 9, .arith .lss (.tmp 6) (.tmp 8), none⟩] :: K) fr S := rfl
def ref04_At_r4 : List POper := [
  ⟨some 12, .mov (.tmp 0), none⟩,
  ⟨some 13, .mov (.tmp 5), none⟩,
  ⟨some 14, .iaddr 2 (.tmp 12) (.tmp 13), none⟩,
  ⟨some 15, .faddr 0 (.tmp 14), none⟩,
  ⟨some 16, .load false 1 false (.tmp 15), none⟩,
  ⟨some 17, .mov (.tmp 1), none⟩,
  ⟨some 18, .arith .eql (.tmp 16) (.tmp 17), none⟩]
@[simp] theorem ref04_At_r4_go (T : Tbl) (K : List Kt) (fr : Fr) (S : St) : gval T (.ops ref04_At_r4 :: K) fr S = gval T (.ops [
  ⟨some 12, .mov (.tmp 0), none⟩,
  ⟨some 13, .mov (.tmp 5), none⟩,
  ⟨some 14, .iaddr 2 (.tmp 12) (.tmp 13), none⟩,
  ⟨some 15, .faddr 0 (.tmp 14), none⟩,
  ⟨some 16, .load false 1 false (.tmp 15), none⟩,
  ⟨some 17, .mov (.tmp 1), none⟩,
  ⟨some 18, .arith .eql (.tmp 16) (.tmp 17), none⟩] :: K) fr S := rfl
def ref04_At_r5 : List POper := [
  ⟨some 19, .mov (.tmp 0), none⟩,
  ⟨some 20, .mov (.tmp 5), none⟩,
  ⟨some 21, .iaddr 2 (.tmp 19) (.tmp 20), none⟩,
  ⟨some 22, .faddr 1 (.tmp 21), none⟩,
  ⟨some 23, .load false 1 false (.tmp 22), none⟩,
  ⟨some 4, .mov (.tmp 23), none⟩]
@[simp] theorem ref04_At_r5_go (T : Tbl) (K : List Kt) (fr : Fr) (S : St) : gval T (.ops ref04_At_r5 :: K) fr S = gval T (.ops [
  ⟨some 19, .mov (.tmp 0), none⟩,
  ⟨some 20, .mov (.tmp 5), none⟩,
  ⟨some 21, .iaddr 2 (.tmp 19) (.tmp 20), none⟩,
  ⟨some 22, .faddr 1 (.tmp 21), none⟩,
  ⟨some 23, .load false 1 false (.tmp 22), none⟩,
  ⟨some 4, .mov (.tmp 23), none⟩] :: K) fr S := rfl
def ref04_At_r3 : List POper := [
  ⟨some 10, .mov (.tmp 5), none⟩,
  ⟨some 11, .arith .add (.tmp 10) (.cst (.int .i64 1)), none⟩,
  ⟨some 5, .mov (.tmp 11), none⟩]
@[simp] theorem ref04_At_r3_go (T : Tbl) (K : List Kt) (fr : Fr) (S : St) : gval T (.ops ref04_At_r3 :: K) fr S = gval T (.ops [
  ⟨some 10, .mov (.tmp 5), none⟩,
  ⟨some 11, .arith .add (.tmp 10) (.cst (.int .i64 1)), none⟩,
  ⟨some 5, .mov (.tmp 11), none⟩] :: K) fr S := rfl
def ref04_At_l0 : PCode :=
  (.seq (.seq (.clr [(6, 9)] (.region ref04_At_r2)) (.cond (.tmp 9) .skip (.exit 0))) (.seq (.block 1 (.seq (.clr [(12, 18)] (.region ref04_At_r4)) (.cond (.tmp 18) (.seq (.clr [(19, 24)] (.region ref04_At_r5)) .ret) .skip))) (.clr [(10, 12)] (.region ref04_At_r3))))
@[simp] theorem ref04_At_l0_go (T : Tbl) (K : List Kt) (fr : Fr) (S : St) : gval T (.code ref04_At_l0 :: K) fr S = gval T (.code (.seq (.seq (.clr [(6, 9)] (.region ref04_At_r2)) (.cond (.tmp 9) .skip (.exit 0))) (.seq (.block 1 (.seq (.clr [(12, 18)] (.region ref04_At_r4)) (.cond (.tmp 18) (.seq (.clr [(19, 24)] (.region ref04_At_r5)) .ret) .skip))) (.clr [(10, 12)] (.region ref04_At_r3)))) :: K) fr S := rfl
def ref04_At_r6 : List POper := [
  ⟨some 4, .mov (.cst (.int .i64 (-1))), none⟩]
@[simp] theorem ref04_At_r6_go (T : Tbl) (K : List Kt) (fr : Fr) (S : St) : gval T (.ops ref04_At_r6 :: K) fr S = gval T (.ops [
  ⟨some 4, .mov (.cst (.int .i64 (-1))), none⟩] :: K) fr S := rfl
def ref04_At : PCodeFn :=
  ⟨2, [.tmp 4],
  (.seq (.region ref04_At_r0) (.seq (.seq (.region ref04_At_r1) (.block 0 (.loop ref04_At_l0))) (.seq (.region ref04_At_r6) .ret))), false⟩

/-! gauge/gaugeref04.step: 206 -/
def ref04_step_r0 : List POper := [
  ⟨some 1, .box false (.tmp 0), none⟩,
  ⟨some 2, .alloc false [(.int .i64 0), .nils, .nils, .nils, (.int .i64 0), (.bool false), (.int .i64 0)], none⟩,
  ⟨some 3, .mov (.cst (.int .i64 0)), none⟩]
@[simp] theorem ref04_step_r0_go (T : Tbl) (K : List Kt) (fr : Fr) (S : St) : gval T (.ops ref04_step_r0 :: K) fr S = gval T (.ops [
  ⟨some 1, .box false (.tmp 0), none⟩,
  ⟨some 2, .alloc false [(.int .i64 0), .nils, .nils, .nils, (.int .i64 0), (.bool false), (.int .i64 0)], none⟩,
  ⟨some 3, .mov (.cst (.int .i64 0)), none⟩] :: K) fr S := rfl
def ref04_step_r1 : List POper := [
  ⟨some 4, .faddr 4 (.tmp 1), none⟩,
  ⟨some 5, .load false 1 false (.tmp 4), none⟩,
  ⟨some 6, .arith .eql (.tmp 5) (.cst (.int .i64 0)), none⟩]
@[simp] theorem ref04_step_r1_go (T : Tbl) (K : List Kt) (fr : Fr) (S : St) : gval T (.ops ref04_step_r1 :: K) fr S = gval T (.ops [
  ⟨some 4, .faddr 4 (.tmp 1), none⟩,
  ⟨some 5, .load false 1 false (.tmp 4), none⟩,
  ⟨some 6, .arith .eql (.tmp 5) (.cst (.int .i64 0)), none⟩] :: K) fr S := rfl
def ref04_step_r2 : List POper := [
  ⟨some 7, .faddr 5 (.tmp 1), none⟩,
  ⟨none, .store 1 (.tmp 7) (.cst (.bool true)), none⟩]
@[simp] theorem ref04_step_r2_go (T : Tbl) (K : List Kt) (fr : Fr) (S : St) : gval T (.ops ref04_step_r2 :: K) fr S = gval T (.ops [
  ⟨some 7, .faddr 5 (.tmp 1), none⟩,
  ⟨none, .store 1 (.tmp 7) (.cst (.bool true)), none⟩] :: K) fr S := rfl
def ref04_step_r3 : List POper := [
  ⟨some 8, .faddr 5 (.tmp 1), none⟩,
  ⟨some 9, .load false 1 false (.tmp 8), none⟩]
@[simp] theorem ref04_step_r3_go (T : Tbl) (K : List Kt) (fr : Fr) (S : St) : gval T (.ops ref04_step_r3 :: K) fr S = gval T (.ops [
  ⟨some 8, .faddr 5 (.tmp 1), none⟩,
  ⟨some 9, .load false 1 false (.tmp 8), none⟩] :: K) fr S := rfl
def ref04_step_r4 : List POper := [
  ⟨some 10, .load true 7 false (.tmp 1), none⟩,
  ⟨none, .store 7 (.tmp 2) (.tmp 10), none⟩,
  ⟨some 3, .mov (.cst (.int .i64 6)), none⟩]
@[simp] theorem ref04_step_r4_go (T : Tbl) (K : List Kt) (fr : Fr) (S : St) : gval T (.ops ref04_step_r4 :: K) fr S = gval T (.ops [
  ⟨some 10, .load true 7 false (.tmp 1), none⟩,
  ⟨none, .store 7 (.tmp 2) (.tmp 10), none⟩,
  ⟨some 3, .mov (.cst (.int .i64 6)), none⟩] :: K) fr S := rfl
def ref04_step_r5 : List POper := [
  ⟨some 11, .faddr 4 (.tmp 1), none⟩,
  ⟨some 12, .load false 1 false (.tmp 11), none⟩,
  ⟨some 13, .arith .gtr (.tmp 12) (.cst (.int .i64 0)), none⟩]
@[simp] theorem ref04_step_r5_go (T : Tbl) (K : List Kt) (fr : Fr) (S : St) : gval T (.ops ref04_step_r5 :: K) fr S = gval T (.ops [
  ⟨some 11, .faddr 4 (.tmp 1), none⟩,
  ⟨some 12, .load false 1 false (.tmp 11), none⟩,
  ⟨some 13, .arith .gtr (.tmp 12) (.cst (.int .i64 0)), none⟩] :: K) fr S := rfl
def ref04_step_r6 : List POper := [
  ⟨some 14, .faddr 4 (.tmp 1), none⟩,
  ⟨some 15, .load false 1 false (.tmp 14), none⟩,
  ⟨some 16, .arith .sub (.tmp 15) (.cst (.int .i64 1)), none⟩,
  ⟨some 17, .faddr 4 (.tmp 1), none⟩,
  ⟨none, .store 1 (.tmp 17) (.tmp 16), none⟩]
@[simp] theorem ref04_step_r6_go (T : Tbl) (K : List Kt) (fr : Fr) (S : St) : gval T (.ops ref04_step_r6 :: K) fr S = gval T (.ops [
  ⟨some 14, .faddr 4 (.tmp 1), none⟩,
  ⟨some 15, .load false 1 false (.tmp 14), none⟩,
  ⟨some 16, .arith .sub (.tmp 15) (.cst (.int .i64 1)), none⟩,
  ⟨some 17, .faddr 4 (.tmp 1), none⟩,
  ⟨none, .store 1 (.tmp 17) (.tmp 16), none⟩] :: K) fr S := rfl
def ref04_step_r7 : List POper := [
  ⟨some 18, .faddr 6 (.tmp 1), none⟩,
  ⟨some 19, .load false 1 false (.tmp 18), none⟩,
  ⟨some 20, .arith .add (.tmp 19) (.cst (.int .i64 1)), none⟩,
  ⟨some 21, .faddr 6 (.tmp 1), none⟩,
  ⟨none, .store 1 (.tmp 21) (.tmp 20), none⟩]
@[simp] theorem ref04_step_r7_go (T : Tbl) (K : List Kt) (fr : Fr) (S : St) : gval T (.ops ref04_step_r7 :: K) fr S = gval T (.ops [
  ⟨some 18, .faddr 6 (.tmp 1), none⟩,
  ⟨some 19, .load false 1 false (.tmp 18), none⟩,
  ⟨some 20, .arith .add (.tmp 19) (.cst (.int .i64 1)), none⟩,
  ⟨some 21, .faddr 6 (.tmp 1), none⟩,
  ⟨none, .store 1 (.tmp 21) (.tmp 20), none⟩] :: K) fr S := rfl
def ref04_step_r8 : List POper := [
  ⟨some 22, .load true 7 false (.tmp 1), none⟩,
  ⟨none, .store 7 (.tmp 2) (.tmp 22), none⟩,
  ⟨some 3, .mov (.cst (.int .i64 0)), none⟩]
@[simp] theorem ref04_step_r8_go (T : Tbl) (K : List Kt) (fr : Fr) (S : St) : gval T (.ops ref04_step_r8 :: K) fr S = gval T (.ops [
  ⟨some 22, .load true 7 false (.tmp 1), none⟩,
  ⟨none, .store 7 (.tmp 2) (.tmp 22), none⟩,
  ⟨some 3, .mov (.cst (.int .i64 0)), none⟩] :: K) fr S := rfl
def ref04_step : PCodeFn :=
  ⟨1, [.cell 2 true 7, .tmp 3],
  (.seq (.region ref04_step_r0) (.seq (.seq (.clr [(4, 6)] (.region ref04_step_r1)) (.cond (.tmp 6) (.clr [(7, 8)] (.region ref04_step_r2)) .skip)) (.seq (.seq (.clr [(8, 9)] (.region ref04_step_r3)) (.cond (.tmp 9) (.seq (.clr [(10, 11)] (.region ref04_step_r4)) .ret) .skip)) (.seq (.seq (.clr [(11, 13)] (.region ref04_step_r5)) (.cond (.tmp 13) (.clr [(14, 18)] (.region ref04_step_r6)) .skip)) (.seq (.clr [(18, 22)] (.region ref04_step_r7)) (.seq (.clr [(22, 23)] (.region ref04_step_r8)) .ret)))))), false⟩

/-! gauge/gaugeref04.Dir: 207 -/
def ref04_Dir_r0 : List POper := [
  ⟨some 2, .box true (.tmp 0), none⟩,
  ⟨some 4, .mov (.cst .nils), none⟩]
@[simp] theorem ref04_Dir_r0_go (T : Tbl) (K : List Kt) (fr : Fr) (S : St) : gval T (.ops ref04_Dir_r0 :: K) fr S = gval T (.ops [
  ⟨some 2, .box true (.tmp 0), none⟩,
  ⟨some 4, .mov (.cst .nils), none⟩] :: K) fr S := rfl
def ref04_Dir_r1 : List POper := [
  ⟨some 9, .faddr 2 (.tmp 2), none⟩,
  ⟨some 10, .load false 1 false (.tmp 9), none⟩,
  ⟨some 5, .mov (.tmp 10), none⟩]
@[simp] theorem ref04_Dir_r1_go (T : Tbl) (K : List Kt) (fr : Fr) (S : St) : gval T (.ops ref04_Dir_r1 :: K) fr S = gval T (.ops [
  ⟨some 9, .faddr 2 (.tmp 2), none⟩,
  ⟨some 10, .load false 1 false (.tmp 9), none⟩,
  ⟨some 5, .mov (.tmp 10), none⟩] :: K) fr S := rfl
def ref04_Dir_r2 : List POper := [
  ⟨some 6, .mov (.cst (.int .i64 0)), none⟩]
@[simp] theorem ref04_Dir_r2_go (T : Tbl) (K : List Kt) (fr : Fr) (S : St) : gval T (.ops ref04_Dir_r2 :: K) fr S = gval T (.ops [
  ⟨some 6, .mov (.cst (.int .i64 0)), none⟩] :: K) fr S := rfl
def ref04_Dir_r3 : List POper := [
  ⟨some 11, .mov (.tmp 6), none⟩,
  ⟨some 12, .mov (.tmp 1), none⟩,
  ⟨some 13, .arith .lss (.tmp 11) (.tmp 12), none⟩]
@[simp] theorem ref04_Dir_r3_go (T : Tbl) (K : List Kt) (fr : Fr) (S : St) : gval T (.ops ref04_Dir_r3 :: K) fr S = gval T (.ops [
  ⟨some 11, .mov (.tmp 6), none⟩,
  ⟨some 12, .mov (.tmp 1), none⟩,
  ⟨some 13, .arith .lss (.tmp 11) (.tmp 12), none⟩] :: K) fr S := rfl
def ref04_Dir_r5 : List POper := [
  ⟨some 16, .faddr 3 (.tmp 2), none⟩,
  ⟨some 17, .load false 1 false (.tmp 16), none⟩,
  ⟨some 18, .mov (.tmp 6), none⟩,
  ⟨some 19, .iaddr 4 (.tmp 17) (.tmp 18), none⟩,
  ⟨some 20, .load true 4 false (.tmp 19), none⟩,
  ⟨some 7, .alloc false [(.int .i64 0), (.str []), (.str []), (.int .i64 0)], none⟩,
  ⟨none, .store 4 (.tmp 7) (.tmp 20), none⟩]
@[simp] theorem ref04_Dir_r5_go (T : Tbl) (K : List Kt) (fr : Fr) (S : St) : gval T (.ops ref04_Dir_r5 :: K) fr S = gval T (.ops [
  ⟨some 16, .faddr 3 (.tmp 2), none⟩,
  ⟨some 17, .load false 1 false (.tmp 16), none⟩,
  ⟨some 18, .mov (.tmp 6), none⟩,
  ⟨some 19, .iaddr 4 (.tmp 17) (.tmp 18), none⟩,
  ⟨some 20, .load true 4 false (.tmp 19), none⟩,
  ⟨some 7, .alloc false [(.int .i64 0), (.str []), (.str []), (.int .i64 0)], none⟩,
  ⟨none, .store 4 (.tmp 7) (.tmp 20), none⟩] :: K) fr S := rfl
def ref04_Dir_r6 : List POper := [
  ⟨some 21, .faddr 0 (.tmp 7), none⟩,
  ⟨some 22, .load false 1 false (.tmp 21), none⟩]
@[simp] theorem ref04_Dir_r6_go (T : Tbl) (K : List Kt) (fr : Fr) (S : St) : gval T (.ops ref04_Dir_r6 :: K) fr S = gval T (.ops [
  ⟨some 21, .faddr 0 (.tmp 7), none⟩,
  ⟨some 22, .load false 1 false (.tmp 21), none⟩] :: K) fr S := rfl
def ref04_Dir_r7 : List POper := [
  ⟨some 24, .arith .eql (.tmp 22) (.cst (.int .i64 1)), none⟩,
  ⟨some 23, .mov (.tmp 24), none⟩]
@[simp] theorem ref04_Dir_r7_go (T : Tbl) (K : List Kt) (fr : Fr) (S : St) : gval T (.ops ref04_Dir_r7 :: K) fr S = gval T (.ops [
  ⟨some 24, .arith .eql (.tmp 22) (.cst (.int .i64 1)), none⟩,
  ⟨some 23, .mov (.tmp 24), none⟩] :: K) fr S := rfl
def ref04_Dir_r8 : List POper := [
  ⟨some 25, .mov (.tmp 5), none⟩,
  ⟨some 26, .faddr 1 (.tmp 7), none⟩,
  ⟨some 27, .load false 1 false (.tmp 26), none⟩,
  ⟨some 28, .faddr 3 (.tmp 7), none⟩,
  ⟨some 29, .load false 1 false (.tmp 28), none⟩,
  ⟨some 30, .build [(.str []), (.int .i64 0)] [(0, 1, (.tmp 27)), (1, 1, (.tmp 29))], none⟩,
  ⟨some 31, .call .std 295 [(.tmp 25), (.tmp 30)], none⟩,
  ⟨some 5, .mov (.tmp 31), none⟩]
@[simp] theorem ref04_Dir_r8_go (T : Tbl) (K : List Kt) (fr : Fr) (S : St) : gval T (.ops ref04_Dir_r8 :: K) fr S = gval T (.ops [
  ⟨some 25, .mov (.tmp 5), none⟩,
  ⟨some 26, .faddr 1 (.tmp 7), none⟩,
  ⟨some 27, .load false 1 false (.tmp 26), none⟩,
  ⟨some 28, .faddr 3 (.tmp 7), none⟩,
  ⟨some 29, .load false 1 false (.tmp 28), none⟩,
  ⟨some 30, .build [(.str []), (.int .i64 0)] [(0, 1, (.tmp 27)), (1, 1, (.tmp 29))], none⟩,
  ⟨some 31, .call .std 295 [(.tmp 25), (.tmp 30)], none⟩,
  ⟨some 5, .mov (.tmp 31), none⟩] :: K) fr S := rfl
def ref04_Dir_r9 : List POper := [
  ⟨some 33, .arith .eql (.tmp 22) (.cst (.int .i64 2)), none⟩,
  ⟨some 32, .mov (.tmp 33), none⟩]
@[simp] theorem ref04_Dir_r9_go (T : Tbl) (K : List Kt) (fr : Fr) (S : St) : gval T (.ops ref04_Dir_r9 :: K) fr S = gval T (.ops [
  ⟨some 33, .arith .eql (.tmp 22) (.cst (.int .i64 2)), none⟩,
  ⟨some 32, .mov (.tmp 33), none⟩] :: K) fr S := rfl
def ref04_Dir_r10 : List POper := [
  ⟨some 34, .mov (.tmp 5), none⟩,
  ⟨some 35, .faddr 1 (.tmp 7), none⟩,
  ⟨some 36, .load false 1 false (.tmp 35), none⟩,
  ⟨some 37, .call .std 205 [(.tmp 34), (.tmp 36)], none⟩,
  ⟨some 8, .mov (.tmp 37), none⟩]
@[simp] theorem ref04_Dir_r10_go (T : Tbl) (K : List Kt) (fr : Fr) (S : St) : gval T (.ops ref04_Dir_r10 :: K) fr S = gval T (.ops [
  ⟨some 34, .mov (.tmp 5), none⟩,
  ⟨some 35, .faddr 1 (.tmp 7), none⟩,
  ⟨some 36, .load false 1 false (.tmp 35), none⟩,
  ⟨some 37, .call .std 205 [(.tmp 34), (.tmp 36)], none⟩,
  ⟨some 8, .mov (.tmp 37), none⟩] :: K) fr S := rfl
def ref04_Dir_r11 : List POper := [
  ⟨some 38, .mov (.tmp 5), none⟩,
  ⟨some 39, .faddr 1 (.tmp 7), none⟩,
  ⟨some 40, .load false 1 false (.tmp 39), none⟩,
  ⟨some 41, .call .pur 296 [(.tmp 38), (.tmp 40)], none⟩,
  ⟨some 42, .faddr 2 (.tmp 7), none⟩,
  ⟨some 43, .load false 1 false (.tmp 42), none⟩,
  ⟨some 44, .mov (.tmp 8), none⟩,
  ⟨some 45, .build [(.str []), (.int .i64 0)] [(0, 1, (.tmp 43)), (1, 1, (.tmp 44))], none⟩,
  ⟨some 46, .call .std 295 [(.tmp 41), (.tmp 45)], none⟩,
  ⟨some 5, .mov (.tmp 46), none⟩]
@[simp] theorem ref04_Dir_r11_go (T : Tbl) (K : List Kt) (fr : Fr) (S : St) : gval T (.ops ref04_Dir_r11 :: K) fr S = gval T (.ops [
  ⟨some 38, .mov (.tmp 5), none⟩,
  ⟨some 39, .faddr 1 (.tmp 7), none⟩,
  ⟨some 40, .load false 1 false (.tmp 39), none⟩,
  ⟨some 41, .call .pur 296 [(.tmp 38), (.tmp 40)], none⟩,
  ⟨some 42, .faddr 2 (.tmp 7), none⟩,
  ⟨some 43, .load false 1 false (.tmp 42), none⟩,
  ⟨some 44, .mov (.tmp 8), none⟩,
  ⟨some 45, .build [(.str []), (.int .i64 0)] [(0, 1, (.tmp 43)), (1, 1, (.tmp 44))], none⟩,
  ⟨some 46, .call .std 295 [(.tmp 41), (.tmp 45)], none⟩,
  ⟨some 5, .mov (.tmp 46), none⟩] :: K) fr S := rfl
def ref04_Dir_r12 : List POper := [
  ⟨some 48, .arith .eql (.tmp 22) (.cst (.int .i64 3)), none⟩,
  ⟨some 47, .mov (.tmp 48), none⟩]
@[simp] theorem ref04_Dir_r12_go (T : Tbl) (K : List Kt) (fr : Fr) (S : St) : gval T (.ops ref04_Dir_r12 :: K) fr S = gval T (.ops [
  ⟨some 48, .arith .eql (.tmp 22) (.cst (.int .i64 3)), none⟩,
  ⟨some 47, .mov (.tmp 48), none⟩] :: K) fr S := rfl
def ref04_Dir_r13 : List POper := [
  ⟨some 49, .mov (.tmp 5), none⟩,
  ⟨some 50, .faddr 1 (.tmp 7), none⟩,
  ⟨some 51, .load false 1 false (.tmp 50), none⟩,
  ⟨some 52, .call .std 296 [(.tmp 49), (.tmp 51)], none⟩,
  ⟨some 5, .mov (.tmp 52), none⟩]
@[simp] theorem ref04_Dir_r13_go (T : Tbl) (K : List Kt) (fr : Fr) (S : St) : gval T (.ops ref04_Dir_r13 :: K) fr S = gval T (.ops [
  ⟨some 49, .mov (.tmp 5), none⟩,
  ⟨some 50, .faddr 1 (.tmp 7), none⟩,
  ⟨some 51, .load false 1 false (.tmp 50), none⟩,
  ⟨some 52, .call .std 296 [(.tmp 49), (.tmp 51)], none⟩,
  ⟨some 5, .mov (.tmp 52), none⟩] :: K) fr S := rfl
def ref04_Dir_r4 : List POper := [
  ⟨some 14, .mov (.tmp 6), none⟩,
  ⟨some 15, .arith .add (.tmp 14) (.cst (.int .i64 1)), none⟩,
  ⟨some 6, .mov (.tmp 15), none⟩]
@[simp] theorem ref04_Dir_r4_go (T : Tbl) (K : List Kt) (fr : Fr) (S : St) : gval T (.ops ref04_Dir_r4 :: K) fr S = gval T (.ops [
  ⟨some 14, .mov (.tmp 6), none⟩,
  ⟨some 15, .arith .add (.tmp 14) (.cst (.int .i64 1)), none⟩,
  ⟨some 6, .mov (.tmp 15), none⟩] :: K) fr S := rfl
def ref04_Dir_l0 : PCode :=
  (.seq (.seq (.clr [(11, 13)] (.region ref04_Dir_r3)) (.cond (.tmp 13) .skip (.exit 0))) (.seq (.block 1 (.seq (.clr [(16, 21)] (.region ref04_Dir_r5)) (.seq (.clr [(21, 22)] (.region ref04_Dir_r6)) (.block 2 (.seq (.clr [(24, 25)] (.region ref04_Dir_r7)) (.cond (.tmp 23) (.clr [(25, 32)] (.region ref04_Dir_r8)) (.seq (.clr [(33, 34)] (.region ref04_Dir_r9)) (.cond (.tmp 32) (.seq (.clr [(34, 38)] (.region ref04_Dir_r10)) (.clr [(38, 47)] (.region ref04_Dir_r11))) (.seq (.clr [(48, 49)] (.region ref04_Dir_r12)) (.cond (.tmp 47) (.clr [(49, 53)] (.region ref04_Dir_r13)) .skip)))))))))) (.clr [(14, 16)] (.region ref04_Dir_r4))))
@[simp] theorem ref04_Dir_l0_go (T : Tbl) (K : List Kt) (fr : Fr) (S : St) : gval T (.code ref04_Dir_l0 :: K) fr S = gval T (.code (.seq (.seq (.clr [(11, 13)] (.region ref04_Dir_r3)) (.cond (.tmp 13) .skip (.exit 0))) (.seq (.block 1 (.seq (.clr [(16, 21)] (.region ref04_Dir_r5)) (.seq (.clr [(21, 22)] (.region ref04_Dir_r6)) (.block 2 (.seq (.clr [(24, 25)] (.region ref04_Dir_r7)) (.cond (.tmp 23) (.clr [(25, 32)] (.region ref04_Dir_r8)) (.seq (.clr [(33, 34)] (.region ref04_Dir_r9)) (.cond (.tmp 32) (.seq (.clr [(34, 38)] (.region ref04_Dir_r10)) (.clr [(38, 47)] (.region ref04_Dir_r11))) (.seq (.clr [(48, 49)] (.region ref04_Dir_r12)) (.cond (.tmp 47) (.clr [(49, 53)] (.region ref04_Dir_r13)) .skip)))))))))) (.clr [(14, 16)] (.region ref04_Dir_r4)))) :: K) fr S := rfl
def ref04_Dir_r14 : List POper := [
  ⟨some 53, .mov (.tmp 5), none⟩,
  ⟨some 4, .mov (.tmp 53), none⟩]
@[simp] theorem ref04_Dir_r14_go (T : Tbl) (K : List Kt) (fr : Fr) (S : St) : gval T (.ops ref04_Dir_r14 :: K) fr S = gval T (.ops [
  ⟨some 53, .mov (.tmp 5), none⟩,
  ⟨some 4, .mov (.tmp 53), none⟩] :: K) fr S := rfl
def ref04_Dir : PCodeFn :=
  ⟨2, [.tmp 4],
  (.seq (.region ref04_Dir_r0) (.seq (.clr [(9, 11)] (.region ref04_Dir_r1)) (.seq (.seq (.region ref04_Dir_r2) (.block 0 (.loop ref04_Dir_l0))) (.seq (.clr [(53, 54)] (.region ref04_Dir_r14)) .ret)))), false⟩

/-! gauge/gaugeref04.with: 295 -/
def ref04_with_r0 : List POper := [
  ⟨some 3, .box true (.tmp 1), none⟩,
  ⟨some 4, .mov (.cst .nils), none⟩]
@[simp] theorem ref04_with_r0_go (T : Tbl) (K : List Kt) (fr : Fr) (S : St) : gval T (.ops ref04_with_r0 :: K) fr S = gval T (.ops [
  ⟨some 3, .box true (.tmp 1), none⟩,
  ⟨some 4, .mov (.cst .nils), none⟩] :: K) fr S := rfl
def ref04_with_r1 : List POper := [
  ⟨some 5, .mov (.cst .nils), none⟩]
@[simp] theorem ref04_with_r1_go (T : Tbl) (K : List Kt) (fr : Fr) (S : St) : gval T (.ops ref04_with_r1 :: K) fr S = gval T (.ops [
  ⟨some 5, .mov (.cst .nils), none⟩] :: K) fr S := rfl
def ref04_with_r2 : List POper := [
  ⟨some 6, .mov (.cst (.bool false)), none⟩]
@[simp] theorem ref04_with_r2_go (T : Tbl) (K : List Kt) (fr : Fr) (S : St) : gval T (.ops ref04_with_r2 :: K) fr S = gval T (.ops [
  ⟨some 6, .mov (.cst (.bool false)), none⟩] :: K) fr S := rfl
def ref04_with_r3 : List POper := [
  ⟨some 7, .mov (.cst (.int .i64 0)), none⟩]
@[simp] theorem ref04_with_r3_go (T : Tbl) (K : List Kt) (fr : Fr) (S : St) : gval T (.ops ref04_with_r3 :: K) fr S = gval T (.ops [
  ⟨some 7, .mov (.cst (.int .i64 0)), none⟩] :: K) fr S := rfl
def ref04_with_r4 : List POper := [
  ⟨some 8, .mov (.tmp 7), none⟩,
  ⟨some 9, .mov (.tmp 0), none⟩,
  ⟨some 10, .len false (.tmp 9), none⟩,
  ⟨some 11, .arith .lss (.tmp 8) (.tmp 10), none⟩]
@[simp] theorem ref04_with_r4_go (T : Tbl) (K : List Kt) (fr : Fr) (S : St) : gval T (.ops ref04_with_r4 :: K) fr S = gval T (.ops [
  ⟨some 8, .mov (.tmp 7), none⟩,
  ⟨some 9, .mov (.tmp 0), none⟩,
  ⟨some 10, .len false (.tmp 9), none⟩,
  ⟨some 11, .arith .lss (.tmp 8) (.tmp 10), none⟩] :: K) fr S := rfl
def ref04_with_r6 : List POper := [
  ⟨some 14, .mov (.tmp 6), none⟩,
  ⟨some 15, .un .not (.tmp 14), none⟩,
  ⟨some 16, .mov (.tmp 15), none⟩,
  ⟨some 17, .faddr 0 (.tmp 3), some (16, true)⟩,
  ⟨some 18, .load false 1 true (.tmp 17), some (16, true)⟩,
  ⟨some 19, .mov (.tmp 0), some (16, true)⟩,
  ⟨some 20, .mov (.tmp 7), some (16, true)⟩,
  ⟨some 21, .iaddr 2 (.tmp 19) (.tmp 20), some (16, true)⟩,
  ⟨some 22, .faddr 0 (.tmp 21), some (16, true)⟩,
  ⟨some 23, .load false 1 true (.tmp 22), some (16, true)⟩,
  ⟨some 24, .arith .lss (.tmp 18) (.tmp 23), some (16, true)⟩,
  ⟨some 25, .pick (.tmp 16) (.tmp 24) (.cst (.bool false)), none⟩]
@[simp] theorem ref04_with_r6_go (T : Tbl) (K : List Kt) (fr : Fr) (S : St) : gval T (.ops ref04_with_r6 :: K) fr S = gval T (.ops [
  ⟨some 14, .mov (.tmp 6), none⟩,
  ⟨some 15, .un .not (.tmp 14), none⟩,
  ⟨some 16, .mov (.tmp 15), none⟩,
  ⟨some 17, .faddr 0 (.tmp 3), some (16, true)⟩,
  ⟨some 18, .load false 1 true (.tmp 17), some (16, true)⟩,
  ⟨some 19, .mov (.tmp 0), some (16, true)⟩,
  ⟨some 20, .mov (.tmp 7), some (16, true)⟩,
  ⟨some 21, .iaddr 2 (.tmp 19) (.tmp 20), some (16, true)⟩,
  ⟨some 22, .faddr 0 (.tmp 21), some (16, true)⟩,
  ⟨some 23, .load false 1 true (.tmp 22), some (16, true)⟩,
  ⟨some 24, .arith .lss (.tmp 18) (.tmp 23), some (16, true)⟩,
  ⟨some 25, .pick (.tmp 16) (.tmp 24) (.cst (.bool false)), none⟩] :: K) fr S := rfl
def ref04_with_r7 : List POper := [
  ⟨some 26, .mov (.tmp 5), none⟩,
  ⟨some 27, .load true 2 false (.tmp 3), none⟩,
  ⟨some 28, .bsl false (.agg [(.str []), (.int .i64 0)]) 1 [(0, (.tmp 27))], none⟩,
  ⟨some 29, .app 2 24 (.tmp 26) (.tmp 28), none⟩,
  ⟨some 5, .mov (.tmp 29), none⟩]
@[simp] theorem ref04_with_r7_go (T : Tbl) (K : List Kt) (fr : Fr) (S : St) : gval T (.ops ref04_with_r7 :: K) fr S = gval T (.ops [
  ⟨some 26, .mov (.tmp 5), none⟩,
  ⟨some 27, .load true 2 false (.tmp 3), none⟩,
  ⟨some 28, .bsl false (.agg [(.str []), (.int .i64 0)]) 1 [(0, (.tmp 27))], none⟩,
  ⟨some 29, .app 2 24 (.tmp 26) (.tmp 28), none⟩,
  ⟨some 5, .mov (.tmp 29), none⟩] :: K) fr S := rfl
def ref04_with_r8 : List POper := [
  ⟨some 6, .mov (.cst (.bool true)), none⟩]
@[simp] theorem ref04_with_r8_go (T : Tbl) (K : List Kt) (fr : Fr) (S : St) : gval T (.ops ref04_with_r8 :: K) fr S = gval T (.ops [
  ⟨some 6, .mov (.cst (.bool true)), none⟩] :: K) fr S := rfl
def ref04_with_r9 : List POper := [
  ⟨some 30, .mov (.tmp 0), none⟩,
  ⟨some 31, .mov (.tmp 7), none⟩,
  ⟨some 32, .iaddr 2 (.tmp 30) (.tmp 31), none⟩,
  ⟨some 33, .faddr 0 (.tmp 32), none⟩,
  ⟨some 34, .load false 1 true (.tmp 33), none⟩,
  ⟨some 35, .faddr 0 (.tmp 3), none⟩,
  ⟨some 36, .load false 1 true (.tmp 35), none⟩,
  ⟨some 37, .arith .neq (.tmp 34) (.tmp 36), none⟩]
@[simp] theorem ref04_with_r9_go (T : Tbl) (K : List Kt) (fr : Fr) (S : St) : gval T (.ops ref04_with_r9 :: K) fr S = gval T (.ops [
  ⟨some 30, .mov (.tmp 0), none⟩,
  ⟨some 31, .mov (.tmp 7), none⟩,
  ⟨some 32, .iaddr 2 (.tmp 30) (.tmp 31), none⟩,
  ⟨some 33, .faddr 0 (.tmp 32), none⟩,
  ⟨some 34, .load false 1 true (.tmp 33), none⟩,
  ⟨some 35, .faddr 0 (.tmp 3), none⟩,
  ⟨some 36, .load false 1 true (.tmp 35), none⟩,
  ⟨some 37, .arith .neq (.tmp 34) (.tmp 36), none⟩] :: K) fr S := rfl
def ref04_with_r10 : List POper := [
  ⟨some 38, .mov (.tmp 5), none⟩,
  ⟨some 39, .mov (.tmp 0), none⟩,
  ⟨some 40, .mov (.tmp 7), none⟩,
  ⟨some 41, .iaddr 2 (.tmp 39) (.tmp 40), none⟩,
  ⟨some 42, .load true 2 false (.tmp 41), none⟩,
  ⟨some 43, .bsl false (.agg [(.str []), (.int .i64 0)]) 1 [(0, (.tmp 42))], none⟩,
  ⟨some 44, .app 2 24 (.tmp 38) (.tmp 43), none⟩,
  ⟨some 5, .mov (.tmp 44), none⟩]
@[simp] theorem ref04_with_r10_go (T : Tbl) (K : List Kt) (fr : Fr) (S : St) : gval T (.ops ref04_with_r10 :: K) fr S = gval T (.ops [
  ⟨some 38, .mov (.tmp 5), none⟩,
  ⟨some 39, .mov (.tmp 0), none⟩,
  ⟨some 40, .mov (.tmp 7), none⟩,
  ⟨some 41, .iaddr 2 (.tmp 39) (.tmp 40), none⟩,
  ⟨some 42, .load true 2 false (.tmp 41), none⟩,
  ⟨some 43, .bsl false (.agg [(.str []), (.int .i64 0)]) 1 [(0, (.tmp 42))], none⟩,
  ⟨some 44, .app 2 24 (.tmp 38) (.tmp 43), none⟩,
  ⟨some 5, .mov (.tmp 44), none⟩] :: K) fr S := rfl
def ref04_with_r5 : List POper := [
  ⟨some 12, .mov (.tmp 7), none⟩,
  ⟨some 13, .arith .add (.tmp 12) (.cst (.int .i64 1)), none⟩,
  ⟨some 7, .mov (.tmp 13), none⟩]
@[simp] theorem ref04_with_r5_go (T : Tbl) (K : List Kt) (fr : Fr) (S : St) : gval T (.ops ref04_with_r5 :: K) fr S = gval T (.ops [
  ⟨some 12, .mov (.tmp 7), none⟩,
  ⟨some 13, .arith .add (.tmp 12) (.cst (.int .i64 1)), none⟩,
  ⟨some 7, .mov (.tmp 13), none⟩] :: K) fr S := rfl
def ref04_with_l0 : PCode :=
  (.seq (.seq (.clr [(8, 11)] (.region ref04_with_r4)) (.cond (.tmp 11) .skip (.exit 0))) (.seq (.block 1 (.seq (.seq (.clr [(14, 25)] (.region ref04_with_r6)) (.cond (.tmp 25) (.seq (.clr [(26, 30)] (.region ref04_with_r7)) (.region ref04_with_r8)) .skip)) (.seq (.clr [(30, 37)] (.region ref04_with_r9)) (.cond (.tmp 37) (.clr [(38, 45)] (.region ref04_with_r10)) .skip)))) (.clr [(12, 14)] (.region ref04_with_r5))))
@[simp] theorem ref04_with_l0_go (T : Tbl) (K : List Kt) (fr : Fr) (S : St) : gval T (.code ref04_with_l0 :: K) fr S = gval T (.code (.seq (.seq (.clr [(8, 11)] (.region ref04_with_r4)) (.cond (.tmp 11) .skip (.exit 0))) (.seq (.block 1 (.seq (.seq (.clr [(14, 25)] (.region ref04_with_r6)) (.cond (.tmp 25) (.seq (.clr [(26, 30)] (.region ref04_with_r7)) (.region ref04_with_r8)) .skip)) (.seq (.clr [(30, 37)] (.region ref04_with_r9)) (.cond (.tmp 37) (.clr [(38, 45)] (.region ref04_with_r10)) .skip)))) (.clr [(12, 14)] (.region ref04_with_r5)))) :: K) fr S := rfl
def ref04_with_r11 : List POper := [
  ⟨some 45, .mov (.tmp 6), none⟩,
  ⟨some 46, .un .not (.tmp 45), none⟩]
@[simp] theorem ref04_with_r11_go (T : Tbl) (K : List Kt) (fr : Fr) (S : St) : gval T (.ops ref04_with_r11 :: K) fr S = gval T (.ops [
  ⟨some 45, .mov (.tmp 6), none⟩,
  ⟨some 46, .un .not (.tmp 45), none⟩] :: K) fr S := rfl
def ref04_with_r12 : List POper := [
  ⟨some 47, .mov (.tmp 5), none⟩,
  ⟨some 48, .load true 2 false (.tmp 3), none⟩,
  ⟨some 49, .bsl false (.agg [(.str []), (.int .i64 0)]) 1 [(0, (.tmp 48))], none⟩,
  ⟨some 50, .app 2 24 (.tmp 47) (.tmp 49), none⟩,
  ⟨some 5, .mov (.tmp 50), none⟩]
@[simp] theorem ref04_with_r12_go (T : Tbl) (K : List Kt) (fr : Fr) (S : St) : gval T (.ops ref04_with_r12 :: K) fr S = gval T (.ops [
  ⟨some 47, .mov (.tmp 5), none⟩,
  ⟨some 48, .load true 2 false (.tmp 3), none⟩,
  ⟨some 49, .bsl false (.agg [(.str []), (.int .i64 0)]) 1 [(0, (.tmp 48))], none⟩,
  ⟨some 50, .app 2 24 (.tmp 47) (.tmp 49), none⟩,
  ⟨some 5, .mov (.tmp 50), none⟩] :: K) fr S := rfl
def ref04_with_r13 : List POper := [
  ⟨some 51, .mov (.tmp 5), none⟩,
  ⟨some 4, .mov (.tmp 51), none⟩]
@[simp] theorem ref04_with_r13_go (T : Tbl) (K : List Kt) (fr : Fr) (S : St) : gval T (.ops ref04_with_r13 :: K) fr S = gval T (.ops [
  ⟨some 51, .mov (.tmp 5), none⟩,
  ⟨some 4, .mov (.tmp 51), none⟩] :: K) fr S := rfl
def ref04_with : PCodeFn :=
  ⟨2, [.tmp 4],
  (.seq (.region ref04_with_r0) (.seq (.region ref04_with_r1) (.seq (.region ref04_with_r2) (.seq (.seq (.region ref04_with_r3) (.block 0 (.loop ref04_with_l0))) (.seq (.seq (.clr [(45, 46)] (.region ref04_with_r11)) (.cond (.tmp 46) (.clr [(47, 51)] (.region ref04_with_r12)) .skip)) (.seq (.clr [(51, 52)] (.region ref04_with_r13)) .ret)))))), false⟩

/-! gauge/gaugeref04.without: 296 -/
def ref04_without_r0 : List POper := [
  ⟨some 4, .mov (.cst .nils), none⟩]
@[simp] theorem ref04_without_r0_go (T : Tbl) (K : List Kt) (fr : Fr) (S : St) : gval T (.ops ref04_without_r0 :: K) fr S = gval T (.ops [
  ⟨some 4, .mov (.cst .nils), none⟩] :: K) fr S := rfl
def ref04_without_r1 : List POper := [
  ⟨some 5, .mov (.cst .nils), none⟩]
@[simp] theorem ref04_without_r1_go (T : Tbl) (K : List Kt) (fr : Fr) (S : St) : gval T (.ops ref04_without_r1 :: K) fr S = gval T (.ops [
  ⟨some 5, .mov (.cst .nils), none⟩] :: K) fr S := rfl
def ref04_without_r2 : List POper := [
  ⟨some 6, .mov (.cst (.int .i64 0)), none⟩]
@[simp] theorem ref04_without_r2_go (T : Tbl) (K : List Kt) (fr : Fr) (S : St) : gval T (.ops ref04_without_r2 :: K) fr S = gval T (.ops [
  ⟨some 6, .mov (.cst (.int .i64 0)), none⟩] :: K) fr S := rfl
def ref04_without_r3 : List POper := [
  ⟨some 7, .mov (.tmp 6), none⟩,
  ⟨some 8, .mov (.tmp 0), none⟩,
  ⟨some 9, .len false (.tmp 8), none⟩,
  ⟨some 10, .arith .lss (.tmp 7) (.tmp 9), none⟩]
@[simp] theorem ref04_without_r3_go (T : Tbl) (K : List Kt) (fr : Fr) (S : St) : gval T (.ops ref04_without_r3 :: K) fr S = gval T (.ops [
  ⟨some 7, .mov (.tmp 6), none⟩,
  ⟨some 8, .mov (.tmp 0), none⟩,
  ⟨some 9, .len false (.tmp 8), none⟩,
  ⟨some 10, .arith .lss (.tmp 7) (.tmp 9), none⟩] :: K) fr S := rfl
def ref04_without_r5 : List POper := [
  ⟨some 13, .mov (.tmp 0), none⟩,
  ⟨some 14, .mov (.tmp 6), none⟩,
  ⟨some 15, .iaddr 2 (.tmp 13) (.tmp 14), none⟩,
  ⟨some 16, .faddr 0 (.tmp 15), none⟩,
  ⟨some 17, .load false 1 false (.tmp 16), none⟩,
  ⟨some 18, .mov (.tmp 1), none⟩,
  ⟨some 19, .arith .neq (.tmp 17) (.tmp 18), none⟩]
@[simp] theorem ref04_without_r5_go (T : Tbl) (K : List Kt) (fr : Fr) (S : St) : gval T (.ops ref04_without_r5 :: K) fr S = gval T (.ops [
  ⟨some 13, .mov (.tmp 0), none⟩,
  ⟨some 14, .mov (.tmp 6), none⟩,
  ⟨some 15, .iaddr 2 (.tmp 13) (.tmp 14), none⟩,
  ⟨some 16, .faddr 0 (.tmp 15), none⟩,
  ⟨some 17, .load false 1 false (.tmp 16), none⟩,
  ⟨some 18, .mov (.tmp 1), none⟩,
  ⟨some 19, .arith .neq (.tmp 17) (.tmp 18), none⟩] :: K) fr S := rfl
def ref04_without_r6 : List POper := [
  ⟨some 20, .mov (.tmp 5), none⟩,
  ⟨some 21, .mov (.tmp 0), none⟩,
  ⟨some 22, .mov (.tmp 6), none⟩,
  ⟨some 23, .iaddr 2 (.tmp 21) (.tmp 22), none⟩,
  ⟨some 24, .load true 2 false (.tmp 23), none⟩,
  ⟨some 25, .bsl false (.agg [(.str []), (.int .i64 0)]) 1 [(0, (.tmp 24))], none⟩,
  ⟨some 26, .app 2 24 (.tmp 20) (.tmp 25), none⟩,
  ⟨some 5, .mov (.tmp 26), none⟩]
@[simp] theorem ref04_without_r6_go (T : Tbl) (K : List Kt) (fr : Fr) (S : St) : gval T (.ops ref04_without_r6 :: K) fr S = gval T (.ops [
  ⟨some 20, .mov (.tmp 5), none⟩,
  ⟨some 21, .mov (.tmp 0), none⟩,
  ⟨some 22, .mov (.tmp 6), none⟩,
  ⟨some 23, .iaddr 2 (.tmp 21) (.tmp 22), none⟩,
  ⟨some 24, .load true 2 false (.tmp 23), none⟩,
  ⟨some 25, .bsl false (.agg [(.str []), (.int .i64 0)]) 1 [(0, (.tmp 24))], none⟩,
  ⟨some 26, .app 2 24 (.tmp 20) (.tmp 25), none⟩,
  ⟨some 5, .mov (.tmp 26), none⟩] :: K) fr S := rfl
def ref04_without_r4 : List POper := [
  ⟨some 11, .mov (.tmp 6), none⟩,
  ⟨some 12, .arith .add (.tmp 11) (.cst (.int .i64 1)), none⟩,
  ⟨some 6, .mov (.tmp 12), none⟩]
@[simp] theorem ref04_without_r4_go (T : Tbl) (K : List Kt) (fr : Fr) (S : St) : gval T (.ops ref04_without_r4 :: K) fr S = gval T (.ops [
  ⟨some 11, .mov (.tmp 6), none⟩,
  ⟨some 12, .arith .add (.tmp 11) (.cst (.int .i64 1)), none⟩,
  ⟨some 6, .mov (.tmp 12), none⟩] :: K) fr S := rfl
def ref04_without_l0 : PCode :=
  (.seq (.seq (.clr [(7, 10)] (.region ref04_without_r3)) (.cond (.tmp 10) .skip (.exit 0))) (.seq (.block 1 (.seq (.clr [(13, 19)] (.region ref04_without_r5)) (.cond (.tmp 19) (.clr [(20, 27)] (.region ref04_without_r6)) .skip))) (.clr [(11, 13)] (.region ref04_without_r4))))
@[simp] theorem ref04_without_l0_go (T : Tbl) (K : List Kt) (fr : Fr) (S : St) : gval T (.code ref04_without_l0 :: K) fr S = gval T (.code (.seq (.seq (.clr [(7, 10)] (.region ref04_without_r3)) (.cond (.tmp 10) .skip (.exit 0))) (.seq (.block 1 (.seq (.clr [(13, 19)] (.region ref04_without_r5)) (.cond (.tmp 19) (.clr [(20, 27)] (.region ref04_without_r6)) .skip))) (.clr [(11, 13)] (.region ref04_without_r4)))) :: K) fr S := rfl
def ref04_without_r7 : List POper := [
  ⟨some 27, .mov (.tmp 5), none⟩,
  ⟨some 4, .mov (.tmp 27), none⟩]
@[simp] theorem ref04_without_r7_go (T : Tbl) (K : List Kt) (fr : Fr) (S : St) : gval T (.ops ref04_without_r7 :: K) fr S = gval T (.ops [
  ⟨some 27, .mov (.tmp 5), none⟩,
  ⟨some 4, .mov (.tmp 27), none⟩] :: K) fr S := rfl
def ref04_without : PCodeFn :=
  ⟨2, [.tmp 4],
  (.seq (.region ref04_without_r0) (.seq (.region ref04_without_r1) (.seq (.seq (.region ref04_without_r2) (.block 0 (.loop ref04_without_l0))) (.seq (.clr [(27, 28)] (.region ref04_without_r7)) .ret)))), false⟩

/-! slices.order2Ordered[string]: 411 -/
def slices_order2Ordered_string_r0 : List POper := [
  ⟨some 8, .mov (.cst (.int .i64 0)), none⟩,
  ⟨some 9, .mov (.cst (.int .i64 0)), none⟩]
@[simp] theorem slices_order2Ordered_string_r0_go (T : Tbl) (K : List Kt) (fr : Fr) (S : St) : gval T (.ops slices_order2Ordered_string_r0 :: K) fr S = gval T (.ops [
  ⟨some 8, .mov (.cst (.int .i64 0)), none⟩,
  ⟨some 9, .mov (.cst (.int .i64 0)), none⟩] :: K) fr S := rfl
def slices_order2Ordered_string_r1 : List POper := [
  ⟨some 10, .mov (.tmp 0), none⟩,
  ⟨some 11, .mov (.tmp 2), none⟩,
  ⟨some 12, .iaddr 1 (.tmp 10) (.tmp 11), none⟩,
  ⟨some 13, .load false 1 true (.tmp 12), none⟩,
  ⟨some 14, .mov (.tmp 0), none⟩,
  ⟨some 15, .mov (.tmp 1), none⟩,
  ⟨some 16, .iaddr 1 (.tmp 14) (.tmp 15), none⟩,
  ⟨some 17, .load false 1 true (.tmp 16), none⟩,
  ⟨some 18, .call .pur 369 [(.tmp 13), (.tmp 17)], none⟩]
@[simp] theorem slices_order2Ordered_string_r1_go (T : Tbl) (K : List Kt) (fr : Fr) (S : St) : gval T (.ops slices_order2Ordered_string_r1 :: K) fr S = gval T (.ops [
  ⟨some 10, .mov (.tmp 0), none⟩,
  ⟨some 11, .mov (.tmp 2), none⟩,
  ⟨some 12, .iaddr 1 (.tmp 10) (.tmp 11), none⟩,
  ⟨some 13, .load false 1 true (.tmp 12), none⟩,
  ⟨some 14, .mov (.tmp 0), none⟩,
  ⟨some 15, .mov (.tmp 1), none⟩,
  ⟨some 16, .iaddr 1 (.tmp 14) (.tmp 15), none⟩,
  ⟨some 17, .load false 1 true (.tmp 16), none⟩,
  ⟨some 18, .call .pur 369 [(.tmp 13), (.tmp 17)], none⟩] :: K) fr S := rfl
def slices_order2Ordered_string_r2 : List POper := [
  ⟨some 19, .mov (.tmp 3), none⟩,
  ⟨some 20, .nilck (.tmp 19), none⟩,
  ⟨some 21, .load false 1 false (.tmp 20), none⟩,
  ⟨some 22, .arith .add (.tmp 21) (.cst (.int .i64 1)), none⟩,
  ⟨some 23, .nilck (.tmp 19), none⟩,
  ⟨none, .store 1 (.tmp 23) (.tmp 22), none⟩]
@[simp] theorem slices_order2Ordered_string_r2_go (T : Tbl) (K : List Kt) (fr : Fr) (S : St) : gval T (.ops slices_order2Ordered_string_r2 :: K) fr S = gval T (.ops [
  ⟨some 19, .mov (.tmp 3), none⟩,
  ⟨some 20, .nilck (.tmp 19), none⟩,
  ⟨some 21, .load false 1 false (.tmp 20), none⟩,
  ⟨some 22, .arith .add (.tmp 21) (.cst (.int .i64 1)), none⟩,
  ⟨some 23, .nilck (.tmp 19), none⟩,
  ⟨none, .store 1 (.tmp 23) (.tmp 22), none⟩] :: K) fr S := rfl
def slices_order2Ordered_string_r3 : List POper := [
  ⟨some 24, .mov (.tmp 2), none⟩,
  ⟨some 25, .mov (.tmp 1), none⟩,
  ⟨some 8, .mov (.tmp 24), none⟩,
  ⟨some 9, .mov (.tmp 25), none⟩]
@[simp] theorem slices_order2Ordered_string_r3_go (T : Tbl) (K : List Kt) (fr : Fr) (S : St) : gval T (.ops slices_order2Ordered_string_r3 :: K) fr S = gval T (.ops [
  ⟨some 24, .mov (.tmp 2), none⟩,
  ⟨some 25, .mov (.tmp 1), none⟩,
  ⟨some 8, .mov (.tmp 24), none⟩,
  ⟨some 9, .mov (.tmp 25), none⟩] :: K) fr S := rfl
def slices_order2Ordered_string_r4 : List POper := [
  ⟨some 26, .mov (.tmp 1), none⟩,
  ⟨some 27, .mov (.tmp 2), none⟩,
  ⟨some 8, .mov (.tmp 26), none⟩,
  ⟨some 9, .mov (.tmp 27), none⟩]
@[simp] theorem slices_order2Ordered_string_r4_go (T : Tbl) (K : List Kt) (fr : Fr) (S : St) : gval T (.ops slices_order2Ordered_string_r4 :: K) fr S = gval T (.ops [
  ⟨some 26, .mov (.tmp 1), none⟩,
  ⟨some 27, .mov (.tmp 2), none⟩,
  ⟨some 8, .mov (.tmp 26), none⟩,
  ⟨some 9, .mov (.tmp 27), none⟩] :: K) fr S := rfl
def slices_order2Ordered_string : PCodeFn :=
  ⟨4, [.tmp 8, .tmp 9],
  (.seq (.region slices_order2Ordered_string_r0) (.seq (.seq (.clr [(10, 18)] (.region slices_order2Ordered_string_r1)) (.cond (.tmp 18) (.seq (.clr [(19, 24)] (.region slices_order2Ordered_string_r2)) (.seq (.clr [(24, 26)] (.region slices_order2Ordered_string_r3)) .ret)) .skip)) (.seq (.clr [(26, 28)] (.region slices_order2Ordered_string_r4)) .ret))), false⟩


end Ps
