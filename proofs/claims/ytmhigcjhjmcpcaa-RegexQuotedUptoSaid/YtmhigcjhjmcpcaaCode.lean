/- The functions' code, as the pure semantics has it: printed by program. -/
import Derived.Test.YtmhigcjhjmcpcaaCodeB
namespace Ps
open Go
set_option maxRecDepth 10000

/-! gauge/gaugeref07.byteOf: 393 -/
def ref07_byteOf_r0 : List POper := [
  ⟨some 4, .mov (.cst (.bool false)), none⟩]
@[simp] theorem ref07_byteOf_r0_go (T : Tbl) (K : List Kt) (fr : Fr) (S : St) : gval T (.ops ref07_byteOf_r0 :: K) fr S = gval T (.ops [
  ⟨some 4, .mov (.cst (.bool false)), none⟩] :: K) fr S := rfl
def ref07_byteOf_r1 : List POper := [
  ⟨some 7, .mov (.tmp 0), none⟩,
  ⟨some 8, .idxs (.tmp 7) (.cst (.int .i64 0)), none⟩,
  ⟨some 9, .arith .eql (.tmp 8) (.cst (.int .u8 92)), none⟩]
@[simp] theorem ref07_byteOf_r1_go (T : Tbl) (K : List Kt) (fr : Fr) (S : St) : gval T (.ops ref07_byteOf_r1 :: K) fr S = gval T (.ops [
  ⟨some 7, .mov (.tmp 0), none⟩,
  ⟨some 8, .idxs (.tmp 7) (.cst (.int .i64 0)), none⟩,
  ⟨some 9, .arith .eql (.tmp 8) (.cst (.int .u8 92)), none⟩] :: K) fr S := rfl
def ref07_byteOf_r2 : List POper := [
  ⟨some 10, .mov (.tmp 0), none⟩,
  ⟨some 11, .idxs (.tmp 10) (.cst (.int .i64 1)), none⟩,
  ⟨some 12, .mov (.tmp 1), none⟩,
  ⟨some 13, .arith .eql (.tmp 11) (.tmp 12), none⟩,
  ⟨some 4, .mov (.tmp 13), none⟩]
@[simp] theorem ref07_byteOf_r2_go (T : Tbl) (K : List Kt) (fr : Fr) (S : St) : gval T (.ops ref07_byteOf_r2 :: K) fr S = gval T (.ops [
  ⟨some 10, .mov (.tmp 0), none⟩,
  ⟨some 11, .idxs (.tmp 10) (.cst (.int .i64 1)), none⟩,
  ⟨some 12, .mov (.tmp 1), none⟩,
  ⟨some 13, .arith .eql (.tmp 11) (.tmp 12), none⟩,
  ⟨some 4, .mov (.tmp 13), none⟩] :: K) fr S := rfl
def ref07_byteOf_r3 : List POper := [
  ⟨some 14, .mov (.tmp 0), none⟩,
  ⟨some 15, .idxs (.tmp 14) (.cst (.int .i64 0)), none⟩,
  ⟨some 16, .arith .eql (.tmp 15) (.cst (.int .u8 91)), none⟩]
@[simp] theorem ref07_byteOf_r3_go (T : Tbl) (K : List Kt) (fr : Fr) (S : St) : gval T (.ops ref07_byteOf_r3 :: K) fr S = gval T (.ops [
  ⟨some 14, .mov (.tmp 0), none⟩,
  ⟨some 15, .idxs (.tmp 14) (.cst (.int .i64 0)), none⟩,
  ⟨some 16, .arith .eql (.tmp 15) (.cst (.int .u8 91)), none⟩] :: K) fr S := rfl
def ref07_byteOf_r4 : List POper := [
  ⟨some 18, .mov (.tmp 0), none⟩,
  ⟨some 19, .mov (.tmp 1), none⟩,
  ⟨some 20, .call .pur 305 [(.tmp 18), (.cst (.int .i64 0)), (.tmp 19)], none⟩,
  ⟨some 17, .mov (.tmp 20), none⟩,
  ⟨some 21, .extract 0 (.tmp 17), none⟩,
  ⟨some 22, .extract 1 (.tmp 17), none⟩,
  ⟨some 5, .mov (.tmp 21), none⟩,
  ⟨some 6, .mov (.tmp 22), none⟩]
@[simp] theorem ref07_byteOf_r4_go (T : Tbl) (K : List Kt) (fr : Fr) (S : St) : gval T (.ops ref07_byteOf_r4 :: K) fr S = gval T (.ops [
  ⟨some 18, .mov (.tmp 0), none⟩,
  ⟨some 19, .mov (.tmp 1), none⟩,
  ⟨some 20, .call .pur 305 [(.tmp 18), (.cst (.int .i64 0)), (.tmp 19)], none⟩,
  ⟨some 17, .mov (.tmp 20), none⟩,
  ⟨some 21, .extract 0 (.tmp 17), none⟩,
  ⟨some 22, .extract 1 (.tmp 17), none⟩,
  ⟨some 5, .mov (.tmp 21), none⟩,
  ⟨some 6, .mov (.tmp 22), none⟩] :: K) fr S := rfl
def ref07_byteOf_r5 : List POper := [
  ⟨some 23, .mov (.tmp 6), none⟩,
  ⟨some 4, .mov (.tmp 23), none⟩]
@[simp] theorem ref07_byteOf_r5_go (T : Tbl) (K : List Kt) (fr : Fr) (S : St) : gval T (.ops ref07_byteOf_r5 :: K) fr S = gval T (.ops [
  ⟨some 23, .mov (.tmp 6), none⟩,
  ⟨some 4, .mov (.tmp 23), none⟩] :: K) fr S := rfl
def ref07_byteOf_r6 : List POper := [
  ⟨some 24, .mov (.tmp 0), none⟩,
  ⟨some 25, .idxs (.tmp 24) (.cst (.int .i64 0)), none⟩,
  ⟨some 26, .arith .eql (.tmp 25) (.cst (.int .u8 46)), none⟩,
  ⟨some 27, .mov (.tmp 26), none⟩,
  ⟨some 28, .mov (.tmp 0), some (27, false)⟩,
  ⟨some 29, .idxs (.tmp 28) (.cst (.int .i64 0)), some (27, false)⟩,
  ⟨some 30, .mov (.tmp 1), some (27, false)⟩,
  ⟨some 31, .arith .eql (.tmp 29) (.tmp 30), some (27, false)⟩,
  ⟨some 32, .pick (.tmp 27) (.cst (.bool true)) (.tmp 31), none⟩,
  ⟨some 4, .mov (.tmp 32), none⟩]
@[simp] theorem ref07_byteOf_r6_go (T : Tbl) (K : List Kt) (fr : Fr) (S : St) : gval T (.ops ref07_byteOf_r6 :: K) fr S = gval T (.ops [
  ⟨some 24, .mov (.tmp 0), none⟩,
  ⟨some 25, .idxs (.tmp 24) (.cst (.int .i64 0)), none⟩,
  ⟨some 26, .arith .eql (.tmp 25) (.cst (.int .u8 46)), none⟩,
  ⟨some 27, .mov (.tmp 26), none⟩,
  ⟨some 28, .mov (.tmp 0), some (27, false)⟩,
  ⟨some 29, .idxs (.tmp 28) (.cst (.int .i64 0)), some (27, false)⟩,
  ⟨some 30, .mov (.tmp 1), some (27, false)⟩,
  ⟨some 31, .arith .eql (.tmp 29) (.tmp 30), some (27, false)⟩,
  ⟨some 32, .pick (.tmp 27) (.cst (.bool true)) (.tmp 31), none⟩,
  ⟨some 4, .mov (.tmp 32), none⟩] :: K) fr S := rfl
def ref07_byteOf : PCodeFn :=
  ⟨2, [.tmp 4],
  (.seq (.region ref07_byteOf_r0) (.seq (.seq (.clr [(7, 9)] (.region ref07_byteOf_r1)) (.cond (.tmp 9) (.seq (.clr [(10, 14)] (.region ref07_byteOf_r2)) .ret) .skip)) (.seq (.seq (.clr [(14, 16)] (.region ref07_byteOf_r3)) (.cond (.tmp 16) (.seq (.clr [(5, 6), (17, 23)] (.region ref07_byteOf_r4)) (.seq (.clr [(23, 24)] (.region ref07_byteOf_r5)) .ret)) .skip)) (.seq (.clr [(24, 33)] (.region ref07_byteOf_r6)) .ret)))), false⟩

/-! (*gauge/regex.reader).item: 410 -/
def regex_reader_item_r0 : List POper := [
  ⟨some 2, .mov (.cst (.int .u8 0)), none⟩]
@[simp] theorem regex_reader_item_r0_go (T : Tbl) (K : List Kt) (fr : Fr) (S : St) : gval T (.ops regex_reader_item_r0 :: K) fr S = gval T (.ops [
  ⟨some 2, .mov (.cst (.int .u8 0)), none⟩] :: K) fr S := rfl
def regex_reader_item_r1 : List POper := [
  ⟨some 3, .mov (.tmp 0), none⟩,
  ⟨some 4, .call .std 303 [(.tmp 3), (.cst (.str [92, 91, 93, 94, 45]))], none⟩]
@[simp] theorem regex_reader_item_r1_go (T : Tbl) (K : List Kt) (fr : Fr) (S : St) : gval T (.ops regex_reader_item_r1 :: K) fr S = gval T (.ops [
  ⟨some 3, .mov (.tmp 0), none⟩,
  ⟨some 4, .call .std 303 [(.tmp 3), (.cst (.str [92, 91, 93, 94, 45]))], none⟩] :: K) fr S := rfl
def regex_reader_item_r2 : List POper := [
  ⟨some 5, .mov (.tmp 0), none⟩,
  ⟨some 6, .nilck (.tmp 5), none⟩,
  ⟨some 7, .faddr 3 (.tmp 6), none⟩,
  ⟨none, .store 1 (.tmp 7) (.cst (.bool true)), none⟩]
@[simp] theorem regex_reader_item_r2_go (T : Tbl) (K : List Kt) (fr : Fr) (S : St) : gval T (.ops regex_reader_item_r2 :: K) fr S = gval T (.ops [
  ⟨some 5, .mov (.tmp 0), none⟩,
  ⟨some 6, .nilck (.tmp 5), none⟩,
  ⟨some 7, .faddr 3 (.tmp 6), none⟩,
  ⟨none, .store 1 (.tmp 7) (.cst (.bool true)), none⟩] :: K) fr S := rfl
def regex_reader_item_r3 : List POper := [
  ⟨some 8, .mov (.tmp 0), none⟩,
  ⟨some 9, .call .std 304 [(.tmp 8)], none⟩,
  ⟨some 2, .mov (.tmp 9), none⟩]
@[simp] theorem regex_reader_item_r3_go (T : Tbl) (K : List Kt) (fr : Fr) (S : St) : gval T (.ops regex_reader_item_r3 :: K) fr S = gval T (.ops [
  ⟨some 8, .mov (.tmp 0), none⟩,
  ⟨some 9, .call .std 304 [(.tmp 8)], none⟩,
  ⟨some 2, .mov (.tmp 9), none⟩] :: K) fr S := rfl
def regex_reader_item : PCodeFn :=
  ⟨1, [.tmp 2],
  (.seq (.region regex_reader_item_r0) (.seq (.seq (.clr [(3, 4)] (.region regex_reader_item_r1)) (.cond (.tmp 4) (.clr [(5, 8)] (.region regex_reader_item_r2)) .skip)) (.seq (.clr [(8, 10)] (.region regex_reader_item_r3)) .ret))), false⟩

/-! (gauge/regex.either).ends: 439 -/
def regex_either_ends_r0 : List POper := [
  ⟨some 5, .box true (.tmp 2), none⟩,
  ⟨some 6, .alloc false (List.replicate 65 (.bool false)), none⟩]
@[simp] theorem regex_either_ends_r0_go (T : Tbl) (K : List Kt) (fr : Fr) (S : St) : gval T (.ops regex_either_ends_r0 :: K) fr S = gval T (.ops [
  ⟨some 5, .box true (.tmp 2), none⟩,
  ⟨some 6, .alloc false (List.replicate 65 (.bool false)), none⟩] :: K) fr S := rfl
def regex_either_ends_r1 : List POper := [
  ⟨some 7, .alloc false (List.replicate 65 (.bool false)), none⟩]
@[simp] theorem regex_either_ends_r1_go (T : Tbl) (K : List Kt) (fr : Fr) (S : St) : gval T (.ops regex_either_ends_r1 :: K) fr S = gval T (.ops [
  ⟨some 7, .alloc false (List.replicate 65 (.bool false)), none⟩] :: K) fr S := rfl
def regex_either_ends_r2 : List POper := [
  ⟨some 10, .mov (.tmp 0), none⟩,
  ⟨some 11, .len false (.tmp 10), none⟩,
  ⟨some 12, .mov (.cst (.int .i64 0)), none⟩]
@[simp] theorem regex_either_ends_r2_go (T : Tbl) (K : List Kt) (fr : Fr) (S : St) : gval T (.ops regex_either_ends_r2 :: K) fr S = gval T (.ops [
  ⟨some 10, .mov (.tmp 0), none⟩,
  ⟨some 11, .len false (.tmp 10), none⟩,
  ⟨some 12, .mov (.cst (.int .i64 0)), none⟩] :: K) fr S := rfl
def regex_either_ends_r3 : List POper := [
  ⟨some 13, .arith .lss (.tmp 12) (.tmp 11), none⟩]
@[simp] theorem regex_either_ends_r3_go (T : Tbl) (K : List Kt) (fr : Fr) (S : St) : gval T (.ops regex_either_ends_r3 :: K) fr S = gval T (.ops [
  ⟨some 13, .arith .lss (.tmp 12) (.tmp 11), none⟩] :: K) fr S := rfl
def regex_either_ends_r4 : List POper := [
  ⟨some 14, .iaddr 1 (.tmp 10) (.tmp 12), none⟩,
  ⟨some 15, .load false 1 false (.tmp 14), none⟩,
  ⟨some 9, .mov (.tmp 15), none⟩]
@[simp] theorem regex_either_ends_r4_go (T : Tbl) (K : List Kt) (fr : Fr) (S : St) : gval T (.ops regex_either_ends_r4 :: K) fr S = gval T (.ops [
  ⟨some 14, .iaddr 1 (.tmp 10) (.tmp 12), none⟩,
  ⟨some 15, .load false 1 false (.tmp 14), none⟩,
  ⟨some 9, .mov (.tmp 15), none⟩] :: K) fr S := rfl
def regex_either_ends_r5 : List POper := [
  ⟨some 16, .load true 65 false (.tmp 7), none⟩,
  ⟨some 17, .mov (.tmp 9), none⟩,
  ⟨some 18, .mov (.tmp 1), none⟩,
  ⟨some 19, .load true 65 true (.tmp 5), none⟩,
  ⟨some 20, .inv .keep 0 (.tmp 17) [(.tmp 18), (.tmp 19)], none⟩,
  ⟨some 21, .call .std 440 [(.tmp 16), (.tmp 20)], none⟩,
  ⟨none, .store 65 (.tmp 7) (.tmp 21), none⟩]
@[simp] theorem regex_either_ends_r5_go (T : Tbl) (K : List Kt) (fr : Fr) (S : St) : gval T (.ops regex_either_ends_r5 :: K) fr S = gval T (.ops [
  ⟨some 16, .load true 65 false (.tmp 7), none⟩,
  ⟨some 17, .mov (.tmp 9), none⟩,
  ⟨some 18, .mov (.tmp 1), none⟩,
  ⟨some 19, .load true 65 true (.tmp 5), none⟩,
  ⟨some 20, .inv .keep 0 (.tmp 17) [(.tmp 18), (.tmp 19)], none⟩,
  ⟨some 21, .call .std 440 [(.tmp 16), (.tmp 20)], none⟩,
  ⟨none, .store 65 (.tmp 7) (.tmp 21), none⟩] :: K) fr S := rfl
def regex_either_ends_r6 : List POper := [
  ⟨some 22, .arith .add (.tmp 12) (.cst (.int .i64 1)), none⟩,
  ⟨some 12, .mov (.tmp 22), none⟩]
@[simp] theorem regex_either_ends_r6_go (T : Tbl) (K : List Kt) (fr : Fr) (S : St) : gval T (.ops regex_either_ends_r6 :: K) fr S = gval T (.ops [
  ⟨some 22, .arith .add (.tmp 12) (.cst (.int .i64 1)), none⟩,
  ⟨some 12, .mov (.tmp 22), none⟩] :: K) fr S := rfl
def regex_either_ends_l0 : PCode :=
  (.seq (.region regex_either_ends_r3) (.seq (.cond (.tmp 13) .skip (.exit 0)) (.seq (.block 1 (.seq (.clr [(14, 16)] (.region regex_either_ends_r4)) (.clr [(16, 22)] (.region regex_either_ends_r5)))) (.clr [(22, 23)] (.region regex_either_ends_r6)))))
@[simp] theorem regex_either_ends_l0_go (T : Tbl) (K : List Kt) (fr : Fr) (S : St) : gval T (.code regex_either_ends_l0 :: K) fr S = gval T (.code (.seq (.region regex_either_ends_r3) (.seq (.cond (.tmp 13) .skip (.exit 0)) (.seq (.block 1 (.seq (.clr [(14, 16)] (.region regex_either_ends_r4)) (.clr [(16, 22)] (.region regex_either_ends_r5)))) (.clr [(22, 23)] (.region regex_either_ends_r6))))) :: K) fr S := rfl
def regex_either_ends_r7 : List POper := [
  ⟨some 23, .load true 65 false (.tmp 7), none⟩,
  ⟨none, .store 65 (.tmp 6) (.tmp 23), none⟩]
@[simp] theorem regex_either_ends_r7_go (T : Tbl) (K : List Kt) (fr : Fr) (S : St) : gval T (.ops regex_either_ends_r7 :: K) fr S = gval T (.ops [
  ⟨some 23, .load true 65 false (.tmp 7), none⟩,
  ⟨none, .store 65 (.tmp 6) (.tmp 23), none⟩] :: K) fr S := rfl
def regex_either_ends : PCodeFn :=
  ⟨3, [.cell 6 true 65],
  (.seq (.region regex_either_ends_r0) (.seq (.region regex_either_ends_r1) (.seq (.seq (.region regex_either_ends_r2) (.block 0 (.loop regex_either_ends_l0))) (.seq (.clr [(23, 24)] (.region regex_either_ends_r7)) .ret)))), false⟩

/-! gauge/regex.join: 440 -/
def regex_join_r0 : List POper := [
  ⟨some 2, .box false (.tmp 0), none⟩,
  ⟨some 3, .box true (.tmp 1), none⟩,
  ⟨some 4, .alloc false (List.replicate 65 (.bool false)), none⟩]
@[simp] theorem regex_join_r0_go (T : Tbl) (K : List Kt) (fr : Fr) (S : St) : gval T (.ops regex_join_r0 :: K) fr S = gval T (.ops [
  ⟨some 2, .box false (.tmp 0), none⟩,
  ⟨some 3, .box true (.tmp 1), none⟩,
  ⟨some 4, .alloc false (List.replicate 65 (.bool false)), none⟩] :: K) fr S := rfl
def regex_join_r1 : List POper := [
  ⟨some 6, .mov (.cst (.int .i64 0)), none⟩]
@[simp] theorem regex_join_r1_go (T : Tbl) (K : List Kt) (fr : Fr) (S : St) : gval T (.ops regex_join_r1 :: K) fr S = gval T (.ops [
  ⟨some 6, .mov (.cst (.int .i64 0)), none⟩] :: K) fr S := rfl
def regex_join_r2 : List POper := [
  ⟨some 7, .arith .lss (.tmp 6) (.cst (.int .i64 65)), none⟩]
@[simp] theorem regex_join_r2_go (T : Tbl) (K : List Kt) (fr : Fr) (S : St) : gval T (.ops regex_join_r2 :: K) fr S = gval T (.ops [
  ⟨some 7, .arith .lss (.tmp 6) (.cst (.int .i64 65)), none⟩] :: K) fr S := rfl
def regex_join_r3 : List POper := [
  ⟨some 8, .mov (.tmp 6), none⟩,
  ⟨some 5, .mov (.tmp 8), none⟩]
@[simp] theorem regex_join_r3_go (T : Tbl) (K : List Kt) (fr : Fr) (S : St) : gval T (.ops regex_join_r3 :: K) fr S = gval T (.ops [
  ⟨some 8, .mov (.tmp 6), none⟩,
  ⟨some 5, .mov (.tmp 8), none⟩] :: K) fr S := rfl
def regex_join_r4 : List POper := [
  ⟨some 9, .mov (.tmp 5), none⟩,
  ⟨some 10, .mov (.tmp 5), none⟩,
  ⟨some 11, .iaddra 65 1 (.tmp 2) (.tmp 10), none⟩,
  ⟨some 12, .load false 1 false (.tmp 11), none⟩,
  ⟨some 13, .mov (.tmp 12), none⟩,
  ⟨some 14, .mov (.tmp 5), some (13, false)⟩,
  ⟨some 15, .iaddra 65 1 (.tmp 3) (.tmp 14), some (13, false)⟩,
  ⟨some 16, .load false 1 false (.tmp 15), some (13, false)⟩,
  ⟨some 17, .pick (.tmp 13) (.cst (.bool true)) (.tmp 16), none⟩,
  ⟨some 18, .iaddra 65 1 (.tmp 2) (.tmp 9), none⟩,
  ⟨none, .store 1 (.tmp 18) (.tmp 17), none⟩]
@[simp] theorem regex_join_r4_go (T : Tbl) (K : List Kt) (fr : Fr) (S : St) : gval T (.ops regex_join_r4 :: K) fr S = gval T (.ops [
  ⟨some 9, .mov (.tmp 5), none⟩,
  ⟨some 10, .mov (.tmp 5), none⟩,
  ⟨some 11, .iaddra 65 1 (.tmp 2) (.tmp 10), none⟩,
  ⟨some 12, .load false 1 false (.tmp 11), none⟩,
  ⟨some 13, .mov (.tmp 12), none⟩,
  ⟨some 14, .mov (.tmp 5), some (13, false)⟩,
  ⟨some 15, .iaddra 65 1 (.tmp 3) (.tmp 14), some (13, false)⟩,
  ⟨some 16, .load false 1 false (.tmp 15), some (13, false)⟩,
  ⟨some 17, .pick (.tmp 13) (.cst (.bool true)) (.tmp 16), none⟩,
  ⟨some 18, .iaddra 65 1 (.tmp 2) (.tmp 9), none⟩,
  ⟨none, .store 1 (.tmp 18) (.tmp 17), none⟩] :: K) fr S := rfl
def regex_join_r5 : List POper := [
  ⟨some 19, .arith .add (.tmp 6) (.cst (.int .i64 1)), none⟩,
  ⟨some 6, .mov (.tmp 19), none⟩]
@[simp] theorem regex_join_r5_go (T : Tbl) (K : List Kt) (fr : Fr) (S : St) : gval T (.ops regex_join_r5 :: K) fr S = gval T (.ops [
  ⟨some 19, .arith .add (.tmp 6) (.cst (.int .i64 1)), none⟩,
  ⟨some 6, .mov (.tmp 19), none⟩] :: K) fr S := rfl
def regex_join_l0 : PCode :=
  (.seq (.region regex_join_r2) (.seq (.cond (.tmp 7) .skip (.exit 0)) (.seq (.block 1 (.seq (.clr [(8, 9)] (.region regex_join_r3)) (.clr [(9, 19)] (.region regex_join_r4)))) (.clr [(19, 20)] (.region regex_join_r5)))))
@[simp] theorem regex_join_l0_go (T : Tbl) (K : List Kt) (fr : Fr) (S : St) : gval T (.code regex_join_l0 :: K) fr S = gval T (.code (.seq (.region regex_join_r2) (.seq (.cond (.tmp 7) .skip (.exit 0)) (.seq (.block 1 (.seq (.clr [(8, 9)] (.region regex_join_r3)) (.clr [(9, 19)] (.region regex_join_r4)))) (.clr [(19, 20)] (.region regex_join_r5))))) :: K) fr S := rfl
def regex_join_r6 : List POper := [
  ⟨some 20, .load true 65 false (.tmp 2), none⟩,
  ⟨none, .store 65 (.tmp 4) (.tmp 20), none⟩]
@[simp] theorem regex_join_r6_go (T : Tbl) (K : List Kt) (fr : Fr) (S : St) : gval T (.ops regex_join_r6 :: K) fr S = gval T (.ops [
  ⟨some 20, .load true 65 false (.tmp 2), none⟩,
  ⟨none, .store 65 (.tmp 4) (.tmp 20), none⟩] :: K) fr S := rfl
def regex_join : PCodeFn :=
  ⟨2, [.cell 4 true 65],
  (.seq (.region regex_join_r0) (.seq (.seq (.region regex_join_r1) (.block 0 (.loop regex_join_l0))) (.seq (.clr [(20, 21)] (.region regex_join_r6)) .ret))), false⟩

/-! (gauge/regex.row).ends: 452 -/
def regex_row_ends_r0 : List POper := [
  ⟨some 5, .box false (.tmp 2), none⟩,
  ⟨some 6, .alloc false (List.replicate 65 (.bool false)), none⟩]
@[simp] theorem regex_row_ends_r0_go (T : Tbl) (K : List Kt) (fr : Fr) (S : St) : gval T (.ops regex_row_ends_r0 :: K) fr S = gval T (.ops [
  ⟨some 5, .box false (.tmp 2), none⟩,
  ⟨some 6, .alloc false (List.replicate 65 (.bool false)), none⟩] :: K) fr S := rfl
def regex_row_ends_r1 : List POper := [
  ⟨some 9, .mov (.tmp 0), none⟩,
  ⟨some 10, .len false (.tmp 9), none⟩,
  ⟨some 11, .mov (.cst (.int .i64 0)), none⟩]
@[simp] theorem regex_row_ends_r1_go (T : Tbl) (K : List Kt) (fr : Fr) (S : St) : gval T (.ops regex_row_ends_r1 :: K) fr S = gval T (.ops [
  ⟨some 9, .mov (.tmp 0), none⟩,
  ⟨some 10, .len false (.tmp 9), none⟩,
  ⟨some 11, .mov (.cst (.int .i64 0)), none⟩] :: K) fr S := rfl
def regex_row_ends_r2 : List POper := [
  ⟨some 12, .arith .lss (.tmp 11) (.tmp 10), none⟩]
@[simp] theorem regex_row_ends_r2_go (T : Tbl) (K : List Kt) (fr : Fr) (S : St) : gval T (.ops regex_row_ends_r2 :: K) fr S = gval T (.ops [
  ⟨some 12, .arith .lss (.tmp 11) (.tmp 10), none⟩] :: K) fr S := rfl
def regex_row_ends_r3 : List POper := [
  ⟨some 13, .iaddr 1 (.tmp 9) (.tmp 11), none⟩,
  ⟨some 14, .load false 1 false (.tmp 13), none⟩,
  ⟨some 8, .mov (.tmp 14), none⟩]
@[simp] theorem regex_row_ends_r3_go (T : Tbl) (K : List Kt) (fr : Fr) (S : St) : gval T (.ops regex_row_ends_r3 :: K) fr S = gval T (.ops [
  ⟨some 13, .iaddr 1 (.tmp 9) (.tmp 11), none⟩,
  ⟨some 14, .load false 1 false (.tmp 13), none⟩,
  ⟨some 8, .mov (.tmp 14), none⟩] :: K) fr S := rfl
def regex_row_ends_r4 : List POper := [
  ⟨some 15, .mov (.tmp 8), none⟩,
  ⟨some 16, .mov (.tmp 1), none⟩,
  ⟨some 17, .load true 65 false (.tmp 5), none⟩,
  ⟨some 18, .inv .std 0 (.tmp 15) [(.tmp 16), (.tmp 17)], none⟩,
  ⟨none, .store 65 (.tmp 5) (.tmp 18), none⟩]
@[simp] theorem regex_row_ends_r4_go (T : Tbl) (K : List Kt) (fr : Fr) (S : St) : gval T (.ops regex_row_ends_r4 :: K) fr S = gval T (.ops [
  ⟨some 15, .mov (.tmp 8), none⟩,
  ⟨some 16, .mov (.tmp 1), none⟩,
  ⟨some 17, .load true 65 false (.tmp 5), none⟩,
  ⟨some 18, .inv .std 0 (.tmp 15) [(.tmp 16), (.tmp 17)], none⟩,
  ⟨none, .store 65 (.tmp 5) (.tmp 18), none⟩] :: K) fr S := rfl
def regex_row_ends_r5 : List POper := [
  ⟨some 19, .arith .add (.tmp 11) (.cst (.int .i64 1)), none⟩,
  ⟨some 11, .mov (.tmp 19), none⟩]
@[simp] theorem regex_row_ends_r5_go (T : Tbl) (K : List Kt) (fr : Fr) (S : St) : gval T (.ops regex_row_ends_r5 :: K) fr S = gval T (.ops [
  ⟨some 19, .arith .add (.tmp 11) (.cst (.int .i64 1)), none⟩,
  ⟨some 11, .mov (.tmp 19), none⟩] :: K) fr S := rfl
def regex_row_ends_l0 : PCode :=
  (.seq (.region regex_row_ends_r2) (.seq (.cond (.tmp 12) .skip (.exit 0)) (.seq (.block 1 (.seq (.clr [(13, 15)] (.region regex_row_ends_r3)) (.clr [(15, 19)] (.region regex_row_ends_r4)))) (.clr [(19, 20)] (.region regex_row_ends_r5)))))
@[simp] theorem regex_row_ends_l0_go (T : Tbl) (K : List Kt) (fr : Fr) (S : St) : gval T (.code regex_row_ends_l0 :: K) fr S = gval T (.code (.seq (.region regex_row_ends_r2) (.seq (.cond (.tmp 12) .skip (.exit 0)) (.seq (.block 1 (.seq (.clr [(13, 15)] (.region regex_row_ends_r3)) (.clr [(15, 19)] (.region regex_row_ends_r4)))) (.clr [(19, 20)] (.region regex_row_ends_r5))))) :: K) fr S := rfl
def regex_row_ends_r6 : List POper := [
  ⟨some 20, .load true 65 false (.tmp 5), none⟩,
  ⟨none, .store 65 (.tmp 6) (.tmp 20), none⟩]
@[simp] theorem regex_row_ends_r6_go (T : Tbl) (K : List Kt) (fr : Fr) (S : St) : gval T (.ops regex_row_ends_r6 :: K) fr S = gval T (.ops [
  ⟨some 20, .load true 65 false (.tmp 5), none⟩,
  ⟨none, .store 65 (.tmp 6) (.tmp 20), none⟩] :: K) fr S := rfl
def regex_row_ends : PCodeFn :=
  ⟨3, [.cell 6 true 65],
  (.seq (.region regex_row_ends_r0) (.seq (.seq (.region regex_row_ends_r1) (.block 0 (.loop regex_row_ends_l0))) (.seq (.clr [(20, 21)] (.region regex_row_ends_r6)) .ret))), false⟩

/-! (*gauge/regex.one).ends: 454 -/
def regex_one_ends_r0 : List POper := [
  ⟨some 5, .box true (.tmp 2), none⟩,
  ⟨some 6, .alloc false (List.replicate 65 (.bool false)), none⟩]
@[simp] theorem regex_one_ends_r0_go (T : Tbl) (K : List Kt) (fr : Fr) (S : St) : gval T (.ops regex_one_ends_r0 :: K) fr S = gval T (.ops [
  ⟨some 5, .box true (.tmp 2), none⟩,
  ⟨some 6, .alloc false (List.replicate 65 (.bool false)), none⟩] :: K) fr S := rfl
def regex_one_ends_r1 : List POper := [
  ⟨some 7, .alloc false (List.replicate 65 (.bool false)), none⟩]
@[simp] theorem regex_one_ends_r1_go (T : Tbl) (K : List Kt) (fr : Fr) (S : St) : gval T (.ops regex_one_ends_r1 :: K) fr S = gval T (.ops [
  ⟨some 7, .alloc false (List.replicate 65 (.bool false)), none⟩] :: K) fr S := rfl
def regex_one_ends_r2 : List POper := [
  ⟨some 9, .mov (.tmp 1), none⟩,
  ⟨some 10, .len true (.tmp 9), none⟩,
  ⟨some 11, .mov (.cst (.int .i64 0)), none⟩]
@[simp] theorem regex_one_ends_r2_go (T : Tbl) (K : List Kt) (fr : Fr) (S : St) : gval T (.ops regex_one_ends_r2 :: K) fr S = gval T (.ops [
  ⟨some 9, .mov (.tmp 1), none⟩,
  ⟨some 10, .len true (.tmp 9), none⟩,
  ⟨some 11, .mov (.cst (.int .i64 0)), none⟩] :: K) fr S := rfl
def regex_one_ends_r3 : List POper := [
  ⟨some 12, .arith .lss (.tmp 11) (.tmp 10), none⟩]
@[simp] theorem regex_one_ends_r3_go (T : Tbl) (K : List Kt) (fr : Fr) (S : St) : gval T (.ops regex_one_ends_r3 :: K) fr S = gval T (.ops [
  ⟨some 12, .arith .lss (.tmp 11) (.tmp 10), none⟩] :: K) fr S := rfl
def regex_one_ends_r4 : List POper := [
  ⟨some 13, .mov (.tmp 11), none⟩,
  ⟨some 8, .mov (.tmp 13), none⟩]
@[simp] theorem regex_one_ends_r4_go (T : Tbl) (K : List Kt) (fr : Fr) (S : St) : gval T (.ops regex_one_ends_r4 :: K) fr S = gval T (.ops [
  ⟨some 13, .mov (.tmp 11), none⟩,
  ⟨some 8, .mov (.tmp 13), none⟩] :: K) fr S := rfl
def regex_one_ends_r5 : List POper := [
  ⟨some 14, .mov (.tmp 8), none⟩,
  ⟨some 15, .arith .add (.tmp 14) (.cst (.int .i64 1)), none⟩,
  ⟨some 16, .mov (.tmp 8), none⟩,
  ⟨some 17, .iaddra 65 1 (.tmp 5) (.tmp 16), none⟩,
  ⟨some 18, .load false 1 true (.tmp 17), none⟩,
  ⟨some 19, .mov (.tmp 18), none⟩,
  ⟨some 20, .mov (.tmp 0), some (19, true)⟩,
  ⟨some 21, .mov (.tmp 1), some (19, true)⟩,
  ⟨some 22, .mov (.tmp 8), some (19, true)⟩,
  ⟨some 23, .idxs (.tmp 21) (.tmp 22), some (19, true)⟩,
  ⟨some 24, .nilck (.tmp 20), some (19, true)⟩,
  ⟨some 25, .iaddra 256 1 (.tmp 24) (.tmp 23), some (19, true)⟩,
  ⟨some 26, .load false 1 false (.tmp 25), some (19, true)⟩,
  ⟨some 27, .pick (.tmp 19) (.tmp 26) (.cst (.bool false)), none⟩,
  ⟨some 28, .iaddra 65 1 (.tmp 7) (.tmp 15), none⟩,
  ⟨none, .store 1 (.tmp 28) (.tmp 27), none⟩]
@[simp] theorem regex_one_ends_r5_go (T : Tbl) (K : List Kt) (fr : Fr) (S : St) : gval T (.ops regex_one_ends_r5 :: K) fr S = gval T (.ops [
  ⟨some 14, .mov (.tmp 8), none⟩,
  ⟨some 15, .arith .add (.tmp 14) (.cst (.int .i64 1)), none⟩,
  ⟨some 16, .mov (.tmp 8), none⟩,
  ⟨some 17, .iaddra 65 1 (.tmp 5) (.tmp 16), none⟩,
  ⟨some 18, .load false 1 true (.tmp 17), none⟩,
  ⟨some 19, .mov (.tmp 18), none⟩,
  ⟨some 20, .mov (.tmp 0), some (19, true)⟩,
  ⟨some 21, .mov (.tmp 1), some (19, true)⟩,
  ⟨some 22, .mov (.tmp 8), some (19, true)⟩,
  ⟨some 23, .idxs (.tmp 21) (.tmp 22), some (19, true)⟩,
  ⟨some 24, .nilck (.tmp 20), some (19, true)⟩,
  ⟨some 25, .iaddra 256 1 (.tmp 24) (.tmp 23), some (19, true)⟩,
  ⟨some 26, .load false 1 false (.tmp 25), some (19, true)⟩,
  ⟨some 27, .pick (.tmp 19) (.tmp 26) (.cst (.bool false)), none⟩,
  ⟨some 28, .iaddra 65 1 (.tmp 7) (.tmp 15), none⟩,
  ⟨none, .store 1 (.tmp 28) (.tmp 27), none⟩] :: K) fr S := rfl
def regex_one_ends_r6 : List POper := [
  ⟨some 29, .arith .add (.tmp 11) (.cst (.int .i64 1)), none⟩,
  ⟨some 11, .mov (.tmp 29), none⟩]
@[simp] theorem regex_one_ends_r6_go (T : Tbl) (K : List Kt) (fr : Fr) (S : St) : gval T (.ops regex_one_ends_r6 :: K) fr S = gval T (.ops [
  ⟨some 29, .arith .add (.tmp 11) (.cst (.int .i64 1)), none⟩,
  ⟨some 11, .mov (.tmp 29), none⟩] :: K) fr S := rfl
def regex_one_ends_l0 : PCode :=
  (.seq (.region regex_one_ends_r3) (.seq (.cond (.tmp 12) .skip (.exit 0)) (.seq (.block 1 (.seq (.clr [(13, 14)] (.region regex_one_ends_r4)) (.clr [(14, 29)] (.region regex_one_ends_r5)))) (.clr [(29, 30)] (.region regex_one_ends_r6)))))
@[simp] theorem regex_one_ends_l0_go (T : Tbl) (K : List Kt) (fr : Fr) (S : St) : gval T (.code regex_one_ends_l0 :: K) fr S = gval T (.code (.seq (.region regex_one_ends_r3) (.seq (.cond (.tmp 12) .skip (.exit 0)) (.seq (.block 1 (.seq (.clr [(13, 14)] (.region regex_one_ends_r4)) (.clr [(14, 29)] (.region regex_one_ends_r5)))) (.clr [(29, 30)] (.region regex_one_ends_r6))))) :: K) fr S := rfl
def regex_one_ends_r7 : List POper := [
  ⟨some 30, .load true 65 false (.tmp 7), none⟩,
  ⟨none, .store 65 (.tmp 6) (.tmp 30), none⟩]
@[simp] theorem regex_one_ends_r7_go (T : Tbl) (K : List Kt) (fr : Fr) (S : St) : gval T (.ops regex_one_ends_r7 :: K) fr S = gval T (.ops [
  ⟨some 30, .load true 65 false (.tmp 7), none⟩,
  ⟨none, .store 65 (.tmp 6) (.tmp 30), none⟩] :: K) fr S := rfl
def regex_one_ends : PCodeFn :=
  ⟨3, [.cell 6 true 65],
  (.seq (.region regex_one_ends_r0) (.seq (.region regex_one_ends_r1) (.seq (.seq (.clr [(9, 10)] (.region regex_one_ends_r2)) (.block 0 (.loop regex_one_ends_l0))) (.seq (.clr [(30, 31)] (.region regex_one_ends_r7)) .ret)))), false⟩

/-! (gauge/regex.again).ends: 453 -/
def regex_again_ends_r0 : List POper := [
  ⟨some 3, .box true (.tmp 0), none⟩,
  ⟨some 5, .box true (.tmp 2), none⟩,
  ⟨some 6, .alloc false (List.replicate 65 (.bool false)), none⟩]
@[simp] theorem regex_again_ends_r0_go (T : Tbl) (K : List Kt) (fr : Fr) (S : St) : gval T (.ops regex_again_ends_r0 :: K) fr S = gval T (.ops [
  ⟨some 3, .box true (.tmp 0), none⟩,
  ⟨some 5, .box true (.tmp 2), none⟩,
  ⟨some 6, .alloc false (List.replicate 65 (.bool false)), none⟩] :: K) fr S := rfl
def regex_again_ends_r1 : List POper := [
  ⟨some 9, .faddr 0 (.tmp 3), none⟩,
  ⟨some 10, .load false 1 false (.tmp 9), none⟩,
  ⟨some 11, .mov (.tmp 1), none⟩,
  ⟨some 12, .load true 65 false (.tmp 5), none⟩,
  ⟨some 13, .inv .std 0 (.tmp 10) [(.tmp 11), (.tmp 12)], none⟩,
  ⟨some 7, .alloc false (List.replicate 65 (.bool false)), none⟩,
  ⟨none, .store 65 (.tmp 7) (.tmp 13), none⟩]
@[simp] theorem regex_again_ends_r1_go (T : Tbl) (K : List Kt) (fr : Fr) (S : St) : gval T (.ops regex_again_ends_r1 :: K) fr S = gval T (.ops [
  ⟨some 9, .faddr 0 (.tmp 3), none⟩,
  ⟨some 10, .load false 1 false (.tmp 9), none⟩,
  ⟨some 11, .mov (.tmp 1), none⟩,
  ⟨some 12, .load true 65 false (.tmp 5), none⟩,
  ⟨some 13, .inv .std 0 (.tmp 10) [(.tmp 11), (.tmp 12)], none⟩,
  ⟨some 7, .alloc false (List.replicate 65 (.bool false)), none⟩,
  ⟨none, .store 65 (.tmp 7) (.tmp 13), none⟩] :: K) fr S := rfl
def regex_again_ends_r2 : List POper := [
  ⟨some 14, .faddr 2 (.tmp 3), none⟩,
  ⟨some 15, .load false 1 false (.tmp 14), none⟩]
@[simp] theorem regex_again_ends_r2_go (T : Tbl) (K : List Kt) (fr : Fr) (S : St) : gval T (.ops regex_again_ends_r2 :: K) fr S = gval T (.ops [
  ⟨some 14, .faddr 2 (.tmp 3), none⟩,
  ⟨some 15, .load false 1 false (.tmp 14), none⟩] :: K) fr S := rfl
def regex_again_ends_r3 : List POper := [
  ⟨some 16, .load true 65 false (.tmp 7), none⟩,
  ⟨some 17, .faddr 0 (.tmp 3), none⟩,
  ⟨some 18, .load false 1 true (.tmp 17), none⟩,
  ⟨some 19, .mov (.tmp 1), none⟩,
  ⟨some 20, .load true 65 false (.tmp 7), none⟩,
  ⟨some 21, .inv .pur 0 (.tmp 18) [(.tmp 19), (.tmp 20)], none⟩,
  ⟨some 22, .call .pur 440 [(.tmp 16), (.tmp 21)], none⟩,
  ⟨some 8, .alloc false (List.replicate 65 (.bool false)), none⟩,
  ⟨none, .store 65 (.tmp 8) (.tmp 22), none⟩]
@[simp] theorem regex_again_ends_r3_go (T : Tbl) (K : List Kt) (fr : Fr) (S : St) : gval T (.ops regex_again_ends_r3 :: K) fr S = gval T (.ops [
  ⟨some 16, .load true 65 false (.tmp 7), none⟩,
  ⟨some 17, .faddr 0 (.tmp 3), none⟩,
  ⟨some 18, .load false 1 true (.tmp 17), none⟩,
  ⟨some 19, .mov (.tmp 1), none⟩,
  ⟨some 20, .load true 65 false (.tmp 7), none⟩,
  ⟨some 21, .inv .pur 0 (.tmp 18) [(.tmp 19), (.tmp 20)], none⟩,
  ⟨some 22, .call .pur 440 [(.tmp 16), (.tmp 21)], none⟩,
  ⟨some 8, .alloc false (List.replicate 65 (.bool false)), none⟩,
  ⟨none, .store 65 (.tmp 8) (.tmp 22), none⟩] :: K) fr S := rfl
def regex_again_ends_r4 : List POper := [
  ⟨some 23, .load true 65 false (.tmp 8), none⟩,
  ⟨some 24, .load true 65 false (.tmp 7), none⟩,
  ⟨some 25, .eqa false true 65 (.tmp 23) (.tmp 24), none⟩]
@[simp] theorem regex_again_ends_r4_go (T : Tbl) (K : List Kt) (fr : Fr) (S : St) : gval T (.ops regex_again_ends_r4 :: K) fr S = gval T (.ops [
  ⟨some 23, .load true 65 false (.tmp 8), none⟩,
  ⟨some 24, .load true 65 false (.tmp 7), none⟩,
  ⟨some 25, .eqa false true 65 (.tmp 23) (.tmp 24), none⟩] :: K) fr S := rfl
def regex_again_ends_r5 : List POper := [
  ⟨some 26, .load true 65 false (.tmp 8), none⟩,
  ⟨none, .store 65 (.tmp 7) (.tmp 26), none⟩]
@[simp] theorem regex_again_ends_r5_go (T : Tbl) (K : List Kt) (fr : Fr) (S : St) : gval T (.ops regex_again_ends_r5 :: K) fr S = gval T (.ops [
  ⟨some 26, .load true 65 false (.tmp 8), none⟩,
  ⟨none, .store 65 (.tmp 7) (.tmp 26), none⟩] :: K) fr S := rfl
def regex_again_ends_l0 : PCode :=
  (.seq (.seq (.clr [(14, 15)] (.region regex_again_ends_r2)) (.cond (.tmp 15) .skip (.exit 0))) (.block 1 (.seq (.clr [(16, 23)] (.region regex_again_ends_r3)) (.seq (.seq (.clr [(23, 25)] (.region regex_again_ends_r4)) (.cond (.tmp 25) (.exit 0) .skip)) (.clr [(26, 27)] (.region regex_again_ends_r5))))))
@[simp] theorem regex_again_ends_l0_go (T : Tbl) (K : List Kt) (fr : Fr) (S : St) : gval T (.code regex_again_ends_l0 :: K) fr S = gval T (.code (.seq (.seq (.clr [(14, 15)] (.region regex_again_ends_r2)) (.cond (.tmp 15) .skip (.exit 0))) (.block 1 (.seq (.clr [(16, 23)] (.region regex_again_ends_r3)) (.seq (.seq (.clr [(23, 25)] (.region regex_again_ends_r4)) (.cond (.tmp 25) (.exit 0) .skip)) (.clr [(26, 27)] (.region regex_again_ends_r5)))))) :: K) fr S := rfl
def regex_again_ends_r6 : List POper := [
  ⟨some 27, .faddr 1 (.tmp 3), none⟩,
  ⟨some 28, .load false 1 false (.tmp 27), none⟩]
@[simp] theorem regex_again_ends_r6_go (T : Tbl) (K : List Kt) (fr : Fr) (S : St) : gval T (.ops regex_again_ends_r6 :: K) fr S = gval T (.ops [
  ⟨some 27, .faddr 1 (.tmp 3), none⟩,
  ⟨some 28, .load false 1 false (.tmp 27), none⟩] :: K) fr S := rfl
def regex_again_ends_r7 : List POper := [
  ⟨some 29, .load true 65 false (.tmp 7), none⟩,
  ⟨some 30, .load true 65 false (.tmp 5), none⟩,
  ⟨some 31, .call .std 440 [(.tmp 29), (.tmp 30)], none⟩,
  ⟨none, .store 65 (.tmp 7) (.tmp 31), none⟩]
@[simp] theorem regex_again_ends_r7_go (T : Tbl) (K : List Kt) (fr : Fr) (S : St) : gval T (.ops regex_again_ends_r7 :: K) fr S = gval T (.ops [
  ⟨some 29, .load true 65 false (.tmp 7), none⟩,
  ⟨some 30, .load true 65 false (.tmp 5), none⟩,
  ⟨some 31, .call .std 440 [(.tmp 29), (.tmp 30)], none⟩,
  ⟨none, .store 65 (.tmp 7) (.tmp 31), none⟩] :: K) fr S := rfl
def regex_again_ends_r8 : List POper := [
  ⟨some 32, .load true 65 false (.tmp 7), none⟩,
  ⟨none, .store 65 (.tmp 6) (.tmp 32), none⟩]
@[simp] theorem regex_again_ends_r8_go (T : Tbl) (K : List Kt) (fr : Fr) (S : St) : gval T (.ops regex_again_ends_r8 :: K) fr S = gval T (.ops [
  ⟨some 32, .load true 65 false (.tmp 7), none⟩,
  ⟨none, .store 65 (.tmp 6) (.tmp 32), none⟩] :: K) fr S := rfl
def regex_again_ends : PCodeFn :=
  ⟨3, [.cell 6 true 65],
  (.seq (.region regex_again_ends_r0) (.seq (.clr [(9, 14)] (.region regex_again_ends_r1)) (.seq (.block 0 (.loop regex_again_ends_l0)) (.seq (.seq (.clr [(27, 28)] (.region regex_again_ends_r6)) (.cond (.tmp 28) (.clr [(29, 32)] (.region regex_again_ends_r7)) .skip)) (.seq (.clr [(32, 33)] (.region regex_again_ends_r8)) .ret))))), false⟩


end Ps
