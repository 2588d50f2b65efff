/- The functions' code, as the pure semantics has it: printed by program. -/
import Derived.Test.YtfimbhaiegkkeaaCodeB
namespace Ps
open Go
set_option maxRecDepth 10000

/-! slices.IndexFunc[[]gauge/api.Label,gauge/api.Label]: 114 -/
def slices_IndexFunc_Label_r0 : List POper := [
  ⟨some 4, .mov (.cst (.int .i64 0)), none⟩]
@[simp] theorem slices_IndexFunc_Label_r0_go (T : Tbl) (K : List Kt) (fr : Fr) (S : St) : gval T (.ops slices_IndexFunc_Label_r0 :: K) fr S = gval T (.ops [
  ⟨some 4, .mov (.cst (.int .i64 0)), none⟩] :: K) fr S := rfl
def slices_IndexFunc_Label_r1 : List POper := [
  ⟨some 6, .mov (.tmp 0), none⟩,
  ⟨some 7, .len false (.tmp 6), none⟩,
  ⟨some 8, .mov (.cst (.int .i64 0)), none⟩]
@[simp] theorem slices_IndexFunc_Label_r1_go (T : Tbl) (K : List Kt) (fr : Fr) (S : St) : gval T (.ops slices_IndexFunc_Label_r1 :: K) fr S = gval T (.ops [
  ⟨some 6, .mov (.tmp 0), none⟩,
  ⟨some 7, .len false (.tmp 6), none⟩,
  ⟨some 8, .mov (.cst (.int .i64 0)), none⟩] :: K) fr S := rfl
def slices_IndexFunc_Label_r2 : List POper := [
  ⟨some 9, .arith .lss (.tmp 8) (.tmp 7), none⟩]
@[simp] theorem slices_IndexFunc_Label_r2_go (T : Tbl) (K : List Kt) (fr : Fr) (S : St) : gval T (.ops slices_IndexFunc_Label_r2 :: K) fr S = gval T (.ops [
  ⟨some 9, .arith .lss (.tmp 8) (.tmp 7), none⟩] :: K) fr S := rfl
def slices_IndexFunc_Label_r3 : List POper := [
  ⟨some 10, .mov (.tmp 8), none⟩,
  ⟨some 5, .mov (.tmp 10), none⟩]
@[simp] theorem slices_IndexFunc_Label_r3_go (T : Tbl) (K : List Kt) (fr : Fr) (S : St) : gval T (.ops slices_IndexFunc_Label_r3 :: K) fr S = gval T (.ops [
  ⟨some 10, .mov (.tmp 8), none⟩,
  ⟨some 5, .mov (.tmp 10), none⟩] :: K) fr S := rfl
def slices_IndexFunc_Label_r4 : List POper := [
  ⟨some 11, .mov (.tmp 1), none⟩,
  ⟨some 12, .mov (.tmp 0), none⟩,
  ⟨some 13, .mov (.tmp 5), none⟩,
  ⟨some 14, .iaddr 2 (.tmp 12) (.tmp 13), none⟩,
  ⟨some 15, .load true 2 false (.tmp 14), none⟩,
  ⟨some 16, .callv .std (.tmp 11) [(.tmp 15)], none⟩]
@[simp] theorem slices_IndexFunc_Label_r4_go (T : Tbl) (K : List Kt) (fr : Fr) (S : St) : gval T (.ops slices_IndexFunc_Label_r4 :: K) fr S = gval T (.ops [
  ⟨some 11, .mov (.tmp 1), none⟩,
  ⟨some 12, .mov (.tmp 0), none⟩,
  ⟨some 13, .mov (.tmp 5), none⟩,
  ⟨some 14, .iaddr 2 (.tmp 12) (.tmp 13), none⟩,
  ⟨some 15, .load true 2 false (.tmp 14), none⟩,
  ⟨some 16, .callv .std (.tmp 11) [(.tmp 15)], none⟩] :: K) fr S := rfl
def slices_IndexFunc_Label_r5 : List POper := [
  ⟨some 17, .mov (.tmp 5), none⟩,
  ⟨some 4, .mov (.tmp 17), none⟩]
@[simp] theorem slices_IndexFunc_Label_r5_go (T : Tbl) (K : List Kt) (fr : Fr) (S : St) : gval T (.ops slices_IndexFunc_Label_r5 :: K) fr S = gval T (.ops [
  ⟨some 17, .mov (.tmp 5), none⟩,
  ⟨some 4, .mov (.tmp 17), none⟩] :: K) fr S := rfl
def slices_IndexFunc_Label_r6 : List POper := [
  ⟨some 18, .arith .add (.tmp 8) (.cst (.int .i64 1)), none⟩,
  ⟨some 8, .mov (.tmp 18), none⟩]
@[simp] theorem slices_IndexFunc_Label_r6_go (T : Tbl) (K : List Kt) (fr : Fr) (S : St) : gval T (.ops slices_IndexFunc_Label_r6 :: K) fr S = gval T (.ops [
  ⟨some 18, .arith .add (.tmp 8) (.cst (.int .i64 1)), none⟩,
  ⟨some 8, .mov (.tmp 18), none⟩] :: K) fr S := rfl
def slices_IndexFunc_Label_l0 : PCode :=
  (.seq (.region slices_IndexFunc_Label_r2) (.seq (.cond (.tmp 9) .skip (.exit 0)) (.seq (.block 1 (.seq (.clr [(10, 11)] (.region slices_IndexFunc_Label_r3)) (.seq (.clr [(11, 16)] (.region slices_IndexFunc_Label_r4)) (.cond (.tmp 16) (.seq (.clr [(17, 18)] (.region slices_IndexFunc_Label_r5)) .ret) .skip)))) (.clr [(18, 19)] (.region slices_IndexFunc_Label_r6)))))
@[simp] theorem slices_IndexFunc_Label_l0_go (T : Tbl) (K : List Kt) (fr : Fr) (S : St) : gval T (.code slices_IndexFunc_Label_l0 :: K) fr S = gval T (.code (.seq (.region slices_IndexFunc_Label_r2) (.seq (.cond (.tmp 9) .skip (.exit 0)) (.seq (.block 1 (.seq (.clr [(10, 11)] (.region slices_IndexFunc_Label_r3)) (.seq (.clr [(11, 16)] (.region slices_IndexFunc_Label_r4)) (.cond (.tmp 16) (.seq (.clr [(17, 18)] (.region slices_IndexFunc_Label_r5)) .ret) .skip)))) (.clr [(18, 19)] (.region slices_IndexFunc_Label_r6))))) :: K) fr S := rfl
def slices_IndexFunc_Label_r7 : List POper := [
  ⟨some 4, .mov (.cst (.int .i64 (-1))), none⟩]
@[simp] theorem slices_IndexFunc_Label_r7_go (T : Tbl) (K : List Kt) (fr : Fr) (S : St) : gval T (.ops slices_IndexFunc_Label_r7 :: K) fr S = gval T (.ops [
  ⟨some 4, .mov (.cst (.int .i64 (-1))), none⟩] :: K) fr S := rfl
def slices_IndexFunc_Label : PCodeFn :=
  ⟨2, [.tmp 4],
  (.seq (.region slices_IndexFunc_Label_r0) (.seq (.seq (.clr [(6, 7)] (.region slices_IndexFunc_Label_r1)) (.block 0 (.loop slices_IndexFunc_Label_l0))) (.seq (.region slices_IndexFunc_Label_r7) .ret))), false⟩

/-! gauge/label.Get.1: 115 -/
def label_Get_1_r0 : List POper := [
  ⟨some 2, .box true (.tmp 0), none⟩,
  ⟨some 3, .mov (.cst (.bool false)), none⟩]
@[simp] theorem label_Get_1_r0_go (T : Tbl) (K : List Kt) (fr : Fr) (S : St) : gval T (.ops label_Get_1_r0 :: K) fr S = gval T (.ops [
  ⟨some 2, .box true (.tmp 0), none⟩,
  ⟨some 3, .mov (.cst (.bool false)), none⟩] :: K) fr S := rfl
def label_Get_1_r1 : List POper := [
  ⟨some 4, .faddr 0 (.tmp 2), none⟩,
  ⟨some 5, .load false 1 false (.tmp 4), none⟩,
  ⟨some 6, .load false 1 false (.tmp 1), none⟩,
  ⟨some 7, .arith .eql (.tmp 5) (.tmp 6), none⟩,
  ⟨some 3, .mov (.tmp 7), none⟩]
@[simp] theorem label_Get_1_r1_go (T : Tbl) (K : List Kt) (fr : Fr) (S : St) : gval T (.ops label_Get_1_r1 :: K) fr S = gval T (.ops [
  ⟨some 4, .faddr 0 (.tmp 2), none⟩,
  ⟨some 5, .load false 1 false (.tmp 4), none⟩,
  ⟨some 6, .load false 1 false (.tmp 1), none⟩,
  ⟨some 7, .arith .eql (.tmp 5) (.tmp 6), none⟩,
  ⟨some 3, .mov (.tmp 7), none⟩] :: K) fr S := rfl
def label_Get_1 : PCodeFn :=
  ⟨2, [.tmp 3],
  (.seq (.region label_Get_1_r0) (.seq (.clr [(4, 8)] (.region label_Get_1_r1)) .ret)), false⟩

/-! gauge/gaugeref06.Has: 119 -/
def ref06_Has_r0 : List POper := [
  ⟨some 4, .mov (.cst (.bool false)), none⟩]
@[simp] theorem ref06_Has_r0_go (T : Tbl) (K : List Kt) (fr : Fr) (S : St) : gval T (.ops ref06_Has_r0 :: K) fr S = gval T (.ops [
  ⟨some 4, .mov (.cst (.bool false)), none⟩] :: K) fr S := rfl
def ref06_Has_r1 : List POper := [
  ⟨some 5, .mov (.cst (.int .i64 0)), none⟩]
@[simp] theorem ref06_Has_r1_go (T : Tbl) (K : List Kt) (fr : Fr) (S : St) : gval T (.ops ref06_Has_r1 :: K) fr S = gval T (.ops [
  ⟨some 5, .mov (.cst (.int .i64 0)), none⟩] :: K) fr S := rfl
def ref06_Has_r2 : List POper := [
  ⟨some 6, .mov (.tmp 5), none⟩,
  ⟨some 7, .mov (.tmp 0), none⟩,
  ⟨some 8, .len false (.tmp 7), none⟩,
  ⟨some 9, .arith .lss (.tmp 6) (.tmp 8), none⟩]
@[simp] theorem ref06_Has_r2_go (T : Tbl) (K : List Kt) (fr : Fr) (S : St) : gval T (.ops ref06_Has_r2 :: K) fr S = gval T (.ops [
  ⟨some 6, .mov (.tmp 5), none⟩,
  ⟨some 7, .mov (.tmp 0), none⟩,
  ⟨some 8, .len false (.tmp 7), none⟩,
  ⟨some 9, .arith .lss (.tmp 6) (.tmp 8), none⟩] :: K) fr S := rfl
def ref06_Has_r4 : List POper := [
  ⟨some 12, .mov (.tmp 0), none⟩,
  ⟨some 13, .mov (.tmp 5), none⟩,
  ⟨some 14, .iaddr 1 (.tmp 12) (.tmp 13), none⟩,
  ⟨some 15, .load false 1 false (.tmp 14), none⟩,
  ⟨some 16, .mov (.tmp 1), none⟩,
  ⟨some 17, .arith .eql (.tmp 15) (.tmp 16), none⟩]
@[simp] theorem ref06_Has_r4_go (T : Tbl) (K : List Kt) (fr : Fr) (S : St) : gval T (.ops ref06_Has_r4 :: K) fr S = gval T (.ops [
  ⟨some 12, .mov (.tmp 0), none⟩,
  ⟨some 13, .mov (.tmp 5), none⟩,
  ⟨some 14, .iaddr 1 (.tmp 12) (.tmp 13), none⟩,
  ⟨some 15, .load false 1 false (.tmp 14), none⟩,
  ⟨some 16, .mov (.tmp 1), none⟩,
  ⟨some 17, .arith .eql (.tmp 15) (.tmp 16), none⟩] :: K) fr S := rfl
def ref06_Has_r5 : List POper := [
  ⟨some 4, .mov (.cst (.bool true)), none⟩]
@[simp] theorem ref06_Has_r5_go (T : Tbl) (K : List Kt) (fr : Fr) (S : St) : gval T (.ops ref06_Has_r5 :: K) fr S = gval T (.ops [
  ⟨some 4, .mov (.cst (.bool true)), none⟩] :: K) fr S := rfl
def ref06_Has_r3 : List POper := [
  ⟨some 10, .mov (.tmp 5), none⟩,
  ⟨some 11, .arith .add (.tmp 10) (.cst (.int .i64 1)), none⟩,
  ⟨some 5, .mov (.tmp 11), none⟩]
@[simp] theorem ref06_Has_r3_go (T : Tbl) (K : List Kt) (fr : Fr) (S : St) : gval T (.ops ref06_Has_r3 :: K) fr S = gval T (.ops [
  ⟨some 10, .mov (.tmp 5), none⟩,
  ⟨some 11, .arith .add (.tmp 10) (.cst (.int .i64 1)), none⟩,
  ⟨some 5, .mov (.tmp 11), none⟩] :: K) fr S := rfl
def ref06_Has_l0 : PCode :=
  (.seq (.seq (.clr [(6, 9)] (.region ref06_Has_r2)) (.cond (.tmp 9) .skip (.exit 0))) (.seq (.block 1 (.seq (.clr [(12, 17)] (.region ref06_Has_r4)) (.cond (.tmp 17) (.seq (.region ref06_Has_r5) .ret) .skip))) (.clr [(10, 12)] (.region ref06_Has_r3))))
@[simp] theorem ref06_Has_l0_go (T : Tbl) (K : List Kt) (fr : Fr) (S : St) : gval T (.code ref06_Has_l0 :: K) fr S = gval T (.code (.seq (.seq (.clr [(6, 9)] (.region ref06_Has_r2)) (.cond (.tmp 9) .skip (.exit 0))) (.seq (.block 1 (.seq (.clr [(12, 17)] (.region ref06_Has_r4)) (.cond (.tmp 17) (.seq (.region ref06_Has_r5) .ret) .skip))) (.clr [(10, 12)] (.region ref06_Has_r3)))) :: K) fr S := rfl
def ref06_Has_r6 : List POper := [
  ⟨some 4, .mov (.cst (.bool false)), none⟩]
@[simp] theorem ref06_Has_r6_go (T : Tbl) (K : List Kt) (fr : Fr) (S : St) : gval T (.ops ref06_Has_r6 :: K) fr S = gval T (.ops [
  ⟨some 4, .mov (.cst (.bool false)), none⟩] :: K) fr S := rfl
def ref06_Has : PCodeFn :=
  ⟨2, [.tmp 4],
  (.seq (.region ref06_Has_r0) (.seq (.seq (.region ref06_Has_r1) (.block 0 (.loop ref06_Has_l0))) (.seq (.region ref06_Has_r6) .ret))), false⟩

/-! slices.CompareFunc[[]gauge/api.Label,[]gauge/api.Label,gauge/api.Label,gauge/api.Label]: 103 -/
def slices_CompareFunc_Label_r0 : List POper := [
  ⟨some 6, .mov (.cst (.int .i64 0)), none⟩]
@[simp] theorem slices_CompareFunc_Label_r0_go (T : Tbl) (K : List Kt) (fr : Fr) (S : St) : gval T (.ops slices_CompareFunc_Label_r0 :: K) fr S = gval T (.ops [
  ⟨some 6, .mov (.cst (.int .i64 0)), none⟩] :: K) fr S := rfl
def slices_CompareFunc_Label_r1 : List POper := [
  ⟨some 11, .mov (.tmp 0), none⟩,
  ⟨some 12, .len false (.tmp 11), none⟩,
  ⟨some 13, .mov (.cst (.int .i64 0)), none⟩]
@[simp] theorem slices_CompareFunc_Label_r1_go (T : Tbl) (K : List Kt) (fr : Fr) (S : St) : gval T (.ops slices_CompareFunc_Label_r1 :: K) fr S = gval T (.ops [
  ⟨some 11, .mov (.tmp 0), none⟩,
  ⟨some 12, .len false (.tmp 11), none⟩,
  ⟨some 13, .mov (.cst (.int .i64 0)), none⟩] :: K) fr S := rfl
def slices_CompareFunc_Label_r2 : List POper := [
  ⟨some 14, .arith .lss (.tmp 13) (.tmp 12), none⟩]
@[simp] theorem slices_CompareFunc_Label_r2_go (T : Tbl) (K : List Kt) (fr : Fr) (S : St) : gval T (.ops slices_CompareFunc_Label_r2 :: K) fr S = gval T (.ops [
  ⟨some 14, .arith .lss (.tmp 13) (.tmp 12), none⟩] :: K) fr S := rfl
def slices_CompareFunc_Label_r3 : List POper := [
  ⟨some 15, .mov (.tmp 13), none⟩,
  ⟨some 16, .iaddr 2 (.tmp 11) (.tmp 13), none⟩,
  ⟨some 17, .load true 2 false (.tmp 16), none⟩,
  ⟨some 8, .alloc false [(.str []), (.str [])], none⟩,
  ⟨some 7, .mov (.tmp 15), none⟩,
  ⟨none, .store 2 (.tmp 8) (.tmp 17), none⟩]
@[simp] theorem slices_CompareFunc_Label_r3_go (T : Tbl) (K : List Kt) (fr : Fr) (S : St) : gval T (.ops slices_CompareFunc_Label_r3 :: K) fr S = gval T (.ops [
  ⟨some 15, .mov (.tmp 13), none⟩,
  ⟨some 16, .iaddr 2 (.tmp 11) (.tmp 13), none⟩,
  ⟨some 17, .load true 2 false (.tmp 16), none⟩,
  ⟨some 8, .alloc false [(.str []), (.str [])], none⟩,
  ⟨some 7, .mov (.tmp 15), none⟩,
  ⟨none, .store 2 (.tmp 8) (.tmp 17), none⟩] :: K) fr S := rfl
def slices_CompareFunc_Label_r4 : List POper := [
  ⟨some 18, .mov (.tmp 7), none⟩,
  ⟨some 19, .mov (.tmp 1), none⟩,
  ⟨some 20, .len false (.tmp 19), none⟩,
  ⟨some 21, .arith .geq (.tmp 18) (.tmp 20), none⟩]
@[simp] theorem slices_CompareFunc_Label_r4_go (T : Tbl) (K : List Kt) (fr : Fr) (S : St) : gval T (.ops slices_CompareFunc_Label_r4 :: K) fr S = gval T (.ops [
  ⟨some 18, .mov (.tmp 7), none⟩,
  ⟨some 19, .mov (.tmp 1), none⟩,
  ⟨some 20, .len false (.tmp 19), none⟩,
  ⟨some 21, .arith .geq (.tmp 18) (.tmp 20), none⟩] :: K) fr S := rfl
def slices_CompareFunc_Label_r5 : List POper := [
  ⟨some 6, .mov (.cst (.int .i64 1)), none⟩]
@[simp] theorem slices_CompareFunc_Label_r5_go (T : Tbl) (K : List Kt) (fr : Fr) (S : St) : gval T (.ops slices_CompareFunc_Label_r5 :: K) fr S = gval T (.ops [
  ⟨some 6, .mov (.cst (.int .i64 1)), none⟩] :: K) fr S := rfl
def slices_CompareFunc_Label_r6 : List POper := [
  ⟨some 22, .mov (.tmp 1), none⟩,
  ⟨some 23, .mov (.tmp 7), none⟩,
  ⟨some 24, .iaddr 2 (.tmp 22) (.tmp 23), none⟩,
  ⟨some 25, .load true 2 false (.tmp 24), none⟩,
  ⟨some 9, .alloc false [(.str []), (.str [])], none⟩,
  ⟨none, .store 2 (.tmp 9) (.tmp 25), none⟩]
@[simp] theorem slices_CompareFunc_Label_r6_go (T : Tbl) (K : List Kt) (fr : Fr) (S : St) : gval T (.ops slices_CompareFunc_Label_r6 :: K) fr S = gval T (.ops [
  ⟨some 22, .mov (.tmp 1), none⟩,
  ⟨some 23, .mov (.tmp 7), none⟩,
  ⟨some 24, .iaddr 2 (.tmp 22) (.tmp 23), none⟩,
  ⟨some 25, .load true 2 false (.tmp 24), none⟩,
  ⟨some 9, .alloc false [(.str []), (.str [])], none⟩,
  ⟨none, .store 2 (.tmp 9) (.tmp 25), none⟩] :: K) fr S := rfl
def slices_CompareFunc_Label_r7 : List POper := [
  ⟨some 26, .mov (.tmp 2), none⟩,
  ⟨some 27, .load true 2 false (.tmp 8), none⟩,
  ⟨some 28, .load true 2 false (.tmp 9), none⟩,
  ⟨some 29, .callv .std (.tmp 26) [(.tmp 27), (.tmp 28)], none⟩,
  ⟨some 10, .mov (.tmp 29), none⟩]
@[simp] theorem slices_CompareFunc_Label_r7_go (T : Tbl) (K : List Kt) (fr : Fr) (S : St) : gval T (.ops slices_CompareFunc_Label_r7 :: K) fr S = gval T (.ops [
  ⟨some 26, .mov (.tmp 2), none⟩,
  ⟨some 27, .load true 2 false (.tmp 8), none⟩,
  ⟨some 28, .load true 2 false (.tmp 9), none⟩,
  ⟨some 29, .callv .std (.tmp 26) [(.tmp 27), (.tmp 28)], none⟩,
  ⟨some 10, .mov (.tmp 29), none⟩] :: K) fr S := rfl
def slices_CompareFunc_Label_r8 : List POper := [
  ⟨some 30, .mov (.tmp 10), none⟩,
  ⟨some 31, .arith .neq (.tmp 30) (.cst (.int .i64 0)), none⟩]
@[simp] theorem slices_CompareFunc_Label_r8_go (T : Tbl) (K : List Kt) (fr : Fr) (S : St) : gval T (.ops slices_CompareFunc_Label_r8 :: K) fr S = gval T (.ops [
  ⟨some 30, .mov (.tmp 10), none⟩,
  ⟨some 31, .arith .neq (.tmp 30) (.cst (.int .i64 0)), none⟩] :: K) fr S := rfl
def slices_CompareFunc_Label_r9 : List POper := [
  ⟨some 32, .mov (.tmp 10), none⟩,
  ⟨some 6, .mov (.tmp 32), none⟩]
@[simp] theorem slices_CompareFunc_Label_r9_go (T : Tbl) (K : List Kt) (fr : Fr) (S : St) : gval T (.ops slices_CompareFunc_Label_r9 :: K) fr S = gval T (.ops [
  ⟨some 32, .mov (.tmp 10), none⟩,
  ⟨some 6, .mov (.tmp 32), none⟩] :: K) fr S := rfl
def slices_CompareFunc_Label_r10 : List POper := [
  ⟨some 33, .arith .add (.tmp 13) (.cst (.int .i64 1)), none⟩,
  ⟨some 13, .mov (.tmp 33), none⟩]
@[simp] theorem slices_CompareFunc_Label_r10_go (T : Tbl) (K : List Kt) (fr : Fr) (S : St) : gval T (.ops slices_CompareFunc_Label_r10 :: K) fr S = gval T (.ops [
  ⟨some 33, .arith .add (.tmp 13) (.cst (.int .i64 1)), none⟩,
  ⟨some 13, .mov (.tmp 33), none⟩] :: K) fr S := rfl
def slices_CompareFunc_Label_l0 : PCode :=
  (.seq (.region slices_CompareFunc_Label_r2) (.seq (.cond (.tmp 14) .skip (.exit 0)) (.seq (.block 1 (.seq (.clr [(15, 18)] (.region slices_CompareFunc_Label_r3)) (.seq (.seq (.clr [(18, 21)] (.region slices_CompareFunc_Label_r4)) (.cond (.tmp 21) (.seq (.region slices_CompareFunc_Label_r5) .ret) .skip)) (.seq (.clr [(22, 26)] (.region slices_CompareFunc_Label_r6)) (.seq (.clr [(26, 30)] (.region slices_CompareFunc_Label_r7)) (.seq (.clr [(30, 31)] (.region slices_CompareFunc_Label_r8)) (.cond (.tmp 31) (.seq (.clr [(32, 33)] (.region slices_CompareFunc_Label_r9)) .ret) .skip))))))) (.clr [(33, 34)] (.region slices_CompareFunc_Label_r10)))))
@[simp] theorem slices_CompareFunc_Label_l0_go (T : Tbl) (K : List Kt) (fr : Fr) (S : St) : gval T (.code slices_CompareFunc_Label_l0 :: K) fr S = gval T (.code (.seq (.region slices_CompareFunc_Label_r2) (.seq (.cond (.tmp 14) .skip (.exit 0)) (.seq (.block 1 (.seq (.clr [(15, 18)] (.region slices_CompareFunc_Label_r3)) (.seq (.seq (.clr [(18, 21)] (.region slices_CompareFunc_Label_r4)) (.cond (.tmp 21) (.seq (.region slices_CompareFunc_Label_r5) .ret) .skip)) (.seq (.clr [(22, 26)] (.region slices_CompareFunc_Label_r6)) (.seq (.clr [(26, 30)] (.region slices_CompareFunc_Label_r7)) (.seq (.clr [(30, 31)] (.region slices_CompareFunc_Label_r8)) (.cond (.tmp 31) (.seq (.clr [(32, 33)] (.region slices_CompareFunc_Label_r9)) .ret) .skip))))))) (.clr [(33, 34)] (.region slices_CompareFunc_Label_r10))))) :: K) fr S := rfl
def slices_CompareFunc_Label_r11 : List POper := [
  ⟨some 34, .mov (.tmp 0), none⟩,
  ⟨some 35, .len false (.tmp 34), none⟩,
  ⟨some 36, .mov (.tmp 1), none⟩,
  ⟨some 37, .len false (.tmp 36), none⟩,
  ⟨some 38, .arith .lss (.tmp 35) (.tmp 37), none⟩]
@[simp] theorem slices_CompareFunc_Label_r11_go (T : Tbl) (K : List Kt) (fr : Fr) (S : St) : gval T (.ops slices_CompareFunc_Label_r11 :: K) fr S = gval T (.ops [
  ⟨some 34, .mov (.tmp 0), none⟩,
  ⟨some 35, .len false (.tmp 34), none⟩,
  ⟨some 36, .mov (.tmp 1), none⟩,
  ⟨some 37, .len false (.tmp 36), none⟩,
  ⟨some 38, .arith .lss (.tmp 35) (.tmp 37), none⟩] :: K) fr S := rfl
def slices_CompareFunc_Label_r12 : List POper := [
  ⟨some 6, .mov (.cst (.int .i64 (-1))), none⟩]
@[simp] theorem slices_CompareFunc_Label_r12_go (T : Tbl) (K : List Kt) (fr : Fr) (S : St) : gval T (.ops slices_CompareFunc_Label_r12 :: K) fr S = gval T (.ops [
  ⟨some 6, .mov (.cst (.int .i64 (-1))), none⟩] :: K) fr S := rfl
def slices_CompareFunc_Label_r13 : List POper := [
  ⟨some 6, .mov (.cst (.int .i64 0)), none⟩]
@[simp] theorem slices_CompareFunc_Label_r13_go (T : Tbl) (K : List Kt) (fr : Fr) (S : St) : gval T (.ops slices_CompareFunc_Label_r13 :: K) fr S = gval T (.ops [
  ⟨some 6, .mov (.cst (.int .i64 0)), none⟩] :: K) fr S := rfl
def slices_CompareFunc_Label : PCodeFn :=
  ⟨3, [.tmp 6],
  (.seq (.region slices_CompareFunc_Label_r0) (.seq (.seq (.region slices_CompareFunc_Label_r1) (.block 0 (.loop slices_CompareFunc_Label_l0))) (.seq (.seq (.clr [(34, 38)] (.region slices_CompareFunc_Label_r11)) (.cond (.tmp 38) (.seq (.region slices_CompareFunc_Label_r12) .ret) .skip)) (.seq (.region slices_CompareFunc_Label_r13) .ret)))), false⟩

/-! gauge/label.Compare.1: 104 -/
def label_Compare_1_r0 : List POper := [
  ⟨some 2, .box true (.tmp 0), none⟩,
  ⟨some 3, .box true (.tmp 1), none⟩,
  ⟨some 4, .mov (.cst (.int .i64 0)), none⟩]
@[simp] theorem label_Compare_1_r0_go (T : Tbl) (K : List Kt) (fr : Fr) (S : St) : gval T (.ops label_Compare_1_r0 :: K) fr S = gval T (.ops [
  ⟨some 2, .box true (.tmp 0), none⟩,
  ⟨some 3, .box true (.tmp 1), none⟩,
  ⟨some 4, .mov (.cst (.int .i64 0)), none⟩] :: K) fr S := rfl
def label_Compare_1_r1 : List POper := [
  ⟨some 5, .faddr 0 (.tmp 2), none⟩,
  ⟨some 6, .load false 1 true (.tmp 5), none⟩,
  ⟨some 7, .faddr 0 (.tmp 3), none⟩,
  ⟨some 8, .load false 1 true (.tmp 7), none⟩,
  ⟨some 9, .call .pur 106 [(.tmp 6), (.tmp 8)], none⟩,
  ⟨some 10, .faddr 1 (.tmp 2), none⟩,
  ⟨some 11, .load false 1 true (.tmp 10), none⟩,
  ⟨some 12, .faddr 1 (.tmp 3), none⟩,
  ⟨some 13, .load false 1 true (.tmp 12), none⟩,
  ⟨some 14, .call .pur 106 [(.tmp 11), (.tmp 13)], none⟩,
  ⟨some 15, .bsl false (.int .i64 0) 2 [(0, (.tmp 9)), (1, (.tmp 14))], none⟩,
  ⟨some 16, .call .std 105 [(.tmp 15)], none⟩,
  ⟨some 4, .mov (.tmp 16), none⟩]
@[simp] theorem label_Compare_1_r1_go (T : Tbl) (K : List Kt) (fr : Fr) (S : St) : gval T (.ops label_Compare_1_r1 :: K) fr S = gval T (.ops [
  ⟨some 5, .faddr 0 (.tmp 2), none⟩,
  ⟨some 6, .load false 1 true (.tmp 5), none⟩,
  ⟨some 7, .faddr 0 (.tmp 3), none⟩,
  ⟨some 8, .load false 1 true (.tmp 7), none⟩,
  ⟨some 9, .call .pur 106 [(.tmp 6), (.tmp 8)], none⟩,
  ⟨some 10, .faddr 1 (.tmp 2), none⟩,
  ⟨some 11, .load false 1 true (.tmp 10), none⟩,
  ⟨some 12, .faddr 1 (.tmp 3), none⟩,
  ⟨some 13, .load false 1 true (.tmp 12), none⟩,
  ⟨some 14, .call .pur 106 [(.tmp 11), (.tmp 13)], none⟩,
  ⟨some 15, .bsl false (.int .i64 0) 2 [(0, (.tmp 9)), (1, (.tmp 14))], none⟩,
  ⟨some 16, .call .std 105 [(.tmp 15)], none⟩,
  ⟨some 4, .mov (.tmp 16), none⟩] :: K) fr S := rfl
def label_Compare_1 : PCodeFn :=
  ⟨2, [.tmp 4],
  (.seq (.region label_Compare_1_r0) (.seq (.clr [(5, 17)] (.region label_Compare_1_r1)) .ret)), false⟩

/-! cmp.Or[int]: 105 -/
def cmp_Or_int_r0 : List POper := [
  ⟨some 2, .mov (.cst (.int .i64 0)), none⟩]
@[simp] theorem cmp_Or_int_r0_go (T : Tbl) (K : List Kt) (fr : Fr) (S : St) : gval T (.ops cmp_Or_int_r0 :: K) fr S = gval T (.ops [
  ⟨some 2, .mov (.cst (.int .i64 0)), none⟩] :: K) fr S := rfl
def cmp_Or_int_r1 : List POper := [
  ⟨some 3, .mov (.cst (.int .i64 0)), none⟩]
@[simp] theorem cmp_Or_int_r1_go (T : Tbl) (K : List Kt) (fr : Fr) (S : St) : gval T (.ops cmp_Or_int_r1 :: K) fr S = gval T (.ops [
  ⟨some 3, .mov (.cst (.int .i64 0)), none⟩] :: K) fr S := rfl
def cmp_Or_int_r2 : List POper := [
  ⟨some 6, .mov (.tmp 0), none⟩,
  ⟨some 7, .len false (.tmp 6), none⟩,
  ⟨some 8, .mov (.cst (.int .i64 0)), none⟩]
@[simp] theorem cmp_Or_int_r2_go (T : Tbl) (K : List Kt) (fr : Fr) (S : St) : gval T (.ops cmp_Or_int_r2 :: K) fr S = gval T (.ops [
  ⟨some 6, .mov (.tmp 0), none⟩,
  ⟨some 7, .len false (.tmp 6), none⟩,
  ⟨some 8, .mov (.cst (.int .i64 0)), none⟩] :: K) fr S := rfl
def cmp_Or_int_r3 : List POper := [
  ⟨some 9, .arith .lss (.tmp 8) (.tmp 7), none⟩]
@[simp] theorem cmp_Or_int_r3_go (T : Tbl) (K : List Kt) (fr : Fr) (S : St) : gval T (.ops cmp_Or_int_r3 :: K) fr S = gval T (.ops [
  ⟨some 9, .arith .lss (.tmp 8) (.tmp 7), none⟩] :: K) fr S := rfl
def cmp_Or_int_r4 : List POper := [
  ⟨some 10, .iaddr 1 (.tmp 6) (.tmp 8), none⟩,
  ⟨some 11, .load false 1 false (.tmp 10), none⟩,
  ⟨some 5, .mov (.tmp 11), none⟩]
@[simp] theorem cmp_Or_int_r4_go (T : Tbl) (K : List Kt) (fr : Fr) (S : St) : gval T (.ops cmp_Or_int_r4 :: K) fr S = gval T (.ops [
  ⟨some 10, .iaddr 1 (.tmp 6) (.tmp 8), none⟩,
  ⟨some 11, .load false 1 false (.tmp 10), none⟩,
  ⟨some 5, .mov (.tmp 11), none⟩] :: K) fr S := rfl
def cmp_Or_int_r5 : List POper := [
  ⟨some 12, .mov (.tmp 5), none⟩,
  ⟨some 13, .mov (.tmp 3), none⟩,
  ⟨some 14, .arith .neq (.tmp 12) (.tmp 13), none⟩]
@[simp] theorem cmp_Or_int_r5_go (T : Tbl) (K : List Kt) (fr : Fr) (S : St) : gval T (.ops cmp_Or_int_r5 :: K) fr S = gval T (.ops [
  ⟨some 12, .mov (.tmp 5), none⟩,
  ⟨some 13, .mov (.tmp 3), none⟩,
  ⟨some 14, .arith .neq (.tmp 12) (.tmp 13), none⟩] :: K) fr S := rfl
def cmp_Or_int_r6 : List POper := [
  ⟨some 15, .mov (.tmp 5), none⟩,
  ⟨some 2, .mov (.tmp 15), none⟩]
@[simp] theorem cmp_Or_int_r6_go (T : Tbl) (K : List Kt) (fr : Fr) (S : St) : gval T (.ops cmp_Or_int_r6 :: K) fr S = gval T (.ops [
  ⟨some 15, .mov (.tmp 5), none⟩,
  ⟨some 2, .mov (.tmp 15), none⟩] :: K) fr S := rfl
def cmp_Or_int_r7 : List POper := [
  ⟨some 16, .arith .add (.tmp 8) (.cst (.int .i64 1)), none⟩,
  ⟨some 8, .mov (.tmp 16), none⟩]
@[simp] theorem cmp_Or_int_r7_go (T : Tbl) (K : List Kt) (fr : Fr) (S : St) : gval T (.ops cmp_Or_int_r7 :: K) fr S = gval T (.ops [
  ⟨some 16, .arith .add (.tmp 8) (.cst (.int .i64 1)), none⟩,
  ⟨some 8, .mov (.tmp 16), none⟩] :: K) fr S := rfl
def cmp_Or_int_l0 : PCode :=
  (.seq (.region cmp_Or_int_r3) (.seq (.cond (.tmp 9) .skip (.exit 0)) (.seq (.block 1 (.seq (.clr [(10, 12)] (.region cmp_Or_int_r4)) (.seq (.clr [(12, 14)] (.region cmp_Or_int_r5)) (.cond (.tmp 14) (.seq (.clr [(15, 16)] (.region cmp_Or_int_r6)) .ret) .skip)))) (.clr [(16, 17)] (.region cmp_Or_int_r7)))))
@[simp] theorem cmp_Or_int_l0_go (T : Tbl) (K : List Kt) (fr : Fr) (S : St) : gval T (.code cmp_Or_int_l0 :: K) fr S = gval T (.code (.seq (.region cmp_Or_int_r3) (.seq (.cond (.tmp 9) .skip (.exit 0)) (.seq (.block 1 (.seq (.clr [(10, 12)] (.region cmp_Or_int_r4)) (.seq (.clr [(12, 14)] (.region cmp_Or_int_r5)) (.cond (.tmp 14) (.seq (.clr [(15, 16)] (.region cmp_Or_int_r6)) .ret) .skip)))) (.clr [(16, 17)] (.region cmp_Or_int_r7))))) :: K) fr S := rfl
def cmp_Or_int_r8 : List POper := [
  ⟨some 17, .mov (.tmp 3), none⟩,
  ⟨some 2, .mov (.tmp 17), none⟩]
@[simp] theorem cmp_Or_int_r8_go (T : Tbl) (K : List Kt) (fr : Fr) (S : St) : gval T (.ops cmp_Or_int_r8 :: K) fr S = gval T (.ops [
  ⟨some 17, .mov (.tmp 3), none⟩,
  ⟨some 2, .mov (.tmp 17), none⟩] :: K) fr S := rfl
def cmp_Or_int : PCodeFn :=
  ⟨1, [.tmp 2],
  (.seq (.region cmp_Or_int_r0) (.seq (.region cmp_Or_int_r1) (.seq (.seq (.region cmp_Or_int_r2) (.block 0 (.loop cmp_Or_int_l0))) (.seq (.clr [(17, 18)] (.region cmp_Or_int_r8)) .ret)))), false⟩

/-! cmp.Compare[string]: 106 -/
def cmp_Compare_string_r0 : List POper := [
  ⟨some 4, .mov (.cst (.int .i64 0)), none⟩]
@[simp] theorem cmp_Compare_string_r0_go (T : Tbl) (K : List Kt) (fr : Fr) (S : St) : gval T (.ops cmp_Compare_string_r0 :: K) fr S = gval T (.ops [
  ⟨some 4, .mov (.cst (.int .i64 0)), none⟩] :: K) fr S := rfl
def cmp_Compare_string_r1 : List POper := [
  ⟨some 7, .mov (.tmp 0), none⟩,
  ⟨some 8, .call .pur 217 [(.tmp 7)], none⟩,
  ⟨some 5, .mov (.tmp 8), none⟩]
@[simp] theorem cmp_Compare_string_r1_go (T : Tbl) (K : List Kt) (fr : Fr) (S : St) : gval T (.ops cmp_Compare_string_r1 :: K) fr S = gval T (.ops [
  ⟨some 7, .mov (.tmp 0), none⟩,
  ⟨some 8, .call .pur 217 [(.tmp 7)], none⟩,
  ⟨some 5, .mov (.tmp 8), none⟩] :: K) fr S := rfl
def cmp_Compare_string_r2 : List POper := [
  ⟨some 9, .mov (.tmp 1), none⟩,
  ⟨some 10, .call .pur 217 [(.tmp 9)], none⟩,
  ⟨some 6, .mov (.tmp 10), none⟩]
@[simp] theorem cmp_Compare_string_r2_go (T : Tbl) (K : List Kt) (fr : Fr) (S : St) : gval T (.ops cmp_Compare_string_r2 :: K) fr S = gval T (.ops [
  ⟨some 9, .mov (.tmp 1), none⟩,
  ⟨some 10, .call .pur 217 [(.tmp 9)], none⟩,
  ⟨some 6, .mov (.tmp 10), none⟩] :: K) fr S := rfl
def cmp_Compare_string_r3 : List POper := [
  ⟨some 11, .mov (.tmp 5), none⟩]
@[simp] theorem cmp_Compare_string_r3_go (T : Tbl) (K : List Kt) (fr : Fr) (S : St) : gval T (.ops cmp_Compare_string_r3 :: K) fr S = gval T (.ops [
  ⟨some 11, .mov (.tmp 5), none⟩] :: K) fr S := rfl
def cmp_Compare_string_r4 : List POper := [
  ⟨some 12, .mov (.tmp 6), none⟩]
@[simp] theorem cmp_Compare_string_r4_go (T : Tbl) (K : List Kt) (fr : Fr) (S : St) : gval T (.ops cmp_Compare_string_r4 :: K) fr S = gval T (.ops [
  ⟨some 12, .mov (.tmp 6), none⟩] :: K) fr S := rfl
def cmp_Compare_string_r5 : List POper := [
  ⟨some 4, .mov (.cst (.int .i64 0)), none⟩]
@[simp] theorem cmp_Compare_string_r5_go (T : Tbl) (K : List Kt) (fr : Fr) (S : St) : gval T (.ops cmp_Compare_string_r5 :: K) fr S = gval T (.ops [
  ⟨some 4, .mov (.cst (.int .i64 0)), none⟩] :: K) fr S := rfl
def cmp_Compare_string_r6 : List POper := [
  ⟨some 4, .mov (.cst (.int .i64 (-1))), none⟩]
@[simp] theorem cmp_Compare_string_r6_go (T : Tbl) (K : List Kt) (fr : Fr) (S : St) : gval T (.ops cmp_Compare_string_r6 :: K) fr S = gval T (.ops [
  ⟨some 4, .mov (.cst (.int .i64 (-1))), none⟩] :: K) fr S := rfl
def cmp_Compare_string_r7 : List POper := [
  ⟨some 13, .mov (.tmp 6), none⟩]
@[simp] theorem cmp_Compare_string_r7_go (T : Tbl) (K : List Kt) (fr : Fr) (S : St) : gval T (.ops cmp_Compare_string_r7 :: K) fr S = gval T (.ops [
  ⟨some 13, .mov (.tmp 6), none⟩] :: K) fr S := rfl
def cmp_Compare_string_r8 : List POper := [
  ⟨some 4, .mov (.cst (.int .i64 1)), none⟩]
@[simp] theorem cmp_Compare_string_r8_go (T : Tbl) (K : List Kt) (fr : Fr) (S : St) : gval T (.ops cmp_Compare_string_r8 :: K) fr S = gval T (.ops [
  ⟨some 4, .mov (.cst (.int .i64 1)), none⟩] :: K) fr S := rfl
def cmp_Compare_string_r9 : List POper := [
  ⟨some 14, .mov (.tmp 0), none⟩,
  ⟨some 15, .mov (.tmp 1), none⟩,
  ⟨some 16, .arith .lss (.tmp 14) (.tmp 15), none⟩]
@[simp] theorem cmp_Compare_string_r9_go (T : Tbl) (K : List Kt) (fr : Fr) (S : St) : gval T (.ops cmp_Compare_string_r9 :: K) fr S = gval T (.ops [
  ⟨some 14, .mov (.tmp 0), none⟩,
  ⟨some 15, .mov (.tmp 1), none⟩,
  ⟨some 16, .arith .lss (.tmp 14) (.tmp 15), none⟩] :: K) fr S := rfl
def cmp_Compare_string_r10 : List POper := [
  ⟨some 4, .mov (.cst (.int .i64 (-1))), none⟩]
@[simp] theorem cmp_Compare_string_r10_go (T : Tbl) (K : List Kt) (fr : Fr) (S : St) : gval T (.ops cmp_Compare_string_r10 :: K) fr S = gval T (.ops [
  ⟨some 4, .mov (.cst (.int .i64 (-1))), none⟩] :: K) fr S := rfl
def cmp_Compare_string_r11 : List POper := [
  ⟨some 17, .mov (.tmp 0), none⟩,
  ⟨some 18, .mov (.tmp 1), none⟩,
  ⟨some 19, .arith .gtr (.tmp 17) (.tmp 18), none⟩]
@[simp] theorem cmp_Compare_string_r11_go (T : Tbl) (K : List Kt) (fr : Fr) (S : St) : gval T (.ops cmp_Compare_string_r11 :: K) fr S = gval T (.ops [
  ⟨some 17, .mov (.tmp 0), none⟩,
  ⟨some 18, .mov (.tmp 1), none⟩,
  ⟨some 19, .arith .gtr (.tmp 17) (.tmp 18), none⟩] :: K) fr S := rfl
def cmp_Compare_string_r12 : List POper := [
  ⟨some 4, .mov (.cst (.int .i64 1)), none⟩]
@[simp] theorem cmp_Compare_string_r12_go (T : Tbl) (K : List Kt) (fr : Fr) (S : St) : gval T (.ops cmp_Compare_string_r12 :: K) fr S = gval T (.ops [
  ⟨some 4, .mov (.cst (.int .i64 1)), none⟩] :: K) fr S := rfl
def cmp_Compare_string_r13 : List POper := [
  ⟨some 4, .mov (.cst (.int .i64 0)), none⟩]
@[simp] theorem cmp_Compare_string_r13_go (T : Tbl) (K : List Kt) (fr : Fr) (S : St) : gval T (.ops cmp_Compare_string_r13 :: K) fr S = gval T (.ops [
  ⟨some 4, .mov (.cst (.int .i64 0)), none⟩] :: K) fr S := rfl
def cmp_Compare_string : PCodeFn :=
  ⟨2, [.tmp 4],
  (.seq (.region cmp_Compare_string_r0) (.seq (.clr [(7, 9)] (.region cmp_Compare_string_r1)) (.seq (.clr [(9, 11)] (.region cmp_Compare_string_r2)) (.seq (.seq (.region cmp_Compare_string_r3) (.cond (.tmp 11) (.seq (.seq (.region cmp_Compare_string_r4) (.cond (.tmp 12) (.seq (.region cmp_Compare_string_r5) .ret) .skip)) (.seq (.region cmp_Compare_string_r6) .ret)) .skip)) (.seq (.seq (.region cmp_Compare_string_r7) (.cond (.tmp 13) (.seq (.region cmp_Compare_string_r8) .ret) .skip)) (.seq (.seq (.clr [(14, 16)] (.region cmp_Compare_string_r9)) (.cond (.tmp 16) (.seq (.region cmp_Compare_string_r10) .ret) .skip)) (.seq (.seq (.clr [(17, 19)] (.region cmp_Compare_string_r11)) (.cond (.tmp 19) (.seq (.region cmp_Compare_string_r12) .ret) .skip)) (.seq (.region cmp_Compare_string_r13) .ret)))))))), false⟩

/-! gauge/gaugeref06.text: 216 -/
def ref06_text_r0 : List POper := [
  ⟨some 4, .mov (.cst (.int .i64 0)), none⟩]
@[simp] theorem ref06_text_r0_go (T : Tbl) (K : List Kt) (fr : Fr) (S : St) : gval T (.ops ref06_text_r0 :: K) fr S = gval T (.ops [
  ⟨some 4, .mov (.cst (.int .i64 0)), none⟩] :: K) fr S := rfl
def ref06_text_r1 : List POper := [
  ⟨some 5, .mov (.tmp 0), none⟩,
  ⟨some 6, .mov (.tmp 1), none⟩,
  ⟨some 7, .arith .lss (.tmp 5) (.tmp 6), none⟩]
@[simp] theorem ref06_text_r1_go (T : Tbl) (K : List Kt) (fr : Fr) (S : St) : gval T (.ops ref06_text_r1 :: K) fr S = gval T (.ops [
  ⟨some 5, .mov (.tmp 0), none⟩,
  ⟨some 6, .mov (.tmp 1), none⟩,
  ⟨some 7, .arith .lss (.tmp 5) (.tmp 6), none⟩] :: K) fr S := rfl
def ref06_text_r2 : List POper := [
  ⟨some 4, .mov (.cst (.int .i64 (-1))), none⟩]
@[simp] theorem ref06_text_r2_go (T : Tbl) (K : List Kt) (fr : Fr) (S : St) : gval T (.ops ref06_text_r2 :: K) fr S = gval T (.ops [
  ⟨some 4, .mov (.cst (.int .i64 (-1))), none⟩] :: K) fr S := rfl
def ref06_text_r3 : List POper := [
  ⟨some 8, .mov (.tmp 0), none⟩,
  ⟨some 9, .mov (.tmp 1), none⟩,
  ⟨some 10, .arith .gtr (.tmp 8) (.tmp 9), none⟩]
@[simp] theorem ref06_text_r3_go (T : Tbl) (K : List Kt) (fr : Fr) (S : St) : gval T (.ops ref06_text_r3 :: K) fr S = gval T (.ops [
  ⟨some 8, .mov (.tmp 0), none⟩,
  ⟨some 9, .mov (.tmp 1), none⟩,
  ⟨some 10, .arith .gtr (.tmp 8) (.tmp 9), none⟩] :: K) fr S := rfl
def ref06_text_r4 : List POper := [
  ⟨some 4, .mov (.cst (.int .i64 1)), none⟩]
@[simp] theorem ref06_text_r4_go (T : Tbl) (K : List Kt) (fr : Fr) (S : St) : gval T (.ops ref06_text_r4 :: K) fr S = gval T (.ops [
  ⟨some 4, .mov (.cst (.int .i64 1)), none⟩] :: K) fr S := rfl
def ref06_text_r5 : List POper := [
  ⟨some 4, .mov (.cst (.int .i64 0)), none⟩]
@[simp] theorem ref06_text_r5_go (T : Tbl) (K : List Kt) (fr : Fr) (S : St) : gval T (.ops ref06_text_r5 :: K) fr S = gval T (.ops [
  ⟨some 4, .mov (.cst (.int .i64 0)), none⟩] :: K) fr S := rfl
def ref06_text : PCodeFn :=
  ⟨2, [.tmp 4],
  (.seq (.region ref06_text_r0) (.seq (.seq (.clr [(5, 7)] (.region ref06_text_r1)) (.cond (.tmp 7) (.seq (.region ref06_text_r2) .ret) .skip)) (.seq (.seq (.clr [(8, 10)] (.region ref06_text_r3)) (.cond (.tmp 10) (.seq (.region ref06_text_r4) .ret) .skip)) (.seq (.region ref06_text_r5) .ret)))), false⟩

/-! gauge/frame.PutUint: 107 -/
def frame_PutUint_r0 : List POper := [
  ⟨some 4, .mov (.cst .nils), none⟩,
  ⟨some 5, .mov (.cst (.int .i64 0)), none⟩]
@[simp] theorem frame_PutUint_r0_go (T : Tbl) (K : List Kt) (fr : Fr) (S : St) : gval T (.ops frame_PutUint_r0 :: K) fr S = gval T (.ops [
  ⟨some 4, .mov (.cst .nils), none⟩,
  ⟨some 5, .mov (.cst (.int .i64 0)), none⟩] :: K) fr S := rfl
def frame_PutUint_r1 : List POper := [
  ⟨some 7, .mov (.tmp 1), none⟩,
  ⟨some 8, .arith .lss (.tmp 7) (.cst (.int .i64 0)), none⟩]
@[simp] theorem frame_PutUint_r1_go (T : Tbl) (K : List Kt) (fr : Fr) (S : St) : gval T (.ops frame_PutUint_r1 :: K) fr S = gval T (.ops [
  ⟨some 7, .mov (.tmp 1), none⟩,
  ⟨some 8, .arith .lss (.tmp 7) (.cst (.int .i64 0)), none⟩] :: K) fr S := rfl
def frame_PutUint_r2 : List POper := [
  ⟨some 4, .mov (.cst .nils), none⟩,
  ⟨some 5, .mov (.cst (.int .i64 2)), none⟩]
@[simp] theorem frame_PutUint_r2_go (T : Tbl) (K : List Kt) (fr : Fr) (S : St) : gval T (.ops frame_PutUint_r2 :: K) fr S = gval T (.ops [
  ⟨some 4, .mov (.cst .nils), none⟩,
  ⟨some 5, .mov (.cst (.int .i64 2)), none⟩] :: K) fr S := rfl
def frame_PutUint_r3 : List POper := [
  ⟨some 9, .mov (.tmp 0), none⟩,
  ⟨some 10, .call .std 218 [(.tmp 9), (.cst (.int .i64 9))], none⟩,
  ⟨some 6, .mov (.tmp 10), none⟩]
@[simp] theorem frame_PutUint_r3_go (T : Tbl) (K : List Kt) (fr : Fr) (S : St) : gval T (.ops frame_PutUint_r3 :: K) fr S = gval T (.ops [
  ⟨some 9, .mov (.tmp 0), none⟩,
  ⟨some 10, .call .std 218 [(.tmp 9), (.cst (.int .i64 9))], none⟩,
  ⟨some 6, .mov (.tmp 10), none⟩] :: K) fr S := rfl
def frame_PutUint_r4 : List POper := [
  ⟨some 11, .mov (.tmp 1), none⟩,
  ⟨some 12, .arith .geq (.tmp 11) (.cst (.int .i64 128)), none⟩]
@[simp] theorem frame_PutUint_r4_go (T : Tbl) (K : List Kt) (fr : Fr) (S : St) : gval T (.ops frame_PutUint_r4 :: K) fr S = gval T (.ops [
  ⟨some 11, .mov (.tmp 1), none⟩,
  ⟨some 12, .arith .geq (.tmp 11) (.cst (.int .i64 128)), none⟩] :: K) fr S := rfl
def frame_PutUint_r6 : List POper := [
  ⟨some 15, .mov (.tmp 6), none⟩,
  ⟨some 16, .mov (.tmp 1), none⟩,
  ⟨some 17, .toInt .u8 (.tmp 16), none⟩,
  ⟨some 18, .arith .or (.tmp 17) (.cst (.int .u8 128)), none⟩,
  ⟨some 19, .bsl false (.int .u8 0) 1 [(0, (.tmp 18))], none⟩,
  ⟨some 20, .app 1 1 (.tmp 15) (.tmp 19), none⟩,
  ⟨some 6, .mov (.tmp 20), none⟩]
@[simp] theorem frame_PutUint_r6_go (T : Tbl) (K : List Kt) (fr : Fr) (S : St) : gval T (.ops frame_PutUint_r6 :: K) fr S = gval T (.ops [
  ⟨some 15, .mov (.tmp 6), none⟩,
  ⟨some 16, .mov (.tmp 1), none⟩,
  ⟨some 17, .toInt .u8 (.tmp 16), none⟩,
  ⟨some 18, .arith .or (.tmp 17) (.cst (.int .u8 128)), none⟩,
  ⟨some 19, .bsl false (.int .u8 0) 1 [(0, (.tmp 18))], none⟩,
  ⟨some 20, .app 1 1 (.tmp 15) (.tmp 19), none⟩,
  ⟨some 6, .mov (.tmp 20), none⟩] :: K) fr S := rfl
def frame_PutUint_r5 : List POper := [
  ⟨some 13, .mov (.tmp 1), none⟩,
  ⟨some 14, .arith .shr (.tmp 13) (.cst (.int .u64 7)), none⟩,
  ⟨some 1, .mov (.tmp 14), none⟩]
@[simp] theorem frame_PutUint_r5_go (T : Tbl) (K : List Kt) (fr : Fr) (S : St) : gval T (.ops frame_PutUint_r5 :: K) fr S = gval T (.ops [
  ⟨some 13, .mov (.tmp 1), none⟩,
  ⟨some 14, .arith .shr (.tmp 13) (.cst (.int .u64 7)), none⟩,
  ⟨some 1, .mov (.tmp 14), none⟩] :: K) fr S := rfl
def frame_PutUint_l0 : PCode :=
  (.seq (.seq (.clr [(11, 12)] (.region frame_PutUint_r4)) (.cond (.tmp 12) .skip (.exit 0))) (.seq (.block 1 (.clr [(15, 21)] (.region frame_PutUint_r6))) (.clr [(13, 15)] (.region frame_PutUint_r5))))
@[simp] theorem frame_PutUint_l0_go (T : Tbl) (K : List Kt) (fr : Fr) (S : St) : gval T (.code frame_PutUint_l0 :: K) fr S = gval T (.code (.seq (.seq (.clr [(11, 12)] (.region frame_PutUint_r4)) (.cond (.tmp 12) .skip (.exit 0))) (.seq (.block 1 (.clr [(15, 21)] (.region frame_PutUint_r6))) (.clr [(13, 15)] (.region frame_PutUint_r5)))) :: K) fr S := rfl
def frame_PutUint_r7 : List POper := [
  ⟨some 21, .mov (.tmp 6), none⟩,
  ⟨some 22, .mov (.tmp 1), none⟩,
  ⟨some 23, .toInt .u8 (.tmp 22), none⟩,
  ⟨some 24, .bsl false (.int .u8 0) 1 [(0, (.tmp 23))], none⟩,
  ⟨some 25, .app 1 1 (.tmp 21) (.tmp 24), none⟩,
  ⟨some 4, .mov (.tmp 25), none⟩,
  ⟨some 5, .mov (.cst (.int .i64 0)), none⟩]
@[simp] theorem frame_PutUint_r7_go (T : Tbl) (K : List Kt) (fr : Fr) (S : St) : gval T (.ops frame_PutUint_r7 :: K) fr S = gval T (.ops [
  ⟨some 21, .mov (.tmp 6), none⟩,
  ⟨some 22, .mov (.tmp 1), none⟩,
  ⟨some 23, .toInt .u8 (.tmp 22), none⟩,
  ⟨some 24, .bsl false (.int .u8 0) 1 [(0, (.tmp 23))], none⟩,
  ⟨some 25, .app 1 1 (.tmp 21) (.tmp 24), none⟩,
  ⟨some 4, .mov (.tmp 25), none⟩,
  ⟨some 5, .mov (.cst (.int .i64 0)), none⟩] :: K) fr S := rfl
def frame_PutUint : PCodeFn :=
  ⟨2, [.tmp 4, .tmp 5],
  (.seq (.region frame_PutUint_r0) (.seq (.seq (.clr [(7, 8)] (.region frame_PutUint_r1)) (.cond (.tmp 8) (.seq (.region frame_PutUint_r2) .ret) .skip)) (.seq (.clr [(9, 11)] (.region frame_PutUint_r3)) (.seq (.block 0 (.loop frame_PutUint_l0)) (.seq (.clr [(21, 26)] (.region frame_PutUint_r7)) .ret))))), true⟩

/-! gauge/frame.PutText: 108 -/
def frame_PutText_r0 : List POper := [
  ⟨some 4, .mov (.cst .nils), none⟩,
  ⟨some 5, .mov (.cst (.int .i64 0)), none⟩]
@[simp] theorem frame_PutText_r0_go (T : Tbl) (K : List Kt) (fr : Fr) (S : St) : gval T (.ops frame_PutText_r0 :: K) fr S = gval T (.ops [
  ⟨some 4, .mov (.cst .nils), none⟩,
  ⟨some 5, .mov (.cst (.int .i64 0)), none⟩] :: K) fr S := rfl
def frame_PutText_r1 : List POper := [
  ⟨some 8, .mov (.tmp 1), none⟩,
  ⟨some 9, .len true (.tmp 8), none⟩,
  ⟨some 10, .arith .gtr (.tmp 9) (.cst (.int .i64 65535)), none⟩]
@[simp] theorem frame_PutText_r1_go (T : Tbl) (K : List Kt) (fr : Fr) (S : St) : gval T (.ops frame_PutText_r1 :: K) fr S = gval T (.ops [
  ⟨some 8, .mov (.tmp 1), none⟩,
  ⟨some 9, .len true (.tmp 8), none⟩,
  ⟨some 10, .arith .gtr (.tmp 9) (.cst (.int .i64 65535)), none⟩] :: K) fr S := rfl
def frame_PutText_r2 : List POper := [
  ⟨some 4, .mov (.cst .nils), none⟩,
  ⟨some 5, .mov (.cst (.int .i64 3)), none⟩]
@[simp] theorem frame_PutText_r2_go (T : Tbl) (K : List Kt) (fr : Fr) (S : St) : gval T (.ops frame_PutText_r2 :: K) fr S = gval T (.ops [
  ⟨some 4, .mov (.cst .nils), none⟩,
  ⟨some 5, .mov (.cst (.int .i64 3)), none⟩] :: K) fr S := rfl
def frame_PutText_r3 : List POper := [
  ⟨some 12, .mov (.tmp 0), none⟩,
  ⟨some 13, .mov (.tmp 1), none⟩,
  ⟨some 14, .len true (.tmp 13), none⟩,
  ⟨some 15, .call .std 107 [(.tmp 12), (.tmp 14)], none⟩,
  ⟨some 11, .mov (.tmp 15), none⟩,
  ⟨some 16, .extract 0 (.tmp 11), none⟩,
  ⟨some 17, .extract 1 (.tmp 11), none⟩,
  ⟨some 6, .mov (.tmp 16), none⟩,
  ⟨some 7, .mov (.tmp 17), none⟩]
@[simp] theorem frame_PutText_r3_go (T : Tbl) (K : List Kt) (fr : Fr) (S : St) : gval T (.ops frame_PutText_r3 :: K) fr S = gval T (.ops [
  ⟨some 12, .mov (.tmp 0), none⟩,
  ⟨some 13, .mov (.tmp 1), none⟩,
  ⟨some 14, .len true (.tmp 13), none⟩,
  ⟨some 15, .call .std 107 [(.tmp 12), (.tmp 14)], none⟩,
  ⟨some 11, .mov (.tmp 15), none⟩,
  ⟨some 16, .extract 0 (.tmp 11), none⟩,
  ⟨some 17, .extract 1 (.tmp 11), none⟩,
  ⟨some 6, .mov (.tmp 16), none⟩,
  ⟨some 7, .mov (.tmp 17), none⟩] :: K) fr S := rfl
def frame_PutText_r4 : List POper := [
  ⟨some 18, .mov (.tmp 6), none⟩,
  ⟨some 19, .mov (.tmp 1), none⟩,
  ⟨some 20, .app 1 1 (.tmp 18) (.tmp 19), none⟩,
  ⟨some 4, .mov (.tmp 20), none⟩,
  ⟨some 5, .mov (.cst (.int .i64 0)), none⟩]
@[simp] theorem frame_PutText_r4_go (T : Tbl) (K : List Kt) (fr : Fr) (S : St) : gval T (.ops frame_PutText_r4 :: K) fr S = gval T (.ops [
  ⟨some 18, .mov (.tmp 6), none⟩,
  ⟨some 19, .mov (.tmp 1), none⟩,
  ⟨some 20, .app 1 1 (.tmp 18) (.tmp 19), none⟩,
  ⟨some 4, .mov (.tmp 20), none⟩,
  ⟨some 5, .mov (.cst (.int .i64 0)), none⟩] :: K) fr S := rfl
def frame_PutText : PCodeFn :=
  ⟨2, [.tmp 4, .tmp 5],
  (.seq (.region frame_PutText_r0) (.seq (.seq (.clr [(8, 10)] (.region frame_PutText_r1)) (.cond (.tmp 10) (.seq (.region frame_PutText_r2) .ret) .skip)) (.seq (.clr [(7, 8), (11, 18)] (.region frame_PutText_r3)) (.seq (.clr [(18, 21)] (.region frame_PutText_r4)) .ret)))), true⟩

/-! gauge/gaugeref06.Bytes: 109 -/
def ref06_Bytes_r0 : List POper := [
  ⟨some 2, .mov (.cst .nils), none⟩]
@[simp] theorem ref06_Bytes_r0_go (T : Tbl) (K : List Kt) (fr : Fr) (S : St) : gval T (.ops ref06_Bytes_r0 :: K) fr S = gval T (.ops [
  ⟨some 2, .mov (.cst .nils), none⟩] :: K) fr S := rfl
def ref06_Bytes_r1 : List POper := [
  ⟨some 5, .mov (.tmp 0), none⟩,
  ⟨some 6, .len false (.tmp 5), none⟩,
  ⟨some 7, .call .std 219 [(.tmp 6)], none⟩,
  ⟨some 3, .mov (.tmp 7), none⟩]
@[simp] theorem ref06_Bytes_r1_go (T : Tbl) (K : List Kt) (fr : Fr) (S : St) : gval T (.ops ref06_Bytes_r1 :: K) fr S = gval T (.ops [
  ⟨some 5, .mov (.tmp 0), none⟩,
  ⟨some 6, .len false (.tmp 5), none⟩,
  ⟨some 7, .call .std 219 [(.tmp 6)], none⟩,
  ⟨some 3, .mov (.tmp 7), none⟩] :: K) fr S := rfl
def ref06_Bytes_r2 : List POper := [
  ⟨some 4, .mov (.cst (.int .i64 0)), none⟩]
@[simp] theorem ref06_Bytes_r2_go (T : Tbl) (K : List Kt) (fr : Fr) (S : St) : gval T (.ops ref06_Bytes_r2 :: K) fr S = gval T (.ops [
  ⟨some 4, .mov (.cst (.int .i64 0)), none⟩] :: K) fr S := rfl
def ref06_Bytes_r3 : List POper := [
  ⟨some 8, .mov (.tmp 4), none⟩,
  ⟨some 9, .mov (.tmp 0), none⟩,
  ⟨some 10, .len false (.tmp 9), none⟩,
  ⟨some 11, .arith .lss (.tmp 8) (.tmp 10), none⟩]
@[simp] theorem ref06_Bytes_r3_go (T : Tbl) (K : List Kt) (fr : Fr) (S : St) : gval T (.ops ref06_Bytes_r3 :: K) fr S = gval T (.ops [
  ⟨some 8, .mov (.tmp 4), none⟩,
  ⟨some 9, .mov (.tmp 0), none⟩,
  ⟨some 10, .len false (.tmp 9), none⟩,
  ⟨some 11, .arith .lss (.tmp 8) (.tmp 10), none⟩] :: K) fr S := rfl
def ref06_Bytes_r5 : List POper := [
  ⟨some 14, .mov (.tmp 3), none⟩,
  ⟨some 15, .mov (.tmp 0), none⟩,
  ⟨some 16, .mov (.tmp 4), none⟩,
  ⟨some 17, .iaddr 2 (.tmp 15) (.tmp 16), none⟩,
  ⟨some 18, .faddr 0 (.tmp 17), none⟩,
  ⟨some 19, .load false 1 true (.tmp 18), none⟩,
  ⟨some 20, .call .pur 220 [(.tmp 19)], none⟩,
  ⟨some 21, .app 1 1 (.tmp 14) (.tmp 20), none⟩,
  ⟨some 22, .mov (.tmp 0), none⟩,
  ⟨some 23, .mov (.tmp 4), none⟩,
  ⟨some 24, .iaddr 2 (.tmp 22) (.tmp 23), none⟩,
  ⟨some 25, .faddr 1 (.tmp 24), none⟩,
  ⟨some 26, .load false 1 true (.tmp 25), none⟩,
  ⟨some 27, .call .pur 220 [(.tmp 26)], none⟩,
  ⟨some 28, .app 1 1 (.tmp 21) (.tmp 27), none⟩,
  ⟨some 3, .mov (.tmp 28), none⟩]
@[simp] theorem ref06_Bytes_r5_go (T : Tbl) (K : List Kt) (fr : Fr) (S : St) : gval T (.ops ref06_Bytes_r5 :: K) fr S = gval T (.ops [
  ⟨some 14, .mov (.tmp 3), none⟩,
  ⟨some 15, .mov (.tmp 0), none⟩,
  ⟨some 16, .mov (.tmp 4), none⟩,
  ⟨some 17, .iaddr 2 (.tmp 15) (.tmp 16), none⟩,
  ⟨some 18, .faddr 0 (.tmp 17), none⟩,
  ⟨some 19, .load false 1 true (.tmp 18), none⟩,
  ⟨some 20, .call .pur 220 [(.tmp 19)], none⟩,
  ⟨some 21, .app 1 1 (.tmp 14) (.tmp 20), none⟩,
  ⟨some 22, .mov (.tmp 0), none⟩,
  ⟨some 23, .mov (.tmp 4), none⟩,
  ⟨some 24, .iaddr 2 (.tmp 22) (.tmp 23), none⟩,
  ⟨some 25, .faddr 1 (.tmp 24), none⟩,
  ⟨some 26, .load false 1 true (.tmp 25), none⟩,
  ⟨some 27, .call .pur 220 [(.tmp 26)], none⟩,
  ⟨some 28, .app 1 1 (.tmp 21) (.tmp 27), none⟩,
  ⟨some 3, .mov (.tmp 28), none⟩] :: K) fr S := rfl
def ref06_Bytes_r4 : List POper := [
  ⟨some 12, .mov (.tmp 4), none⟩,
  ⟨some 13, .arith .add (.tmp 12) (.cst (.int .i64 1)), none⟩,
  ⟨some 4, .mov (.tmp 13), none⟩]
@[simp] theorem ref06_Bytes_r4_go (T : Tbl) (K : List Kt) (fr : Fr) (S : St) : gval T (.ops ref06_Bytes_r4 :: K) fr S = gval T (.ops [
  ⟨some 12, .mov (.tmp 4), none⟩,
  ⟨some 13, .arith .add (.tmp 12) (.cst (.int .i64 1)), none⟩,
  ⟨some 4, .mov (.tmp 13), none⟩] :: K) fr S := rfl
def ref06_Bytes_l0 : PCode :=
  (.seq (.seq (.clr [(8, 11)] (.region ref06_Bytes_r3)) (.cond (.tmp 11) .skip (.exit 0))) (.seq (.block 1 (.clr [(14, 29)] (.region ref06_Bytes_r5))) (.clr [(12, 14)] (.region ref06_Bytes_r4))))
@[simp] theorem ref06_Bytes_l0_go (T : Tbl) (K : List Kt) (fr : Fr) (S : St) : gval T (.code ref06_Bytes_l0 :: K) fr S = gval T (.code (.seq (.seq (.clr [(8, 11)] (.region ref06_Bytes_r3)) (.cond (.tmp 11) .skip (.exit 0))) (.seq (.block 1 (.clr [(14, 29)] (.region ref06_Bytes_r5))) (.clr [(12, 14)] (.region ref06_Bytes_r4)))) :: K) fr S := rfl
def ref06_Bytes_r6 : List POper := [
  ⟨some 29, .mov (.tmp 3), none⟩,
  ⟨some 2, .mov (.tmp 29), none⟩]
@[simp] theorem ref06_Bytes_r6_go (T : Tbl) (K : List Kt) (fr : Fr) (S : St) : gval T (.ops ref06_Bytes_r6 :: K) fr S = gval T (.ops [
  ⟨some 29, .mov (.tmp 3), none⟩,
  ⟨some 2, .mov (.tmp 29), none⟩] :: K) fr S := rfl
def ref06_Bytes : PCodeFn :=
  ⟨1, [.tmp 2],
  (.seq (.region ref06_Bytes_r0) (.seq (.clr [(5, 8)] (.region ref06_Bytes_r1)) (.seq (.seq (.region ref06_Bytes_r2) (.block 0 (.loop ref06_Bytes_l0))) (.seq (.clr [(29, 30)] (.region ref06_Bytes_r6)) .ret)))), false⟩

/-! gauge/frame.GetUint: 110 -/
def frame_GetUint_r0 : List POper := [
  ⟨some 4, .mov (.cst (.int .i64 0)), none⟩,
  ⟨some 5, .mov (.cst (.int .i64 0)), none⟩,
  ⟨some 6, .mov (.cst (.int .i64 0)), none⟩]
@[simp] theorem frame_GetUint_r0_go (T : Tbl) (K : List Kt) (fr : Fr) (S : St) : gval T (.ops frame_GetUint_r0 :: K) fr S = gval T (.ops [
  ⟨some 4, .mov (.cst (.int .i64 0)), none⟩,
  ⟨some 5, .mov (.cst (.int .i64 0)), none⟩,
  ⟨some 6, .mov (.cst (.int .i64 0)), none⟩] :: K) fr S := rfl
def frame_GetUint_r1 : List POper := [
  ⟨some 10, .mov (.tmp 1), none⟩,
  ⟨some 11, .arith .lss (.tmp 10) (.cst (.int .i64 0)), none⟩,
  ⟨some 12, .mov (.tmp 11), none⟩,
  ⟨some 13, .mov (.tmp 1), some (12, false)⟩,
  ⟨some 14, .mov (.tmp 0), some (12, false)⟩,
  ⟨some 15, .len false (.tmp 14), some (12, false)⟩,
  ⟨some 16, .arith .gtr (.tmp 13) (.tmp 15), some (12, false)⟩,
  ⟨some 17, .pick (.tmp 12) (.cst (.bool true)) (.tmp 16), none⟩]
@[simp] theorem frame_GetUint_r1_go (T : Tbl) (K : List Kt) (fr : Fr) (S : St) : gval T (.ops frame_GetUint_r1 :: K) fr S = gval T (.ops [
  ⟨some 10, .mov (.tmp 1), none⟩,
  ⟨some 11, .arith .lss (.tmp 10) (.cst (.int .i64 0)), none⟩,
  ⟨some 12, .mov (.tmp 11), none⟩,
  ⟨some 13, .mov (.tmp 1), some (12, false)⟩,
  ⟨some 14, .mov (.tmp 0), some (12, false)⟩,
  ⟨some 15, .len false (.tmp 14), some (12, false)⟩,
  ⟨some 16, .arith .gtr (.tmp 13) (.tmp 15), some (12, false)⟩,
  ⟨some 17, .pick (.tmp 12) (.cst (.bool true)) (.tmp 16), none⟩] :: K) fr S := rfl
def frame_GetUint_r2 : List POper := [
  ⟨some 4, .mov (.cst (.int .i64 0)), none⟩,
  ⟨some 5, .mov (.cst (.int .i64 0)), none⟩,
  ⟨some 6, .mov (.cst (.int .i64 2)), none⟩]
@[simp] theorem frame_GetUint_r2_go (T : Tbl) (K : List Kt) (fr : Fr) (S : St) : gval T (.ops frame_GetUint_r2 :: K) fr S = gval T (.ops [
  ⟨some 4, .mov (.cst (.int .i64 0)), none⟩,
  ⟨some 5, .mov (.cst (.int .i64 0)), none⟩,
  ⟨some 6, .mov (.cst (.int .i64 2)), none⟩] :: K) fr S := rfl
def frame_GetUint_r3 : List POper := [
  ⟨some 7, .mov (.cst (.int .u64 0)), none⟩]
@[simp] theorem frame_GetUint_r3_go (T : Tbl) (K : List Kt) (fr : Fr) (S : St) : gval T (.ops frame_GetUint_r3 :: K) fr S = gval T (.ops [
  ⟨some 7, .mov (.cst (.int .u64 0)), none⟩] :: K) fr S := rfl
def frame_GetUint_r4 : List POper := [
  ⟨some 18, .mov (.tmp 0), none⟩,
  ⟨some 19, .mov (.tmp 1), none⟩,
  ⟨some 20, .slc 1 (some (.tmp 19)) none (.tmp 18), none⟩,
  ⟨some 21, .len false (.tmp 20), none⟩,
  ⟨some 22, .mov (.cst (.int .i64 0)), none⟩]
@[simp] theorem frame_GetUint_r4_go (T : Tbl) (K : List Kt) (fr : Fr) (S : St) : gval T (.ops frame_GetUint_r4 :: K) fr S = gval T (.ops [
  ⟨some 18, .mov (.tmp 0), none⟩,
  ⟨some 19, .mov (.tmp 1), none⟩,
  ⟨some 20, .slc 1 (some (.tmp 19)) none (.tmp 18), none⟩,
  ⟨some 21, .len false (.tmp 20), none⟩,
  ⟨some 22, .mov (.cst (.int .i64 0)), none⟩] :: K) fr S := rfl
def frame_GetUint_r5 : List POper := [
  ⟨some 23, .arith .lss (.tmp 22) (.tmp 21), none⟩]
@[simp] theorem frame_GetUint_r5_go (T : Tbl) (K : List Kt) (fr : Fr) (S : St) : gval T (.ops frame_GetUint_r5 :: K) fr S = gval T (.ops [
  ⟨some 23, .arith .lss (.tmp 22) (.tmp 21), none⟩] :: K) fr S := rfl
def frame_GetUint_r6 : List POper := [
  ⟨some 24, .mov (.tmp 22), none⟩,
  ⟨some 25, .iaddr 1 (.tmp 20) (.tmp 22), none⟩,
  ⟨some 26, .load false 1 false (.tmp 25), none⟩,
  ⟨some 8, .mov (.tmp 24), none⟩,
  ⟨some 9, .mov (.tmp 26), none⟩]
@[simp] theorem frame_GetUint_r6_go (T : Tbl) (K : List Kt) (fr : Fr) (S : St) : gval T (.ops frame_GetUint_r6 :: K) fr S = gval T (.ops [
  ⟨some 24, .mov (.tmp 22), none⟩,
  ⟨some 25, .iaddr 1 (.tmp 20) (.tmp 22), none⟩,
  ⟨some 26, .load false 1 false (.tmp 25), none⟩,
  ⟨some 8, .mov (.tmp 24), none⟩,
  ⟨some 9, .mov (.tmp 26), none⟩] :: K) fr S := rfl
def frame_GetUint_r7 : List POper := [
  ⟨some 27, .mov (.tmp 8), none⟩,
  ⟨some 28, .arith .eql (.tmp 27) (.cst (.int .i64 8)), none⟩,
  ⟨some 29, .mov (.tmp 28), none⟩,
  ⟨some 30, .mov (.tmp 9), some (29, true)⟩,
  ⟨some 31, .arith .gtr (.tmp 30) (.cst (.int .u8 127)), some (29, true)⟩,
  ⟨some 32, .pick (.tmp 29) (.tmp 31) (.cst (.bool false)), none⟩,
  ⟨some 33, .mov (.tmp 32), none⟩,
  ⟨some 34, .mov (.tmp 8), some (33, false)⟩,
  ⟨some 35, .arith .gtr (.tmp 34) (.cst (.int .i64 0)), some (33, false)⟩,
  ⟨some 36, .mov (.tmp 35), some (33, false)⟩,
  ⟨some 37, .mov (.tmp 9), some (36, true)⟩,
  ⟨some 38, .arith .eql (.tmp 37) (.cst (.int .u8 0)), some (36, true)⟩,
  ⟨some 39, .pick (.tmp 36) (.tmp 38) (.cst (.bool false)), some (33, false)⟩,
  ⟨some 40, .pick (.tmp 33) (.cst (.bool true)) (.tmp 39), none⟩]
@[simp] theorem frame_GetUint_r7_go (T : Tbl) (K : List Kt) (fr : Fr) (S : St) : gval T (.ops frame_GetUint_r7 :: K) fr S = gval T (.ops [
  ⟨some 27, .mov (.tmp 8), none⟩,
  ⟨some 28, .arith .eql (.tmp 27) (.cst (.int .i64 8)), none⟩,
  ⟨some 29, .mov (.tmp 28), none⟩,
  ⟨some 30, .mov (.tmp 9), some (29, true)⟩,
  ⟨some 31, .arith .gtr (.tmp 30) (.cst (.int .u8 127)), some (29, true)⟩,
  ⟨some 32, .pick (.tmp 29) (.tmp 31) (.cst (.bool false)), none⟩,
  ⟨some 33, .mov (.tmp 32), none⟩,
  ⟨some 34, .mov (.tmp 8), some (33, false)⟩,
  ⟨some 35, .arith .gtr (.tmp 34) (.cst (.int .i64 0)), some (33, false)⟩,
  ⟨some 36, .mov (.tmp 35), some (33, false)⟩,
  ⟨some 37, .mov (.tmp 9), some (36, true)⟩,
  ⟨some 38, .arith .eql (.tmp 37) (.cst (.int .u8 0)), some (36, true)⟩,
  ⟨some 39, .pick (.tmp 36) (.tmp 38) (.cst (.bool false)), some (33, false)⟩,
  ⟨some 40, .pick (.tmp 33) (.cst (.bool true)) (.tmp 39), none⟩] :: K) fr S := rfl
def frame_GetUint_r8 : List POper := [
  ⟨some 4, .mov (.cst (.int .i64 0)), none⟩,
  ⟨some 5, .mov (.cst (.int .i64 0)), none⟩,
  ⟨some 6, .mov (.cst (.int .i64 5)), none⟩]
@[simp] theorem frame_GetUint_r8_go (T : Tbl) (K : List Kt) (fr : Fr) (S : St) : gval T (.ops frame_GetUint_r8 :: K) fr S = gval T (.ops [
  ⟨some 4, .mov (.cst (.int .i64 0)), none⟩,
  ⟨some 5, .mov (.cst (.int .i64 0)), none⟩,
  ⟨some 6, .mov (.cst (.int .i64 5)), none⟩] :: K) fr S := rfl
def frame_GetUint_r9 : List POper := [
  ⟨some 41, .mov (.tmp 7), none⟩,
  ⟨some 42, .mov (.tmp 9), none⟩,
  ⟨some 43, .arith .and (.tmp 42) (.cst (.int .u8 127)), none⟩,
  ⟨some 44, .toInt .u64 (.tmp 43), none⟩,
  ⟨some 45, .mov (.tmp 8), none⟩,
  ⟨some 46, .arith .mul (.cst (.int .i64 7)) (.tmp 45), none⟩,
  ⟨some 47, .arith .shl (.tmp 44) (.tmp 46), none⟩,
  ⟨some 48, .arith .or (.tmp 41) (.tmp 47), none⟩,
  ⟨some 7, .mov (.tmp 48), none⟩]
@[simp] theorem frame_GetUint_r9_go (T : Tbl) (K : List Kt) (fr : Fr) (S : St) : gval T (.ops frame_GetUint_r9 :: K) fr S = gval T (.ops [
  ⟨some 41, .mov (.tmp 7), none⟩,
  ⟨some 42, .mov (.tmp 9), none⟩,
  ⟨some 43, .arith .and (.tmp 42) (.cst (.int .u8 127)), none⟩,
  ⟨some 44, .toInt .u64 (.tmp 43), none⟩,
  ⟨some 45, .mov (.tmp 8), none⟩,
  ⟨some 46, .arith .mul (.cst (.int .i64 7)) (.tmp 45), none⟩,
  ⟨some 47, .arith .shl (.tmp 44) (.tmp 46), none⟩,
  ⟨some 48, .arith .or (.tmp 41) (.tmp 47), none⟩,
  ⟨some 7, .mov (.tmp 48), none⟩] :: K) fr S := rfl
def frame_GetUint_r10 : List POper := [
  ⟨some 49, .mov (.tmp 9), none⟩,
  ⟨some 50, .arith .lss (.tmp 49) (.cst (.int .u8 128)), none⟩]
@[simp] theorem frame_GetUint_r10_go (T : Tbl) (K : List Kt) (fr : Fr) (S : St) : gval T (.ops frame_GetUint_r10 :: K) fr S = gval T (.ops [
  ⟨some 49, .mov (.tmp 9), none⟩,
  ⟨some 50, .arith .lss (.tmp 49) (.cst (.int .u8 128)), none⟩] :: K) fr S := rfl
def frame_GetUint_r11 : List POper := [
  ⟨some 51, .mov (.tmp 7), none⟩,
  ⟨some 52, .toInt .i64 (.tmp 51), none⟩,
  ⟨some 53, .mov (.tmp 1), none⟩,
  ⟨some 54, .mov (.tmp 8), none⟩,
  ⟨some 55, .arith .add (.tmp 53) (.tmp 54), none⟩,
  ⟨some 56, .arith .add (.tmp 55) (.cst (.int .i64 1)), none⟩,
  ⟨some 4, .mov (.tmp 52), none⟩,
  ⟨some 5, .mov (.tmp 56), none⟩,
  ⟨some 6, .mov (.cst (.int .i64 0)), none⟩]
@[simp] theorem frame_GetUint_r11_go (T : Tbl) (K : List Kt) (fr : Fr) (S : St) : gval T (.ops frame_GetUint_r11 :: K) fr S = gval T (.ops [
  ⟨some 51, .mov (.tmp 7), none⟩,
  ⟨some 52, .toInt .i64 (.tmp 51), none⟩,
  ⟨some 53, .mov (.tmp 1), none⟩,
  ⟨some 54, .mov (.tmp 8), none⟩,
  ⟨some 55, .arith .add (.tmp 53) (.tmp 54), none⟩,
  ⟨some 56, .arith .add (.tmp 55) (.cst (.int .i64 1)), none⟩,
  ⟨some 4, .mov (.tmp 52), none⟩,
  ⟨some 5, .mov (.tmp 56), none⟩,
  ⟨some 6, .mov (.cst (.int .i64 0)), none⟩] :: K) fr S := rfl
def frame_GetUint_r12 : List POper := [
  ⟨some 57, .arith .add (.tmp 22) (.cst (.int .i64 1)), none⟩,
  ⟨some 22, .mov (.tmp 57), none⟩]
@[simp] theorem frame_GetUint_r12_go (T : Tbl) (K : List Kt) (fr : Fr) (S : St) : gval T (.ops frame_GetUint_r12 :: K) fr S = gval T (.ops [
  ⟨some 57, .arith .add (.tmp 22) (.cst (.int .i64 1)), none⟩,
  ⟨some 22, .mov (.tmp 57), none⟩] :: K) fr S := rfl
def frame_GetUint_l0 : PCode :=
  (.seq (.region frame_GetUint_r5) (.seq (.cond (.tmp 23) .skip (.exit 0)) (.seq (.block 1 (.seq (.clr [(24, 27)] (.region frame_GetUint_r6)) (.seq (.seq (.clr [(27, 40)] (.region frame_GetUint_r7)) (.cond (.tmp 40) (.seq (.region frame_GetUint_r8) .ret) .skip)) (.seq (.clr [(41, 49)] (.region frame_GetUint_r9)) (.seq (.clr [(49, 50)] (.region frame_GetUint_r10)) (.cond (.tmp 50) (.seq (.clr [(51, 57)] (.region frame_GetUint_r11)) .ret) .skip)))))) (.clr [(57, 58)] (.region frame_GetUint_r12)))))
@[simp] theorem frame_GetUint_l0_go (T : Tbl) (K : List Kt) (fr : Fr) (S : St) : gval T (.code frame_GetUint_l0 :: K) fr S = gval T (.code (.seq (.region frame_GetUint_r5) (.seq (.cond (.tmp 23) .skip (.exit 0)) (.seq (.block 1 (.seq (.clr [(24, 27)] (.region frame_GetUint_r6)) (.seq (.seq (.clr [(27, 40)] (.region frame_GetUint_r7)) (.cond (.tmp 40) (.seq (.region frame_GetUint_r8) .ret) .skip)) (.seq (.clr [(41, 49)] (.region frame_GetUint_r9)) (.seq (.clr [(49, 50)] (.region frame_GetUint_r10)) (.cond (.tmp 50) (.seq (.clr [(51, 57)] (.region frame_GetUint_r11)) .ret) .skip)))))) (.clr [(57, 58)] (.region frame_GetUint_r12))))) :: K) fr S := rfl
def frame_GetUint_r13 : List POper := [
  ⟨some 4, .mov (.cst (.int .i64 0)), none⟩,
  ⟨some 5, .mov (.cst (.int .i64 0)), none⟩,
  ⟨some 6, .mov (.cst (.int .i64 4)), none⟩]
@[simp] theorem frame_GetUint_r13_go (T : Tbl) (K : List Kt) (fr : Fr) (S : St) : gval T (.ops frame_GetUint_r13 :: K) fr S = gval T (.ops [
  ⟨some 4, .mov (.cst (.int .i64 0)), none⟩,
  ⟨some 5, .mov (.cst (.int .i64 0)), none⟩,
  ⟨some 6, .mov (.cst (.int .i64 4)), none⟩] :: K) fr S := rfl
def frame_GetUint : PCodeFn :=
  ⟨2, [.tmp 4, .tmp 5, .tmp 6],
  (.seq (.region frame_GetUint_r0) (.seq (.seq (.clr [(10, 17)] (.region frame_GetUint_r1)) (.cond (.tmp 17) (.seq (.region frame_GetUint_r2) .ret) .skip)) (.seq (.region frame_GetUint_r3) (.seq (.seq (.clr [(18, 20)] (.region frame_GetUint_r4)) (.block 0 (.loop frame_GetUint_l0))) (.seq (.region frame_GetUint_r13) .ret))))), false⟩

/-! gauge/frame.GetText: 111 -/
def frame_GetText_r0 : List POper := [
  ⟨some 4, .mov (.cst (.str [])), none⟩,
  ⟨some 5, .mov (.cst (.int .i64 0)), none⟩,
  ⟨some 6, .mov (.cst (.int .i64 0)), none⟩]
@[simp] theorem frame_GetText_r0_go (T : Tbl) (K : List Kt) (fr : Fr) (S : St) : gval T (.ops frame_GetText_r0 :: K) fr S = gval T (.ops [
  ⟨some 4, .mov (.cst (.str [])), none⟩,
  ⟨some 5, .mov (.cst (.int .i64 0)), none⟩,
  ⟨some 6, .mov (.cst (.int .i64 0)), none⟩] :: K) fr S := rfl
def frame_GetText_r1 : List POper := [
  ⟨some 11, .mov (.tmp 0), none⟩,
  ⟨some 12, .mov (.tmp 1), none⟩,
  ⟨some 13, .call .std 110 [(.tmp 11), (.tmp 12)], none⟩,
  ⟨some 10, .mov (.tmp 13), none⟩,
  ⟨some 14, .extract 0 (.tmp 10), none⟩,
  ⟨some 15, .extract 1 (.tmp 10), none⟩,
  ⟨some 16, .extract 2 (.tmp 10), none⟩,
  ⟨some 7, .mov (.tmp 14), none⟩,
  ⟨some 8, .mov (.tmp 15), none⟩,
  ⟨some 9, .mov (.tmp 16), none⟩]
@[simp] theorem frame_GetText_r1_go (T : Tbl) (K : List Kt) (fr : Fr) (S : St) : gval T (.ops frame_GetText_r1 :: K) fr S = gval T (.ops [
  ⟨some 11, .mov (.tmp 0), none⟩,
  ⟨some 12, .mov (.tmp 1), none⟩,
  ⟨some 13, .call .std 110 [(.tmp 11), (.tmp 12)], none⟩,
  ⟨some 10, .mov (.tmp 13), none⟩,
  ⟨some 14, .extract 0 (.tmp 10), none⟩,
  ⟨some 15, .extract 1 (.tmp 10), none⟩,
  ⟨some 16, .extract 2 (.tmp 10), none⟩,
  ⟨some 7, .mov (.tmp 14), none⟩,
  ⟨some 8, .mov (.tmp 15), none⟩,
  ⟨some 9, .mov (.tmp 16), none⟩] :: K) fr S := rfl
def frame_GetText_r2 : List POper := [
  ⟨some 18, .mov (.tmp 9), none⟩,
  ⟨some 19, .arith .neq (.tmp 18) (.cst (.int .i64 0)), none⟩,
  ⟨some 17, .mov (.tmp 19), none⟩]
@[simp] theorem frame_GetText_r2_go (T : Tbl) (K : List Kt) (fr : Fr) (S : St) : gval T (.ops frame_GetText_r2 :: K) fr S = gval T (.ops [
  ⟨some 18, .mov (.tmp 9), none⟩,
  ⟨some 19, .arith .neq (.tmp 18) (.cst (.int .i64 0)), none⟩,
  ⟨some 17, .mov (.tmp 19), none⟩] :: K) fr S := rfl
def frame_GetText_r3 : List POper := [
  ⟨some 20, .mov (.tmp 9), none⟩,
  ⟨some 4, .mov (.cst (.str [])), none⟩,
  ⟨some 5, .mov (.cst (.int .i64 0)), none⟩,
  ⟨some 6, .mov (.tmp 20), none⟩]
@[simp] theorem frame_GetText_r3_go (T : Tbl) (K : List Kt) (fr : Fr) (S : St) : gval T (.ops frame_GetText_r3 :: K) fr S = gval T (.ops [
  ⟨some 20, .mov (.tmp 9), none⟩,
  ⟨some 4, .mov (.cst (.str [])), none⟩,
  ⟨some 5, .mov (.cst (.int .i64 0)), none⟩,
  ⟨some 6, .mov (.tmp 20), none⟩] :: K) fr S := rfl
def frame_GetText_r4 : List POper := [
  ⟨some 22, .mov (.tmp 7), none⟩,
  ⟨some 23, .arith .gtr (.tmp 22) (.cst (.int .i64 65535)), none⟩,
  ⟨some 21, .mov (.tmp 23), none⟩]
@[simp] theorem frame_GetText_r4_go (T : Tbl) (K : List Kt) (fr : Fr) (S : St) : gval T (.ops frame_GetText_r4 :: K) fr S = gval T (.ops [
  ⟨some 22, .mov (.tmp 7), none⟩,
  ⟨some 23, .arith .gtr (.tmp 22) (.cst (.int .i64 65535)), none⟩,
  ⟨some 21, .mov (.tmp 23), none⟩] :: K) fr S := rfl
def frame_GetText_r5 : List POper := [
  ⟨some 4, .mov (.cst (.str [])), none⟩,
  ⟨some 5, .mov (.cst (.int .i64 0)), none⟩,
  ⟨some 6, .mov (.cst (.int .i64 3)), none⟩]
@[simp] theorem frame_GetText_r5_go (T : Tbl) (K : List Kt) (fr : Fr) (S : St) : gval T (.ops frame_GetText_r5 :: K) fr S = gval T (.ops [
  ⟨some 4, .mov (.cst (.str [])), none⟩,
  ⟨some 5, .mov (.cst (.int .i64 0)), none⟩,
  ⟨some 6, .mov (.cst (.int .i64 3)), none⟩] :: K) fr S := rfl
def frame_GetText_r6 : List POper := [
  ⟨some 25, .mov (.tmp 7), none⟩,
  ⟨some 26, .mov (.tmp 0), none⟩,
  ⟨some 27, .len false (.tmp 26), none⟩,
  ⟨some 28, .mov (.tmp 8), none⟩,
  ⟨some 29, .arith .sub (.tmp 27) (.tmp 28), none⟩,
  ⟨some 30, .arith .gtr (.tmp 25) (.tmp 29), none⟩,
  ⟨some 24, .mov (.tmp 30), none⟩]
@[simp] theorem frame_GetText_r6_go (T : Tbl) (K : List Kt) (fr : Fr) (S : St) : gval T (.ops frame_GetText_r6 :: K) fr S = gval T (.ops [
  ⟨some 25, .mov (.tmp 7), none⟩,
  ⟨some 26, .mov (.tmp 0), none⟩,
  ⟨some 27, .len false (.tmp 26), none⟩,
  ⟨some 28, .mov (.tmp 8), none⟩,
  ⟨some 29, .arith .sub (.tmp 27) (.tmp 28), none⟩,
  ⟨some 30, .arith .gtr (.tmp 25) (.tmp 29), none⟩,
  ⟨some 24, .mov (.tmp 30), none⟩] :: K) fr S := rfl
def frame_GetText_r7 : List POper := [
  ⟨some 4, .mov (.cst (.str [])), none⟩,
  ⟨some 5, .mov (.cst (.int .i64 0)), none⟩,
  ⟨some 6, .mov (.cst (.int .i64 4)), none⟩]
@[simp] theorem frame_GetText_r7_go (T : Tbl) (K : List Kt) (fr : Fr) (S : St) : gval T (.ops frame_GetText_r7 :: K) fr S = gval T (.ops [
  ⟨some 4, .mov (.cst (.str [])), none⟩,
  ⟨some 5, .mov (.cst (.int .i64 0)), none⟩,
  ⟨some 6, .mov (.cst (.int .i64 4)), none⟩] :: K) fr S := rfl
def frame_GetText_r8 : List POper := [
  ⟨some 31, .mov (.tmp 0), none⟩,
  ⟨some 32, .mov (.tmp 8), none⟩,
  ⟨some 33, .mov (.tmp 8), none⟩,
  ⟨some 34, .mov (.tmp 7), none⟩,
  ⟨some 35, .arith .add (.tmp 33) (.tmp 34), none⟩,
  ⟨some 36, .slc 1 (some (.tmp 32)) (some (.tmp 35)) (.tmp 31), none⟩,
  ⟨some 37, .toStr (.tmp 36), none⟩,
  ⟨some 38, .mov (.tmp 8), none⟩,
  ⟨some 39, .mov (.tmp 7), none⟩,
  ⟨some 40, .arith .add (.tmp 38) (.tmp 39), none⟩,
  ⟨some 4, .mov (.tmp 37), none⟩,
  ⟨some 5, .mov (.tmp 40), none⟩,
  ⟨some 6, .mov (.cst (.int .i64 0)), none⟩]
@[simp] theorem frame_GetText_r8_go (T : Tbl) (K : List Kt) (fr : Fr) (S : St) : gval T (.ops frame_GetText_r8 :: K) fr S = gval T (.ops [
  ⟨some 31, .mov (.tmp 0), none⟩,
  ⟨some 32, .mov (.tmp 8), none⟩,
  ⟨some 33, .mov (.tmp 8), none⟩,
  ⟨some 34, .mov (.tmp 7), none⟩,
  ⟨some 35, .arith .add (.tmp 33) (.tmp 34), none⟩,
  ⟨some 36, .slc 1 (some (.tmp 32)) (some (.tmp 35)) (.tmp 31), none⟩,
  ⟨some 37, .toStr (.tmp 36), none⟩,
  ⟨some 38, .mov (.tmp 8), none⟩,
  ⟨some 39, .mov (.tmp 7), none⟩,
  ⟨some 40, .arith .add (.tmp 38) (.tmp 39), none⟩,
  ⟨some 4, .mov (.tmp 37), none⟩,
  ⟨some 5, .mov (.tmp 40), none⟩,
  ⟨some 6, .mov (.cst (.int .i64 0)), none⟩] :: K) fr S := rfl
def frame_GetText : PCodeFn :=
  ⟨2, [.tmp 4, .tmp 5, .tmp 6],
  (.seq (.region frame_GetText_r0) (.seq (.clr [(10, 17)] (.region frame_GetText_r1)) (.seq (.block 0 (.seq (.clr [(18, 20)] (.region frame_GetText_r2)) (.cond (.tmp 17) (.seq (.clr [(20, 21)] (.region frame_GetText_r3)) .ret) (.seq (.clr [(22, 24)] (.region frame_GetText_r4)) (.cond (.tmp 21) (.seq (.region frame_GetText_r5) .ret) (.seq (.clr [(25, 31)] (.region frame_GetText_r6)) (.cond (.tmp 24) (.seq (.region frame_GetText_r7) .ret) .skip))))))) (.seq (.clr [(31, 41)] (.region frame_GetText_r8)) .ret)))), false⟩

/-! gauge/gaugeref02.GetUint: 112 -/
def ref02_GetUint_r0 : List POper := [
  ⟨some 4, .mov (.cst (.int .i64 0)), none⟩,
  ⟨some 5, .mov (.cst (.int .i64 0)), none⟩,
  ⟨some 6, .mov (.cst (.int .i64 0)), none⟩]
@[simp] theorem ref02_GetUint_r0_go (T : Tbl) (K : List Kt) (fr : Fr) (S : St) : gval T (.ops ref02_GetUint_r0 :: K) fr S = gval T (.ops [
  ⟨some 4, .mov (.cst (.int .i64 0)), none⟩,
  ⟨some 5, .mov (.cst (.int .i64 0)), none⟩,
  ⟨some 6, .mov (.cst (.int .i64 0)), none⟩] :: K) fr S := rfl
def ref02_GetUint_r1 : List POper := [
  ⟨some 11, .mov (.tmp 1), none⟩,
  ⟨some 12, .arith .lss (.tmp 11) (.cst (.int .i64 0)), none⟩,
  ⟨some 13, .mov (.tmp 12), none⟩,
  ⟨some 14, .mov (.tmp 1), some (13, false)⟩,
  ⟨some 15, .mov (.tmp 0), some (13, false)⟩,
  ⟨some 16, .len false (.tmp 15), some (13, false)⟩,
  ⟨some 17, .arith .gtr (.tmp 14) (.tmp 16), some (13, false)⟩,
  ⟨some 18, .pick (.tmp 13) (.cst (.bool true)) (.tmp 17), none⟩]
@[simp] theorem ref02_GetUint_r1_go (T : Tbl) (K : List Kt) (fr : Fr) (S : St) : gval T (.ops ref02_GetUint_r1 :: K) fr S = gval T (.ops [
  ⟨some 11, .mov (.tmp 1), none⟩,
  ⟨some 12, .arith .lss (.tmp 11) (.cst (.int .i64 0)), none⟩,
  ⟨some 13, .mov (.tmp 12), none⟩,
  ⟨some 14, .mov (.tmp 1), some (13, false)⟩,
  ⟨some 15, .mov (.tmp 0), some (13, false)⟩,
  ⟨some 16, .len false (.tmp 15), some (13, false)⟩,
  ⟨some 17, .arith .gtr (.tmp 14) (.tmp 16), some (13, false)⟩,
  ⟨some 18, .pick (.tmp 13) (.cst (.bool true)) (.tmp 17), none⟩] :: K) fr S := rfl
def ref02_GetUint_r2 : List POper := [
  ⟨some 4, .mov (.cst (.int .i64 0)), none⟩,
  ⟨some 5, .mov (.cst (.int .i64 0)), none⟩,
  ⟨some 6, .mov (.cst (.int .i64 2)), none⟩]
@[simp] theorem ref02_GetUint_r2_go (T : Tbl) (K : List Kt) (fr : Fr) (S : St) : gval T (.ops ref02_GetUint_r2 :: K) fr S = gval T (.ops [
  ⟨some 4, .mov (.cst (.int .i64 0)), none⟩,
  ⟨some 5, .mov (.cst (.int .i64 0)), none⟩,
  ⟨some 6, .mov (.cst (.int .i64 2)), none⟩] :: K) fr S := rfl
def ref02_GetUint_r3 : List POper := [
  ⟨some 7, .mov (.cst (.int .i64 0)), none⟩,
  ⟨some 8, .mov (.cst (.int .i64 1)), none⟩]
@[simp] theorem ref02_GetUint_r3_go (T : Tbl) (K : List Kt) (fr : Fr) (S : St) : gval T (.ops ref02_GetUint_r3 :: K) fr S = gval T (.ops [
  ⟨some 7, .mov (.cst (.int .i64 0)), none⟩,
  ⟨some 8, .mov (.cst (.int .i64 1)), none⟩] :: K) fr S := rfl
def ref02_GetUint_r4 : List POper := [
  ⟨some 9, .mov (.cst (.int .i64 0)), none⟩]
@[simp] theorem ref02_GetUint_r4_go (T : Tbl) (K : List Kt) (fr : Fr) (S : St) : gval T (.ops ref02_GetUint_r4 :: K) fr S = gval T (.ops [
  ⟨some 9, .mov (.cst (.int .i64 0)), none⟩] :: K) fr S := rfl
def ref02_GetUint_r5 : List POper := [
  ⟨some 19, .mov (.tmp 9), none⟩,
  ⟨some 20, .arith .lss (.tmp 19) (.cst (.int .i64 9)), none⟩]
@[simp] theorem ref02_GetUint_r5_go (T : Tbl) (K : List Kt) (fr : Fr) (S : St) : gval T (.ops ref02_GetUint_r5 :: K) fr S = gval T (.ops [
  ⟨some 19, .mov (.tmp 9), none⟩,
  ⟨some 20, .arith .lss (.tmp 19) (.cst (.int .i64 9)), none⟩] :: K) fr S := rfl
def ref02_GetUint_r7 : List POper := [
  ⟨some 23, .mov (.tmp 1), none⟩,
  ⟨some 24, .mov (.tmp 9), none⟩,
  ⟨some 25, .arith .add (.tmp 23) (.tmp 24), none⟩,
  ⟨some 26, .mov (.tmp 0), none⟩,
  ⟨some 27, .len false (.tmp 26), none⟩,
  ⟨some 28, .arith .geq (.tmp 25) (.tmp 27), none⟩]
@[simp] theorem ref02_GetUint_r7_go (T : Tbl) (K : List Kt) (fr : Fr) (S : St) : gval T (.ops ref02_GetUint_r7 :: K) fr S = gval T (.ops [
  ⟨some 23, .mov (.tmp 1), none⟩,
  ⟨some 24, .mov (.tmp 9), none⟩,
  ⟨some 25, .arith .add (.tmp 23) (.tmp 24), none⟩,
  ⟨some 26, .mov (.tmp 0), none⟩,
  ⟨some 27, .len false (.tmp 26), none⟩,
  ⟨some 28, .arith .geq (.tmp 25) (.tmp 27), none⟩] :: K) fr S := rfl
def ref02_GetUint_r8 : List POper := [
  ⟨some 4, .mov (.cst (.int .i64 0)), none⟩,
  ⟨some 5, .mov (.cst (.int .i64 0)), none⟩,
  ⟨some 6, .mov (.cst (.int .i64 4)), none⟩]
@[simp] theorem ref02_GetUint_r8_go (T : Tbl) (K : List Kt) (fr : Fr) (S : St) : gval T (.ops ref02_GetUint_r8 :: K) fr S = gval T (.ops [
  ⟨some 4, .mov (.cst (.int .i64 0)), none⟩,
  ⟨some 5, .mov (.cst (.int .i64 0)), none⟩,
  ⟨some 6, .mov (.cst (.int .i64 4)), none⟩] :: K) fr S := rfl
def ref02_GetUint_r9 : List POper := [
  ⟨some 29, .mov (.tmp 0), none⟩,
  ⟨some 30, .mov (.tmp 1), none⟩,
  ⟨some 31, .mov (.tmp 9), none⟩,
  ⟨some 32, .arith .add (.tmp 30) (.tmp 31), none⟩,
  ⟨some 33, .iaddr 1 (.tmp 29) (.tmp 32), none⟩,
  ⟨some 34, .load false 1 false (.tmp 33), none⟩,
  ⟨some 35, .toInt .i64 (.tmp 34), none⟩,
  ⟨some 10, .mov (.tmp 35), none⟩]
@[simp] theorem ref02_GetUint_r9_go (T : Tbl) (K : List Kt) (fr : Fr) (S : St) : gval T (.ops ref02_GetUint_r9 :: K) fr S = gval T (.ops [
  ⟨some 29, .mov (.tmp 0), none⟩,
  ⟨some 30, .mov (.tmp 1), none⟩,
  ⟨some 31, .mov (.tmp 9), none⟩,
  ⟨some 32, .arith .add (.tmp 30) (.tmp 31), none⟩,
  ⟨some 33, .iaddr 1 (.tmp 29) (.tmp 32), none⟩,
  ⟨some 34, .load false 1 false (.tmp 33), none⟩,
  ⟨some 35, .toInt .i64 (.tmp 34), none⟩,
  ⟨some 10, .mov (.tmp 35), none⟩] :: K) fr S := rfl
def ref02_GetUint_r10 : List POper := [
  ⟨some 36, .mov (.tmp 7), none⟩,
  ⟨some 37, .mov (.tmp 10), none⟩,
  ⟨some 38, .arith .rem (.tmp 37) (.cst (.int .i64 128)), none⟩,
  ⟨some 39, .mov (.tmp 8), none⟩,
  ⟨some 40, .arith .mul (.tmp 38) (.tmp 39), none⟩,
  ⟨some 41, .arith .add (.tmp 36) (.tmp 40), none⟩,
  ⟨some 7, .mov (.tmp 41), none⟩]
@[simp] theorem ref02_GetUint_r10_go (T : Tbl) (K : List Kt) (fr : Fr) (S : St) : gval T (.ops ref02_GetUint_r10 :: K) fr S = gval T (.ops [
  ⟨some 36, .mov (.tmp 7), none⟩,
  ⟨some 37, .mov (.tmp 10), none⟩,
  ⟨some 38, .arith .rem (.tmp 37) (.cst (.int .i64 128)), none⟩,
  ⟨some 39, .mov (.tmp 8), none⟩,
  ⟨some 40, .arith .mul (.tmp 38) (.tmp 39), none⟩,
  ⟨some 41, .arith .add (.tmp 36) (.tmp 40), none⟩,
  ⟨some 7, .mov (.tmp 41), none⟩] :: K) fr S := rfl
def ref02_GetUint_r11 : List POper := [
  ⟨some 42, .mov (.tmp 10), none⟩,
  ⟨some 43, .arith .lss (.tmp 42) (.cst (.int .i64 128)), none⟩]
@[simp] theorem ref02_GetUint_r11_go (T : Tbl) (K : List Kt) (fr : Fr) (S : St) : gval T (.ops ref02_GetUint_r11 :: K) fr S = gval T (.ops [
  ⟨some 42, .mov (.tmp 10), none⟩,
  ⟨some 43, .arith .lss (.tmp 42) (.cst (.int .i64 128)), none⟩] :: K) fr S := rfl
def ref02_GetUint_r12 : List POper := [
  ⟨some 44, .mov (.tmp 10), none⟩,
  ⟨some 45, .arith .eql (.tmp 44) (.cst (.int .i64 0)), none⟩,
  ⟨some 46, .mov (.tmp 45), none⟩,
  ⟨some 47, .mov (.tmp 9), some (46, true)⟩,
  ⟨some 48, .arith .gtr (.tmp 47) (.cst (.int .i64 0)), some (46, true)⟩,
  ⟨some 49, .pick (.tmp 46) (.tmp 48) (.cst (.bool false)), none⟩]
@[simp] theorem ref02_GetUint_r12_go (T : Tbl) (K : List Kt) (fr : Fr) (S : St) : gval T (.ops ref02_GetUint_r12 :: K) fr S = gval T (.ops [
  ⟨some 44, .mov (.tmp 10), none⟩,
  ⟨some 45, .arith .eql (.tmp 44) (.cst (.int .i64 0)), none⟩,
  ⟨some 46, .mov (.tmp 45), none⟩,
  ⟨some 47, .mov (.tmp 9), some (46, true)⟩,
  ⟨some 48, .arith .gtr (.tmp 47) (.cst (.int .i64 0)), some (46, true)⟩,
  ⟨some 49, .pick (.tmp 46) (.tmp 48) (.cst (.bool false)), none⟩] :: K) fr S := rfl
def ref02_GetUint_r13 : List POper := [
  ⟨some 4, .mov (.cst (.int .i64 0)), none⟩,
  ⟨some 5, .mov (.cst (.int .i64 0)), none⟩,
  ⟨some 6, .mov (.cst (.int .i64 5)), none⟩]
@[simp] theorem ref02_GetUint_r13_go (T : Tbl) (K : List Kt) (fr : Fr) (S : St) : gval T (.ops ref02_GetUint_r13 :: K) fr S = gval T (.ops [
  ⟨some 4, .mov (.cst (.int .i64 0)), none⟩,
  ⟨some 5, .mov (.cst (.int .i64 0)), none⟩,
  ⟨some 6, .mov (.cst (.int .i64 5)), none⟩] :: K) fr S := rfl
def ref02_GetUint_r14 : List POper := [
  ⟨some 50, .mov (.tmp 7), none⟩,
  ⟨some 51, .mov (.tmp 1), none⟩,
  ⟨some 52, .mov (.tmp 9), none⟩,
  ⟨some 53, .arith .add (.tmp 51) (.tmp 52), none⟩,
  ⟨some 54, .arith .add (.tmp 53) (.cst (.int .i64 1)), none⟩,
  ⟨some 4, .mov (.tmp 50), none⟩,
  ⟨some 5, .mov (.tmp 54), none⟩,
  ⟨some 6, .mov (.cst (.int .i64 0)), none⟩]
@[simp] theorem ref02_GetUint_r14_go (T : Tbl) (K : List Kt) (fr : Fr) (S : St) : gval T (.ops ref02_GetUint_r14 :: K) fr S = gval T (.ops [
  ⟨some 50, .mov (.tmp 7), none⟩,
  ⟨some 51, .mov (.tmp 1), none⟩,
  ⟨some 52, .mov (.tmp 9), none⟩,
  ⟨some 53, .arith .add (.tmp 51) (.tmp 52), none⟩,
  ⟨some 54, .arith .add (.tmp 53) (.cst (.int .i64 1)), none⟩,
  ⟨some 4, .mov (.tmp 50), none⟩,
  ⟨some 5, .mov (.tmp 54), none⟩,
  ⟨some 6, .mov (.cst (.int .i64 0)), none⟩] :: K) fr S := rfl
def ref02_GetUint_r15 : List POper := [
  ⟨some 55, .mov (.tmp 9), none⟩,
  ⟨some 56, .arith .lss (.tmp 55) (.cst (.int .i64 8)), none⟩]
@[simp] theorem ref02_GetUint_r15_go (T : Tbl) (K : List Kt) (fr : Fr) (S : St) : gval T (.ops ref02_GetUint_r15 :: K) fr S = gval T (.ops [
  ⟨some 55, .mov (.tmp 9), none⟩,
  ⟨some 56, .arith .lss (.tmp 55) (.cst (.int .i64 8)), none⟩] :: K) fr S := rfl
def ref02_GetUint_r16 : List POper := [
  ⟨some 57, .mov (.tmp 8), none⟩,
  ⟨some 58, .arith .mul (.tmp 57) (.cst (.int .i64 128)), none⟩,
  ⟨some 8, .mov (.tmp 58), none⟩]
@[simp] theorem ref02_GetUint_r16_go (T : Tbl) (K : List Kt) (fr : Fr) (S : St) : gval T (.ops ref02_GetUint_r16 :: K) fr S = gval T (.ops [
  ⟨some 57, .mov (.tmp 8), none⟩,
  ⟨some 58, .arith .mul (.tmp 57) (.cst (.int .i64 128)), none⟩,
  ⟨some 8, .mov (.tmp 58), none⟩] :: K) fr S := rfl
def ref02_GetUint_r6 : List POper := [
  ⟨some 21, .mov (.tmp 9), none⟩,
  ⟨some 22, .arith .add (.tmp 21) (.cst (.int .i64 1)), none⟩,
  ⟨some 9, .mov (.tmp 22), none⟩]
@[simp] theorem ref02_GetUint_r6_go (T : Tbl) (K : List Kt) (fr : Fr) (S : St) : gval T (.ops ref02_GetUint_r6 :: K) fr S = gval T (.ops [
  ⟨some 21, .mov (.tmp 9), none⟩,
  ⟨some 22, .arith .add (.tmp 21) (.cst (.int .i64 1)), none⟩,
  ⟨some 9, .mov (.tmp 22), none⟩] :: K) fr S := rfl
def ref02_GetUint_l0 : PCode :=
  (.seq (.seq (.clr [(19, 20)] (.region ref02_GetUint_r5)) (.cond (.tmp 20) .skip (.exit 0))) (.seq (.block 1 (.seq (.seq (.clr [(23, 28)] (.region ref02_GetUint_r7)) (.cond (.tmp 28) (.seq (.region ref02_GetUint_r8) .ret) .skip)) (.seq (.clr [(29, 36)] (.region ref02_GetUint_r9)) (.seq (.clr [(36, 42)] (.region ref02_GetUint_r10)) (.seq (.seq (.clr [(42, 43)] (.region ref02_GetUint_r11)) (.cond (.tmp 43) (.seq (.seq (.clr [(44, 49)] (.region ref02_GetUint_r12)) (.cond (.tmp 49) (.seq (.region ref02_GetUint_r13) .ret) .skip)) (.seq (.clr [(50, 55)] (.region ref02_GetUint_r14)) .ret)) .skip)) (.seq (.clr [(55, 56)] (.region ref02_GetUint_r15)) (.cond (.tmp 56) (.clr [(57, 59)] (.region ref02_GetUint_r16)) .skip))))))) (.clr [(21, 23)] (.region ref02_GetUint_r6))))
@[simp] theorem ref02_GetUint_l0_go (T : Tbl) (K : List Kt) (fr : Fr) (S : St) : gval T (.code ref02_GetUint_l0 :: K) fr S = gval T (.code (.seq (.seq (.clr [(19, 20)] (.region ref02_GetUint_r5)) (.cond (.tmp 20) .skip (.exit 0))) (.seq (.block 1 (.seq (.seq (.clr [(23, 28)] (.region ref02_GetUint_r7)) (.cond (.tmp 28) (.seq (.region ref02_GetUint_r8) .ret) .skip)) (.seq (.clr [(29, 36)] (.region ref02_GetUint_r9)) (.seq (.clr [(36, 42)] (.region ref02_GetUint_r10)) (.seq (.seq (.clr [(42, 43)] (.region ref02_GetUint_r11)) (.cond (.tmp 43) (.seq (.seq (.clr [(44, 49)] (.region ref02_GetUint_r12)) (.cond (.tmp 49) (.seq (.region ref02_GetUint_r13) .ret) .skip)) (.seq (.clr [(50, 55)] (.region ref02_GetUint_r14)) .ret)) .skip)) (.seq (.clr [(55, 56)] (.region ref02_GetUint_r15)) (.cond (.tmp 56) (.clr [(57, 59)] (.region ref02_GetUint_r16)) .skip))))))) (.clr [(21, 23)] (.region ref02_GetUint_r6)))) :: K) fr S := rfl
def ref02_GetUint_r17 : List POper := [
  ⟨some 4, .mov (.cst (.int .i64 0)), none⟩,
  ⟨some 5, .mov (.cst (.int .i64 0)), none⟩,
  ⟨some 6, .mov (.cst (.int .i64 5)), none⟩]
@[simp] theorem ref02_GetUint_r17_go (T : Tbl) (K : List Kt) (fr : Fr) (S : St) : gval T (.ops ref02_GetUint_r17 :: K) fr S = gval T (.ops [
  ⟨some 4, .mov (.cst (.int .i64 0)), none⟩,
  ⟨some 5, .mov (.cst (.int .i64 0)), none⟩,
  ⟨some 6, .mov (.cst (.int .i64 5)), none⟩] :: K) fr S := rfl
def ref02_GetUint : PCodeFn :=
  ⟨2, [.tmp 4, .tmp 5, .tmp 6],
  (.seq (.region ref02_GetUint_r0) (.seq (.seq (.clr [(11, 18)] (.region ref02_GetUint_r1)) (.cond (.tmp 18) (.seq (.region ref02_GetUint_r2) .ret) .skip)) (.seq (.region ref02_GetUint_r3) (.seq (.seq (.region ref02_GetUint_r4) (.block 0 (.loop ref02_GetUint_l0))) (.seq (.region ref02_GetUint_r17) .ret))))), false⟩

/-! gauge/gaugeref02.GetText: 113 -/
def ref02_GetText_r0 : List POper := [
  ⟨some 4, .mov (.cst (.str [])), none⟩,
  ⟨some 5, .mov (.cst (.int .i64 0)), none⟩,
  ⟨some 6, .mov (.cst (.int .i64 0)), none⟩]
@[simp] theorem ref02_GetText_r0_go (T : Tbl) (K : List Kt) (fr : Fr) (S : St) : gval T (.ops ref02_GetText_r0 :: K) fr S = gval T (.ops [
  ⟨some 4, .mov (.cst (.str [])), none⟩,
  ⟨some 5, .mov (.cst (.int .i64 0)), none⟩,
  ⟨some 6, .mov (.cst (.int .i64 0)), none⟩] :: K) fr S := rfl
def ref02_GetText_r1 : List POper := [
  ⟨some 11, .mov (.tmp 0), none⟩,
  ⟨some 12, .mov (.tmp 1), none⟩,
  ⟨some 13, .call .std 112 [(.tmp 11), (.tmp 12)], none⟩,
  ⟨some 10, .mov (.tmp 13), none⟩,
  ⟨some 14, .extract 0 (.tmp 10), none⟩,
  ⟨some 15, .extract 1 (.tmp 10), none⟩,
  ⟨some 16, .extract 2 (.tmp 10), none⟩,
  ⟨some 7, .mov (.tmp 14), none⟩,
  ⟨some 8, .mov (.tmp 15), none⟩,
  ⟨some 9, .mov (.tmp 16), none⟩]
@[simp] theorem ref02_GetText_r1_go (T : Tbl) (K : List Kt) (fr : Fr) (S : St) : gval T (.ops ref02_GetText_r1 :: K) fr S = gval T (.ops [
  ⟨some 11, .mov (.tmp 0), none⟩,
  ⟨some 12, .mov (.tmp 1), none⟩,
  ⟨some 13, .call .std 112 [(.tmp 11), (.tmp 12)], none⟩,
  ⟨some 10, .mov (.tmp 13), none⟩,
  ⟨some 14, .extract 0 (.tmp 10), none⟩,
  ⟨some 15, .extract 1 (.tmp 10), none⟩,
  ⟨some 16, .extract 2 (.tmp 10), none⟩,
  ⟨some 7, .mov (.tmp 14), none⟩,
  ⟨some 8, .mov (.tmp 15), none⟩,
  ⟨some 9, .mov (.tmp 16), none⟩] :: K) fr S := rfl
def ref02_GetText_r2 : List POper := [
  ⟨some 17, .mov (.tmp 9), none⟩,
  ⟨some 18, .arith .neq (.tmp 17) (.cst (.int .i64 0)), none⟩]
@[simp] theorem ref02_GetText_r2_go (T : Tbl) (K : List Kt) (fr : Fr) (S : St) : gval T (.ops ref02_GetText_r2 :: K) fr S = gval T (.ops [
  ⟨some 17, .mov (.tmp 9), none⟩,
  ⟨some 18, .arith .neq (.tmp 17) (.cst (.int .i64 0)), none⟩] :: K) fr S := rfl
def ref02_GetText_r3 : List POper := [
  ⟨some 19, .mov (.tmp 9), none⟩,
  ⟨some 4, .mov (.cst (.str [])), none⟩,
  ⟨some 5, .mov (.cst (.int .i64 0)), none⟩,
  ⟨some 6, .mov (.tmp 19), none⟩]
@[simp] theorem ref02_GetText_r3_go (T : Tbl) (K : List Kt) (fr : Fr) (S : St) : gval T (.ops ref02_GetText_r3 :: K) fr S = gval T (.ops [
  ⟨some 19, .mov (.tmp 9), none⟩,
  ⟨some 4, .mov (.cst (.str [])), none⟩,
  ⟨some 5, .mov (.cst (.int .i64 0)), none⟩,
  ⟨some 6, .mov (.tmp 19), none⟩] :: K) fr S := rfl
def ref02_GetText_r4 : List POper := [
  ⟨some 20, .mov (.tmp 7), none⟩,
  ⟨some 21, .arith .gtr (.tmp 20) (.cst (.int .i64 65535)), none⟩]
@[simp] theorem ref02_GetText_r4_go (T : Tbl) (K : List Kt) (fr : Fr) (S : St) : gval T (.ops ref02_GetText_r4 :: K) fr S = gval T (.ops [
  ⟨some 20, .mov (.tmp 7), none⟩,
  ⟨some 21, .arith .gtr (.tmp 20) (.cst (.int .i64 65535)), none⟩] :: K) fr S := rfl
def ref02_GetText_r5 : List POper := [
  ⟨some 4, .mov (.cst (.str [])), none⟩,
  ⟨some 5, .mov (.cst (.int .i64 0)), none⟩,
  ⟨some 6, .mov (.cst (.int .i64 3)), none⟩]
@[simp] theorem ref02_GetText_r5_go (T : Tbl) (K : List Kt) (fr : Fr) (S : St) : gval T (.ops ref02_GetText_r5 :: K) fr S = gval T (.ops [
  ⟨some 4, .mov (.cst (.str [])), none⟩,
  ⟨some 5, .mov (.cst (.int .i64 0)), none⟩,
  ⟨some 6, .mov (.cst (.int .i64 3)), none⟩] :: K) fr S := rfl
def ref02_GetText_r6 : List POper := [
  ⟨some 22, .mov (.tmp 7), none⟩,
  ⟨some 23, .mov (.tmp 0), none⟩,
  ⟨some 24, .len false (.tmp 23), none⟩,
  ⟨some 25, .mov (.tmp 8), none⟩,
  ⟨some 26, .arith .sub (.tmp 24) (.tmp 25), none⟩,
  ⟨some 27, .arith .gtr (.tmp 22) (.tmp 26), none⟩]
@[simp] theorem ref02_GetText_r6_go (T : Tbl) (K : List Kt) (fr : Fr) (S : St) : gval T (.ops ref02_GetText_r6 :: K) fr S = gval T (.ops [
  ⟨some 22, .mov (.tmp 7), none⟩,
  ⟨some 23, .mov (.tmp 0), none⟩,
  ⟨some 24, .len false (.tmp 23), none⟩,
  ⟨some 25, .mov (.tmp 8), none⟩,
  ⟨some 26, .arith .sub (.tmp 24) (.tmp 25), none⟩,
  ⟨some 27, .arith .gtr (.tmp 22) (.tmp 26), none⟩] :: K) fr S := rfl
def ref02_GetText_r7 : List POper := [
  ⟨some 4, .mov (.cst (.str [])), none⟩,
  ⟨some 5, .mov (.cst (.int .i64 0)), none⟩,
  ⟨some 6, .mov (.cst (.int .i64 4)), none⟩]
@[simp] theorem ref02_GetText_r7_go (T : Tbl) (K : List Kt) (fr : Fr) (S : St) : gval T (.ops ref02_GetText_r7 :: K) fr S = gval T (.ops [
  ⟨some 4, .mov (.cst (.str [])), none⟩,
  ⟨some 5, .mov (.cst (.int .i64 0)), none⟩,
  ⟨some 6, .mov (.cst (.int .i64 4)), none⟩] :: K) fr S := rfl
def ref02_GetText_r8 : List POper := [
  ⟨some 28, .mov (.tmp 0), none⟩,
  ⟨some 29, .mov (.tmp 8), none⟩,
  ⟨some 30, .mov (.tmp 8), none⟩,
  ⟨some 31, .mov (.tmp 7), none⟩,
  ⟨some 32, .arith .add (.tmp 30) (.tmp 31), none⟩,
  ⟨some 33, .slc 1 (some (.tmp 29)) (some (.tmp 32)) (.tmp 28), none⟩,
  ⟨some 34, .toStr (.tmp 33), none⟩,
  ⟨some 35, .mov (.tmp 8), none⟩,
  ⟨some 36, .mov (.tmp 7), none⟩,
  ⟨some 37, .arith .add (.tmp 35) (.tmp 36), none⟩,
  ⟨some 4, .mov (.tmp 34), none⟩,
  ⟨some 5, .mov (.tmp 37), none⟩,
  ⟨some 6, .mov (.cst (.int .i64 0)), none⟩]
@[simp] theorem ref02_GetText_r8_go (T : Tbl) (K : List Kt) (fr : Fr) (S : St) : gval T (.ops ref02_GetText_r8 :: K) fr S = gval T (.ops [
  ⟨some 28, .mov (.tmp 0), none⟩,
  ⟨some 29, .mov (.tmp 8), none⟩,
  ⟨some 30, .mov (.tmp 8), none⟩,
  ⟨some 31, .mov (.tmp 7), none⟩,
  ⟨some 32, .arith .add (.tmp 30) (.tmp 31), none⟩,
  ⟨some 33, .slc 1 (some (.tmp 29)) (some (.tmp 32)) (.tmp 28), none⟩,
  ⟨some 34, .toStr (.tmp 33), none⟩,
  ⟨some 35, .mov (.tmp 8), none⟩,
  ⟨some 36, .mov (.tmp 7), none⟩,
  ⟨some 37, .arith .add (.tmp 35) (.tmp 36), none⟩,
  ⟨some 4, .mov (.tmp 34), none⟩,
  ⟨some 5, .mov (.tmp 37), none⟩,
  ⟨some 6, .mov (.cst (.int .i64 0)), none⟩] :: K) fr S := rfl
def ref02_GetText : PCodeFn :=
  ⟨2, [.tmp 4, .tmp 5, .tmp 6],
  (.seq (.region ref02_GetText_r0) (.seq (.clr [(10, 17)] (.region ref02_GetText_r1)) (.seq (.seq (.clr [(17, 18)] (.region ref02_GetText_r2)) (.cond (.tmp 18) (.seq (.clr [(19, 20)] (.region ref02_GetText_r3)) .ret) .skip)) (.seq (.seq (.clr [(20, 21)] (.region ref02_GetText_r4)) (.cond (.tmp 21) (.seq (.region ref02_GetText_r5) .ret) .skip)) (.seq (.seq (.clr [(22, 27)] (.region ref02_GetText_r6)) (.cond (.tmp 27) (.seq (.region ref02_GetText_r7) .ret) .skip)) (.seq (.clr [(28, 38)] (.region ref02_GetText_r8)) .ret)))))), false⟩

/-! internal/stringslite.CutPrefix: 208 -/
def stringslite_CutPrefix_r0 : List POper := [
  ⟨some 4, .mov (.cst (.str [])), none⟩,
  ⟨some 5, .mov (.cst (.bool false)), none⟩]
@[simp] theorem stringslite_CutPrefix_r0_go (T : Tbl) (K : List Kt) (fr : Fr) (S : St) : gval T (.ops stringslite_CutPrefix_r0 :: K) fr S = gval T (.ops [
  ⟨some 4, .mov (.cst (.str [])), none⟩,
  ⟨some 5, .mov (.cst (.bool false)), none⟩] :: K) fr S := rfl
def stringslite_CutPrefix_r1 : List POper := [
  ⟨some 6, .mov (.tmp 0), none⟩,
  ⟨some 7, .mov (.tmp 1), none⟩,
  ⟨some 8, .call .pur 297 [(.tmp 6), (.tmp 7)], none⟩,
  ⟨some 9, .un .not (.tmp 8), none⟩]
@[simp] theorem stringslite_CutPrefix_r1_go (T : Tbl) (K : List Kt) (fr : Fr) (S : St) : gval T (.ops stringslite_CutPrefix_r1 :: K) fr S = gval T (.ops [
  ⟨some 6, .mov (.tmp 0), none⟩,
  ⟨some 7, .mov (.tmp 1), none⟩,
  ⟨some 8, .call .pur 297 [(.tmp 6), (.tmp 7)], none⟩,
  ⟨some 9, .un .not (.tmp 8), none⟩] :: K) fr S := rfl
def stringslite_CutPrefix_r2 : List POper := [
  ⟨some 10, .mov (.tmp 0), none⟩,
  ⟨some 4, .mov (.tmp 10), none⟩,
  ⟨some 5, .mov (.cst (.bool false)), none⟩]
@[simp] theorem stringslite_CutPrefix_r2_go (T : Tbl) (K : List Kt) (fr : Fr) (S : St) : gval T (.ops stringslite_CutPrefix_r2 :: K) fr S = gval T (.ops [
  ⟨some 10, .mov (.tmp 0), none⟩,
  ⟨some 4, .mov (.tmp 10), none⟩,
  ⟨some 5, .mov (.cst (.bool false)), none⟩] :: K) fr S := rfl
def stringslite_CutPrefix_r3 : List POper := [
  ⟨some 11, .mov (.tmp 0), none⟩,
  ⟨some 12, .mov (.tmp 1), none⟩,
  ⟨some 13, .len true (.tmp 12), none⟩,
  ⟨some 14, .slcs (some (.tmp 13)) none (.tmp 11), none⟩,
  ⟨some 4, .mov (.tmp 14), none⟩,
  ⟨some 5, .mov (.cst (.bool true)), none⟩]
@[simp] theorem stringslite_CutPrefix_r3_go (T : Tbl) (K : List Kt) (fr : Fr) (S : St) : gval T (.ops stringslite_CutPrefix_r3 :: K) fr S = gval T (.ops [
  ⟨some 11, .mov (.tmp 0), none⟩,
  ⟨some 12, .mov (.tmp 1), none⟩,
  ⟨some 13, .len true (.tmp 12), none⟩,
  ⟨some 14, .slcs (some (.tmp 13)) none (.tmp 11), none⟩,
  ⟨some 4, .mov (.tmp 14), none⟩,
  ⟨some 5, .mov (.cst (.bool true)), none⟩] :: K) fr S := rfl
def stringslite_CutPrefix : PCodeFn :=
  ⟨2, [.tmp 4, .tmp 5],
  (.seq (.region stringslite_CutPrefix_r0) (.seq (.seq (.clr [(6, 9)] (.region stringslite_CutPrefix_r1)) (.cond (.tmp 9) (.seq (.clr [(10, 11)] (.region stringslite_CutPrefix_r2)) .ret) .skip)) (.seq (.clr [(11, 15)] (.region stringslite_CutPrefix_r3)) .ret))), false⟩

/-! internal/stringslite.Cut: 209 -/
def stringslite_Cut_r0 : List POper := [
  ⟨some 4, .mov (.cst (.str [])), none⟩,
  ⟨some 5, .mov (.cst (.str [])), none⟩,
  ⟨some 6, .mov (.cst (.bool false)), none⟩]
@[simp] theorem stringslite_Cut_r0_go (T : Tbl) (K : List Kt) (fr : Fr) (S : St) : gval T (.ops stringslite_Cut_r0 :: K) fr S = gval T (.ops [
  ⟨some 4, .mov (.cst (.str [])), none⟩,
  ⟨some 5, .mov (.cst (.str [])), none⟩,
  ⟨some 6, .mov (.cst (.bool false)), none⟩] :: K) fr S := rfl
def stringslite_Cut_r1 : List POper := [
  ⟨some 8, .mov (.tmp 0), none⟩,
  ⟨some 9, .mov (.tmp 1), none⟩,
  ⟨some 10, .call .pur 298 [(.tmp 8), (.tmp 9)], none⟩,
  ⟨some 7, .mov (.tmp 10), none⟩]
@[simp] theorem stringslite_Cut_r1_go (T : Tbl) (K : List Kt) (fr : Fr) (S : St) : gval T (.ops stringslite_Cut_r1 :: K) fr S = gval T (.ops [
  ⟨some 8, .mov (.tmp 0), none⟩,
  ⟨some 9, .mov (.tmp 1), none⟩,
  ⟨some 10, .call .pur 298 [(.tmp 8), (.tmp 9)], none⟩,
  ⟨some 7, .mov (.tmp 10), none⟩] :: K) fr S := rfl
def stringslite_Cut_r2 : List POper := [
  ⟨some 11, .mov (.tmp 7), none⟩,
  ⟨some 12, .arith .geq (.tmp 11) (.cst (.int .i64 0)), none⟩]
@[simp] theorem stringslite_Cut_r2_go (T : Tbl) (K : List Kt) (fr : Fr) (S : St) : gval T (.ops stringslite_Cut_r2 :: K) fr S = gval T (.ops [
  ⟨some 11, .mov (.tmp 7), none⟩,
  ⟨some 12, .arith .geq (.tmp 11) (.cst (.int .i64 0)), none⟩] :: K) fr S := rfl
def stringslite_Cut_r3 : List POper := [
  ⟨some 13, .mov (.tmp 0), none⟩,
  ⟨some 14, .mov (.tmp 7), none⟩,
  ⟨some 15, .slcs none (some (.tmp 14)) (.tmp 13), none⟩,
  ⟨some 16, .mov (.tmp 0), none⟩,
  ⟨some 17, .mov (.tmp 7), none⟩,
  ⟨some 18, .mov (.tmp 1), none⟩,
  ⟨some 19, .len true (.tmp 18), none⟩,
  ⟨some 20, .arith .add (.tmp 17) (.tmp 19), none⟩,
  ⟨some 21, .slcs (some (.tmp 20)) none (.tmp 16), none⟩,
  ⟨some 4, .mov (.tmp 15), none⟩,
  ⟨some 5, .mov (.tmp 21), none⟩,
  ⟨some 6, .mov (.cst (.bool true)), none⟩]
@[simp] theorem stringslite_Cut_r3_go (T : Tbl) (K : List Kt) (fr : Fr) (S : St) : gval T (.ops stringslite_Cut_r3 :: K) fr S = gval T (.ops [
  ⟨some 13, .mov (.tmp 0), none⟩,
  ⟨some 14, .mov (.tmp 7), none⟩,
  ⟨some 15, .slcs none (some (.tmp 14)) (.tmp 13), none⟩,
  ⟨some 16, .mov (.tmp 0), none⟩,
  ⟨some 17, .mov (.tmp 7), none⟩,
  ⟨some 18, .mov (.tmp 1), none⟩,
  ⟨some 19, .len true (.tmp 18), none⟩,
  ⟨some 20, .arith .add (.tmp 17) (.tmp 19), none⟩,
  ⟨some 21, .slcs (some (.tmp 20)) none (.tmp 16), none⟩,
  ⟨some 4, .mov (.tmp 15), none⟩,
  ⟨some 5, .mov (.tmp 21), none⟩,
  ⟨some 6, .mov (.cst (.bool true)), none⟩] :: K) fr S := rfl
def stringslite_Cut_r4 : List POper := [
  ⟨some 22, .mov (.tmp 0), none⟩,
  ⟨some 4, .mov (.tmp 22), none⟩,
  ⟨some 5, .mov (.cst (.str [])), none⟩,
  ⟨some 6, .mov (.cst (.bool false)), none⟩]
@[simp] theorem stringslite_Cut_r4_go (T : Tbl) (K : List Kt) (fr : Fr) (S : St) : gval T (.ops stringslite_Cut_r4 :: K) fr S = gval T (.ops [
  ⟨some 22, .mov (.tmp 0), none⟩,
  ⟨some 4, .mov (.tmp 22), none⟩,
  ⟨some 5, .mov (.cst (.str [])), none⟩,
  ⟨some 6, .mov (.cst (.bool false)), none⟩] :: K) fr S := rfl
def stringslite_Cut : PCodeFn :=
  ⟨2, [.tmp 4, .tmp 5, .tmp 6],
  (.seq (.region stringslite_Cut_r0) (.seq (.seq (.clr [(8, 11)] (.region stringslite_Cut_r1)) (.seq (.clr [(11, 12)] (.region stringslite_Cut_r2)) (.cond (.tmp 12) (.seq (.clr [(13, 22)] (.region stringslite_Cut_r3)) .ret) .skip))) (.seq (.clr [(22, 23)] (.region stringslite_Cut_r4)) .ret))), false⟩

/-! strings.HasPrefix: 210 -/
def strings_HasPrefix_r0 : List POper := [
  ⟨some 4, .mov (.cst (.bool false)), none⟩]
@[simp] theorem strings_HasPrefix_r0_go (T : Tbl) (K : List Kt) (fr : Fr) (S : St) : gval T (.ops strings_HasPrefix_r0 :: K) fr S = gval T (.ops [
  ⟨some 4, .mov (.cst (.bool false)), none⟩] :: K) fr S := rfl
def strings_HasPrefix_r1 : List POper := [
  ⟨some 5, .mov (.tmp 0), none⟩,
  ⟨some 6, .mov (.tmp 1), none⟩,
  ⟨some 7, .call .pur 297 [(.tmp 5), (.tmp 6)], none⟩,
  ⟨some 4, .mov (.tmp 7), none⟩]
@[simp] theorem strings_HasPrefix_r1_go (T : Tbl) (K : List Kt) (fr : Fr) (S : St) : gval T (.ops strings_HasPrefix_r1 :: K) fr S = gval T (.ops [
  ⟨some 5, .mov (.tmp 0), none⟩,
  ⟨some 6, .mov (.tmp 1), none⟩,
  ⟨some 7, .call .pur 297 [(.tmp 5), (.tmp 6)], none⟩,
  ⟨some 4, .mov (.tmp 7), none⟩] :: K) fr S := rfl
def strings_HasPrefix : PCodeFn :=
  ⟨2, [.tmp 4],
  (.seq (.region strings_HasPrefix_r0) (.seq (.clr [(5, 8)] (.region strings_HasPrefix_r1)) .ret)), false⟩

/-! strings.IndexByte: 211 -/
def strings_IndexByte_r0 : List POper := [
  ⟨some 4, .mov (.cst (.int .i64 0)), none⟩]
@[simp] theorem strings_IndexByte_r0_go (T : Tbl) (K : List Kt) (fr : Fr) (S : St) : gval T (.ops strings_IndexByte_r0 :: K) fr S = gval T (.ops [
  ⟨some 4, .mov (.cst (.int .i64 0)), none⟩] :: K) fr S := rfl
def strings_IndexByte_r1 : List POper := [
  ⟨some 5, .mov (.tmp 0), none⟩,
  ⟨some 6, .mov (.tmp 1), none⟩,
  ⟨some 7, .call .pur 299 [(.tmp 5), (.tmp 6)], none⟩,
  ⟨some 4, .mov (.tmp 7), none⟩]
@[simp] theorem strings_IndexByte_r1_go (T : Tbl) (K : List Kt) (fr : Fr) (S : St) : gval T (.ops strings_IndexByte_r1 :: K) fr S = gval T (.ops [
  ⟨some 5, .mov (.tmp 0), none⟩,
  ⟨some 6, .mov (.tmp 1), none⟩,
  ⟨some 7, .call .pur 299 [(.tmp 5), (.tmp 6)], none⟩,
  ⟨some 4, .mov (.tmp 7), none⟩] :: K) fr S := rfl
def strings_IndexByte : PCodeFn :=
  ⟨2, [.tmp 4],
  (.seq (.region strings_IndexByte_r0) (.seq (.clr [(5, 8)] (.region strings_IndexByte_r1)) .ret)), false⟩

/-! gauge/gaugeref06.digit: 212 -/
def ref06_digit_r0 : List POper := [
  ⟨some 2, .mov (.cst (.int .i64 0)), none⟩]
@[simp] theorem ref06_digit_r0_go (T : Tbl) (K : List Kt) (fr : Fr) (S : St) : gval T (.ops ref06_digit_r0 :: K) fr S = gval T (.ops [
  ⟨some 2, .mov (.cst (.int .i64 0)), none⟩] :: K) fr S := rfl
def ref06_digit_r1 : List POper := [
  ⟨some 3, .mov (.tmp 0), none⟩,
  ⟨some 4, .arith .geq (.tmp 3) (.cst (.int .u8 48)), none⟩,
  ⟨some 5, .mov (.tmp 4), none⟩,
  ⟨some 6, .mov (.tmp 0), some (5, true)⟩,
  ⟨some 7, .arith .leq (.tmp 6) (.cst (.int .u8 57)), some (5, true)⟩,
  ⟨some 8, .pick (.tmp 5) (.tmp 7) (.cst (.bool false)), none⟩]
@[simp] theorem ref06_digit_r1_go (T : Tbl) (K : List Kt) (fr : Fr) (S : St) : gval T (.ops ref06_digit_r1 :: K) fr S = gval T (.ops [
  ⟨some 3, .mov (.tmp 0), none⟩,
  ⟨some 4, .arith .geq (.tmp 3) (.cst (.int .u8 48)), none⟩,
  ⟨some 5, .mov (.tmp 4), none⟩,
  ⟨some 6, .mov (.tmp 0), some (5, true)⟩,
  ⟨some 7, .arith .leq (.tmp 6) (.cst (.int .u8 57)), some (5, true)⟩,
  ⟨some 8, .pick (.tmp 5) (.tmp 7) (.cst (.bool false)), none⟩] :: K) fr S := rfl
def ref06_digit_r2 : List POper := [
  ⟨some 9, .mov (.tmp 0), none⟩,
  ⟨some 10, .toInt .i64 (.tmp 9), none⟩,
  ⟨some 11, .arith .sub (.tmp 10) (.cst (.int .i64 48)), none⟩,
  ⟨some 2, .mov (.tmp 11), none⟩]
@[simp] theorem ref06_digit_r2_go (T : Tbl) (K : List Kt) (fr : Fr) (S : St) : gval T (.ops ref06_digit_r2 :: K) fr S = gval T (.ops [
  ⟨some 9, .mov (.tmp 0), none⟩,
  ⟨some 10, .toInt .i64 (.tmp 9), none⟩,
  ⟨some 11, .arith .sub (.tmp 10) (.cst (.int .i64 48)), none⟩,
  ⟨some 2, .mov (.tmp 11), none⟩] :: K) fr S := rfl
def ref06_digit_r3 : List POper := [
  ⟨some 12, .mov (.tmp 0), none⟩,
  ⟨some 13, .arith .geq (.tmp 12) (.cst (.int .u8 97)), none⟩,
  ⟨some 14, .mov (.tmp 13), none⟩,
  ⟨some 15, .mov (.tmp 0), some (14, true)⟩,
  ⟨some 16, .arith .leq (.tmp 15) (.cst (.int .u8 102)), some (14, true)⟩,
  ⟨some 17, .pick (.tmp 14) (.tmp 16) (.cst (.bool false)), none⟩]
@[simp] theorem ref06_digit_r3_go (T : Tbl) (K : List Kt) (fr : Fr) (S : St) : gval T (.ops ref06_digit_r3 :: K) fr S = gval T (.ops [
  ⟨some 12, .mov (.tmp 0), none⟩,
  ⟨some 13, .arith .geq (.tmp 12) (.cst (.int .u8 97)), none⟩,
  ⟨some 14, .mov (.tmp 13), none⟩,
  ⟨some 15, .mov (.tmp 0), some (14, true)⟩,
  ⟨some 16, .arith .leq (.tmp 15) (.cst (.int .u8 102)), some (14, true)⟩,
  ⟨some 17, .pick (.tmp 14) (.tmp 16) (.cst (.bool false)), none⟩] :: K) fr S := rfl
def ref06_digit_r4 : List POper := [
  ⟨some 18, .mov (.tmp 0), none⟩,
  ⟨some 19, .toInt .i64 (.tmp 18), none⟩,
  ⟨some 20, .arith .sub (.tmp 19) (.cst (.int .i64 97)), none⟩,
  ⟨some 21, .arith .add (.tmp 20) (.cst (.int .i64 10)), none⟩,
  ⟨some 2, .mov (.tmp 21), none⟩]
@[simp] theorem ref06_digit_r4_go (T : Tbl) (K : List Kt) (fr : Fr) (S : St) : gval T (.ops ref06_digit_r4 :: K) fr S = gval T (.ops [
  ⟨some 18, .mov (.tmp 0), none⟩,
  ⟨some 19, .toInt .i64 (.tmp 18), none⟩,
  ⟨some 20, .arith .sub (.tmp 19) (.cst (.int .i64 97)), none⟩,
  ⟨some 21, .arith .add (.tmp 20) (.cst (.int .i64 10)), none⟩,
  ⟨some 2, .mov (.tmp 21), none⟩] :: K) fr S := rfl
def ref06_digit_r5 : List POper := [
  ⟨some 2, .mov (.cst (.int .i64 (-1))), none⟩]
@[simp] theorem ref06_digit_r5_go (T : Tbl) (K : List Kt) (fr : Fr) (S : St) : gval T (.ops ref06_digit_r5 :: K) fr S = gval T (.ops [
  ⟨some 2, .mov (.cst (.int .i64 (-1))), none⟩] :: K) fr S := rfl
def ref06_digit : PCodeFn :=
  ⟨1, [.tmp 2],
  (.seq (.region ref06_digit_r0) (.seq (.seq (.clr [(3, 8)] (.region ref06_digit_r1)) (.cond (.tmp 8) (.seq (.clr [(9, 12)] (.region ref06_digit_r2)) .ret) .skip)) (.seq (.seq (.clr [(12, 17)] (.region ref06_digit_r3)) (.cond (.tmp 17) (.seq (.clr [(18, 22)] (.region ref06_digit_r4)) .ret) .skip)) (.seq (.region ref06_digit_r5) .ret)))), false⟩

/-! (*strings.Builder).Grow: 213 -/
def strings_Builder_Grow_r0 : List POper := [
  ⟨some 4, .mov (.tmp 0), none⟩,
  ⟨some 5, .call .std 300 [(.tmp 4)], none⟩]
@[simp] theorem strings_Builder_Grow_r0_go (T : Tbl) (K : List Kt) (fr : Fr) (S : St) : gval T (.ops strings_Builder_Grow_r0 :: K) fr S = gval T (.ops [
  ⟨some 4, .mov (.tmp 0), none⟩,
  ⟨some 5, .call .std 300 [(.tmp 4)], none⟩] :: K) fr S := rfl
def strings_Builder_Grow_r1 : List POper := [
  ⟨some 6, .mov (.tmp 1), none⟩,
  ⟨some 7, .arith .lss (.tmp 6) (.cst (.int .i64 0)), none⟩]
@[simp] theorem strings_Builder_Grow_r1_go (T : Tbl) (K : List Kt) (fr : Fr) (S : St) : gval T (.ops strings_Builder_Grow_r1 :: K) fr S = gval T (.ops [
  ⟨some 6, .mov (.tmp 1), none⟩,
  ⟨some 7, .arith .lss (.tmp 6) (.cst (.int .i64 0)), none⟩] :: K) fr S := rfl
def strings_Builder_Grow_r4 : List POper := [
  ⟨some 22, .mov (.tmp 0), none⟩,
  ⟨some 23, .mov (.tmp 1), none⟩,
  ⟨some 24, .call .std 301 [(.tmp 22), (.tmp 23)], none⟩]
@[simp] theorem strings_Builder_Grow_r4_go (T : Tbl) (K : List Kt) (fr : Fr) (S : St) : gval T (.ops strings_Builder_Grow_r4 :: K) fr S = gval T (.ops [
  ⟨some 22, .mov (.tmp 0), none⟩,
  ⟨some 23, .mov (.tmp 1), none⟩,
  ⟨some 24, .call .std 301 [(.tmp 22), (.tmp 23)], none⟩] :: K) fr S := rfl
def strings_Builder_Grow : PCodeFn :=
  ⟨2, [],
  (.seq (.clr [(4, 6)] (.region strings_Builder_Grow_r0)) (.seq (.seq (.clr [(6, 7)] (.region strings_Builder_Grow_r1)) (.cond (.tmp 7) .bad .skip)) (.seq .bad (.cond (.tmp 21) (.clr [(22, 25)] (.region strings_Builder_Grow_r4)) .skip)))), false⟩

/-! (*strings.Builder).WriteString: 214 -/
def strings_Builder_WriteString_r0 : List POper := [
  ⟨some 4, .mov (.cst (.int .i64 0)), none⟩,
  ⟨some 5, .mov (.cst .nili), none⟩]
@[simp] theorem strings_Builder_WriteString_r0_go (T : Tbl) (K : List Kt) (fr : Fr) (S : St) : gval T (.ops strings_Builder_WriteString_r0 :: K) fr S = gval T (.ops [
  ⟨some 4, .mov (.cst (.int .i64 0)), none⟩,
  ⟨some 5, .mov (.cst .nili), none⟩] :: K) fr S := rfl
def strings_Builder_WriteString_r1 : List POper := [
  ⟨some 6, .mov (.tmp 0), none⟩,
  ⟨some 7, .call .std 300 [(.tmp 6)], none⟩]
@[simp] theorem strings_Builder_WriteString_r1_go (T : Tbl) (K : List Kt) (fr : Fr) (S : St) : gval T (.ops strings_Builder_WriteString_r1 :: K) fr S = gval T (.ops [
  ⟨some 6, .mov (.tmp 0), none⟩,
  ⟨some 7, .call .std 300 [(.tmp 6)], none⟩] :: K) fr S := rfl
def strings_Builder_WriteString_r2 : List POper := [
  ⟨some 8, .mov (.tmp 0), none⟩,
  ⟨some 9, .mov (.tmp 0), none⟩,
  ⟨some 10, .nilck (.tmp 9), none⟩,
  ⟨some 11, .faddr 1 (.tmp 10), none⟩,
  ⟨some 12, .load false 1 false (.tmp 11), none⟩,
  ⟨some 13, .mov (.tmp 1), none⟩,
  ⟨some 14, .app 1 1 (.tmp 12) (.tmp 13), none⟩,
  ⟨some 15, .nilck (.tmp 8), none⟩,
  ⟨some 16, .faddr 1 (.tmp 15), none⟩,
  ⟨none, .store 1 (.tmp 16) (.tmp 14), none⟩]
@[simp] theorem strings_Builder_WriteString_r2_go (T : Tbl) (K : List Kt) (fr : Fr) (S : St) : gval T (.ops strings_Builder_WriteString_r2 :: K) fr S = gval T (.ops [
  ⟨some 8, .mov (.tmp 0), none⟩,
  ⟨some 9, .mov (.tmp 0), none⟩,
  ⟨some 10, .nilck (.tmp 9), none⟩,
  ⟨some 11, .faddr 1 (.tmp 10), none⟩,
  ⟨some 12, .load false 1 false (.tmp 11), none⟩,
  ⟨some 13, .mov (.tmp 1), none⟩,
  ⟨some 14, .app 1 1 (.tmp 12) (.tmp 13), none⟩,
  ⟨some 15, .nilck (.tmp 8), none⟩,
  ⟨some 16, .faddr 1 (.tmp 15), none⟩,
  ⟨none, .store 1 (.tmp 16) (.tmp 14), none⟩] :: K) fr S := rfl
def strings_Builder_WriteString_r3 : List POper := [
  ⟨some 17, .mov (.tmp 1), none⟩,
  ⟨some 18, .len true (.tmp 17), none⟩,
  ⟨some 4, .mov (.tmp 18), none⟩,
  ⟨some 5, .mov (.cst .nili), none⟩]
@[simp] theorem strings_Builder_WriteString_r3_go (T : Tbl) (K : List Kt) (fr : Fr) (S : St) : gval T (.ops strings_Builder_WriteString_r3 :: K) fr S = gval T (.ops [
  ⟨some 17, .mov (.tmp 1), none⟩,
  ⟨some 18, .len true (.tmp 17), none⟩,
  ⟨some 4, .mov (.tmp 18), none⟩,
  ⟨some 5, .mov (.cst .nili), none⟩] :: K) fr S := rfl
def strings_Builder_WriteString : PCodeFn :=
  ⟨2, [.tmp 4, .tmp 5],
  (.seq (.region strings_Builder_WriteString_r0) (.seq (.clr [(6, 8)] (.region strings_Builder_WriteString_r1)) (.seq (.clr [(8, 17)] (.region strings_Builder_WriteString_r2)) (.seq (.clr [(17, 19)] (.region strings_Builder_WriteString_r3)) .ret)))), false⟩

/-! (*strings.Builder).String: 215 -/
def strings_Builder_String_r0 : List POper := [
  ⟨some 2, .mov (.cst (.str [])), none⟩]
@[simp] theorem strings_Builder_String_r0_go (T : Tbl) (K : List Kt) (fr : Fr) (S : St) : gval T (.ops strings_Builder_String_r0 :: K) fr S = gval T (.ops [
  ⟨some 2, .mov (.cst (.str [])), none⟩] :: K) fr S := rfl
def strings_Builder_String : PCodeFn :=
  ⟨1, [.tmp 2],
  (.seq (.region strings_Builder_String_r0) (.seq .bad .ret)), false⟩

/-! slices.Index[[]string,string]: 221 -/
def slices_Index_string_r0 : List POper := [
  ⟨some 4, .mov (.cst (.int .i64 0)), none⟩]
@[simp] theorem slices_Index_string_r0_go (T : Tbl) (K : List Kt) (fr : Fr) (S : St) : gval T (.ops slices_Index_string_r0 :: K) fr S = gval T (.ops [
  ⟨some 4, .mov (.cst (.int .i64 0)), none⟩] :: K) fr S := rfl
def slices_Index_string_r1 : List POper := [
  ⟨some 6, .mov (.tmp 0), none⟩,
  ⟨some 7, .len false (.tmp 6), none⟩,
  ⟨some 8, .mov (.cst (.int .i64 0)), none⟩]
@[simp] theorem slices_Index_string_r1_go (T : Tbl) (K : List Kt) (fr : Fr) (S : St) : gval T (.ops slices_Index_string_r1 :: K) fr S = gval T (.ops [
  ⟨some 6, .mov (.tmp 0), none⟩,
  ⟨some 7, .len false (.tmp 6), none⟩,
  ⟨some 8, .mov (.cst (.int .i64 0)), none⟩] :: K) fr S := rfl
def slices_Index_string_r2 : List POper := [
  ⟨some 9, .arith .lss (.tmp 8) (.tmp 7), none⟩]
@[simp] theorem slices_Index_string_r2_go (T : Tbl) (K : List Kt) (fr : Fr) (S : St) : gval T (.ops slices_Index_string_r2 :: K) fr S = gval T (.ops [
  ⟨some 9, .arith .lss (.tmp 8) (.tmp 7), none⟩] :: K) fr S := rfl
def slices_Index_string_r3 : List POper := [
  ⟨some 10, .mov (.tmp 8), none⟩,
  ⟨some 5, .mov (.tmp 10), none⟩]
@[simp] theorem slices_Index_string_r3_go (T : Tbl) (K : List Kt) (fr : Fr) (S : St) : gval T (.ops slices_Index_string_r3 :: K) fr S = gval T (.ops [
  ⟨some 10, .mov (.tmp 8), none⟩,
  ⟨some 5, .mov (.tmp 10), none⟩] :: K) fr S := rfl
def slices_Index_string_r4 : List POper := [
  ⟨some 11, .mov (.tmp 1), none⟩,
  ⟨some 12, .mov (.tmp 0), none⟩,
  ⟨some 13, .mov (.tmp 5), none⟩,
  ⟨some 14, .iaddr 1 (.tmp 12) (.tmp 13), none⟩,
  ⟨some 15, .load false 1 false (.tmp 14), none⟩,
  ⟨some 16, .arith .eql (.tmp 11) (.tmp 15), none⟩]
@[simp] theorem slices_Index_string_r4_go (T : Tbl) (K : List Kt) (fr : Fr) (S : St) : gval T (.ops slices_Index_string_r4 :: K) fr S = gval T (.ops [
  ⟨some 11, .mov (.tmp 1), none⟩,
  ⟨some 12, .mov (.tmp 0), none⟩,
  ⟨some 13, .mov (.tmp 5), none⟩,
  ⟨some 14, .iaddr 1 (.tmp 12) (.tmp 13), none⟩,
  ⟨some 15, .load false 1 false (.tmp 14), none⟩,
  ⟨some 16, .arith .eql (.tmp 11) (.tmp 15), none⟩] :: K) fr S := rfl
def slices_Index_string_r5 : List POper := [
  ⟨some 17, .mov (.tmp 5), none⟩,
  ⟨some 4, .mov (.tmp 17), none⟩]
@[simp] theorem slices_Index_string_r5_go (T : Tbl) (K : List Kt) (fr : Fr) (S : St) : gval T (.ops slices_Index_string_r5 :: K) fr S = gval T (.ops [
  ⟨some 17, .mov (.tmp 5), none⟩,
  ⟨some 4, .mov (.tmp 17), none⟩] :: K) fr S := rfl
def slices_Index_string_r6 : List POper := [
  ⟨some 18, .arith .add (.tmp 8) (.cst (.int .i64 1)), none⟩,
  ⟨some 8, .mov (.tmp 18), none⟩]
@[simp] theorem slices_Index_string_r6_go (T : Tbl) (K : List Kt) (fr : Fr) (S : St) : gval T (.ops slices_Index_string_r6 :: K) fr S = gval T (.ops [
  ⟨some 18, .arith .add (.tmp 8) (.cst (.int .i64 1)), none⟩,
  ⟨some 8, .mov (.tmp 18), none⟩] :: K) fr S := rfl
def slices_Index_string_l0 : PCode :=
  (.seq (.region slices_Index_string_r2) (.seq (.cond (.tmp 9) .skip (.exit 0)) (.seq (.block 1 (.seq (.clr [(10, 11)] (.region slices_Index_string_r3)) (.seq (.clr [(11, 16)] (.region slices_Index_string_r4)) (.cond (.tmp 16) (.seq (.clr [(17, 18)] (.region slices_Index_string_r5)) .ret) .skip)))) (.clr [(18, 19)] (.region slices_Index_string_r6)))))
@[simp] theorem slices_Index_string_l0_go (T : Tbl) (K : List Kt) (fr : Fr) (S : St) : gval T (.code slices_Index_string_l0 :: K) fr S = gval T (.code (.seq (.region slices_Index_string_r2) (.seq (.cond (.tmp 9) .skip (.exit 0)) (.seq (.block 1 (.seq (.clr [(10, 11)] (.region slices_Index_string_r3)) (.seq (.clr [(11, 16)] (.region slices_Index_string_r4)) (.cond (.tmp 16) (.seq (.clr [(17, 18)] (.region slices_Index_string_r5)) .ret) .skip)))) (.clr [(18, 19)] (.region slices_Index_string_r6))))) :: K) fr S := rfl
def slices_Index_string_r7 : List POper := [
  ⟨some 4, .mov (.cst (.int .i64 (-1))), none⟩]
@[simp] theorem slices_Index_string_r7_go (T : Tbl) (K : List Kt) (fr : Fr) (S : St) : gval T (.ops slices_Index_string_r7 :: K) fr S = gval T (.ops [
  ⟨some 4, .mov (.cst (.int .i64 (-1))), none⟩] :: K) fr S := rfl
def slices_Index_string : PCodeFn :=
  ⟨2, [.tmp 4],
  (.seq (.region slices_Index_string_r0) (.seq (.seq (.clr [(6, 7)] (.region slices_Index_string_r1)) (.block 0 (.loop slices_Index_string_l0))) (.seq (.region slices_Index_string_r7) .ret))), false⟩

/-! cmp.isNaN[string]: 217 -/
def cmp_isNaN_string_r0 : List POper := [
  ⟨some 2, .mov (.cst (.bool false)), none⟩]
@[simp] theorem cmp_isNaN_string_r0_go (T : Tbl) (K : List Kt) (fr : Fr) (S : St) : gval T (.ops cmp_isNaN_string_r0 :: K) fr S = gval T (.ops [
  ⟨some 2, .mov (.cst (.bool false)), none⟩] :: K) fr S := rfl
def cmp_isNaN_string_r1 : List POper := [
  ⟨some 3, .mov (.tmp 0), none⟩,
  ⟨some 4, .mov (.tmp 0), none⟩,
  ⟨some 5, .arith .neq (.tmp 3) (.tmp 4), none⟩,
  ⟨some 2, .mov (.tmp 5), none⟩]
@[simp] theorem cmp_isNaN_string_r1_go (T : Tbl) (K : List Kt) (fr : Fr) (S : St) : gval T (.ops cmp_isNaN_string_r1 :: K) fr S = gval T (.ops [
  ⟨some 3, .mov (.tmp 0), none⟩,
  ⟨some 4, .mov (.tmp 0), none⟩,
  ⟨some 5, .arith .neq (.tmp 3) (.tmp 4), none⟩,
  ⟨some 2, .mov (.tmp 5), none⟩] :: K) fr S := rfl
def cmp_isNaN_string : PCodeFn :=
  ⟨1, [.tmp 2],
  (.seq (.region cmp_isNaN_string_r0) (.seq (.clr [(3, 6)] (.region cmp_isNaN_string_r1)) .ret)), false⟩

/-! gauge/frame.own: 218 -/
def frame_own_r0 : List POper := [
  ⟨some 4, .mov (.cst .nils), none⟩]
@[simp] theorem frame_own_r0_go (T : Tbl) (K : List Kt) (fr : Fr) (S : St) : gval T (.ops frame_own_r0 :: K) fr S = gval T (.ops [
  ⟨some 4, .mov (.cst .nils), none⟩] :: K) fr S := rfl
def frame_own_r1 : List POper := [
  ⟨some 5, .mov (.tmp 0), none⟩,
  ⟨some 6, .len false (.tmp 5), none⟩,
  ⟨some 7, .mov (.tmp 1), none⟩,
  ⟨some 8, .arith .add (.tmp 6) (.tmp 7), none⟩,
  ⟨some 9, .mks 1 1 (.tmp 8), none⟩,
  ⟨some 10, .mov (.tmp 0), none⟩,
  ⟨some 11, .app 1 1 (.tmp 9) (.tmp 10), none⟩,
  ⟨some 4, .mov (.tmp 11), none⟩]
@[simp] theorem frame_own_r1_go (T : Tbl) (K : List Kt) (fr : Fr) (S : St) : gval T (.ops frame_own_r1 :: K) fr S = gval T (.ops [
  ⟨some 5, .mov (.tmp 0), none⟩,
  ⟨some 6, .len false (.tmp 5), none⟩,
  ⟨some 7, .mov (.tmp 1), none⟩,
  ⟨some 8, .arith .add (.tmp 6) (.tmp 7), none⟩,
  ⟨some 9, .mks 1 1 (.tmp 8), none⟩,
  ⟨some 10, .mov (.tmp 0), none⟩,
  ⟨some 11, .app 1 1 (.tmp 9) (.tmp 10), none⟩,
  ⟨some 4, .mov (.tmp 11), none⟩] :: K) fr S := rfl
def frame_own : PCodeFn :=
  ⟨2, [.tmp 4],
  (.seq (.region frame_own_r0) (.seq (.clr [(5, 12)] (.region frame_own_r1)) .ret)), true⟩

/-! gauge/gaugeref02.Uint: 219 -/
def ref02_Uint_r0 : List POper := [
  ⟨some 2, .mov (.cst .nils), none⟩]
@[simp] theorem ref02_Uint_r0_go (T : Tbl) (K : List Kt) (fr : Fr) (S : St) : gval T (.ops ref02_Uint_r0 :: K) fr S = gval T (.ops [
  ⟨some 2, .mov (.cst .nils), none⟩] :: K) fr S := rfl
def ref02_Uint_r1 : List POper := [
  ⟨some 3, .mov (.cst .nils), none⟩]
@[simp] theorem ref02_Uint_r1_go (T : Tbl) (K : List Kt) (fr : Fr) (S : St) : gval T (.ops ref02_Uint_r1 :: K) fr S = gval T (.ops [
  ⟨some 3, .mov (.cst .nils), none⟩] :: K) fr S := rfl
def ref02_Uint_r2 : List POper := [
  ⟨some 4, .mov (.tmp 0), none⟩,
  ⟨some 5, .arith .gtr (.tmp 4) (.cst (.int .i64 127)), none⟩]
@[simp] theorem ref02_Uint_r2_go (T : Tbl) (K : List Kt) (fr : Fr) (S : St) : gval T (.ops ref02_Uint_r2 :: K) fr S = gval T (.ops [
  ⟨some 4, .mov (.tmp 0), none⟩,
  ⟨some 5, .arith .gtr (.tmp 4) (.cst (.int .i64 127)), none⟩] :: K) fr S := rfl
def ref02_Uint_r3 : List POper := [
  ⟨some 6, .mov (.tmp 3), none⟩,
  ⟨some 7, .mov (.tmp 0), none⟩,
  ⟨some 8, .arith .rem (.tmp 7) (.cst (.int .i64 128)), none⟩,
  ⟨some 9, .arith .add (.tmp 8) (.cst (.int .i64 128)), none⟩,
  ⟨some 10, .toInt .u8 (.tmp 9), none⟩,
  ⟨some 11, .bsl false (.int .u8 0) 1 [(0, (.tmp 10))], none⟩,
  ⟨some 12, .app 1 1 (.tmp 6) (.tmp 11), none⟩,
  ⟨some 3, .mov (.tmp 12), none⟩]
@[simp] theorem ref02_Uint_r3_go (T : Tbl) (K : List Kt) (fr : Fr) (S : St) : gval T (.ops ref02_Uint_r3 :: K) fr S = gval T (.ops [
  ⟨some 6, .mov (.tmp 3), none⟩,
  ⟨some 7, .mov (.tmp 0), none⟩,
  ⟨some 8, .arith .rem (.tmp 7) (.cst (.int .i64 128)), none⟩,
  ⟨some 9, .arith .add (.tmp 8) (.cst (.int .i64 128)), none⟩,
  ⟨some 10, .toInt .u8 (.tmp 9), none⟩,
  ⟨some 11, .bsl false (.int .u8 0) 1 [(0, (.tmp 10))], none⟩,
  ⟨some 12, .app 1 1 (.tmp 6) (.tmp 11), none⟩,
  ⟨some 3, .mov (.tmp 12), none⟩] :: K) fr S := rfl
def ref02_Uint_r4 : List POper := [
  ⟨some 13, .mov (.tmp 0), none⟩,
  ⟨some 14, .arith .quo (.tmp 13) (.cst (.int .i64 128)), none⟩,
  ⟨some 0, .mov (.tmp 14), none⟩]
@[simp] theorem ref02_Uint_r4_go (T : Tbl) (K : List Kt) (fr : Fr) (S : St) : gval T (.ops ref02_Uint_r4 :: K) fr S = gval T (.ops [
  ⟨some 13, .mov (.tmp 0), none⟩,
  ⟨some 14, .arith .quo (.tmp 13) (.cst (.int .i64 128)), none⟩,
  ⟨some 0, .mov (.tmp 14), none⟩] :: K) fr S := rfl
def ref02_Uint_l0 : PCode :=
  (.seq (.seq (.clr [(4, 5)] (.region ref02_Uint_r2)) (.cond (.tmp 5) .skip (.exit 0))) (.block 1 (.seq (.clr [(6, 13)] (.region ref02_Uint_r3)) (.clr [(13, 15)] (.region ref02_Uint_r4)))))
@[simp] theorem ref02_Uint_l0_go (T : Tbl) (K : List Kt) (fr : Fr) (S : St) : gval T (.code ref02_Uint_l0 :: K) fr S = gval T (.code (.seq (.seq (.clr [(4, 5)] (.region ref02_Uint_r2)) (.cond (.tmp 5) .skip (.exit 0))) (.block 1 (.seq (.clr [(6, 13)] (.region ref02_Uint_r3)) (.clr [(13, 15)] (.region ref02_Uint_r4))))) :: K) fr S := rfl
def ref02_Uint_r5 : List POper := [
  ⟨some 15, .mov (.tmp 3), none⟩,
  ⟨some 16, .mov (.tmp 0), none⟩,
  ⟨some 17, .toInt .u8 (.tmp 16), none⟩,
  ⟨some 18, .bsl false (.int .u8 0) 1 [(0, (.tmp 17))], none⟩,
  ⟨some 19, .app 1 1 (.tmp 15) (.tmp 18), none⟩,
  ⟨some 2, .mov (.tmp 19), none⟩]
@[simp] theorem ref02_Uint_r5_go (T : Tbl) (K : List Kt) (fr : Fr) (S : St) : gval T (.ops ref02_Uint_r5 :: K) fr S = gval T (.ops [
  ⟨some 15, .mov (.tmp 3), none⟩,
  ⟨some 16, .mov (.tmp 0), none⟩,
  ⟨some 17, .toInt .u8 (.tmp 16), none⟩,
  ⟨some 18, .bsl false (.int .u8 0) 1 [(0, (.tmp 17))], none⟩,
  ⟨some 19, .app 1 1 (.tmp 15) (.tmp 18), none⟩,
  ⟨some 2, .mov (.tmp 19), none⟩] :: K) fr S := rfl
def ref02_Uint : PCodeFn :=
  ⟨1, [.tmp 2],
  (.seq (.region ref02_Uint_r0) (.seq (.region ref02_Uint_r1) (.seq (.block 0 (.loop ref02_Uint_l0)) (.seq (.clr [(15, 20)] (.region ref02_Uint_r5)) .ret)))), true⟩

/-! gauge/gaugeref02.Text: 220 -/
def ref02_Text_r0 : List POper := [
  ⟨some 2, .mov (.cst .nils), none⟩]
@[simp] theorem ref02_Text_r0_go (T : Tbl) (K : List Kt) (fr : Fr) (S : St) : gval T (.ops ref02_Text_r0 :: K) fr S = gval T (.ops [
  ⟨some 2, .mov (.cst .nils), none⟩] :: K) fr S := rfl
def ref02_Text_r1 : List POper := [
  ⟨some 3, .mov (.tmp 0), none⟩,
  ⟨some 4, .len true (.tmp 3), none⟩,
  ⟨some 5, .call .std 219 [(.tmp 4)], none⟩,
  ⟨some 6, .mov (.tmp 0), none⟩,
  ⟨some 7, .app 1 1 (.tmp 5) (.tmp 6), none⟩,
  ⟨some 2, .mov (.tmp 7), none⟩]
@[simp] theorem ref02_Text_r1_go (T : Tbl) (K : List Kt) (fr : Fr) (S : St) : gval T (.ops ref02_Text_r1 :: K) fr S = gval T (.ops [
  ⟨some 3, .mov (.tmp 0), none⟩,
  ⟨some 4, .len true (.tmp 3), none⟩,
  ⟨some 5, .call .std 219 [(.tmp 4)], none⟩,
  ⟨some 6, .mov (.tmp 0), none⟩,
  ⟨some 7, .app 1 1 (.tmp 5) (.tmp 6), none⟩,
  ⟨some 2, .mov (.tmp 7), none⟩] :: K) fr S := rfl
def ref02_Text : PCodeFn :=
  ⟨1, [.tmp 2],
  (.seq (.region ref02_Text_r0) (.seq (.clr [(3, 8)] (.region ref02_Text_r1)) .ret)), false⟩

/-! internal/stringslite.HasPrefix: 297 -/
def stringslite_HasPrefix_r0 : List POper := [
  ⟨some 4, .mov (.cst (.bool false)), none⟩]
@[simp] theorem stringslite_HasPrefix_r0_go (T : Tbl) (K : List Kt) (fr : Fr) (S : St) : gval T (.ops stringslite_HasPrefix_r0 :: K) fr S = gval T (.ops [
  ⟨some 4, .mov (.cst (.bool false)), none⟩] :: K) fr S := rfl
def stringslite_HasPrefix_r1 : List POper := [
  ⟨some 5, .mov (.tmp 0), none⟩,
  ⟨some 6, .len true (.tmp 5), none⟩,
  ⟨some 7, .mov (.tmp 1), none⟩,
  ⟨some 8, .len true (.tmp 7), none⟩,
  ⟨some 9, .arith .geq (.tmp 6) (.tmp 8), none⟩,
  ⟨some 10, .mov (.tmp 9), none⟩,
  ⟨some 11, .mov (.tmp 0), some (10, true)⟩,
  ⟨some 12, .mov (.tmp 1), some (10, true)⟩,
  ⟨some 13, .len true (.tmp 12), some (10, true)⟩,
  ⟨some 14, .slcs none (some (.tmp 13)) (.tmp 11), some (10, true)⟩,
  ⟨some 15, .mov (.tmp 1), some (10, true)⟩,
  ⟨some 16, .arith .eql (.tmp 14) (.tmp 15), some (10, true)⟩,
  ⟨some 17, .pick (.tmp 10) (.tmp 16) (.cst (.bool false)), none⟩,
  ⟨some 4, .mov (.tmp 17), none⟩]
@[simp] theorem stringslite_HasPrefix_r1_go (T : Tbl) (K : List Kt) (fr : Fr) (S : St) : gval T (.ops stringslite_HasPrefix_r1 :: K) fr S = gval T (.ops [
  ⟨some 5, .mov (.tmp 0), none⟩,
  ⟨some 6, .len true (.tmp 5), none⟩,
  ⟨some 7, .mov (.tmp 1), none⟩,
  ⟨some 8, .len true (.tmp 7), none⟩,
  ⟨some 9, .arith .geq (.tmp 6) (.tmp 8), none⟩,
  ⟨some 10, .mov (.tmp 9), none⟩,
  ⟨some 11, .mov (.tmp 0), some (10, true)⟩,
  ⟨some 12, .mov (.tmp 1), some (10, true)⟩,
  ⟨some 13, .len true (.tmp 12), some (10, true)⟩,
  ⟨some 14, .slcs none (some (.tmp 13)) (.tmp 11), some (10, true)⟩,
  ⟨some 15, .mov (.tmp 1), some (10, true)⟩,
  ⟨some 16, .arith .eql (.tmp 14) (.tmp 15), some (10, true)⟩,
  ⟨some 17, .pick (.tmp 10) (.tmp 16) (.cst (.bool false)), none⟩,
  ⟨some 4, .mov (.tmp 17), none⟩] :: K) fr S := rfl
def stringslite_HasPrefix : PCodeFn :=
  ⟨2, [.tmp 4],
  (.seq (.region stringslite_HasPrefix_r0) (.seq (.clr [(5, 18)] (.region stringslite_HasPrefix_r1)) .ret)), false⟩

/-! internal/stringslite.Index: 298 -/
def stringslite_Index_r0 : List POper := [
  ⟨some 4, .mov (.cst (.int .i64 0)), none⟩]
@[simp] theorem stringslite_Index_r0_go (T : Tbl) (K : List Kt) (fr : Fr) (S : St) : gval T (.ops stringslite_Index_r0 :: K) fr S = gval T (.ops [
  ⟨some 4, .mov (.cst (.int .i64 0)), none⟩] :: K) fr S := rfl
def stringslite_Index_r1 : List POper := [
  ⟨some 14, .mov (.tmp 1), none⟩,
  ⟨some 15, .len true (.tmp 14), none⟩,
  ⟨some 5, .mov (.tmp 15), none⟩]
@[simp] theorem stringslite_Index_r1_go (T : Tbl) (K : List Kt) (fr : Fr) (S : St) : gval T (.ops stringslite_Index_r1 :: K) fr S = gval T (.ops [
  ⟨some 14, .mov (.tmp 1), none⟩,
  ⟨some 15, .len true (.tmp 14), none⟩,
  ⟨some 5, .mov (.tmp 15), none⟩] :: K) fr S := rfl
def stringslite_Index_r2 : List POper := [
  ⟨some 17, .mov (.tmp 5), none⟩,
  ⟨some 18, .arith .eql (.tmp 17) (.cst (.int .i64 0)), none⟩,
  ⟨some 19, .mov (.tmp 18), none⟩,
  ⟨some 20, .mov (.tmp 1), some (19, false)⟩,
  ⟨some 21, .mov (.tmp 0), some (19, false)⟩,
  ⟨some 22, .arith .eql (.tmp 20) (.tmp 21), some (19, false)⟩,
  ⟨some 23, .pick (.tmp 19) (.cst (.bool true)) (.tmp 22), none⟩,
  ⟨some 16, .mov (.tmp 23), none⟩]
@[simp] theorem stringslite_Index_r2_go (T : Tbl) (K : List Kt) (fr : Fr) (S : St) : gval T (.ops stringslite_Index_r2 :: K) fr S = gval T (.ops [
  ⟨some 17, .mov (.tmp 5), none⟩,
  ⟨some 18, .arith .eql (.tmp 17) (.cst (.int .i64 0)), none⟩,
  ⟨some 19, .mov (.tmp 18), none⟩,
  ⟨some 20, .mov (.tmp 1), some (19, false)⟩,
  ⟨some 21, .mov (.tmp 0), some (19, false)⟩,
  ⟨some 22, .arith .eql (.tmp 20) (.tmp 21), some (19, false)⟩,
  ⟨some 23, .pick (.tmp 19) (.cst (.bool true)) (.tmp 22), none⟩,
  ⟨some 16, .mov (.tmp 23), none⟩] :: K) fr S := rfl
def stringslite_Index_r3 : List POper := [
  ⟨some 4, .mov (.cst (.int .i64 0)), none⟩]
@[simp] theorem stringslite_Index_r3_go (T : Tbl) (K : List Kt) (fr : Fr) (S : St) : gval T (.ops stringslite_Index_r3 :: K) fr S = gval T (.ops [
  ⟨some 4, .mov (.cst (.int .i64 0)), none⟩] :: K) fr S := rfl
def stringslite_Index_r4 : List POper := [
  ⟨some 25, .mov (.tmp 5), none⟩,
  ⟨some 26, .arith .eql (.tmp 25) (.cst (.int .i64 1)), none⟩,
  ⟨some 24, .mov (.tmp 26), none⟩]
@[simp] theorem stringslite_Index_r4_go (T : Tbl) (K : List Kt) (fr : Fr) (S : St) : gval T (.ops stringslite_Index_r4 :: K) fr S = gval T (.ops [
  ⟨some 25, .mov (.tmp 5), none⟩,
  ⟨some 26, .arith .eql (.tmp 25) (.cst (.int .i64 1)), none⟩,
  ⟨some 24, .mov (.tmp 26), none⟩] :: K) fr S := rfl
def stringslite_Index_r5 : List POper := [
  ⟨some 27, .mov (.tmp 0), none⟩,
  ⟨some 28, .mov (.tmp 1), none⟩,
  ⟨some 29, .idxs (.tmp 28) (.cst (.int .i64 0)), none⟩,
  ⟨some 30, .call .pur 299 [(.tmp 27), (.tmp 29)], none⟩,
  ⟨some 4, .mov (.tmp 30), none⟩]
@[simp] theorem stringslite_Index_r5_go (T : Tbl) (K : List Kt) (fr : Fr) (S : St) : gval T (.ops stringslite_Index_r5 :: K) fr S = gval T (.ops [
  ⟨some 27, .mov (.tmp 0), none⟩,
  ⟨some 28, .mov (.tmp 1), none⟩,
  ⟨some 29, .idxs (.tmp 28) (.cst (.int .i64 0)), none⟩,
  ⟨some 30, .call .pur 299 [(.tmp 27), (.tmp 29)], none⟩,
  ⟨some 4, .mov (.tmp 30), none⟩] :: K) fr S := rfl
def stringslite_Index_r6 : List POper := [
  ⟨some 32, .mov (.tmp 5), none⟩,
  ⟨some 33, .mov (.tmp 0), none⟩,
  ⟨some 34, .len true (.tmp 33), none⟩,
  ⟨some 35, .arith .geq (.tmp 32) (.tmp 34), none⟩,
  ⟨some 31, .mov (.tmp 35), none⟩]
@[simp] theorem stringslite_Index_r6_go (T : Tbl) (K : List Kt) (fr : Fr) (S : St) : gval T (.ops stringslite_Index_r6 :: K) fr S = gval T (.ops [
  ⟨some 32, .mov (.tmp 5), none⟩,
  ⟨some 33, .mov (.tmp 0), none⟩,
  ⟨some 34, .len true (.tmp 33), none⟩,
  ⟨some 35, .arith .geq (.tmp 32) (.tmp 34), none⟩,
  ⟨some 31, .mov (.tmp 35), none⟩] :: K) fr S := rfl
def stringslite_Index_r7 : List POper := [
  ⟨some 4, .mov (.cst (.int .i64 (-1))), none⟩]
@[simp] theorem stringslite_Index_r7_go (T : Tbl) (K : List Kt) (fr : Fr) (S : St) : gval T (.ops stringslite_Index_r7 :: K) fr S = gval T (.ops [
  ⟨some 4, .mov (.cst (.int .i64 (-1))), none⟩] :: K) fr S := rfl
def stringslite_Index_r9 : List POper := [
  ⟨some 45, .mov (.tmp 0), none⟩,
  ⟨some 46, .mov (.tmp 1), none⟩,
  ⟨some 47, .call .pur 348 [(.tmp 45), (.tmp 46)], none⟩,
  ⟨some 4, .mov (.tmp 47), none⟩]
@[simp] theorem stringslite_Index_r9_go (T : Tbl) (K : List Kt) (fr : Fr) (S : St) : gval T (.ops stringslite_Index_r9 :: K) fr S = gval T (.ops [
  ⟨some 45, .mov (.tmp 0), none⟩,
  ⟨some 46, .mov (.tmp 1), none⟩,
  ⟨some 47, .call .pur 348 [(.tmp 45), (.tmp 46)], none⟩,
  ⟨some 4, .mov (.tmp 47), none⟩] :: K) fr S := rfl
def stringslite_Index_r10 : List POper := [
  ⟨some 48, .mov (.tmp 1), none⟩,
  ⟨some 49, .idxs (.tmp 48) (.cst (.int .i64 0)), none⟩,
  ⟨some 6, .mov (.tmp 49), none⟩]
@[simp] theorem stringslite_Index_r10_go (T : Tbl) (K : List Kt) (fr : Fr) (S : St) : gval T (.ops stringslite_Index_r10 :: K) fr S = gval T (.ops [
  ⟨some 48, .mov (.tmp 1), none⟩,
  ⟨some 49, .idxs (.tmp 48) (.cst (.int .i64 0)), none⟩,
  ⟨some 6, .mov (.tmp 49), none⟩] :: K) fr S := rfl
def stringslite_Index_r11 : List POper := [
  ⟨some 50, .mov (.tmp 1), none⟩,
  ⟨some 51, .idxs (.tmp 50) (.cst (.int .i64 1)), none⟩,
  ⟨some 7, .mov (.tmp 51), none⟩]
@[simp] theorem stringslite_Index_r11_go (T : Tbl) (K : List Kt) (fr : Fr) (S : St) : gval T (.ops stringslite_Index_r11 :: K) fr S = gval T (.ops [
  ⟨some 50, .mov (.tmp 1), none⟩,
  ⟨some 51, .idxs (.tmp 50) (.cst (.int .i64 1)), none⟩,
  ⟨some 7, .mov (.tmp 51), none⟩] :: K) fr S := rfl
def stringslite_Index_r12 : List POper := [
  ⟨some 8, .mov (.cst (.int .i64 0)), none⟩]
@[simp] theorem stringslite_Index_r12_go (T : Tbl) (K : List Kt) (fr : Fr) (S : St) : gval T (.ops stringslite_Index_r12 :: K) fr S = gval T (.ops [
  ⟨some 8, .mov (.cst (.int .i64 0)), none⟩] :: K) fr S := rfl
def stringslite_Index_r13 : List POper := [
  ⟨some 52, .mov (.tmp 0), none⟩,
  ⟨some 53, .len true (.tmp 52), none⟩,
  ⟨some 54, .mov (.tmp 5), none⟩,
  ⟨some 55, .arith .sub (.tmp 53) (.tmp 54), none⟩,
  ⟨some 56, .arith .add (.tmp 55) (.cst (.int .i64 1)), none⟩,
  ⟨some 9, .mov (.tmp 56), none⟩]
@[simp] theorem stringslite_Index_r13_go (T : Tbl) (K : List Kt) (fr : Fr) (S : St) : gval T (.ops stringslite_Index_r13 :: K) fr S = gval T (.ops [
  ⟨some 52, .mov (.tmp 0), none⟩,
  ⟨some 53, .len true (.tmp 52), none⟩,
  ⟨some 54, .mov (.tmp 5), none⟩,
  ⟨some 55, .arith .sub (.tmp 53) (.tmp 54), none⟩,
  ⟨some 56, .arith .add (.tmp 55) (.cst (.int .i64 1)), none⟩,
  ⟨some 9, .mov (.tmp 56), none⟩] :: K) fr S := rfl
def stringslite_Index_r14 : List POper := [
  ⟨some 10, .mov (.cst (.int .i64 0)), none⟩]
@[simp] theorem stringslite_Index_r14_go (T : Tbl) (K : List Kt) (fr : Fr) (S : St) : gval T (.ops stringslite_Index_r14 :: K) fr S = gval T (.ops [
  ⟨some 10, .mov (.cst (.int .i64 0)), none⟩] :: K) fr S := rfl
def stringslite_Index_r15 : List POper := [
  ⟨some 57, .mov (.tmp 8), none⟩,
  ⟨some 58, .mov (.tmp 9), none⟩,
  ⟨some 59, .arith .lss (.tmp 57) (.tmp 58), none⟩]
@[simp] theorem stringslite_Index_r15_go (T : Tbl) (K : List Kt) (fr : Fr) (S : St) : gval T (.ops stringslite_Index_r15 :: K) fr S = gval T (.ops [
  ⟨some 57, .mov (.tmp 8), none⟩,
  ⟨some 58, .mov (.tmp 9), none⟩,
  ⟨some 59, .arith .lss (.tmp 57) (.tmp 58), none⟩] :: K) fr S := rfl
def stringslite_Index_r16 : List POper := [
  ⟨some 60, .mov (.tmp 0), none⟩,
  ⟨some 61, .mov (.tmp 8), none⟩,
  ⟨some 62, .idxs (.tmp 60) (.tmp 61), none⟩,
  ⟨some 63, .mov (.tmp 6), none⟩,
  ⟨some 64, .arith .neq (.tmp 62) (.tmp 63), none⟩]
@[simp] theorem stringslite_Index_r16_go (T : Tbl) (K : List Kt) (fr : Fr) (S : St) : gval T (.ops stringslite_Index_r16 :: K) fr S = gval T (.ops [
  ⟨some 60, .mov (.tmp 0), none⟩,
  ⟨some 61, .mov (.tmp 8), none⟩,
  ⟨some 62, .idxs (.tmp 60) (.tmp 61), none⟩,
  ⟨some 63, .mov (.tmp 6), none⟩,
  ⟨some 64, .arith .neq (.tmp 62) (.tmp 63), none⟩] :: K) fr S := rfl
def stringslite_Index_r17 : List POper := [
  ⟨some 65, .mov (.tmp 0), none⟩,
  ⟨some 66, .mov (.tmp 8), none⟩,
  ⟨some 67, .arith .add (.tmp 66) (.cst (.int .i64 1)), none⟩,
  ⟨some 68, .mov (.tmp 9), none⟩,
  ⟨some 69, .slcs (some (.tmp 67)) (some (.tmp 68)) (.tmp 65), none⟩,
  ⟨some 70, .mov (.tmp 6), none⟩,
  ⟨some 71, .call .pur 299 [(.tmp 69), (.tmp 70)], none⟩,
  ⟨some 11, .mov (.tmp 71), none⟩]
@[simp] theorem stringslite_Index_r17_go (T : Tbl) (K : List Kt) (fr : Fr) (S : St) : gval T (.ops stringslite_Index_r17 :: K) fr S = gval T (.ops [
  ⟨some 65, .mov (.tmp 0), none⟩,
  ⟨some 66, .mov (.tmp 8), none⟩,
  ⟨some 67, .arith .add (.tmp 66) (.cst (.int .i64 1)), none⟩,
  ⟨some 68, .mov (.tmp 9), none⟩,
  ⟨some 69, .slcs (some (.tmp 67)) (some (.tmp 68)) (.tmp 65), none⟩,
  ⟨some 70, .mov (.tmp 6), none⟩,
  ⟨some 71, .call .pur 299 [(.tmp 69), (.tmp 70)], none⟩,
  ⟨some 11, .mov (.tmp 71), none⟩] :: K) fr S := rfl
def stringslite_Index_r18 : List POper := [
  ⟨some 72, .mov (.tmp 11), none⟩,
  ⟨some 73, .arith .lss (.tmp 72) (.cst (.int .i64 0)), none⟩]
@[simp] theorem stringslite_Index_r18_go (T : Tbl) (K : List Kt) (fr : Fr) (S : St) : gval T (.ops stringslite_Index_r18 :: K) fr S = gval T (.ops [
  ⟨some 72, .mov (.tmp 11), none⟩,
  ⟨some 73, .arith .lss (.tmp 72) (.cst (.int .i64 0)), none⟩] :: K) fr S := rfl
def stringslite_Index_r19 : List POper := [
  ⟨some 4, .mov (.cst (.int .i64 (-1))), none⟩]
@[simp] theorem stringslite_Index_r19_go (T : Tbl) (K : List Kt) (fr : Fr) (S : St) : gval T (.ops stringslite_Index_r19 :: K) fr S = gval T (.ops [
  ⟨some 4, .mov (.cst (.int .i64 (-1))), none⟩] :: K) fr S := rfl
def stringslite_Index_r20 : List POper := [
  ⟨some 74, .mov (.tmp 8), none⟩,
  ⟨some 75, .mov (.tmp 11), none⟩,
  ⟨some 76, .arith .add (.tmp 75) (.cst (.int .i64 1)), none⟩,
  ⟨some 77, .arith .add (.tmp 74) (.tmp 76), none⟩,
  ⟨some 8, .mov (.tmp 77), none⟩]
@[simp] theorem stringslite_Index_r20_go (T : Tbl) (K : List Kt) (fr : Fr) (S : St) : gval T (.ops stringslite_Index_r20 :: K) fr S = gval T (.ops [
  ⟨some 74, .mov (.tmp 8), none⟩,
  ⟨some 75, .mov (.tmp 11), none⟩,
  ⟨some 76, .arith .add (.tmp 75) (.cst (.int .i64 1)), none⟩,
  ⟨some 77, .arith .add (.tmp 74) (.tmp 76), none⟩,
  ⟨some 8, .mov (.tmp 77), none⟩] :: K) fr S := rfl
def stringslite_Index_r21 : List POper := [
  ⟨some 78, .mov (.tmp 0), none⟩,
  ⟨some 79, .mov (.tmp 8), none⟩,
  ⟨some 80, .arith .add (.tmp 79) (.cst (.int .i64 1)), none⟩,
  ⟨some 81, .idxs (.tmp 78) (.tmp 80), none⟩,
  ⟨some 82, .mov (.tmp 7), none⟩,
  ⟨some 83, .arith .eql (.tmp 81) (.tmp 82), none⟩,
  ⟨some 84, .mov (.tmp 83), none⟩,
  ⟨some 85, .mov (.tmp 0), some (84, true)⟩,
  ⟨some 86, .mov (.tmp 8), some (84, true)⟩,
  ⟨some 87, .mov (.tmp 8), some (84, true)⟩,
  ⟨some 88, .mov (.tmp 5), some (84, true)⟩,
  ⟨some 89, .arith .add (.tmp 87) (.tmp 88), some (84, true)⟩,
  ⟨some 90, .slcs (some (.tmp 86)) (some (.tmp 89)) (.tmp 85), some (84, true)⟩,
  ⟨some 91, .mov (.tmp 1), some (84, true)⟩,
  ⟨some 92, .arith .eql (.tmp 90) (.tmp 91), some (84, true)⟩,
  ⟨some 93, .pick (.tmp 84) (.tmp 92) (.cst (.bool false)), none⟩]
@[simp] theorem stringslite_Index_r21_go (T : Tbl) (K : List Kt) (fr : Fr) (S : St) : gval T (.ops stringslite_Index_r21 :: K) fr S = gval T (.ops [
  ⟨some 78, .mov (.tmp 0), none⟩,
  ⟨some 79, .mov (.tmp 8), none⟩,
  ⟨some 80, .arith .add (.tmp 79) (.cst (.int .i64 1)), none⟩,
  ⟨some 81, .idxs (.tmp 78) (.tmp 80), none⟩,
  ⟨some 82, .mov (.tmp 7), none⟩,
  ⟨some 83, .arith .eql (.tmp 81) (.tmp 82), none⟩,
  ⟨some 84, .mov (.tmp 83), none⟩,
  ⟨some 85, .mov (.tmp 0), some (84, true)⟩,
  ⟨some 86, .mov (.tmp 8), some (84, true)⟩,
  ⟨some 87, .mov (.tmp 8), some (84, true)⟩,
  ⟨some 88, .mov (.tmp 5), some (84, true)⟩,
  ⟨some 89, .arith .add (.tmp 87) (.tmp 88), some (84, true)⟩,
  ⟨some 90, .slcs (some (.tmp 86)) (some (.tmp 89)) (.tmp 85), some (84, true)⟩,
  ⟨some 91, .mov (.tmp 1), some (84, true)⟩,
  ⟨some 92, .arith .eql (.tmp 90) (.tmp 91), some (84, true)⟩,
  ⟨some 93, .pick (.tmp 84) (.tmp 92) (.cst (.bool false)), none⟩] :: K) fr S := rfl
def stringslite_Index_r22 : List POper := [
  ⟨some 94, .mov (.tmp 8), none⟩,
  ⟨some 4, .mov (.tmp 94), none⟩]
@[simp] theorem stringslite_Index_r22_go (T : Tbl) (K : List Kt) (fr : Fr) (S : St) : gval T (.ops stringslite_Index_r22 :: K) fr S = gval T (.ops [
  ⟨some 94, .mov (.tmp 8), none⟩,
  ⟨some 4, .mov (.tmp 94), none⟩] :: K) fr S := rfl
def stringslite_Index_r23 : List POper := [
  ⟨some 95, .mov (.tmp 8), none⟩,
  ⟨some 96, .arith .add (.tmp 95) (.cst (.int .i64 1)), none⟩,
  ⟨some 8, .mov (.tmp 96), none⟩]
@[simp] theorem stringslite_Index_r23_go (T : Tbl) (K : List Kt) (fr : Fr) (S : St) : gval T (.ops stringslite_Index_r23 :: K) fr S = gval T (.ops [
  ⟨some 95, .mov (.tmp 8), none⟩,
  ⟨some 96, .arith .add (.tmp 95) (.cst (.int .i64 1)), none⟩,
  ⟨some 8, .mov (.tmp 96), none⟩] :: K) fr S := rfl
def stringslite_Index_r24 : List POper := [
  ⟨some 97, .mov (.tmp 10), none⟩,
  ⟨some 98, .arith .add (.tmp 97) (.cst (.int .i64 1)), none⟩,
  ⟨some 10, .mov (.tmp 98), none⟩]
@[simp] theorem stringslite_Index_r24_go (T : Tbl) (K : List Kt) (fr : Fr) (S : St) : gval T (.ops stringslite_Index_r24 :: K) fr S = gval T (.ops [
  ⟨some 97, .mov (.tmp 10), none⟩,
  ⟨some 98, .arith .add (.tmp 97) (.cst (.int .i64 1)), none⟩,
  ⟨some 10, .mov (.tmp 98), none⟩] :: K) fr S := rfl
def stringslite_Index_r26 : List POper := [
  ⟨some 108, .mov (.tmp 0), none⟩,
  ⟨some 109, .mov (.tmp 8), none⟩,
  ⟨some 110, .slcs (some (.tmp 109)) none (.tmp 108), none⟩,
  ⟨some 111, .mov (.tmp 1), none⟩,
  ⟨some 112, .call .pur 348 [(.tmp 110), (.tmp 111)], none⟩,
  ⟨some 12, .mov (.tmp 112), none⟩]
@[simp] theorem stringslite_Index_r26_go (T : Tbl) (K : List Kt) (fr : Fr) (S : St) : gval T (.ops stringslite_Index_r26 :: K) fr S = gval T (.ops [
  ⟨some 108, .mov (.tmp 0), none⟩,
  ⟨some 109, .mov (.tmp 8), none⟩,
  ⟨some 110, .slcs (some (.tmp 109)) none (.tmp 108), none⟩,
  ⟨some 111, .mov (.tmp 1), none⟩,
  ⟨some 112, .call .pur 348 [(.tmp 110), (.tmp 111)], none⟩,
  ⟨some 12, .mov (.tmp 112), none⟩] :: K) fr S := rfl
def stringslite_Index_r27 : List POper := [
  ⟨some 113, .mov (.tmp 12), none⟩,
  ⟨some 114, .arith .geq (.tmp 113) (.cst (.int .i64 0)), none⟩]
@[simp] theorem stringslite_Index_r27_go (T : Tbl) (K : List Kt) (fr : Fr) (S : St) : gval T (.ops stringslite_Index_r27 :: K) fr S = gval T (.ops [
  ⟨some 113, .mov (.tmp 12), none⟩,
  ⟨some 114, .arith .geq (.tmp 113) (.cst (.int .i64 0)), none⟩] :: K) fr S := rfl
def stringslite_Index_r28 : List POper := [
  ⟨some 115, .mov (.tmp 12), none⟩,
  ⟨some 116, .mov (.tmp 8), none⟩,
  ⟨some 117, .arith .add (.tmp 115) (.tmp 116), none⟩,
  ⟨some 4, .mov (.tmp 117), none⟩]
@[simp] theorem stringslite_Index_r28_go (T : Tbl) (K : List Kt) (fr : Fr) (S : St) : gval T (.ops stringslite_Index_r28 :: K) fr S = gval T (.ops [
  ⟨some 115, .mov (.tmp 12), none⟩,
  ⟨some 116, .mov (.tmp 8), none⟩,
  ⟨some 117, .arith .add (.tmp 115) (.tmp 116), none⟩,
  ⟨some 4, .mov (.tmp 117), none⟩] :: K) fr S := rfl
def stringslite_Index_r29 : List POper := [
  ⟨some 4, .mov (.cst (.int .i64 (-1))), none⟩]
@[simp] theorem stringslite_Index_r29_go (T : Tbl) (K : List Kt) (fr : Fr) (S : St) : gval T (.ops stringslite_Index_r29 :: K) fr S = gval T (.ops [
  ⟨some 4, .mov (.cst (.int .i64 (-1))), none⟩] :: K) fr S := rfl
def stringslite_Index_r31 : List POper := [
  ⟨some 133, .mov (.tmp 0), none⟩,
  ⟨some 134, .mov (.tmp 8), none⟩,
  ⟨some 135, .slcs (some (.tmp 134)) none (.tmp 133), none⟩,
  ⟨some 136, .mov (.tmp 1), none⟩,
  ⟨some 137, .call .pur 350 [(.tmp 135), (.tmp 136)], none⟩,
  ⟨some 13, .mov (.tmp 137), none⟩]
@[simp] theorem stringslite_Index_r31_go (T : Tbl) (K : List Kt) (fr : Fr) (S : St) : gval T (.ops stringslite_Index_r31 :: K) fr S = gval T (.ops [
  ⟨some 133, .mov (.tmp 0), none⟩,
  ⟨some 134, .mov (.tmp 8), none⟩,
  ⟨some 135, .slcs (some (.tmp 134)) none (.tmp 133), none⟩,
  ⟨some 136, .mov (.tmp 1), none⟩,
  ⟨some 137, .call .pur 350 [(.tmp 135), (.tmp 136)], none⟩,
  ⟨some 13, .mov (.tmp 137), none⟩] :: K) fr S := rfl
def stringslite_Index_r32 : List POper := [
  ⟨some 138, .mov (.tmp 13), none⟩,
  ⟨some 139, .arith .lss (.tmp 138) (.cst (.int .i64 0)), none⟩]
@[simp] theorem stringslite_Index_r32_go (T : Tbl) (K : List Kt) (fr : Fr) (S : St) : gval T (.ops stringslite_Index_r32 :: K) fr S = gval T (.ops [
  ⟨some 138, .mov (.tmp 13), none⟩,
  ⟨some 139, .arith .lss (.tmp 138) (.cst (.int .i64 0)), none⟩] :: K) fr S := rfl
def stringslite_Index_r33 : List POper := [
  ⟨some 4, .mov (.cst (.int .i64 (-1))), none⟩]
@[simp] theorem stringslite_Index_r33_go (T : Tbl) (K : List Kt) (fr : Fr) (S : St) : gval T (.ops stringslite_Index_r33 :: K) fr S = gval T (.ops [
  ⟨some 4, .mov (.cst (.int .i64 (-1))), none⟩] :: K) fr S := rfl
def stringslite_Index_r34 : List POper := [
  ⟨some 140, .mov (.tmp 8), none⟩,
  ⟨some 141, .mov (.tmp 13), none⟩,
  ⟨some 142, .arith .add (.tmp 140) (.tmp 141), none⟩,
  ⟨some 4, .mov (.tmp 142), none⟩]
@[simp] theorem stringslite_Index_r34_go (T : Tbl) (K : List Kt) (fr : Fr) (S : St) : gval T (.ops stringslite_Index_r34 :: K) fr S = gval T (.ops [
  ⟨some 140, .mov (.tmp 8), none⟩,
  ⟨some 141, .mov (.tmp 13), none⟩,
  ⟨some 142, .arith .add (.tmp 140) (.tmp 141), none⟩,
  ⟨some 4, .mov (.tmp 142), none⟩] :: K) fr S := rfl
def stringslite_Index_l0 : PCode :=
  (.seq (.seq (.clr [(57, 59)] (.region stringslite_Index_r15)) (.cond (.tmp 59) .skip (.exit 1))) (.block 2 (.seq (.seq (.clr [(60, 64)] (.region stringslite_Index_r16)) (.cond (.tmp 64) (.seq (.clr [(65, 72)] (.region stringslite_Index_r17)) (.seq (.seq (.clr [(72, 73)] (.region stringslite_Index_r18)) (.cond (.tmp 73) (.seq (.region stringslite_Index_r19) .ret) .skip)) (.clr [(74, 78)] (.region stringslite_Index_r20)))) .skip)) (.seq (.seq (.clr [(78, 93)] (.region stringslite_Index_r21)) (.cond (.tmp 93) (.seq (.clr [(94, 95)] (.region stringslite_Index_r22)) .ret) .skip)) (.seq (.clr [(95, 97)] (.region stringslite_Index_r23)) (.seq (.clr [(97, 99)] (.region stringslite_Index_r24)) (.seq .bad (.cond (.tmp 107) (.seq (.clr [(108, 113)] (.region stringslite_Index_r26)) (.seq (.seq (.clr [(113, 114)] (.region stringslite_Index_r27)) (.cond (.tmp 114) (.seq (.clr [(115, 118)] (.region stringslite_Index_r28)) .ret) .skip)) (.seq (.region stringslite_Index_r29) .ret))) (.seq .bad (.cond (.tmp 132) (.seq (.clr [(133, 138)] (.region stringslite_Index_r31)) (.seq (.seq (.clr [(138, 139)] (.region stringslite_Index_r32)) (.cond (.tmp 139) (.seq (.region stringslite_Index_r33) .ret) .skip)) (.seq (.clr [(140, 143)] (.region stringslite_Index_r34)) .ret))) .skip))))))))))
@[simp] theorem stringslite_Index_l0_go (T : Tbl) (K : List Kt) (fr : Fr) (S : St) : gval T (.code stringslite_Index_l0 :: K) fr S = gval T (.code (.seq (.seq (.clr [(57, 59)] (.region stringslite_Index_r15)) (.cond (.tmp 59) .skip (.exit 1))) (.block 2 (.seq (.seq (.clr [(60, 64)] (.region stringslite_Index_r16)) (.cond (.tmp 64) (.seq (.clr [(65, 72)] (.region stringslite_Index_r17)) (.seq (.seq (.clr [(72, 73)] (.region stringslite_Index_r18)) (.cond (.tmp 73) (.seq (.region stringslite_Index_r19) .ret) .skip)) (.clr [(74, 78)] (.region stringslite_Index_r20)))) .skip)) (.seq (.seq (.clr [(78, 93)] (.region stringslite_Index_r21)) (.cond (.tmp 93) (.seq (.clr [(94, 95)] (.region stringslite_Index_r22)) .ret) .skip)) (.seq (.clr [(95, 97)] (.region stringslite_Index_r23)) (.seq (.clr [(97, 99)] (.region stringslite_Index_r24)) (.seq .bad (.cond (.tmp 107) (.seq (.clr [(108, 113)] (.region stringslite_Index_r26)) (.seq (.seq (.clr [(113, 114)] (.region stringslite_Index_r27)) (.cond (.tmp 114) (.seq (.clr [(115, 118)] (.region stringslite_Index_r28)) .ret) .skip)) (.seq (.region stringslite_Index_r29) .ret))) (.seq .bad (.cond (.tmp 132) (.seq (.clr [(133, 138)] (.region stringslite_Index_r31)) (.seq (.seq (.clr [(138, 139)] (.region stringslite_Index_r32)) (.cond (.tmp 139) (.seq (.region stringslite_Index_r33) .ret) .skip)) (.seq (.clr [(140, 143)] (.region stringslite_Index_r34)) .ret))) .skip)))))))))) :: K) fr S := rfl
def stringslite_Index_r35 : List POper := [
  ⟨some 4, .mov (.cst (.int .i64 (-1))), none⟩]
@[simp] theorem stringslite_Index_r35_go (T : Tbl) (K : List Kt) (fr : Fr) (S : St) : gval T (.ops stringslite_Index_r35 :: K) fr S = gval T (.ops [
  ⟨some 4, .mov (.cst (.int .i64 (-1))), none⟩] :: K) fr S := rfl
def stringslite_Index : PCodeFn :=
  ⟨2, [.tmp 4],
  (.seq (.region stringslite_Index_r0) (.seq (.clr [(14, 16)] (.region stringslite_Index_r1)) (.seq (.block 0 (.seq (.clr [(17, 24)] (.region stringslite_Index_r2)) (.cond (.tmp 16) (.seq (.region stringslite_Index_r3) .ret) (.seq (.clr [(25, 27)] (.region stringslite_Index_r4)) (.cond (.tmp 24) (.seq (.clr [(27, 31)] (.region stringslite_Index_r5)) .ret) (.seq (.clr [(32, 36)] (.region stringslite_Index_r6)) (.cond (.tmp 31) (.seq (.region stringslite_Index_r7) .ret) (.seq .bad (.cond (.tmp 36) (.seq (.clr [(45, 48)] (.region stringslite_Index_r9)) .ret) .skip))))))))) (.seq (.clr [(48, 50)] (.region stringslite_Index_r10)) (.seq (.clr [(50, 52)] (.region stringslite_Index_r11)) (.seq (.region stringslite_Index_r12) (.seq (.clr [(52, 57)] (.region stringslite_Index_r13)) (.seq (.region stringslite_Index_r14) (.seq (.block 1 (.loop stringslite_Index_l0)) (.seq (.region stringslite_Index_r35) .ret)))))))))), false⟩

/-! internal/stringslite.IndexByte: 299 -/
def stringslite_IndexByte_r0 : List POper := [
  ⟨some 4, .mov (.cst (.int .i64 0)), none⟩]
@[simp] theorem stringslite_IndexByte_r0_go (T : Tbl) (K : List Kt) (fr : Fr) (S : St) : gval T (.ops stringslite_IndexByte_r0 :: K) fr S = gval T (.ops [
  ⟨some 4, .mov (.cst (.int .i64 0)), none⟩] :: K) fr S := rfl
def stringslite_IndexByte_r1 : List POper := [
  ⟨some 5, .mov (.tmp 0), none⟩,
  ⟨some 6, .mov (.tmp 1), none⟩,
  ⟨some 7, .call .pur 351 [(.tmp 5), (.tmp 6)], none⟩,
  ⟨some 4, .mov (.tmp 7), none⟩]
@[simp] theorem stringslite_IndexByte_r1_go (T : Tbl) (K : List Kt) (fr : Fr) (S : St) : gval T (.ops stringslite_IndexByte_r1 :: K) fr S = gval T (.ops [
  ⟨some 5, .mov (.tmp 0), none⟩,
  ⟨some 6, .mov (.tmp 1), none⟩,
  ⟨some 7, .call .pur 351 [(.tmp 5), (.tmp 6)], none⟩,
  ⟨some 4, .mov (.tmp 7), none⟩] :: K) fr S := rfl
def stringslite_IndexByte : PCodeFn :=
  ⟨2, [.tmp 4],
  (.seq (.region stringslite_IndexByte_r0) (.seq (.clr [(5, 8)] (.region stringslite_IndexByte_r1)) .ret)), false⟩

/-! (*strings.Builder).copyCheck: 300 -/
def strings_Builder_copyCheck_r0 : List POper := [
  ⟨some 2, .mov (.tmp 0), none⟩,
  ⟨some 3, .nilck (.tmp 2), none⟩,
  ⟨some 4, .faddr 0 (.tmp 3), none⟩,
  ⟨some 5, .load false 1 false (.tmp 4), none⟩,
  ⟨some 6, .eqn false .p (.tmp 5), none⟩]
@[simp] theorem strings_Builder_copyCheck_r0_go (T : Tbl) (K : List Kt) (fr : Fr) (S : St) : gval T (.ops strings_Builder_copyCheck_r0 :: K) fr S = gval T (.ops [
  ⟨some 2, .mov (.tmp 0), none⟩,
  ⟨some 3, .nilck (.tmp 2), none⟩,
  ⟨some 4, .faddr 0 (.tmp 3), none⟩,
  ⟨some 5, .load false 1 false (.tmp 4), none⟩,
  ⟨some 6, .eqn false .p (.tmp 5), none⟩] :: K) fr S := rfl
def strings_Builder_copyCheck : PCodeFn :=
  ⟨1, [],
  (.seq (.clr [(2, 6)] (.region strings_Builder_copyCheck_r0)) (.cond (.tmp 6) .bad (.seq .bad (.cond (.tmp 19) .bad .skip)))), false⟩

/-! (*strings.Builder).grow: 301 -/
def strings_Builder_grow_r2 : List POper := [
  ⟨some 26, .mov (.tmp 0), none⟩,
  ⟨some 27, .mov (.tmp 4), none⟩,
  ⟨some 28, .nilck (.tmp 26), none⟩,
  ⟨some 29, .faddr 1 (.tmp 28), none⟩,
  ⟨none, .store 1 (.tmp 29) (.tmp 27), none⟩]
@[simp] theorem strings_Builder_grow_r2_go (T : Tbl) (K : List Kt) (fr : Fr) (S : St) : gval T (.ops strings_Builder_grow_r2 :: K) fr S = gval T (.ops [
  ⟨some 26, .mov (.tmp 0), none⟩,
  ⟨some 27, .mov (.tmp 4), none⟩,
  ⟨some 28, .nilck (.tmp 26), none⟩,
  ⟨some 29, .faddr 1 (.tmp 28), none⟩,
  ⟨none, .store 1 (.tmp 29) (.tmp 27), none⟩] :: K) fr S := rfl
def strings_Builder_grow : PCodeFn :=
  ⟨2, [],
  (.seq .bad (.seq .bad (.clr [(26, 30)] (.region strings_Builder_grow_r2)))), false⟩

/-! internal/bytealg.Cutover: 349 -/
def bytealg_Cutover_r0 : List POper := [
  ⟨some 2, .mov (.cst (.int .i64 0)), none⟩]
@[simp] theorem bytealg_Cutover_r0_go (T : Tbl) (K : List Kt) (fr : Fr) (S : St) : gval T (.ops bytealg_Cutover_r0 :: K) fr S = gval T (.ops [
  ⟨some 2, .mov (.cst (.int .i64 0)), none⟩] :: K) fr S := rfl
def bytealg_Cutover_r1 : List POper := [
  ⟨some 3, .mov (.tmp 0), none⟩,
  ⟨some 4, .arith .add (.tmp 3) (.cst (.int .i64 16)), none⟩,
  ⟨some 5, .arith .quo (.tmp 4) (.cst (.int .i64 8)), none⟩,
  ⟨some 2, .mov (.tmp 5), none⟩]
@[simp] theorem bytealg_Cutover_r1_go (T : Tbl) (K : List Kt) (fr : Fr) (S : St) : gval T (.ops bytealg_Cutover_r1 :: K) fr S = gval T (.ops [
  ⟨some 3, .mov (.tmp 0), none⟩,
  ⟨some 4, .arith .add (.tmp 3) (.cst (.int .i64 16)), none⟩,
  ⟨some 5, .arith .quo (.tmp 4) (.cst (.int .i64 8)), none⟩,
  ⟨some 2, .mov (.tmp 5), none⟩] :: K) fr S := rfl
def bytealg_Cutover : PCodeFn :=
  ⟨1, [.tmp 2],
  (.seq (.region bytealg_Cutover_r0) (.seq (.clr [(3, 6)] (.region bytealg_Cutover_r1)) .ret)), false⟩

end Ps
