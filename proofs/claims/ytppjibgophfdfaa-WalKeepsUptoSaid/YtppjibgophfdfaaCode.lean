/- The functions' code, as the pure semantics has it: printed by program. -/
import Derived.Test.YtppjibgophfdfaaCodeC
namespace Ps
open Go
set_option maxRecDepth 10000
variable (T : Tbl) (K : List Kt) (fr : Fr) (S : St)

def z2_r0 : List POper := [⟨some 4, .mov (.cst (.int .i64 0)), none⟩]
@[simp] theorem z2_r0_go : gval T (.ops z2_r0 :: K) fr S = gval T (.ops [⟨some 4, .mov (.cst (.int .i64 0)), none⟩] :: K) fr S := rfl
def z2_r1 : List POper := [⟨some 6, .mov (.tmp 0), none⟩,⟨some 7, .len false (.tmp 6), none⟩,⟨some 8, .mov (.cst (.int .i64 0)), none⟩]
@[simp] theorem z2_r1_go : gval T (.ops z2_r1 :: K) fr S = gval T (.ops [⟨some 6, .mov (.tmp 0), none⟩,⟨some 7, .len false (.tmp 6), none⟩,⟨some 8, .mov (.cst (.int .i64 0)), none⟩] :: K) fr S := rfl
def z2_r2 : List POper := [⟨some 9, .arith .lss (.tmp 8) (.tmp 7), none⟩]
@[simp] theorem z2_r2_go : gval T (.ops z2_r2 :: K) fr S = gval T (.ops [⟨some 9, .arith .lss (.tmp 8) (.tmp 7), none⟩] :: K) fr S := rfl
def z2_r3 : List POper := [⟨some 10, .mov (.tmp 8), none⟩,⟨some 5, .mov (.tmp 10), none⟩]
@[simp] theorem z2_r3_go : gval T (.ops z2_r3 :: K) fr S = gval T (.ops [⟨some 10, .mov (.tmp 8), none⟩,⟨some 5, .mov (.tmp 10), none⟩] :: K) fr S := rfl
def z2_r4 : List POper := [⟨some 11, .mov (.tmp 1), none⟩,⟨some 12, .mov (.tmp 0), none⟩,⟨some 13, .mov (.tmp 5), none⟩,⟨some 14, .iaddr 1 (.tmp 12) (.tmp 13), none⟩,⟨some 15, .load false 1 false (.tmp 14), none⟩,⟨some 16, .arith .eql (.tmp 11) (.tmp 15), none⟩]
@[simp] theorem z2_r4_go : gval T (.ops z2_r4 :: K) fr S = gval T (.ops [⟨some 11, .mov (.tmp 1), none⟩,⟨some 12, .mov (.tmp 0), none⟩,⟨some 13, .mov (.tmp 5), none⟩,⟨some 14, .iaddr 1 (.tmp 12) (.tmp 13), none⟩,⟨some 15, .load false 1 false (.tmp 14), none⟩,⟨some 16, .arith .eql (.tmp 11) (.tmp 15), none⟩] :: K) fr S := rfl
def z2_r5 : List POper := [⟨some 17, .mov (.tmp 5), none⟩,⟨some 4, .mov (.tmp 17), none⟩]
@[simp] theorem z2_r5_go : gval T (.ops z2_r5 :: K) fr S = gval T (.ops [⟨some 17, .mov (.tmp 5), none⟩,⟨some 4, .mov (.tmp 17), none⟩] :: K) fr S := rfl
def z2_r6 : List POper := [⟨some 18, .arith .add (.tmp 8) (.cst (.int .i64 1)), none⟩,⟨some 8, .mov (.tmp 18), none⟩]
@[simp] theorem z2_r6_go : gval T (.ops z2_r6 :: K) fr S = gval T (.ops [⟨some 18, .arith .add (.tmp 8) (.cst (.int .i64 1)), none⟩,⟨some 8, .mov (.tmp 18), none⟩] :: K) fr S := rfl
def z2_l0 : PCode :=
  (.seq (.region z2_r2) (.seq (.cond (.tmp 9) .skip (.exit 0)) (.seq (.block 1 (.seq (.clr [(10, 11)] (.region z2_r3)) (.seq (.clr [(11, 16)] (.region z2_r4)) (.cond (.tmp 16) (.seq (.clr [(17, 18)] (.region z2_r5)) .ret) .skip)))) (.clr [(18, 19)] (.region z2_r6)))))
@[simp] theorem slices_Index_string_l0_go : gval T (.code z2_l0 :: K) fr S = gval T (.code (.seq (.region z2_r2) (.seq (.cond (.tmp 9) .skip (.exit 0)) (.seq (.block 1 (.seq (.clr [(10, 11)] (.region z2_r3)) (.seq (.clr [(11, 16)] (.region z2_r4)) (.cond (.tmp 16) (.seq (.clr [(17, 18)] (.region z2_r5)) .ret) .skip)))) (.clr [(18, 19)] (.region z2_r6))))) :: K) fr S := rfl
def z2_r7 : List POper := [⟨some 4, .mov (.cst (.int .i64 (-1))), none⟩]
@[simp] theorem z2_r7_go : gval T (.ops z2_r7 :: K) fr S = gval T (.ops [⟨some 4, .mov (.cst (.int .i64 (-1))), none⟩] :: K) fr S := rfl
def z2 : PCodeFn :=
  ⟨2, [.tmp 4],
  (.seq (.region z2_r0) (.seq (.seq (.clr [(6, 7)] (.region z2_r1)) (.block 0 (.loop z2_l0))) (.seq (.region z2_r7) .ret))), false⟩

def z36_r0 : List POper := [⟨some 2, .load false 1 false (.tmp 0), none⟩,⟨some 3, .arith .and (.tmp 2) (.cst (.int .u32 1)), none⟩,⟨some 1, .mov (.tmp 3), none⟩]
@[simp] theorem z36_r0_go : gval T (.ops z36_r0 :: K) fr S = gval T (.ops [⟨some 2, .load false 1 false (.tmp 0), none⟩,⟨some 3, .arith .and (.tmp 2) (.cst (.int .u32 1)), none⟩,⟨some 1, .mov (.tmp 3), none⟩] :: K) fr S := rfl
def z36_r1 : List POper := [⟨some 4, .load false 1 false (.tmp 0), none⟩,⟨some 5, .arith .shr (.tmp 4) (.cst (.int .u64 1)), none⟩,⟨some 6, .mov (.tmp 1), none⟩,⟨some 7, .un .neg (.tmp 6), none⟩,⟨some 8, .arith .and (.cst (.int .u32 2197175160)) (.tmp 7), none⟩,⟨some 9, .arith .xor (.tmp 5) (.tmp 8), none⟩,⟨none, .store 1 (.tmp 0) (.tmp 9), none⟩]
@[simp] theorem z36_r1_go : gval T (.ops z36_r1 :: K) fr S = gval T (.ops [⟨some 4, .load false 1 false (.tmp 0), none⟩,⟨some 5, .arith .shr (.tmp 4) (.cst (.int .u64 1)), none⟩,⟨some 6, .mov (.tmp 1), none⟩,⟨some 7, .un .neg (.tmp 6), none⟩,⟨some 8, .arith .and (.cst (.int .u32 2197175160)) (.tmp 7), none⟩,⟨some 9, .arith .xor (.tmp 5) (.tmp 8), none⟩,⟨none, .store 1 (.tmp 0) (.tmp 9), none⟩] :: K) fr S := rfl
def z36 : PCodeFn :=
  ⟨1, [],
  (.seq (.clr [(2, 4)] (.region z36_r0)) (.clr [(4, 10)] (.region z36_r1))), false⟩


end Ps
