/- The functions' code, as the pure semantics has it: printed by program. -/
import Derived.Test.YtfimbhaiegkkeaaCodeA
namespace Ps
open Go
set_option maxRecDepth 10000

/-! gauge/gaugeref06.Get: 35 -/
def ref06_Get_r0 : List POper := [
  ⟨some 4, .mov (.cst (.str [])), none⟩]
@[simp] theorem ref06_Get_r0_go (T : Tbl) (K : List Kt) (fr : Fr) (S : St) : gval T (.ops ref06_Get_r0 :: K) fr S = gval T (.ops [
  ⟨some 4, .mov (.cst (.str [])), none⟩] :: K) fr S := rfl
def ref06_Get_r1 : List POper := [
  ⟨some 5, .mov (.cst (.int .i64 0)), none⟩]
@[simp] theorem ref06_Get_r1_go (T : Tbl) (K : List Kt) (fr : Fr) (S : St) : gval T (.ops ref06_Get_r1 :: K) fr S = gval T (.ops [
  ⟨some 5, .mov (.cst (.int .i64 0)), none⟩] :: K) fr S := rfl
def ref06_Get_r2 : List POper := [
  ⟨some 6, .mov (.tmp 5), none⟩,
  ⟨some 7, .mov (.tmp 0), none⟩,
  ⟨some 8, .len false (.tmp 7), none⟩,
  ⟨some 9, .arith .lss (.tmp 6) (.tmp 8), none⟩]
@[simp] theorem ref06_Get_r2_go (T : Tbl) (K : List Kt) (fr : Fr) (S : St) : gval T (.ops ref06_Get_r2 :: K) fr S = gval T (.ops [
  ⟨some 6, .mov (.tmp 5), none⟩,
  ⟨some 7, .mov (.tmp 0), none⟩,
  ⟨some 8, .len false (.tmp 7), none⟩,
  ⟨some 9, .arith .lss (.tmp 6) (.tmp 8), none⟩] :: K) fr S := rfl
def ref06_Get_r4 : List POper := [
  ⟨some 12, .mov (.tmp 0), none⟩,
  ⟨some 13, .mov (.tmp 5), none⟩,
  ⟨some 14, .iaddr 2 (.tmp 12) (.tmp 13), none⟩,
  ⟨some 15, .faddr 0 (.tmp 14), none⟩,
  ⟨some 16, .load false 1 false (.tmp 15), none⟩,
  ⟨some 17, .mov (.tmp 1), none⟩,
  ⟨some 18, .arith .eql (.tmp 16) (.tmp 17), none⟩]
@[simp] theorem ref06_Get_r4_go (T : Tbl) (K : List Kt) (fr : Fr) (S : St) : gval T (.ops ref06_Get_r4 :: K) fr S = gval T (.ops [
  ⟨some 12, .mov (.tmp 0), none⟩,
  ⟨some 13, .mov (.tmp 5), none⟩,
  ⟨some 14, .iaddr 2 (.tmp 12) (.tmp 13), none⟩,
  ⟨some 15, .faddr 0 (.tmp 14), none⟩,
  ⟨some 16, .load false 1 false (.tmp 15), none⟩,
  ⟨some 17, .mov (.tmp 1), none⟩,
  ⟨some 18, .arith .eql (.tmp 16) (.tmp 17), none⟩] :: K) fr S := rfl
def ref06_Get_r5 : List POper := [
  ⟨some 19, .mov (.tmp 0), none⟩,
  ⟨some 20, .mov (.tmp 5), none⟩,
  ⟨some 21, .iaddr 2 (.tmp 19) (.tmp 20), none⟩,
  ⟨some 22, .faddr 1 (.tmp 21), none⟩,
  ⟨some 23, .load false 1 false (.tmp 22), none⟩,
  ⟨some 4, .mov (.tmp 23), none⟩]
@[simp] theorem ref06_Get_r5_go (T : Tbl) (K : List Kt) (fr : Fr) (S : St) : gval T (.ops ref06_Get_r5 :: K) fr S = gval T (.ops [
  ⟨some 19, .mov (.tmp 0), none⟩,
  ⟨some 20, .mov (.tmp 5), none⟩,
  ⟨some 21, .iaddr 2 (.tmp 19) (.tmp 20), none⟩,
  ⟨some 22, .faddr 1 (.tmp 21), none⟩,
  ⟨some 23, .load false 1 false (.tmp 22), none⟩,
  ⟨some 4, .mov (.tmp 23), none⟩] :: K) fr S := rfl
def ref06_Get_r3 : List POper := [
  ⟨some 10, .mov (.tmp 5), none⟩,
  ⟨some 11, .arith .add (.tmp 10) (.cst (.int .i64 1)), none⟩,
  ⟨some 5, .mov (.tmp 11), none⟩]
@[simp] theorem ref06_Get_r3_go (T : Tbl) (K : List Kt) (fr : Fr) (S : St) : gval T (.ops ref06_Get_r3 :: K) fr S = gval T (.ops [
  ⟨some 10, .mov (.tmp 5), none⟩,
  ⟨some 11, .arith .add (.tmp 10) (.cst (.int .i64 1)), none⟩,
  ⟨some 5, .mov (.tmp 11), none⟩] :: K) fr S := rfl
def ref06_Get_l0 : PCode :=
  (.seq (.seq (.clr [(6, 9)] (.region ref06_Get_r2)) (.cond (.tmp 9) .skip (.exit 0))) (.seq (.block 1 (.seq (.clr [(12, 18)] (.region ref06_Get_r4)) (.cond (.tmp 18) (.seq (.clr [(19, 24)] (.region ref06_Get_r5)) .ret) .skip))) (.clr [(10, 12)] (.region ref06_Get_r3))))
@[simp] theorem ref06_Get_l0_go (T : Tbl) (K : List Kt) (fr : Fr) (S : St) : gval T (.code ref06_Get_l0 :: K) fr S = gval T (.code (.seq (.seq (.clr [(6, 9)] (.region ref06_Get_r2)) (.cond (.tmp 9) .skip (.exit 0))) (.seq (.block 1 (.seq (.clr [(12, 18)] (.region ref06_Get_r4)) (.cond (.tmp 18) (.seq (.clr [(19, 24)] (.region ref06_Get_r5)) .ret) .skip))) (.clr [(10, 12)] (.region ref06_Get_r3)))) :: K) fr S := rfl
def ref06_Get_r6 : List POper := [
  ⟨some 4, .mov (.cst (.str [])), none⟩]
@[simp] theorem ref06_Get_r6_go (T : Tbl) (K : List Kt) (fr : Fr) (S : St) : gval T (.ops ref06_Get_r6 :: K) fr S = gval T (.ops [
  ⟨some 4, .mov (.cst (.str [])), none⟩] :: K) fr S := rfl
def ref06_Get : PCodeFn :=
  ⟨2, [.tmp 4],
  (.seq (.region ref06_Get_r0) (.seq (.seq (.region ref06_Get_r1) (.block 0 (.loop ref06_Get_l0))) (.seq (.region ref06_Get_r6) .ret))), false⟩

/-! gauge/gaugeref06.Pick: 37 -/
def ref06_Pick_r0 : List POper := [
  ⟨some 6, .mov (.cst .nils), none⟩]
@[simp] theorem ref06_Pick_r0_go (T : Tbl) (K : List Kt) (fr : Fr) (S : St) : gval T (.ops ref06_Pick_r0 :: K) fr S = gval T (.ops [
  ⟨some 6, .mov (.cst .nils), none⟩] :: K) fr S := rfl
def ref06_Pick_r1 : List POper := [
  ⟨some 7, .mov (.cst .nils), none⟩]
@[simp] theorem ref06_Pick_r1_go (T : Tbl) (K : List Kt) (fr : Fr) (S : St) : gval T (.ops ref06_Pick_r1 :: K) fr S = gval T (.ops [
  ⟨some 7, .mov (.cst .nils), none⟩] :: K) fr S := rfl
def ref06_Pick_r2 : List POper := [
  ⟨some 8, .mov (.cst (.int .i64 0)), none⟩]
@[simp] theorem ref06_Pick_r2_go (T : Tbl) (K : List Kt) (fr : Fr) (S : St) : gval T (.ops ref06_Pick_r2 :: K) fr S = gval T (.ops [
  ⟨some 8, .mov (.cst (.int .i64 0)), none⟩] :: K) fr S := rfl
def ref06_Pick_r3 : List POper := [
  ⟨some 9, .mov (.tmp 8), none⟩,
  ⟨some 10, .mov (.tmp 0), none⟩,
  ⟨some 11, .len false (.tmp 10), none⟩,
  ⟨some 12, .arith .lss (.tmp 9) (.tmp 11), none⟩]
@[simp] theorem ref06_Pick_r3_go (T : Tbl) (K : List Kt) (fr : Fr) (S : St) : gval T (.ops ref06_Pick_r3 :: K) fr S = gval T (.ops [
  ⟨some 9, .mov (.tmp 8), none⟩,
  ⟨some 10, .mov (.tmp 0), none⟩,
  ⟨some 11, .len false (.tmp 10), none⟩,
  ⟨some 12, .arith .lss (.tmp 9) (.tmp 11), none⟩] :: K) fr S := rfl
def ref06_Pick_r5 : List POper := [
  ⟨some 15, .mov (.tmp 1), none⟩,
  ⟨some 16, .mov (.tmp 0), none⟩,
  ⟨some 17, .mov (.tmp 8), none⟩,
  ⟨some 18, .iaddr 2 (.tmp 16) (.tmp 17), none⟩,
  ⟨some 19, .faddr 0 (.tmp 18), none⟩,
  ⟨some 20, .load false 1 false (.tmp 19), none⟩,
  ⟨some 21, .call .std 119 [(.tmp 15), (.tmp 20)], none⟩,
  ⟨some 22, .mov (.tmp 2), none⟩,
  ⟨some 23, .eqb false (.tmp 21) (.tmp 22), none⟩]
@[simp] theorem ref06_Pick_r5_go (T : Tbl) (K : List Kt) (fr : Fr) (S : St) : gval T (.ops ref06_Pick_r5 :: K) fr S = gval T (.ops [
  ⟨some 15, .mov (.tmp 1), none⟩,
  ⟨some 16, .mov (.tmp 0), none⟩,
  ⟨some 17, .mov (.tmp 8), none⟩,
  ⟨some 18, .iaddr 2 (.tmp 16) (.tmp 17), none⟩,
  ⟨some 19, .faddr 0 (.tmp 18), none⟩,
  ⟨some 20, .load false 1 false (.tmp 19), none⟩,
  ⟨some 21, .call .std 119 [(.tmp 15), (.tmp 20)], none⟩,
  ⟨some 22, .mov (.tmp 2), none⟩,
  ⟨some 23, .eqb false (.tmp 21) (.tmp 22), none⟩] :: K) fr S := rfl
def ref06_Pick_r6 : List POper := [
  ⟨some 24, .mov (.tmp 7), none⟩,
  ⟨some 25, .mov (.tmp 0), none⟩,
  ⟨some 26, .mov (.tmp 8), none⟩,
  ⟨some 27, .iaddr 2 (.tmp 25) (.tmp 26), none⟩,
  ⟨some 28, .load true 2 false (.tmp 27), none⟩,
  ⟨some 29, .bsl false (.agg [(.str []), (.str [])]) 1 [(0, (.tmp 28))], none⟩,
  ⟨some 30, .app 2 32 (.tmp 24) (.tmp 29), none⟩,
  ⟨some 7, .mov (.tmp 30), none⟩]
@[simp] theorem ref06_Pick_r6_go (T : Tbl) (K : List Kt) (fr : Fr) (S : St) : gval T (.ops ref06_Pick_r6 :: K) fr S = gval T (.ops [
  ⟨some 24, .mov (.tmp 7), none⟩,
  ⟨some 25, .mov (.tmp 0), none⟩,
  ⟨some 26, .mov (.tmp 8), none⟩,
  ⟨some 27, .iaddr 2 (.tmp 25) (.tmp 26), none⟩,
  ⟨some 28, .load true 2 false (.tmp 27), none⟩,
  ⟨some 29, .bsl false (.agg [(.str []), (.str [])]) 1 [(0, (.tmp 28))], none⟩,
  ⟨some 30, .app 2 32 (.tmp 24) (.tmp 29), none⟩,
  ⟨some 7, .mov (.tmp 30), none⟩] :: K) fr S := rfl
def ref06_Pick_r4 : List POper := [
  ⟨some 13, .mov (.tmp 8), none⟩,
  ⟨some 14, .arith .add (.tmp 13) (.cst (.int .i64 1)), none⟩,
  ⟨some 8, .mov (.tmp 14), none⟩]
@[simp] theorem ref06_Pick_r4_go (T : Tbl) (K : List Kt) (fr : Fr) (S : St) : gval T (.ops ref06_Pick_r4 :: K) fr S = gval T (.ops [
  ⟨some 13, .mov (.tmp 8), none⟩,
  ⟨some 14, .arith .add (.tmp 13) (.cst (.int .i64 1)), none⟩,
  ⟨some 8, .mov (.tmp 14), none⟩] :: K) fr S := rfl
def ref06_Pick_l0 : PCode :=
  (.seq (.seq (.clr [(9, 12)] (.region ref06_Pick_r3)) (.cond (.tmp 12) .skip (.exit 0))) (.seq (.block 1 (.seq (.clr [(15, 23)] (.region ref06_Pick_r5)) (.cond (.tmp 23) (.clr [(24, 31)] (.region ref06_Pick_r6)) .skip))) (.clr [(13, 15)] (.region ref06_Pick_r4))))
@[simp] theorem ref06_Pick_l0_go (T : Tbl) (K : List Kt) (fr : Fr) (S : St) : gval T (.code ref06_Pick_l0 :: K) fr S = gval T (.code (.seq (.seq (.clr [(9, 12)] (.region ref06_Pick_r3)) (.cond (.tmp 12) .skip (.exit 0))) (.seq (.block 1 (.seq (.clr [(15, 23)] (.region ref06_Pick_r5)) (.cond (.tmp 23) (.clr [(24, 31)] (.region ref06_Pick_r6)) .skip))) (.clr [(13, 15)] (.region ref06_Pick_r4)))) :: K) fr S := rfl
def ref06_Pick_r7 : List POper := [
  ⟨some 31, .mov (.tmp 7), none⟩,
  ⟨some 6, .mov (.tmp 31), none⟩]
@[simp] theorem ref06_Pick_r7_go (T : Tbl) (K : List Kt) (fr : Fr) (S : St) : gval T (.ops ref06_Pick_r7 :: K) fr S = gval T (.ops [
  ⟨some 31, .mov (.tmp 7), none⟩,
  ⟨some 6, .mov (.tmp 31), none⟩] :: K) fr S := rfl
def ref06_Pick : PCodeFn :=
  ⟨3, [.tmp 6],
  (.seq (.region ref06_Pick_r0) (.seq (.region ref06_Pick_r1) (.seq (.seq (.region ref06_Pick_r2) (.block 0 (.loop ref06_Pick_l0))) (.seq (.clr [(31, 32)] (.region ref06_Pick_r7)) .ret)))), false⟩

/-! gauge/gaugelaw06.kept: 39 -/
def law06_kept_r0 : List POper := [
  ⟨some 4, .mov (.cst (.bool false)), none⟩]
@[simp] theorem law06_kept_r0_go (T : Tbl) (K : List Kt) (fr : Fr) (S : St) : gval T (.ops law06_kept_r0 :: K) fr S = gval T (.ops [
  ⟨some 4, .mov (.cst (.bool false)), none⟩] :: K) fr S := rfl
def law06_kept_r1 : List POper := [
  ⟨some 5, .mov (.tmp 0), none⟩,
  ⟨some 6, .mov (.tmp 1), none⟩,
  ⟨some 7, .call .std 26 [(.tmp 5), (.tmp 6)], none⟩,
  ⟨some 8, .mov (.tmp 7), none⟩,
  ⟨some 9, .mov (.tmp 0), some (8, true)⟩,
  ⟨some 10, .mov (.tmp 1), some (8, true)⟩,
  ⟨some 11, .len false (.tmp 10), some (8, true)⟩,
  ⟨some 12, .arith .add (.tmp 11) (.cst (.int .i64 1)), some (8, true)⟩,
  ⟨some 13, .slc 2 none (some (.tmp 12)) (.tmp 9), some (8, true)⟩,
  ⟨some 14, .mov (.tmp 1), some (8, true)⟩,
  ⟨some 15, .len false (.tmp 14), some (8, true)⟩,
  ⟨some 16, .iaddr 2 (.tmp 13) (.tmp 15), some (8, true)⟩,
  ⟨some 17, .faddr 0 (.tmp 16), some (8, true)⟩,
  ⟨some 18, .load false 1 false (.tmp 17), some (8, true)⟩,
  ⟨some 19, .arith .eql (.tmp 18) (.cst (.str [98, 101, 104, 105, 110, 100])), some (8, true)⟩,
  ⟨some 20, .pick (.tmp 8) (.tmp 19) (.cst (.bool false)), none⟩,
  ⟨some 4, .mov (.tmp 20), none⟩]
@[simp] theorem law06_kept_r1_go (T : Tbl) (K : List Kt) (fr : Fr) (S : St) : gval T (.ops law06_kept_r1 :: K) fr S = gval T (.ops [
  ⟨some 5, .mov (.tmp 0), none⟩,
  ⟨some 6, .mov (.tmp 1), none⟩,
  ⟨some 7, .call .std 26 [(.tmp 5), (.tmp 6)], none⟩,
  ⟨some 8, .mov (.tmp 7), none⟩,
  ⟨some 9, .mov (.tmp 0), some (8, true)⟩,
  ⟨some 10, .mov (.tmp 1), some (8, true)⟩,
  ⟨some 11, .len false (.tmp 10), some (8, true)⟩,
  ⟨some 12, .arith .add (.tmp 11) (.cst (.int .i64 1)), some (8, true)⟩,
  ⟨some 13, .slc 2 none (some (.tmp 12)) (.tmp 9), some (8, true)⟩,
  ⟨some 14, .mov (.tmp 1), some (8, true)⟩,
  ⟨some 15, .len false (.tmp 14), some (8, true)⟩,
  ⟨some 16, .iaddr 2 (.tmp 13) (.tmp 15), some (8, true)⟩,
  ⟨some 17, .faddr 0 (.tmp 16), some (8, true)⟩,
  ⟨some 18, .load false 1 false (.tmp 17), some (8, true)⟩,
  ⟨some 19, .arith .eql (.tmp 18) (.cst (.str [98, 101, 104, 105, 110, 100])), some (8, true)⟩,
  ⟨some 20, .pick (.tmp 8) (.tmp 19) (.cst (.bool false)), none⟩,
  ⟨some 4, .mov (.tmp 20), none⟩] :: K) fr S := rfl
def law06_kept : PCodeFn :=
  ⟨2, [.tmp 4],
  (.seq (.region law06_kept_r0) (.seq (.clr [(5, 21)] (.region law06_kept_r1)) .ret)), false⟩

/-! gauge/label.Compare: 28 -/
def label_Compare_r0 : List POper := [
  ⟨some 4, .mov (.cst (.int .i64 0)), none⟩]
@[simp] theorem label_Compare_r0_go (T : Tbl) (K : List Kt) (fr : Fr) (S : St) : gval T (.ops label_Compare_r0 :: K) fr S = gval T (.ops [
  ⟨some 4, .mov (.cst (.int .i64 0)), none⟩] :: K) fr S := rfl
def label_Compare_r1 : List POper := [
  ⟨some 5, .mov (.tmp 0), none⟩,
  ⟨some 6, .mov (.tmp 1), none⟩,
  ⟨some 7, .call .std 103 [(.tmp 5), (.tmp 6), (.cst (.fn 104 []))], none⟩,
  ⟨some 4, .mov (.tmp 7), none⟩]
@[simp] theorem label_Compare_r1_go (T : Tbl) (K : List Kt) (fr : Fr) (S : St) : gval T (.ops label_Compare_r1 :: K) fr S = gval T (.ops [
  ⟨some 5, .mov (.tmp 0), none⟩,
  ⟨some 6, .mov (.tmp 1), none⟩,
  ⟨some 7, .call .std 103 [(.tmp 5), (.tmp 6), (.cst (.fn 104 []))], none⟩,
  ⟨some 4, .mov (.tmp 7), none⟩] :: K) fr S := rfl
def label_Compare : PCodeFn :=
  ⟨2, [.tmp 4],
  (.seq (.region label_Compare_r0) (.seq (.clr [(5, 8)] (.region label_Compare_r1)) .ret)), false⟩

/-! gauge/gaugeref06.Compare: 102 -/
def ref06_Compare_r0 : List POper := [
  ⟨some 4, .mov (.cst (.int .i64 0)), none⟩]
@[simp] theorem ref06_Compare_r0_go (T : Tbl) (K : List Kt) (fr : Fr) (S : St) : gval T (.ops ref06_Compare_r0 :: K) fr S = gval T (.ops [
  ⟨some 4, .mov (.cst (.int .i64 0)), none⟩] :: K) fr S := rfl
def ref06_Compare_r1 : List POper := [
  ⟨some 5, .mov (.cst (.int .i64 0)), none⟩]
@[simp] theorem ref06_Compare_r1_go (T : Tbl) (K : List Kt) (fr : Fr) (S : St) : gval T (.ops ref06_Compare_r1 :: K) fr S = gval T (.ops [
  ⟨some 5, .mov (.cst (.int .i64 0)), none⟩] :: K) fr S := rfl
def ref06_Compare_r2 : List POper := [
  ⟨some 8, .mov (.tmp 5), none⟩,
  ⟨some 9, .mov (.tmp 0), none⟩,
  ⟨some 10, .len false (.tmp 9), none⟩,
  ⟨some 11, .arith .lss (.tmp 8) (.tmp 10), none⟩,
  ⟨some 12, .mov (.tmp 11), none⟩,
  ⟨some 13, .mov (.tmp 5), some (12, true)⟩,
  ⟨some 14, .mov (.tmp 1), some (12, true)⟩,
  ⟨some 15, .len false (.tmp 14), some (12, true)⟩,
  ⟨some 16, .arith .lss (.tmp 13) (.tmp 15), some (12, true)⟩,
  ⟨some 17, .pick (.tmp 12) (.tmp 16) (.cst (.bool false)), none⟩]
@[simp] theorem ref06_Compare_r2_go (T : Tbl) (K : List Kt) (fr : Fr) (S : St) : gval T (.ops ref06_Compare_r2 :: K) fr S = gval T (.ops [
  ⟨some 8, .mov (.tmp 5), none⟩,
  ⟨some 9, .mov (.tmp 0), none⟩,
  ⟨some 10, .len false (.tmp 9), none⟩,
  ⟨some 11, .arith .lss (.tmp 8) (.tmp 10), none⟩,
  ⟨some 12, .mov (.tmp 11), none⟩,
  ⟨some 13, .mov (.tmp 5), some (12, true)⟩,
  ⟨some 14, .mov (.tmp 1), some (12, true)⟩,
  ⟨some 15, .len false (.tmp 14), some (12, true)⟩,
  ⟨some 16, .arith .lss (.tmp 13) (.tmp 15), some (12, true)⟩,
  ⟨some 17, .pick (.tmp 12) (.tmp 16) (.cst (.bool false)), none⟩] :: K) fr S := rfl
def ref06_Compare_r4 : List POper := [
  ⟨some 20, .mov (.tmp 0), none⟩,
  ⟨some 21, .mov (.tmp 5), none⟩,
  ⟨some 22, .iaddr 2 (.tmp 20) (.tmp 21), none⟩,
  ⟨some 23, .faddr 0 (.tmp 22), none⟩,
  ⟨some 24, .load false 1 true (.tmp 23), none⟩,
  ⟨some 25, .mov (.tmp 1), none⟩,
  ⟨some 26, .mov (.tmp 5), none⟩,
  ⟨some 27, .iaddr 2 (.tmp 25) (.tmp 26), none⟩,
  ⟨some 28, .faddr 0 (.tmp 27), none⟩,
  ⟨some 29, .load false 1 true (.tmp 28), none⟩,
  ⟨some 30, .call .pur 216 [(.tmp 24), (.tmp 29)], none⟩,
  ⟨some 6, .mov (.tmp 30), none⟩]
@[simp] theorem ref06_Compare_r4_go (T : Tbl) (K : List Kt) (fr : Fr) (S : St) : gval T (.ops ref06_Compare_r4 :: K) fr S = gval T (.ops [
  ⟨some 20, .mov (.tmp 0), none⟩,
  ⟨some 21, .mov (.tmp 5), none⟩,
  ⟨some 22, .iaddr 2 (.tmp 20) (.tmp 21), none⟩,
  ⟨some 23, .faddr 0 (.tmp 22), none⟩,
  ⟨some 24, .load false 1 true (.tmp 23), none⟩,
  ⟨some 25, .mov (.tmp 1), none⟩,
  ⟨some 26, .mov (.tmp 5), none⟩,
  ⟨some 27, .iaddr 2 (.tmp 25) (.tmp 26), none⟩,
  ⟨some 28, .faddr 0 (.tmp 27), none⟩,
  ⟨some 29, .load false 1 true (.tmp 28), none⟩,
  ⟨some 30, .call .pur 216 [(.tmp 24), (.tmp 29)], none⟩,
  ⟨some 6, .mov (.tmp 30), none⟩] :: K) fr S := rfl
def ref06_Compare_r5 : List POper := [
  ⟨some 31, .mov (.tmp 6), none⟩,
  ⟨some 32, .arith .neq (.tmp 31) (.cst (.int .i64 0)), none⟩]
@[simp] theorem ref06_Compare_r5_go (T : Tbl) (K : List Kt) (fr : Fr) (S : St) : gval T (.ops ref06_Compare_r5 :: K) fr S = gval T (.ops [
  ⟨some 31, .mov (.tmp 6), none⟩,
  ⟨some 32, .arith .neq (.tmp 31) (.cst (.int .i64 0)), none⟩] :: K) fr S := rfl
def ref06_Compare_r6 : List POper := [
  ⟨some 33, .mov (.tmp 6), none⟩,
  ⟨some 4, .mov (.tmp 33), none⟩]
@[simp] theorem ref06_Compare_r6_go (T : Tbl) (K : List Kt) (fr : Fr) (S : St) : gval T (.ops ref06_Compare_r6 :: K) fr S = gval T (.ops [
  ⟨some 33, .mov (.tmp 6), none⟩,
  ⟨some 4, .mov (.tmp 33), none⟩] :: K) fr S := rfl
def ref06_Compare_r7 : List POper := [
  ⟨some 34, .mov (.tmp 0), none⟩,
  ⟨some 35, .mov (.tmp 5), none⟩,
  ⟨some 36, .iaddr 2 (.tmp 34) (.tmp 35), none⟩,
  ⟨some 37, .faddr 1 (.tmp 36), none⟩,
  ⟨some 38, .load false 1 true (.tmp 37), none⟩,
  ⟨some 39, .mov (.tmp 1), none⟩,
  ⟨some 40, .mov (.tmp 5), none⟩,
  ⟨some 41, .iaddr 2 (.tmp 39) (.tmp 40), none⟩,
  ⟨some 42, .faddr 1 (.tmp 41), none⟩,
  ⟨some 43, .load false 1 true (.tmp 42), none⟩,
  ⟨some 44, .call .pur 216 [(.tmp 38), (.tmp 43)], none⟩,
  ⟨some 7, .mov (.tmp 44), none⟩]
@[simp] theorem ref06_Compare_r7_go (T : Tbl) (K : List Kt) (fr : Fr) (S : St) : gval T (.ops ref06_Compare_r7 :: K) fr S = gval T (.ops [
  ⟨some 34, .mov (.tmp 0), none⟩,
  ⟨some 35, .mov (.tmp 5), none⟩,
  ⟨some 36, .iaddr 2 (.tmp 34) (.tmp 35), none⟩,
  ⟨some 37, .faddr 1 (.tmp 36), none⟩,
  ⟨some 38, .load false 1 true (.tmp 37), none⟩,
  ⟨some 39, .mov (.tmp 1), none⟩,
  ⟨some 40, .mov (.tmp 5), none⟩,
  ⟨some 41, .iaddr 2 (.tmp 39) (.tmp 40), none⟩,
  ⟨some 42, .faddr 1 (.tmp 41), none⟩,
  ⟨some 43, .load false 1 true (.tmp 42), none⟩,
  ⟨some 44, .call .pur 216 [(.tmp 38), (.tmp 43)], none⟩,
  ⟨some 7, .mov (.tmp 44), none⟩] :: K) fr S := rfl
def ref06_Compare_r8 : List POper := [
  ⟨some 45, .mov (.tmp 7), none⟩,
  ⟨some 46, .arith .neq (.tmp 45) (.cst (.int .i64 0)), none⟩]
@[simp] theorem ref06_Compare_r8_go (T : Tbl) (K : List Kt) (fr : Fr) (S : St) : gval T (.ops ref06_Compare_r8 :: K) fr S = gval T (.ops [
  ⟨some 45, .mov (.tmp 7), none⟩,
  ⟨some 46, .arith .neq (.tmp 45) (.cst (.int .i64 0)), none⟩] :: K) fr S := rfl
def ref06_Compare_r9 : List POper := [
  ⟨some 47, .mov (.tmp 7), none⟩,
  ⟨some 4, .mov (.tmp 47), none⟩]
@[simp] theorem ref06_Compare_r9_go (T : Tbl) (K : List Kt) (fr : Fr) (S : St) : gval T (.ops ref06_Compare_r9 :: K) fr S = gval T (.ops [
  ⟨some 47, .mov (.tmp 7), none⟩,
  ⟨some 4, .mov (.tmp 47), none⟩] :: K) fr S := rfl
def ref06_Compare_r3 : List POper := [
  ⟨some 18, .mov (.tmp 5), none⟩,
  ⟨some 19, .arith .add (.tmp 18) (.cst (.int .i64 1)), none⟩,
  ⟨some 5, .mov (.tmp 19), none⟩]
@[simp] theorem ref06_Compare_r3_go (T : Tbl) (K : List Kt) (fr : Fr) (S : St) : gval T (.ops ref06_Compare_r3 :: K) fr S = gval T (.ops [
  ⟨some 18, .mov (.tmp 5), none⟩,
  ⟨some 19, .arith .add (.tmp 18) (.cst (.int .i64 1)), none⟩,
  ⟨some 5, .mov (.tmp 19), none⟩] :: K) fr S := rfl
def ref06_Compare_l0 : PCode :=
  (.seq (.seq (.clr [(8, 17)] (.region ref06_Compare_r2)) (.cond (.tmp 17) .skip (.exit 0))) (.seq (.block 1 (.seq (.seq (.clr [(20, 31)] (.region ref06_Compare_r4)) (.seq (.clr [(31, 32)] (.region ref06_Compare_r5)) (.cond (.tmp 32) (.seq (.clr [(33, 34)] (.region ref06_Compare_r6)) .ret) .skip))) (.seq (.clr [(34, 45)] (.region ref06_Compare_r7)) (.seq (.clr [(45, 46)] (.region ref06_Compare_r8)) (.cond (.tmp 46) (.seq (.clr [(47, 48)] (.region ref06_Compare_r9)) .ret) .skip))))) (.clr [(18, 20)] (.region ref06_Compare_r3))))
@[simp] theorem ref06_Compare_l0_go (T : Tbl) (K : List Kt) (fr : Fr) (S : St) : gval T (.code ref06_Compare_l0 :: K) fr S = gval T (.code (.seq (.seq (.clr [(8, 17)] (.region ref06_Compare_r2)) (.cond (.tmp 17) .skip (.exit 0))) (.seq (.block 1 (.seq (.seq (.clr [(20, 31)] (.region ref06_Compare_r4)) (.seq (.clr [(31, 32)] (.region ref06_Compare_r5)) (.cond (.tmp 32) (.seq (.clr [(33, 34)] (.region ref06_Compare_r6)) .ret) .skip))) (.seq (.clr [(34, 45)] (.region ref06_Compare_r7)) (.seq (.clr [(45, 46)] (.region ref06_Compare_r8)) (.cond (.tmp 46) (.seq (.clr [(47, 48)] (.region ref06_Compare_r9)) .ret) .skip))))) (.clr [(18, 20)] (.region ref06_Compare_r3)))) :: K) fr S := rfl
def ref06_Compare_r10 : List POper := [
  ⟨some 48, .mov (.tmp 0), none⟩,
  ⟨some 49, .len false (.tmp 48), none⟩,
  ⟨some 50, .mov (.tmp 1), none⟩,
  ⟨some 51, .len false (.tmp 50), none⟩,
  ⟨some 52, .arith .lss (.tmp 49) (.tmp 51), none⟩]
@[simp] theorem ref06_Compare_r10_go (T : Tbl) (K : List Kt) (fr : Fr) (S : St) : gval T (.ops ref06_Compare_r10 :: K) fr S = gval T (.ops [
  ⟨some 48, .mov (.tmp 0), none⟩,
  ⟨some 49, .len false (.tmp 48), none⟩,
  ⟨some 50, .mov (.tmp 1), none⟩,
  ⟨some 51, .len false (.tmp 50), none⟩,
  ⟨some 52, .arith .lss (.tmp 49) (.tmp 51), none⟩] :: K) fr S := rfl
def ref06_Compare_r11 : List POper := [
  ⟨some 4, .mov (.cst (.int .i64 (-1))), none⟩]
@[simp] theorem ref06_Compare_r11_go (T : Tbl) (K : List Kt) (fr : Fr) (S : St) : gval T (.ops ref06_Compare_r11 :: K) fr S = gval T (.ops [
  ⟨some 4, .mov (.cst (.int .i64 (-1))), none⟩] :: K) fr S := rfl
def ref06_Compare_r12 : List POper := [
  ⟨some 53, .mov (.tmp 0), none⟩,
  ⟨some 54, .len false (.tmp 53), none⟩,
  ⟨some 55, .mov (.tmp 1), none⟩,
  ⟨some 56, .len false (.tmp 55), none⟩,
  ⟨some 57, .arith .gtr (.tmp 54) (.tmp 56), none⟩]
@[simp] theorem ref06_Compare_r12_go (T : Tbl) (K : List Kt) (fr : Fr) (S : St) : gval T (.ops ref06_Compare_r12 :: K) fr S = gval T (.ops [
  ⟨some 53, .mov (.tmp 0), none⟩,
  ⟨some 54, .len false (.tmp 53), none⟩,
  ⟨some 55, .mov (.tmp 1), none⟩,
  ⟨some 56, .len false (.tmp 55), none⟩,
  ⟨some 57, .arith .gtr (.tmp 54) (.tmp 56), none⟩] :: K) fr S := rfl
def ref06_Compare_r13 : List POper := [
  ⟨some 4, .mov (.cst (.int .i64 1)), none⟩]
@[simp] theorem ref06_Compare_r13_go (T : Tbl) (K : List Kt) (fr : Fr) (S : St) : gval T (.ops ref06_Compare_r13 :: K) fr S = gval T (.ops [
  ⟨some 4, .mov (.cst (.int .i64 1)), none⟩] :: K) fr S := rfl
def ref06_Compare_r14 : List POper := [
  ⟨some 4, .mov (.cst (.int .i64 0)), none⟩]
@[simp] theorem ref06_Compare_r14_go (T : Tbl) (K : List Kt) (fr : Fr) (S : St) : gval T (.ops ref06_Compare_r14 :: K) fr S = gval T (.ops [
  ⟨some 4, .mov (.cst (.int .i64 0)), none⟩] :: K) fr S := rfl
def ref06_Compare : PCodeFn :=
  ⟨2, [.tmp 4],
  (.seq (.region ref06_Compare_r0) (.seq (.seq (.region ref06_Compare_r1) (.block 0 (.loop ref06_Compare_l0))) (.seq (.seq (.clr [(48, 52)] (.region ref06_Compare_r10)) (.cond (.tmp 52) (.seq (.region ref06_Compare_r11) .ret) .skip)) (.seq (.seq (.clr [(53, 57)] (.region ref06_Compare_r12)) (.cond (.tmp 57) (.seq (.region ref06_Compare_r13) .ret) .skip)) (.seq (.region ref06_Compare_r14) .ret))))), false⟩

/-! gauge/label.Put: 29 -/
def label_Put_r0 : List POper := [
  ⟨some 4, .mov (.cst .nils), none⟩,
  ⟨some 5, .mov (.cst (.int .i64 0)), none⟩]
@[simp] theorem label_Put_r0_go (T : Tbl) (K : List Kt) (fr : Fr) (S : St) : gval T (.ops label_Put_r0 :: K) fr S = gval T (.ops [
  ⟨some 4, .mov (.cst .nils), none⟩,
  ⟨some 5, .mov (.cst (.int .i64 0)), none⟩] :: K) fr S := rfl
def label_Put_r1 : List POper := [
  ⟨some 11, .mov (.tmp 1), none⟩,
  ⟨some 12, .call .std 40 [(.tmp 11)], none⟩,
  ⟨some 6, .mov (.tmp 12), none⟩]
@[simp] theorem label_Put_r1_go (T : Tbl) (K : List Kt) (fr : Fr) (S : St) : gval T (.ops label_Put_r1 :: K) fr S = gval T (.ops [
  ⟨some 11, .mov (.tmp 1), none⟩,
  ⟨some 12, .call .std 40 [(.tmp 11)], none⟩,
  ⟨some 6, .mov (.tmp 12), none⟩] :: K) fr S := rfl
def label_Put_r2 : List POper := [
  ⟨some 13, .mov (.tmp 6), none⟩,
  ⟨some 14, .arith .neq (.tmp 13) (.cst (.int .i64 0)), none⟩]
@[simp] theorem label_Put_r2_go (T : Tbl) (K : List Kt) (fr : Fr) (S : St) : gval T (.ops label_Put_r2 :: K) fr S = gval T (.ops [
  ⟨some 13, .mov (.tmp 6), none⟩,
  ⟨some 14, .arith .neq (.tmp 13) (.cst (.int .i64 0)), none⟩] :: K) fr S := rfl
def label_Put_r3 : List POper := [
  ⟨some 15, .mov (.tmp 6), none⟩,
  ⟨some 4, .mov (.cst .nils), none⟩,
  ⟨some 5, .mov (.tmp 15), none⟩]
@[simp] theorem label_Put_r3_go (T : Tbl) (K : List Kt) (fr : Fr) (S : St) : gval T (.ops label_Put_r3 :: K) fr S = gval T (.ops [
  ⟨some 15, .mov (.tmp 6), none⟩,
  ⟨some 4, .mov (.cst .nils), none⟩,
  ⟨some 5, .mov (.tmp 15), none⟩] :: K) fr S := rfl
def label_Put_r4 : List POper := [
  ⟨some 17, .mov (.tmp 0), none⟩,
  ⟨some 18, .mov (.tmp 1), none⟩,
  ⟨some 19, .len false (.tmp 18), none⟩,
  ⟨some 20, .call .std 107 [(.tmp 17), (.tmp 19)], none⟩,
  ⟨some 16, .mov (.tmp 20), none⟩,
  ⟨some 21, .extract 0 (.tmp 16), none⟩,
  ⟨some 22, .extract 1 (.tmp 16), none⟩,
  ⟨some 7, .mov (.tmp 21), none⟩,
  ⟨some 8, .mov (.tmp 22), none⟩]
@[simp] theorem label_Put_r4_go (T : Tbl) (K : List Kt) (fr : Fr) (S : St) : gval T (.ops label_Put_r4 :: K) fr S = gval T (.ops [
  ⟨some 17, .mov (.tmp 0), none⟩,
  ⟨some 18, .mov (.tmp 1), none⟩,
  ⟨some 19, .len false (.tmp 18), none⟩,
  ⟨some 20, .call .std 107 [(.tmp 17), (.tmp 19)], none⟩,
  ⟨some 16, .mov (.tmp 20), none⟩,
  ⟨some 21, .extract 0 (.tmp 16), none⟩,
  ⟨some 22, .extract 1 (.tmp 16), none⟩,
  ⟨some 7, .mov (.tmp 21), none⟩,
  ⟨some 8, .mov (.tmp 22), none⟩] :: K) fr S := rfl
def label_Put_r5 : List POper := [
  ⟨some 23, .mov (.tmp 1), none⟩,
  ⟨some 24, .len false (.tmp 23), none⟩,
  ⟨some 25, .mov (.cst (.int .i64 0)), none⟩]
@[simp] theorem label_Put_r5_go (T : Tbl) (K : List Kt) (fr : Fr) (S : St) : gval T (.ops label_Put_r5 :: K) fr S = gval T (.ops [
  ⟨some 23, .mov (.tmp 1), none⟩,
  ⟨some 24, .len false (.tmp 23), none⟩,
  ⟨some 25, .mov (.cst (.int .i64 0)), none⟩] :: K) fr S := rfl
def label_Put_r6 : List POper := [
  ⟨some 26, .arith .lss (.tmp 25) (.tmp 24), none⟩]
@[simp] theorem label_Put_r6_go (T : Tbl) (K : List Kt) (fr : Fr) (S : St) : gval T (.ops label_Put_r6 :: K) fr S = gval T (.ops [
  ⟨some 26, .arith .lss (.tmp 25) (.tmp 24), none⟩] :: K) fr S := rfl
def label_Put_r7 : List POper := [
  ⟨some 27, .iaddr 2 (.tmp 23) (.tmp 25), none⟩,
  ⟨some 28, .load true 2 false (.tmp 27), none⟩,
  ⟨some 10, .alloc false [(.str []), (.str [])], none⟩,
  ⟨none, .store 2 (.tmp 10) (.tmp 28), none⟩]
@[simp] theorem label_Put_r7_go (T : Tbl) (K : List Kt) (fr : Fr) (S : St) : gval T (.ops label_Put_r7 :: K) fr S = gval T (.ops [
  ⟨some 27, .iaddr 2 (.tmp 23) (.tmp 25), none⟩,
  ⟨some 28, .load true 2 false (.tmp 27), none⟩,
  ⟨some 10, .alloc false [(.str []), (.str [])], none⟩,
  ⟨none, .store 2 (.tmp 10) (.tmp 28), none⟩] :: K) fr S := rfl
def label_Put_r8 : List POper := [
  ⟨some 30, .mov (.tmp 7), none⟩,
  ⟨some 31, .faddr 0 (.tmp 10), none⟩,
  ⟨some 32, .load false 1 false (.tmp 31), none⟩,
  ⟨some 33, .call .std 108 [(.tmp 30), (.tmp 32)], none⟩,
  ⟨some 29, .mov (.tmp 33), none⟩,
  ⟨some 34, .extract 0 (.tmp 29), none⟩,
  ⟨some 35, .extract 1 (.tmp 29), none⟩,
  ⟨some 7, .mov (.tmp 34), none⟩]
@[simp] theorem label_Put_r8_go (T : Tbl) (K : List Kt) (fr : Fr) (S : St) : gval T (.ops label_Put_r8 :: K) fr S = gval T (.ops [
  ⟨some 30, .mov (.tmp 7), none⟩,
  ⟨some 31, .faddr 0 (.tmp 10), none⟩,
  ⟨some 32, .load false 1 false (.tmp 31), none⟩,
  ⟨some 33, .call .std 108 [(.tmp 30), (.tmp 32)], none⟩,
  ⟨some 29, .mov (.tmp 33), none⟩,
  ⟨some 34, .extract 0 (.tmp 29), none⟩,
  ⟨some 35, .extract 1 (.tmp 29), none⟩,
  ⟨some 7, .mov (.tmp 34), none⟩] :: K) fr S := rfl
def label_Put_r9 : List POper := [
  ⟨some 37, .mov (.tmp 7), none⟩,
  ⟨some 38, .faddr 1 (.tmp 10), none⟩,
  ⟨some 39, .load false 1 false (.tmp 38), none⟩,
  ⟨some 40, .call .std 108 [(.tmp 37), (.tmp 39)], none⟩,
  ⟨some 36, .mov (.tmp 40), none⟩,
  ⟨some 41, .extract 0 (.tmp 36), none⟩,
  ⟨some 42, .extract 1 (.tmp 36), none⟩,
  ⟨some 7, .mov (.tmp 41), none⟩]
@[simp] theorem label_Put_r9_go (T : Tbl) (K : List Kt) (fr : Fr) (S : St) : gval T (.ops label_Put_r9 :: K) fr S = gval T (.ops [
  ⟨some 37, .mov (.tmp 7), none⟩,
  ⟨some 38, .faddr 1 (.tmp 10), none⟩,
  ⟨some 39, .load false 1 false (.tmp 38), none⟩,
  ⟨some 40, .call .std 108 [(.tmp 37), (.tmp 39)], none⟩,
  ⟨some 36, .mov (.tmp 40), none⟩,
  ⟨some 41, .extract 0 (.tmp 36), none⟩,
  ⟨some 42, .extract 1 (.tmp 36), none⟩,
  ⟨some 7, .mov (.tmp 41), none⟩] :: K) fr S := rfl
def label_Put_r10 : List POper := [
  ⟨some 43, .arith .add (.tmp 25) (.cst (.int .i64 1)), none⟩,
  ⟨some 25, .mov (.tmp 43), none⟩]
@[simp] theorem label_Put_r10_go (T : Tbl) (K : List Kt) (fr : Fr) (S : St) : gval T (.ops label_Put_r10 :: K) fr S = gval T (.ops [
  ⟨some 43, .arith .add (.tmp 25) (.cst (.int .i64 1)), none⟩,
  ⟨some 25, .mov (.tmp 43), none⟩] :: K) fr S := rfl
def label_Put_l0 : PCode :=
  (.seq (.region label_Put_r6) (.seq (.cond (.tmp 26) .skip (.exit 0)) (.seq (.block 1 (.seq (.clr [(27, 29)] (.region label_Put_r7)) (.seq (.clr [(29, 36)] (.region label_Put_r8)) (.clr [(36, 43)] (.region label_Put_r9))))) (.clr [(43, 44)] (.region label_Put_r10)))))
@[simp] theorem label_Put_l0_go (T : Tbl) (K : List Kt) (fr : Fr) (S : St) : gval T (.code label_Put_l0 :: K) fr S = gval T (.code (.seq (.region label_Put_r6) (.seq (.cond (.tmp 26) .skip (.exit 0)) (.seq (.block 1 (.seq (.clr [(27, 29)] (.region label_Put_r7)) (.seq (.clr [(29, 36)] (.region label_Put_r8)) (.clr [(36, 43)] (.region label_Put_r9))))) (.clr [(43, 44)] (.region label_Put_r10))))) :: K) fr S := rfl
def label_Put_r11 : List POper := [
  ⟨some 44, .mov (.tmp 7), none⟩,
  ⟨some 4, .mov (.tmp 44), none⟩,
  ⟨some 5, .mov (.cst (.int .i64 0)), none⟩]
@[simp] theorem label_Put_r11_go (T : Tbl) (K : List Kt) (fr : Fr) (S : St) : gval T (.ops label_Put_r11 :: K) fr S = gval T (.ops [
  ⟨some 44, .mov (.tmp 7), none⟩,
  ⟨some 4, .mov (.tmp 44), none⟩,
  ⟨some 5, .mov (.cst (.int .i64 0)), none⟩] :: K) fr S := rfl
def label_Put : PCodeFn :=
  ⟨2, [.tmp 4, .tmp 5],
  (.seq (.region label_Put_r0) (.seq (.seq (.clr [(11, 13)] (.region label_Put_r1)) (.seq (.clr [(13, 14)] (.region label_Put_r2)) (.cond (.tmp 14) (.seq (.clr [(15, 16)] (.region label_Put_r3)) .ret) .skip))) (.seq (.clr [(8, 9), (16, 23)] (.region label_Put_r4)) (.seq (.seq (.region label_Put_r5) (.block 0 (.loop label_Put_l0))) (.seq (.clr [(44, 45)] (.region label_Put_r11)) .ret))))), false⟩

/-! gauge/gaugeref06.Put: 30 -/
def ref06_Put_r0 : List POper := [
  ⟨some 4, .mov (.cst .nils), none⟩,
  ⟨some 5, .mov (.cst (.int .i64 0)), none⟩]
@[simp] theorem ref06_Put_r0_go (T : Tbl) (K : List Kt) (fr : Fr) (S : St) : gval T (.ops ref06_Put_r0 :: K) fr S = gval T (.ops [
  ⟨some 4, .mov (.cst .nils), none⟩,
  ⟨some 5, .mov (.cst (.int .i64 0)), none⟩] :: K) fr S := rfl
def ref06_Put_r1 : List POper := [
  ⟨some 7, .mov (.tmp 1), none⟩,
  ⟨some 8, .call .std 98 [(.tmp 7)], none⟩,
  ⟨some 6, .mov (.tmp 8), none⟩]
@[simp] theorem ref06_Put_r1_go (T : Tbl) (K : List Kt) (fr : Fr) (S : St) : gval T (.ops ref06_Put_r1 :: K) fr S = gval T (.ops [
  ⟨some 7, .mov (.tmp 1), none⟩,
  ⟨some 8, .call .std 98 [(.tmp 7)], none⟩,
  ⟨some 6, .mov (.tmp 8), none⟩] :: K) fr S := rfl
def ref06_Put_r2 : List POper := [
  ⟨some 9, .mov (.tmp 6), none⟩,
  ⟨some 10, .arith .neq (.tmp 9) (.cst (.int .i64 0)), none⟩]
@[simp] theorem ref06_Put_r2_go (T : Tbl) (K : List Kt) (fr : Fr) (S : St) : gval T (.ops ref06_Put_r2 :: K) fr S = gval T (.ops [
  ⟨some 9, .mov (.tmp 6), none⟩,
  ⟨some 10, .arith .neq (.tmp 9) (.cst (.int .i64 0)), none⟩] :: K) fr S := rfl
def ref06_Put_r3 : List POper := [
  ⟨some 11, .mov (.tmp 6), none⟩,
  ⟨some 4, .mov (.cst .nils), none⟩,
  ⟨some 5, .mov (.tmp 11), none⟩]
@[simp] theorem ref06_Put_r3_go (T : Tbl) (K : List Kt) (fr : Fr) (S : St) : gval T (.ops ref06_Put_r3 :: K) fr S = gval T (.ops [
  ⟨some 11, .mov (.tmp 6), none⟩,
  ⟨some 4, .mov (.cst .nils), none⟩,
  ⟨some 5, .mov (.tmp 11), none⟩] :: K) fr S := rfl
def ref06_Put_r4 : List POper := [
  ⟨some 12, .bsl false (.int .u8 0) 0 [], none⟩,
  ⟨some 13, .mov (.tmp 0), none⟩,
  ⟨some 14, .app 1 1 (.tmp 12) (.tmp 13), none⟩,
  ⟨some 15, .mov (.tmp 1), none⟩,
  ⟨some 16, .call .std 109 [(.tmp 15)], none⟩,
  ⟨some 17, .app 1 1 (.tmp 14) (.tmp 16), none⟩,
  ⟨some 4, .mov (.tmp 17), none⟩,
  ⟨some 5, .mov (.cst (.int .i64 0)), none⟩]
@[simp] theorem ref06_Put_r4_go (T : Tbl) (K : List Kt) (fr : Fr) (S : St) : gval T (.ops ref06_Put_r4 :: K) fr S = gval T (.ops [
  ⟨some 12, .bsl false (.int .u8 0) 0 [], none⟩,
  ⟨some 13, .mov (.tmp 0), none⟩,
  ⟨some 14, .app 1 1 (.tmp 12) (.tmp 13), none⟩,
  ⟨some 15, .mov (.tmp 1), none⟩,
  ⟨some 16, .call .std 109 [(.tmp 15)], none⟩,
  ⟨some 17, .app 1 1 (.tmp 14) (.tmp 16), none⟩,
  ⟨some 4, .mov (.tmp 17), none⟩,
  ⟨some 5, .mov (.cst (.int .i64 0)), none⟩] :: K) fr S := rfl
def ref06_Put : PCodeFn :=
  ⟨2, [.tmp 4, .tmp 5],
  (.seq (.region ref06_Put_r0) (.seq (.seq (.clr [(7, 9)] (.region ref06_Put_r1)) (.seq (.clr [(9, 10)] (.region ref06_Put_r2)) (.cond (.tmp 10) (.seq (.clr [(11, 12)] (.region ref06_Put_r3)) .ret) .skip))) (.seq (.clr [(12, 18)] (.region ref06_Put_r4)) .ret))), false⟩

/-! gauge/label.Read: 31 -/
def label_Read_r0 : List POper := [
  ⟨some 4, .mov (.cst .nils), none⟩,
  ⟨some 5, .mov (.cst (.int .i64 0)), none⟩,
  ⟨some 6, .mov (.cst (.int .i64 0)), none⟩]
@[simp] theorem label_Read_r0_go (T : Tbl) (K : List Kt) (fr : Fr) (S : St) : gval T (.ops label_Read_r0 :: K) fr S = gval T (.ops [
  ⟨some 4, .mov (.cst .nils), none⟩,
  ⟨some 5, .mov (.cst (.int .i64 0)), none⟩,
  ⟨some 6, .mov (.cst (.int .i64 0)), none⟩] :: K) fr S := rfl
def label_Read_r1 : List POper := [
  ⟨some 12, .mov (.tmp 0), none⟩,
  ⟨some 13, .mov (.tmp 1), none⟩,
  ⟨some 14, .call .std 110 [(.tmp 12), (.tmp 13)], none⟩,
  ⟨some 11, .mov (.tmp 14), none⟩,
  ⟨some 15, .extract 0 (.tmp 11), none⟩,
  ⟨some 16, .extract 1 (.tmp 11), none⟩,
  ⟨some 17, .extract 2 (.tmp 11), none⟩,
  ⟨some 7, .mov (.tmp 15), none⟩,
  ⟨some 1, .mov (.tmp 16), none⟩,
  ⟨some 8, .mov (.tmp 17), none⟩]
@[simp] theorem label_Read_r1_go (T : Tbl) (K : List Kt) (fr : Fr) (S : St) : gval T (.ops label_Read_r1 :: K) fr S = gval T (.ops [
  ⟨some 12, .mov (.tmp 0), none⟩,
  ⟨some 13, .mov (.tmp 1), none⟩,
  ⟨some 14, .call .std 110 [(.tmp 12), (.tmp 13)], none⟩,
  ⟨some 11, .mov (.tmp 14), none⟩,
  ⟨some 15, .extract 0 (.tmp 11), none⟩,
  ⟨some 16, .extract 1 (.tmp 11), none⟩,
  ⟨some 17, .extract 2 (.tmp 11), none⟩,
  ⟨some 7, .mov (.tmp 15), none⟩,
  ⟨some 1, .mov (.tmp 16), none⟩,
  ⟨some 8, .mov (.tmp 17), none⟩] :: K) fr S := rfl
def label_Read_r2 : List POper := [
  ⟨some 18, .mov (.tmp 8), none⟩,
  ⟨some 19, .arith .eql (.tmp 18) (.cst (.int .i64 0)), none⟩,
  ⟨some 20, .mov (.tmp 19), none⟩,
  ⟨some 21, .mov (.tmp 7), some (20, true)⟩,
  ⟨some 22, .arith .gtr (.tmp 21) (.cst (.int .i64 8)), some (20, true)⟩,
  ⟨some 23, .pick (.tmp 20) (.tmp 22) (.cst (.bool false)), none⟩]
@[simp] theorem label_Read_r2_go (T : Tbl) (K : List Kt) (fr : Fr) (S : St) : gval T (.ops label_Read_r2 :: K) fr S = gval T (.ops [
  ⟨some 18, .mov (.tmp 8), none⟩,
  ⟨some 19, .arith .eql (.tmp 18) (.cst (.int .i64 0)), none⟩,
  ⟨some 20, .mov (.tmp 19), none⟩,
  ⟨some 21, .mov (.tmp 7), some (20, true)⟩,
  ⟨some 22, .arith .gtr (.tmp 21) (.cst (.int .i64 8)), some (20, true)⟩,
  ⟨some 23, .pick (.tmp 20) (.tmp 22) (.cst (.bool false)), none⟩] :: K) fr S := rfl
def label_Read_r3 : List POper := [
  ⟨some 8, .mov (.cst (.int .i64 3)), none⟩]
@[simp] theorem label_Read_r3_go (T : Tbl) (K : List Kt) (fr : Fr) (S : St) : gval T (.ops label_Read_r3 :: K) fr S = gval T (.ops [
  ⟨some 8, .mov (.cst (.int .i64 3)), none⟩] :: K) fr S := rfl
def label_Read_r4 : List POper := [
  ⟨some 9, .mov (.cst .nils), none⟩]
@[simp] theorem label_Read_r4_go (T : Tbl) (K : List Kt) (fr : Fr) (S : St) : gval T (.ops label_Read_r4 :: K) fr S = gval T (.ops [
  ⟨some 9, .mov (.cst .nils), none⟩] :: K) fr S := rfl
def label_Read_r5 : List POper := [
  ⟨some 24, .mov (.tmp 8), none⟩,
  ⟨some 25, .arith .eql (.tmp 24) (.cst (.int .i64 0)), none⟩,
  ⟨some 26, .mov (.tmp 25), none⟩,
  ⟨some 27, .mov (.tmp 9), some (26, true)⟩,
  ⟨some 28, .len false (.tmp 27), some (26, true)⟩,
  ⟨some 29, .mov (.tmp 7), some (26, true)⟩,
  ⟨some 30, .arith .lss (.tmp 28) (.tmp 29), some (26, true)⟩,
  ⟨some 31, .pick (.tmp 26) (.tmp 30) (.cst (.bool false)), none⟩]
@[simp] theorem label_Read_r5_go (T : Tbl) (K : List Kt) (fr : Fr) (S : St) : gval T (.ops label_Read_r5 :: K) fr S = gval T (.ops [
  ⟨some 24, .mov (.tmp 8), none⟩,
  ⟨some 25, .arith .eql (.tmp 24) (.cst (.int .i64 0)), none⟩,
  ⟨some 26, .mov (.tmp 25), none⟩,
  ⟨some 27, .mov (.tmp 9), some (26, true)⟩,
  ⟨some 28, .len false (.tmp 27), some (26, true)⟩,
  ⟨some 29, .mov (.tmp 7), some (26, true)⟩,
  ⟨some 30, .arith .lss (.tmp 28) (.tmp 29), some (26, true)⟩,
  ⟨some 31, .pick (.tmp 26) (.tmp 30) (.cst (.bool false)), none⟩] :: K) fr S := rfl
def label_Read_r6 : List POper := [
  ⟨some 10, .alloc false [(.str []), (.str [])], none⟩]
@[simp] theorem label_Read_r6_go (T : Tbl) (K : List Kt) (fr : Fr) (S : St) : gval T (.ops label_Read_r6 :: K) fr S = gval T (.ops [
  ⟨some 10, .alloc false [(.str []), (.str [])], none⟩] :: K) fr S := rfl
def label_Read_r7 : List POper := [
  ⟨some 33, .mov (.tmp 0), none⟩,
  ⟨some 34, .mov (.tmp 1), none⟩,
  ⟨some 35, .call .std 111 [(.tmp 33), (.tmp 34)], none⟩,
  ⟨some 32, .mov (.tmp 35), none⟩,
  ⟨some 36, .extract 0 (.tmp 32), none⟩,
  ⟨some 37, .extract 1 (.tmp 32), none⟩,
  ⟨some 38, .extract 2 (.tmp 32), none⟩,
  ⟨some 39, .faddr 0 (.tmp 10), none⟩,
  ⟨none, .store 1 (.tmp 39) (.tmp 36), none⟩,
  ⟨some 1, .mov (.tmp 37), none⟩,
  ⟨some 8, .mov (.tmp 38), none⟩]
@[simp] theorem label_Read_r7_go (T : Tbl) (K : List Kt) (fr : Fr) (S : St) : gval T (.ops label_Read_r7 :: K) fr S = gval T (.ops [
  ⟨some 33, .mov (.tmp 0), none⟩,
  ⟨some 34, .mov (.tmp 1), none⟩,
  ⟨some 35, .call .std 111 [(.tmp 33), (.tmp 34)], none⟩,
  ⟨some 32, .mov (.tmp 35), none⟩,
  ⟨some 36, .extract 0 (.tmp 32), none⟩,
  ⟨some 37, .extract 1 (.tmp 32), none⟩,
  ⟨some 38, .extract 2 (.tmp 32), none⟩,
  ⟨some 39, .faddr 0 (.tmp 10), none⟩,
  ⟨none, .store 1 (.tmp 39) (.tmp 36), none⟩,
  ⟨some 1, .mov (.tmp 37), none⟩,
  ⟨some 8, .mov (.tmp 38), none⟩] :: K) fr S := rfl
def label_Read_r8 : List POper := [
  ⟨some 40, .mov (.tmp 8), none⟩,
  ⟨some 41, .arith .eql (.tmp 40) (.cst (.int .i64 0)), none⟩]
@[simp] theorem label_Read_r8_go (T : Tbl) (K : List Kt) (fr : Fr) (S : St) : gval T (.ops label_Read_r8 :: K) fr S = gval T (.ops [
  ⟨some 40, .mov (.tmp 8), none⟩,
  ⟨some 41, .arith .eql (.tmp 40) (.cst (.int .i64 0)), none⟩] :: K) fr S := rfl
def label_Read_r9 : List POper := [
  ⟨some 43, .mov (.tmp 0), none⟩,
  ⟨some 44, .mov (.tmp 1), none⟩,
  ⟨some 45, .call .std 111 [(.tmp 43), (.tmp 44)], none⟩,
  ⟨some 42, .mov (.tmp 45), none⟩,
  ⟨some 46, .extract 0 (.tmp 42), none⟩,
  ⟨some 47, .extract 1 (.tmp 42), none⟩,
  ⟨some 48, .extract 2 (.tmp 42), none⟩,
  ⟨some 49, .faddr 1 (.tmp 10), none⟩,
  ⟨none, .store 1 (.tmp 49) (.tmp 46), none⟩,
  ⟨some 1, .mov (.tmp 47), none⟩,
  ⟨some 8, .mov (.tmp 48), none⟩]
@[simp] theorem label_Read_r9_go (T : Tbl) (K : List Kt) (fr : Fr) (S : St) : gval T (.ops label_Read_r9 :: K) fr S = gval T (.ops [
  ⟨some 43, .mov (.tmp 0), none⟩,
  ⟨some 44, .mov (.tmp 1), none⟩,
  ⟨some 45, .call .std 111 [(.tmp 43), (.tmp 44)], none⟩,
  ⟨some 42, .mov (.tmp 45), none⟩,
  ⟨some 46, .extract 0 (.tmp 42), none⟩,
  ⟨some 47, .extract 1 (.tmp 42), none⟩,
  ⟨some 48, .extract 2 (.tmp 42), none⟩,
  ⟨some 49, .faddr 1 (.tmp 10), none⟩,
  ⟨none, .store 1 (.tmp 49) (.tmp 46), none⟩,
  ⟨some 1, .mov (.tmp 47), none⟩,
  ⟨some 8, .mov (.tmp 48), none⟩] :: K) fr S := rfl
def label_Read_r10 : List POper := [
  ⟨some 50, .mov (.tmp 9), none⟩,
  ⟨some 51, .load true 2 false (.tmp 10), none⟩,
  ⟨some 52, .bsl false (.agg [(.str []), (.str [])]) 1 [(0, (.tmp 51))], none⟩,
  ⟨some 53, .app 2 32 (.tmp 50) (.tmp 52), none⟩,
  ⟨some 9, .mov (.tmp 53), none⟩]
@[simp] theorem label_Read_r10_go (T : Tbl) (K : List Kt) (fr : Fr) (S : St) : gval T (.ops label_Read_r10 :: K) fr S = gval T (.ops [
  ⟨some 50, .mov (.tmp 9), none⟩,
  ⟨some 51, .load true 2 false (.tmp 10), none⟩,
  ⟨some 52, .bsl false (.agg [(.str []), (.str [])]) 1 [(0, (.tmp 51))], none⟩,
  ⟨some 53, .app 2 32 (.tmp 50) (.tmp 52), none⟩,
  ⟨some 9, .mov (.tmp 53), none⟩] :: K) fr S := rfl
def label_Read_l0 : PCode :=
  (.seq (.seq (.clr [(24, 31)] (.region label_Read_r5)) (.cond (.tmp 31) .skip (.exit 0))) (.block 1 (.seq (.region label_Read_r6) (.seq (.seq (.clr [(32, 40)] (.region label_Read_r7)) (.seq (.clr [(40, 41)] (.region label_Read_r8)) (.cond (.tmp 41) (.clr [(42, 50)] (.region label_Read_r9)) .skip))) (.clr [(50, 54)] (.region label_Read_r10))))))
@[simp] theorem label_Read_l0_go (T : Tbl) (K : List Kt) (fr : Fr) (S : St) : gval T (.code label_Read_l0 :: K) fr S = gval T (.code (.seq (.seq (.clr [(24, 31)] (.region label_Read_r5)) (.cond (.tmp 31) .skip (.exit 0))) (.block 1 (.seq (.region label_Read_r6) (.seq (.seq (.clr [(32, 40)] (.region label_Read_r7)) (.seq (.clr [(40, 41)] (.region label_Read_r8)) (.cond (.tmp 41) (.clr [(42, 50)] (.region label_Read_r9)) .skip))) (.clr [(50, 54)] (.region label_Read_r10)))))) :: K) fr S := rfl
def label_Read_r11 : List POper := [
  ⟨some 54, .mov (.tmp 8), none⟩,
  ⟨some 55, .arith .eql (.tmp 54) (.cst (.int .i64 0)), none⟩,
  ⟨some 56, .mov (.tmp 55), none⟩,
  ⟨some 57, .mov (.tmp 9), some (56, true)⟩,
  ⟨some 58, .call .std 40 [(.tmp 57)], some (56, true)⟩,
  ⟨some 59, .arith .neq (.tmp 58) (.cst (.int .i64 0)), some (56, true)⟩,
  ⟨some 60, .pick (.tmp 56) (.tmp 59) (.cst (.bool false)), none⟩]
@[simp] theorem label_Read_r11_go (T : Tbl) (K : List Kt) (fr : Fr) (S : St) : gval T (.ops label_Read_r11 :: K) fr S = gval T (.ops [
  ⟨some 54, .mov (.tmp 8), none⟩,
  ⟨some 55, .arith .eql (.tmp 54) (.cst (.int .i64 0)), none⟩,
  ⟨some 56, .mov (.tmp 55), none⟩,
  ⟨some 57, .mov (.tmp 9), some (56, true)⟩,
  ⟨some 58, .call .std 40 [(.tmp 57)], some (56, true)⟩,
  ⟨some 59, .arith .neq (.tmp 58) (.cst (.int .i64 0)), some (56, true)⟩,
  ⟨some 60, .pick (.tmp 56) (.tmp 59) (.cst (.bool false)), none⟩] :: K) fr S := rfl
def label_Read_r12 : List POper := [
  ⟨some 8, .mov (.cst (.int .i64 5)), none⟩]
@[simp] theorem label_Read_r12_go (T : Tbl) (K : List Kt) (fr : Fr) (S : St) : gval T (.ops label_Read_r12 :: K) fr S = gval T (.ops [
  ⟨some 8, .mov (.cst (.int .i64 5)), none⟩] :: K) fr S := rfl
def label_Read_r13 : List POper := [
  ⟨some 61, .mov (.tmp 8), none⟩,
  ⟨some 62, .arith .neq (.tmp 61) (.cst (.int .i64 0)), none⟩]
@[simp] theorem label_Read_r13_go (T : Tbl) (K : List Kt) (fr : Fr) (S : St) : gval T (.ops label_Read_r13 :: K) fr S = gval T (.ops [
  ⟨some 61, .mov (.tmp 8), none⟩,
  ⟨some 62, .arith .neq (.tmp 61) (.cst (.int .i64 0)), none⟩] :: K) fr S := rfl
def label_Read_r14 : List POper := [
  ⟨some 63, .mov (.tmp 8), none⟩,
  ⟨some 4, .mov (.cst .nils), none⟩,
  ⟨some 5, .mov (.cst (.int .i64 0)), none⟩,
  ⟨some 6, .mov (.tmp 63), none⟩]
@[simp] theorem label_Read_r14_go (T : Tbl) (K : List Kt) (fr : Fr) (S : St) : gval T (.ops label_Read_r14 :: K) fr S = gval T (.ops [
  ⟨some 63, .mov (.tmp 8), none⟩,
  ⟨some 4, .mov (.cst .nils), none⟩,
  ⟨some 5, .mov (.cst (.int .i64 0)), none⟩,
  ⟨some 6, .mov (.tmp 63), none⟩] :: K) fr S := rfl
def label_Read_r15 : List POper := [
  ⟨some 64, .mov (.tmp 9), none⟩,
  ⟨some 65, .mov (.tmp 1), none⟩,
  ⟨some 4, .mov (.tmp 64), none⟩,
  ⟨some 5, .mov (.tmp 65), none⟩,
  ⟨some 6, .mov (.cst (.int .i64 0)), none⟩]
@[simp] theorem label_Read_r15_go (T : Tbl) (K : List Kt) (fr : Fr) (S : St) : gval T (.ops label_Read_r15 :: K) fr S = gval T (.ops [
  ⟨some 64, .mov (.tmp 9), none⟩,
  ⟨some 65, .mov (.tmp 1), none⟩,
  ⟨some 4, .mov (.tmp 64), none⟩,
  ⟨some 5, .mov (.tmp 65), none⟩,
  ⟨some 6, .mov (.cst (.int .i64 0)), none⟩] :: K) fr S := rfl
def label_Read : PCodeFn :=
  ⟨2, [.tmp 4, .tmp 5, .tmp 6],
  (.seq (.region label_Read_r0) (.seq (.clr [(11, 18)] (.region label_Read_r1)) (.seq (.seq (.clr [(18, 23)] (.region label_Read_r2)) (.cond (.tmp 23) (.region label_Read_r3) .skip)) (.seq (.region label_Read_r4) (.seq (.block 0 (.loop label_Read_l0)) (.seq (.seq (.clr [(54, 60)] (.region label_Read_r11)) (.cond (.tmp 60) (.region label_Read_r12) .skip)) (.seq (.seq (.clr [(61, 62)] (.region label_Read_r13)) (.cond (.tmp 62) (.seq (.clr [(63, 64)] (.region label_Read_r14)) .ret) .skip)) (.seq (.clr [(64, 66)] (.region label_Read_r15)) .ret)))))))), false⟩

/-! gauge/gaugeref06.Read: 32 -/
def ref06_Read_r0 : List POper := [
  ⟨some 4, .mov (.cst .nils), none⟩,
  ⟨some 5, .mov (.cst (.int .i64 0)), none⟩,
  ⟨some 6, .mov (.cst (.int .i64 0)), none⟩]
@[simp] theorem ref06_Read_r0_go (T : Tbl) (K : List Kt) (fr : Fr) (S : St) : gval T (.ops ref06_Read_r0 :: K) fr S = gval T (.ops [
  ⟨some 4, .mov (.cst .nils), none⟩,
  ⟨some 5, .mov (.cst (.int .i64 0)), none⟩,
  ⟨some 6, .mov (.cst (.int .i64 0)), none⟩] :: K) fr S := rfl
def ref06_Read_r1 : List POper := [
  ⟨some 17, .mov (.tmp 0), none⟩,
  ⟨some 18, .mov (.tmp 1), none⟩,
  ⟨some 19, .call .std 112 [(.tmp 17), (.tmp 18)], none⟩,
  ⟨some 16, .mov (.tmp 19), none⟩,
  ⟨some 20, .extract 0 (.tmp 16), none⟩,
  ⟨some 21, .extract 1 (.tmp 16), none⟩,
  ⟨some 22, .extract 2 (.tmp 16), none⟩,
  ⟨some 7, .mov (.tmp 20), none⟩,
  ⟨some 1, .mov (.tmp 21), none⟩,
  ⟨some 8, .mov (.tmp 22), none⟩]
@[simp] theorem ref06_Read_r1_go (T : Tbl) (K : List Kt) (fr : Fr) (S : St) : gval T (.ops ref06_Read_r1 :: K) fr S = gval T (.ops [
  ⟨some 17, .mov (.tmp 0), none⟩,
  ⟨some 18, .mov (.tmp 1), none⟩,
  ⟨some 19, .call .std 112 [(.tmp 17), (.tmp 18)], none⟩,
  ⟨some 16, .mov (.tmp 19), none⟩,
  ⟨some 20, .extract 0 (.tmp 16), none⟩,
  ⟨some 21, .extract 1 (.tmp 16), none⟩,
  ⟨some 22, .extract 2 (.tmp 16), none⟩,
  ⟨some 7, .mov (.tmp 20), none⟩,
  ⟨some 1, .mov (.tmp 21), none⟩,
  ⟨some 8, .mov (.tmp 22), none⟩] :: K) fr S := rfl
def ref06_Read_r2 : List POper := [
  ⟨some 23, .mov (.tmp 8), none⟩,
  ⟨some 24, .arith .neq (.tmp 23) (.cst (.int .i64 0)), none⟩]
@[simp] theorem ref06_Read_r2_go (T : Tbl) (K : List Kt) (fr : Fr) (S : St) : gval T (.ops ref06_Read_r2 :: K) fr S = gval T (.ops [
  ⟨some 23, .mov (.tmp 8), none⟩,
  ⟨some 24, .arith .neq (.tmp 23) (.cst (.int .i64 0)), none⟩] :: K) fr S := rfl
def ref06_Read_r3 : List POper := [
  ⟨some 25, .mov (.tmp 8), none⟩,
  ⟨some 4, .mov (.cst .nils), none⟩,
  ⟨some 5, .mov (.cst (.int .i64 0)), none⟩,
  ⟨some 6, .mov (.tmp 25), none⟩]
@[simp] theorem ref06_Read_r3_go (T : Tbl) (K : List Kt) (fr : Fr) (S : St) : gval T (.ops ref06_Read_r3 :: K) fr S = gval T (.ops [
  ⟨some 25, .mov (.tmp 8), none⟩,
  ⟨some 4, .mov (.cst .nils), none⟩,
  ⟨some 5, .mov (.cst (.int .i64 0)), none⟩,
  ⟨some 6, .mov (.tmp 25), none⟩] :: K) fr S := rfl
def ref06_Read_r4 : List POper := [
  ⟨some 26, .mov (.tmp 7), none⟩,
  ⟨some 27, .arith .gtr (.tmp 26) (.cst (.int .i64 8)), none⟩]
@[simp] theorem ref06_Read_r4_go (T : Tbl) (K : List Kt) (fr : Fr) (S : St) : gval T (.ops ref06_Read_r4 :: K) fr S = gval T (.ops [
  ⟨some 26, .mov (.tmp 7), none⟩,
  ⟨some 27, .arith .gtr (.tmp 26) (.cst (.int .i64 8)), none⟩] :: K) fr S := rfl
def ref06_Read_r5 : List POper := [
  ⟨some 4, .mov (.cst .nils), none⟩,
  ⟨some 5, .mov (.cst (.int .i64 0)), none⟩,
  ⟨some 6, .mov (.cst (.int .i64 3)), none⟩]
@[simp] theorem ref06_Read_r5_go (T : Tbl) (K : List Kt) (fr : Fr) (S : St) : gval T (.ops ref06_Read_r5 :: K) fr S = gval T (.ops [
  ⟨some 4, .mov (.cst .nils), none⟩,
  ⟨some 5, .mov (.cst (.int .i64 0)), none⟩,
  ⟨some 6, .mov (.cst (.int .i64 3)), none⟩] :: K) fr S := rfl
def ref06_Read_r6 : List POper := [
  ⟨some 9, .mov (.cst .nils), none⟩]
@[simp] theorem ref06_Read_r6_go (T : Tbl) (K : List Kt) (fr : Fr) (S : St) : gval T (.ops ref06_Read_r6 :: K) fr S = gval T (.ops [
  ⟨some 9, .mov (.cst .nils), none⟩] :: K) fr S := rfl
def ref06_Read_r7 : List POper := [
  ⟨some 10, .mov (.cst (.int .i64 0)), none⟩]
@[simp] theorem ref06_Read_r7_go (T : Tbl) (K : List Kt) (fr : Fr) (S : St) : gval T (.ops ref06_Read_r7 :: K) fr S = gval T (.ops [
  ⟨some 10, .mov (.cst (.int .i64 0)), none⟩] :: K) fr S := rfl
def ref06_Read_r8 : List POper := [
  ⟨some 28, .mov (.tmp 10), none⟩,
  ⟨some 29, .mov (.tmp 7), none⟩,
  ⟨some 30, .arith .lss (.tmp 28) (.tmp 29), none⟩]
@[simp] theorem ref06_Read_r8_go (T : Tbl) (K : List Kt) (fr : Fr) (S : St) : gval T (.ops ref06_Read_r8 :: K) fr S = gval T (.ops [
  ⟨some 28, .mov (.tmp 10), none⟩,
  ⟨some 29, .mov (.tmp 7), none⟩,
  ⟨some 30, .arith .lss (.tmp 28) (.tmp 29), none⟩] :: K) fr S := rfl
def ref06_Read_r10 : List POper := [
  ⟨some 34, .mov (.tmp 0), none⟩,
  ⟨some 35, .mov (.tmp 1), none⟩,
  ⟨some 36, .call .std 113 [(.tmp 34), (.tmp 35)], none⟩,
  ⟨some 33, .mov (.tmp 36), none⟩,
  ⟨some 37, .extract 0 (.tmp 33), none⟩,
  ⟨some 38, .extract 1 (.tmp 33), none⟩,
  ⟨some 39, .extract 2 (.tmp 33), none⟩,
  ⟨some 11, .mov (.tmp 37), none⟩,
  ⟨some 12, .mov (.tmp 38), none⟩,
  ⟨some 13, .mov (.tmp 39), none⟩]
@[simp] theorem ref06_Read_r10_go (T : Tbl) (K : List Kt) (fr : Fr) (S : St) : gval T (.ops ref06_Read_r10 :: K) fr S = gval T (.ops [
  ⟨some 34, .mov (.tmp 0), none⟩,
  ⟨some 35, .mov (.tmp 1), none⟩,
  ⟨some 36, .call .std 113 [(.tmp 34), (.tmp 35)], none⟩,
  ⟨some 33, .mov (.tmp 36), none⟩,
  ⟨some 37, .extract 0 (.tmp 33), none⟩,
  ⟨some 38, .extract 1 (.tmp 33), none⟩,
  ⟨some 39, .extract 2 (.tmp 33), none⟩,
  ⟨some 11, .mov (.tmp 37), none⟩,
  ⟨some 12, .mov (.tmp 38), none⟩,
  ⟨some 13, .mov (.tmp 39), none⟩] :: K) fr S := rfl
def ref06_Read_r11 : List POper := [
  ⟨some 40, .mov (.tmp 13), none⟩,
  ⟨some 41, .arith .neq (.tmp 40) (.cst (.int .i64 0)), none⟩]
@[simp] theorem ref06_Read_r11_go (T : Tbl) (K : List Kt) (fr : Fr) (S : St) : gval T (.ops ref06_Read_r11 :: K) fr S = gval T (.ops [
  ⟨some 40, .mov (.tmp 13), none⟩,
  ⟨some 41, .arith .neq (.tmp 40) (.cst (.int .i64 0)), none⟩] :: K) fr S := rfl
def ref06_Read_r12 : List POper := [
  ⟨some 42, .mov (.tmp 13), none⟩,
  ⟨some 4, .mov (.cst .nils), none⟩,
  ⟨some 5, .mov (.cst (.int .i64 0)), none⟩,
  ⟨some 6, .mov (.tmp 42), none⟩]
@[simp] theorem ref06_Read_r12_go (T : Tbl) (K : List Kt) (fr : Fr) (S : St) : gval T (.ops ref06_Read_r12 :: K) fr S = gval T (.ops [
  ⟨some 42, .mov (.tmp 13), none⟩,
  ⟨some 4, .mov (.cst .nils), none⟩,
  ⟨some 5, .mov (.cst (.int .i64 0)), none⟩,
  ⟨some 6, .mov (.tmp 42), none⟩] :: K) fr S := rfl
def ref06_Read_r13 : List POper := [
  ⟨some 44, .mov (.tmp 0), none⟩,
  ⟨some 45, .mov (.tmp 12), none⟩,
  ⟨some 46, .call .std 113 [(.tmp 44), (.tmp 45)], none⟩,
  ⟨some 43, .mov (.tmp 46), none⟩,
  ⟨some 47, .extract 0 (.tmp 43), none⟩,
  ⟨some 48, .extract 1 (.tmp 43), none⟩,
  ⟨some 49, .extract 2 (.tmp 43), none⟩,
  ⟨some 14, .mov (.tmp 47), none⟩,
  ⟨some 15, .mov (.tmp 48), none⟩,
  ⟨some 13, .mov (.tmp 49), none⟩]
@[simp] theorem ref06_Read_r13_go (T : Tbl) (K : List Kt) (fr : Fr) (S : St) : gval T (.ops ref06_Read_r13 :: K) fr S = gval T (.ops [
  ⟨some 44, .mov (.tmp 0), none⟩,
  ⟨some 45, .mov (.tmp 12), none⟩,
  ⟨some 46, .call .std 113 [(.tmp 44), (.tmp 45)], none⟩,
  ⟨some 43, .mov (.tmp 46), none⟩,
  ⟨some 47, .extract 0 (.tmp 43), none⟩,
  ⟨some 48, .extract 1 (.tmp 43), none⟩,
  ⟨some 49, .extract 2 (.tmp 43), none⟩,
  ⟨some 14, .mov (.tmp 47), none⟩,
  ⟨some 15, .mov (.tmp 48), none⟩,
  ⟨some 13, .mov (.tmp 49), none⟩] :: K) fr S := rfl
def ref06_Read_r14 : List POper := [
  ⟨some 50, .mov (.tmp 13), none⟩,
  ⟨some 51, .arith .neq (.tmp 50) (.cst (.int .i64 0)), none⟩]
@[simp] theorem ref06_Read_r14_go (T : Tbl) (K : List Kt) (fr : Fr) (S : St) : gval T (.ops ref06_Read_r14 :: K) fr S = gval T (.ops [
  ⟨some 50, .mov (.tmp 13), none⟩,
  ⟨some 51, .arith .neq (.tmp 50) (.cst (.int .i64 0)), none⟩] :: K) fr S := rfl
def ref06_Read_r15 : List POper := [
  ⟨some 52, .mov (.tmp 13), none⟩,
  ⟨some 4, .mov (.cst .nils), none⟩,
  ⟨some 5, .mov (.cst (.int .i64 0)), none⟩,
  ⟨some 6, .mov (.tmp 52), none⟩]
@[simp] theorem ref06_Read_r15_go (T : Tbl) (K : List Kt) (fr : Fr) (S : St) : gval T (.ops ref06_Read_r15 :: K) fr S = gval T (.ops [
  ⟨some 52, .mov (.tmp 13), none⟩,
  ⟨some 4, .mov (.cst .nils), none⟩,
  ⟨some 5, .mov (.cst (.int .i64 0)), none⟩,
  ⟨some 6, .mov (.tmp 52), none⟩] :: K) fr S := rfl
def ref06_Read_r16 : List POper := [
  ⟨some 53, .mov (.tmp 9), none⟩,
  ⟨some 54, .mov (.tmp 11), none⟩,
  ⟨some 55, .mov (.tmp 14), none⟩,
  ⟨some 56, .build [(.str []), (.str [])] [(0, 1, (.tmp 54)), (1, 1, (.tmp 55))], none⟩,
  ⟨some 57, .bsl false (.agg [(.str []), (.str [])]) 1 [(0, (.tmp 56))], none⟩,
  ⟨some 58, .app 2 32 (.tmp 53) (.tmp 57), none⟩,
  ⟨some 9, .mov (.tmp 58), none⟩]
@[simp] theorem ref06_Read_r16_go (T : Tbl) (K : List Kt) (fr : Fr) (S : St) : gval T (.ops ref06_Read_r16 :: K) fr S = gval T (.ops [
  ⟨some 53, .mov (.tmp 9), none⟩,
  ⟨some 54, .mov (.tmp 11), none⟩,
  ⟨some 55, .mov (.tmp 14), none⟩,
  ⟨some 56, .build [(.str []), (.str [])] [(0, 1, (.tmp 54)), (1, 1, (.tmp 55))], none⟩,
  ⟨some 57, .bsl false (.agg [(.str []), (.str [])]) 1 [(0, (.tmp 56))], none⟩,
  ⟨some 58, .app 2 32 (.tmp 53) (.tmp 57), none⟩,
  ⟨some 9, .mov (.tmp 58), none⟩] :: K) fr S := rfl
def ref06_Read_r17 : List POper := [
  ⟨some 59, .mov (.tmp 15), none⟩,
  ⟨some 1, .mov (.tmp 59), none⟩]
@[simp] theorem ref06_Read_r17_go (T : Tbl) (K : List Kt) (fr : Fr) (S : St) : gval T (.ops ref06_Read_r17 :: K) fr S = gval T (.ops [
  ⟨some 59, .mov (.tmp 15), none⟩,
  ⟨some 1, .mov (.tmp 59), none⟩] :: K) fr S := rfl
def ref06_Read_r9 : List POper := [
  ⟨some 31, .mov (.tmp 10), none⟩,
  ⟨some 32, .arith .add (.tmp 31) (.cst (.int .i64 1)), none⟩,
  ⟨some 10, .mov (.tmp 32), none⟩]
@[simp] theorem ref06_Read_r9_go (T : Tbl) (K : List Kt) (fr : Fr) (S : St) : gval T (.ops ref06_Read_r9 :: K) fr S = gval T (.ops [
  ⟨some 31, .mov (.tmp 10), none⟩,
  ⟨some 32, .arith .add (.tmp 31) (.cst (.int .i64 1)), none⟩,
  ⟨some 10, .mov (.tmp 32), none⟩] :: K) fr S := rfl
def ref06_Read_l0 : PCode :=
  (.seq (.seq (.clr [(28, 30)] (.region ref06_Read_r8)) (.cond (.tmp 30) .skip (.exit 0))) (.seq (.block 1 (.seq (.clr [(33, 40)] (.region ref06_Read_r10)) (.seq (.seq (.clr [(40, 41)] (.region ref06_Read_r11)) (.cond (.tmp 41) (.seq (.clr [(42, 43)] (.region ref06_Read_r12)) .ret) .skip)) (.seq (.clr [(43, 50)] (.region ref06_Read_r13)) (.seq (.seq (.clr [(50, 51)] (.region ref06_Read_r14)) (.cond (.tmp 51) (.seq (.clr [(52, 53)] (.region ref06_Read_r15)) .ret) .skip)) (.seq (.clr [(53, 59)] (.region ref06_Read_r16)) (.clr [(59, 60)] (.region ref06_Read_r17)))))))) (.clr [(31, 33)] (.region ref06_Read_r9))))
@[simp] theorem ref06_Read_l0_go (T : Tbl) (K : List Kt) (fr : Fr) (S : St) : gval T (.code ref06_Read_l0 :: K) fr S = gval T (.code (.seq (.seq (.clr [(28, 30)] (.region ref06_Read_r8)) (.cond (.tmp 30) .skip (.exit 0))) (.seq (.block 1 (.seq (.clr [(33, 40)] (.region ref06_Read_r10)) (.seq (.seq (.clr [(40, 41)] (.region ref06_Read_r11)) (.cond (.tmp 41) (.seq (.clr [(42, 43)] (.region ref06_Read_r12)) .ret) .skip)) (.seq (.clr [(43, 50)] (.region ref06_Read_r13)) (.seq (.seq (.clr [(50, 51)] (.region ref06_Read_r14)) (.cond (.tmp 51) (.seq (.clr [(52, 53)] (.region ref06_Read_r15)) .ret) .skip)) (.seq (.clr [(53, 59)] (.region ref06_Read_r16)) (.clr [(59, 60)] (.region ref06_Read_r17)))))))) (.clr [(31, 33)] (.region ref06_Read_r9)))) :: K) fr S := rfl
def ref06_Read_r18 : List POper := [
  ⟨some 60, .mov (.tmp 9), none⟩,
  ⟨some 61, .call .std 98 [(.tmp 60)], none⟩,
  ⟨some 62, .arith .neq (.tmp 61) (.cst (.int .i64 0)), none⟩]
@[simp] theorem ref06_Read_r18_go (T : Tbl) (K : List Kt) (fr : Fr) (S : St) : gval T (.ops ref06_Read_r18 :: K) fr S = gval T (.ops [
  ⟨some 60, .mov (.tmp 9), none⟩,
  ⟨some 61, .call .std 98 [(.tmp 60)], none⟩,
  ⟨some 62, .arith .neq (.tmp 61) (.cst (.int .i64 0)), none⟩] :: K) fr S := rfl
def ref06_Read_r19 : List POper := [
  ⟨some 4, .mov (.cst .nils), none⟩,
  ⟨some 5, .mov (.cst (.int .i64 0)), none⟩,
  ⟨some 6, .mov (.cst (.int .i64 5)), none⟩]
@[simp] theorem ref06_Read_r19_go (T : Tbl) (K : List Kt) (fr : Fr) (S : St) : gval T (.ops ref06_Read_r19 :: K) fr S = gval T (.ops [
  ⟨some 4, .mov (.cst .nils), none⟩,
  ⟨some 5, .mov (.cst (.int .i64 0)), none⟩,
  ⟨some 6, .mov (.cst (.int .i64 5)), none⟩] :: K) fr S := rfl
def ref06_Read_r20 : List POper := [
  ⟨some 63, .mov (.tmp 9), none⟩,
  ⟨some 64, .mov (.tmp 1), none⟩,
  ⟨some 4, .mov (.tmp 63), none⟩,
  ⟨some 5, .mov (.tmp 64), none⟩,
  ⟨some 6, .mov (.cst (.int .i64 0)), none⟩]
@[simp] theorem ref06_Read_r20_go (T : Tbl) (K : List Kt) (fr : Fr) (S : St) : gval T (.ops ref06_Read_r20 :: K) fr S = gval T (.ops [
  ⟨some 63, .mov (.tmp 9), none⟩,
  ⟨some 64, .mov (.tmp 1), none⟩,
  ⟨some 4, .mov (.tmp 63), none⟩,
  ⟨some 5, .mov (.tmp 64), none⟩,
  ⟨some 6, .mov (.cst (.int .i64 0)), none⟩] :: K) fr S := rfl
def ref06_Read : PCodeFn :=
  ⟨2, [.tmp 4, .tmp 5, .tmp 6],
  (.seq (.region ref06_Read_r0) (.seq (.clr [(16, 23)] (.region ref06_Read_r1)) (.seq (.seq (.clr [(23, 24)] (.region ref06_Read_r2)) (.cond (.tmp 24) (.seq (.clr [(25, 26)] (.region ref06_Read_r3)) .ret) .skip)) (.seq (.seq (.clr [(26, 27)] (.region ref06_Read_r4)) (.cond (.tmp 27) (.seq (.region ref06_Read_r5) .ret) .skip)) (.seq (.region ref06_Read_r6) (.seq (.seq (.region ref06_Read_r7) (.block 0 (.loop ref06_Read_l0))) (.seq (.seq (.clr [(60, 62)] (.region ref06_Read_r18)) (.cond (.tmp 62) (.seq (.region ref06_Read_r19) .ret) .skip)) (.seq (.clr [(63, 65)] (.region ref06_Read_r20)) .ret)))))))), false⟩

/-! strings.CutPrefix: 94 -/
def strings_CutPrefix_r0 : List POper := [
  ⟨some 4, .mov (.cst (.str [])), none⟩,
  ⟨some 5, .mov (.cst (.bool false)), none⟩]
@[simp] theorem strings_CutPrefix_r0_go (T : Tbl) (K : List Kt) (fr : Fr) (S : St) : gval T (.ops strings_CutPrefix_r0 :: K) fr S = gval T (.ops [
  ⟨some 4, .mov (.cst (.str [])), none⟩,
  ⟨some 5, .mov (.cst (.bool false)), none⟩] :: K) fr S := rfl
def strings_CutPrefix_r1 : List POper := [
  ⟨some 6, .mov (.tmp 0), none⟩,
  ⟨some 7, .mov (.tmp 1), none⟩,
  ⟨some 8, .call .pur 208 [(.tmp 6), (.tmp 7)], none⟩,
  ⟨some 9, .extract 0 (.tmp 8), none⟩,
  ⟨some 10, .extract 1 (.tmp 8), none⟩,
  ⟨some 4, .mov (.tmp 9), none⟩,
  ⟨some 5, .mov (.tmp 10), none⟩]
@[simp] theorem strings_CutPrefix_r1_go (T : Tbl) (K : List Kt) (fr : Fr) (S : St) : gval T (.ops strings_CutPrefix_r1 :: K) fr S = gval T (.ops [
  ⟨some 6, .mov (.tmp 0), none⟩,
  ⟨some 7, .mov (.tmp 1), none⟩,
  ⟨some 8, .call .pur 208 [(.tmp 6), (.tmp 7)], none⟩,
  ⟨some 9, .extract 0 (.tmp 8), none⟩,
  ⟨some 10, .extract 1 (.tmp 8), none⟩,
  ⟨some 4, .mov (.tmp 9), none⟩,
  ⟨some 5, .mov (.tmp 10), none⟩] :: K) fr S := rfl
def strings_CutPrefix : PCodeFn :=
  ⟨2, [.tmp 4, .tmp 5],
  (.seq (.region strings_CutPrefix_r0) (.seq (.clr [(6, 11)] (.region strings_CutPrefix_r1)) .ret)), false⟩

/-! strings.Cut: 95 -/
def strings_Cut_r0 : List POper := [
  ⟨some 4, .mov (.cst (.str [])), none⟩,
  ⟨some 5, .mov (.cst (.str [])), none⟩,
  ⟨some 6, .mov (.cst (.bool false)), none⟩]
@[simp] theorem strings_Cut_r0_go (T : Tbl) (K : List Kt) (fr : Fr) (S : St) : gval T (.ops strings_Cut_r0 :: K) fr S = gval T (.ops [
  ⟨some 4, .mov (.cst (.str [])), none⟩,
  ⟨some 5, .mov (.cst (.str [])), none⟩,
  ⟨some 6, .mov (.cst (.bool false)), none⟩] :: K) fr S := rfl
def strings_Cut_r1 : List POper := [
  ⟨some 7, .mov (.tmp 0), none⟩,
  ⟨some 8, .mov (.tmp 1), none⟩,
  ⟨some 9, .call .pur 209 [(.tmp 7), (.tmp 8)], none⟩,
  ⟨some 10, .extract 0 (.tmp 9), none⟩,
  ⟨some 11, .extract 1 (.tmp 9), none⟩,
  ⟨some 12, .extract 2 (.tmp 9), none⟩,
  ⟨some 4, .mov (.tmp 10), none⟩,
  ⟨some 5, .mov (.tmp 11), none⟩,
  ⟨some 6, .mov (.tmp 12), none⟩]
@[simp] theorem strings_Cut_r1_go (T : Tbl) (K : List Kt) (fr : Fr) (S : St) : gval T (.ops strings_Cut_r1 :: K) fr S = gval T (.ops [
  ⟨some 7, .mov (.tmp 0), none⟩,
  ⟨some 8, .mov (.tmp 1), none⟩,
  ⟨some 9, .call .pur 209 [(.tmp 7), (.tmp 8)], none⟩,
  ⟨some 10, .extract 0 (.tmp 9), none⟩,
  ⟨some 11, .extract 1 (.tmp 9), none⟩,
  ⟨some 12, .extract 2 (.tmp 9), none⟩,
  ⟨some 4, .mov (.tmp 10), none⟩,
  ⟨some 5, .mov (.tmp 11), none⟩,
  ⟨some 6, .mov (.tmp 12), none⟩] :: K) fr S := rfl
def strings_Cut : PCodeFn :=
  ⟨2, [.tmp 4, .tmp 5, .tmp 6],
  (.seq (.region strings_Cut_r0) (.seq (.clr [(7, 13)] (.region strings_Cut_r1)) .ret)), false⟩

/-! gauge/label.value: 96 -/
def label_value_r0 : List POper := [
  ⟨some 2, .mov (.cst (.str [])), none⟩,
  ⟨some 3, .mov (.cst (.str [])), none⟩,
  ⟨some 4, .mov (.cst (.bool false)), none⟩]
@[simp] theorem label_value_r0_go (T : Tbl) (K : List Kt) (fr : Fr) (S : St) : gval T (.ops label_value_r0 :: K) fr S = gval T (.ops [
  ⟨some 2, .mov (.cst (.str [])), none⟩,
  ⟨some 3, .mov (.cst (.str [])), none⟩,
  ⟨some 4, .mov (.cst (.bool false)), none⟩] :: K) fr S := rfl
def label_value_r1 : List POper := [
  ⟨some 12, .mov (.tmp 0), none⟩,
  ⟨some 13, .call .pur 94 [(.tmp 12), (.cst (.str [34]))], none⟩,
  ⟨some 11, .mov (.tmp 13), none⟩,
  ⟨some 14, .extract 0 (.tmp 11), none⟩,
  ⟨some 15, .extract 1 (.tmp 11), none⟩,
  ⟨some 5, .mov (.tmp 14), none⟩,
  ⟨some 6, .mov (.tmp 15), none⟩]
@[simp] theorem label_value_r1_go (T : Tbl) (K : List Kt) (fr : Fr) (S : St) : gval T (.ops label_value_r1 :: K) fr S = gval T (.ops [
  ⟨some 12, .mov (.tmp 0), none⟩,
  ⟨some 13, .call .pur 94 [(.tmp 12), (.cst (.str [34]))], none⟩,
  ⟨some 11, .mov (.tmp 13), none⟩,
  ⟨some 14, .extract 0 (.tmp 11), none⟩,
  ⟨some 15, .extract 1 (.tmp 11), none⟩,
  ⟨some 5, .mov (.tmp 14), none⟩,
  ⟨some 6, .mov (.tmp 15), none⟩] :: K) fr S := rfl
def label_value_r2 : List POper := [
  ⟨some 7, .mov (.cst .nils), none⟩]
@[simp] theorem label_value_r2_go (T : Tbl) (K : List Kt) (fr : Fr) (S : St) : gval T (.ops label_value_r2 :: K) fr S = gval T (.ops [
  ⟨some 7, .mov (.cst .nils), none⟩] :: K) fr S := rfl
def label_value_r3 : List POper := [
  ⟨some 16, .mov (.tmp 6), none⟩,
  ⟨some 17, .mov (.tmp 16), none⟩,
  ⟨some 18, .mov (.tmp 5), some (17, true)⟩,
  ⟨some 19, .arith .neq (.tmp 18) (.cst (.str [])), some (17, true)⟩,
  ⟨some 20, .pick (.tmp 17) (.tmp 19) (.cst (.bool false)), none⟩,
  ⟨some 21, .mov (.tmp 20), none⟩,
  ⟨some 22, .mov (.tmp 5), some (21, true)⟩,
  ⟨some 23, .idxs (.tmp 22) (.cst (.int .i64 0)), some (21, true)⟩,
  ⟨some 24, .arith .neq (.tmp 23) (.cst (.int .u8 34)), some (21, true)⟩,
  ⟨some 25, .pick (.tmp 21) (.tmp 24) (.cst (.bool false)), none⟩]
@[simp] theorem label_value_r3_go (T : Tbl) (K : List Kt) (fr : Fr) (S : St) : gval T (.ops label_value_r3 :: K) fr S = gval T (.ops [
  ⟨some 16, .mov (.tmp 6), none⟩,
  ⟨some 17, .mov (.tmp 16), none⟩,
  ⟨some 18, .mov (.tmp 5), some (17, true)⟩,
  ⟨some 19, .arith .neq (.tmp 18) (.cst (.str [])), some (17, true)⟩,
  ⟨some 20, .pick (.tmp 17) (.tmp 19) (.cst (.bool false)), none⟩,
  ⟨some 21, .mov (.tmp 20), none⟩,
  ⟨some 22, .mov (.tmp 5), some (21, true)⟩,
  ⟨some 23, .idxs (.tmp 22) (.cst (.int .i64 0)), some (21, true)⟩,
  ⟨some 24, .arith .neq (.tmp 23) (.cst (.int .u8 34)), some (21, true)⟩,
  ⟨some 25, .pick (.tmp 21) (.tmp 24) (.cst (.bool false)), none⟩] :: K) fr S := rfl
def label_value_r4 : List POper := [
  ⟨some 8, .mov (.cst (.int .i64 1)), none⟩]
@[simp] theorem label_value_r4_go (T : Tbl) (K : List Kt) (fr : Fr) (S : St) : gval T (.ops label_value_r4 :: K) fr S = gval T (.ops [
  ⟨some 8, .mov (.cst (.int .i64 1)), none⟩] :: K) fr S := rfl
def label_value_r5 : List POper := [
  ⟨some 26, .mov (.tmp 5), none⟩,
  ⟨some 27, .idxs (.tmp 26) (.cst (.int .i64 0)), none⟩,
  ⟨some 28, .arith .eql (.tmp 27) (.cst (.int .u8 92)), none⟩]
@[simp] theorem label_value_r5_go (T : Tbl) (K : List Kt) (fr : Fr) (S : St) : gval T (.ops label_value_r5 :: K) fr S = gval T (.ops [
  ⟨some 26, .mov (.tmp 5), none⟩,
  ⟨some 27, .idxs (.tmp 26) (.cst (.int .i64 0)), none⟩,
  ⟨some 28, .arith .eql (.tmp 27) (.cst (.int .u8 92)), none⟩] :: K) fr S := rfl
def label_value_r6 : List POper := [
  ⟨some 8, .mov (.cst (.int .i64 2)), none⟩]
@[simp] theorem label_value_r6_go (T : Tbl) (K : List Kt) (fr : Fr) (S : St) : gval T (.ops label_value_r6 :: K) fr S = gval T (.ops [
  ⟨some 8, .mov (.cst (.int .i64 2)), none⟩] :: K) fr S := rfl
def label_value_r7 : List POper := [
  ⟨some 29, .mov (.tmp 5), none⟩,
  ⟨some 30, .call .pur 210 [(.tmp 29), (.cst (.str [92, 120]))], none⟩]
@[simp] theorem label_value_r7_go (T : Tbl) (K : List Kt) (fr : Fr) (S : St) : gval T (.ops label_value_r7 :: K) fr S = gval T (.ops [
  ⟨some 29, .mov (.tmp 5), none⟩,
  ⟨some 30, .call .pur 210 [(.tmp 29), (.cst (.str [92, 120]))], none⟩] :: K) fr S := rfl
def label_value_r8 : List POper := [
  ⟨some 8, .mov (.cst (.int .i64 4)), none⟩]
@[simp] theorem label_value_r8_go (T : Tbl) (K : List Kt) (fr : Fr) (S : St) : gval T (.ops label_value_r8 :: K) fr S = gval T (.ops [
  ⟨some 8, .mov (.cst (.int .i64 4)), none⟩] :: K) fr S := rfl
def label_value_r9 : List POper := [
  ⟨some 31, .mov (.tmp 5), none⟩,
  ⟨some 32, .len true (.tmp 31), none⟩,
  ⟨some 33, .mov (.tmp 8), none⟩,
  ⟨some 34, .arith .lss (.tmp 32) (.tmp 33), none⟩]
@[simp] theorem label_value_r9_go (T : Tbl) (K : List Kt) (fr : Fr) (S : St) : gval T (.ops label_value_r9 :: K) fr S = gval T (.ops [
  ⟨some 31, .mov (.tmp 5), none⟩,
  ⟨some 32, .len true (.tmp 31), none⟩,
  ⟨some 33, .mov (.tmp 8), none⟩,
  ⟨some 34, .arith .lss (.tmp 32) (.tmp 33), none⟩] :: K) fr S := rfl
def label_value_r10 : List POper := [
  ⟨some 2, .mov (.cst (.str [])), none⟩,
  ⟨some 3, .mov (.cst (.str [])), none⟩,
  ⟨some 4, .mov (.cst (.bool false)), none⟩]
@[simp] theorem label_value_r10_go (T : Tbl) (K : List Kt) (fr : Fr) (S : St) : gval T (.ops label_value_r10 :: K) fr S = gval T (.ops [
  ⟨some 2, .mov (.cst (.str [])), none⟩,
  ⟨some 3, .mov (.cst (.str [])), none⟩,
  ⟨some 4, .mov (.cst (.bool false)), none⟩] :: K) fr S := rfl
def label_value_r11 : List POper := [
  ⟨some 35, .mov (.tmp 8), none⟩]
@[simp] theorem label_value_r11_go (T : Tbl) (K : List Kt) (fr : Fr) (S : St) : gval T (.ops label_value_r11 :: K) fr S = gval T (.ops [
  ⟨some 35, .mov (.tmp 8), none⟩] :: K) fr S := rfl
def label_value_r13 : List POper := [
  ⟨some 44, .arith .eql (.tmp 35) (.cst (.int .i64 4)), none⟩,
  ⟨some 43, .mov (.tmp 44), none⟩]
@[simp] theorem label_value_r13_go (T : Tbl) (K : List Kt) (fr : Fr) (S : St) : gval T (.ops label_value_r13 :: K) fr S = gval T (.ops [
  ⟨some 44, .arith .eql (.tmp 35) (.cst (.int .i64 4)), none⟩,
  ⟨some 43, .mov (.tmp 44), none⟩] :: K) fr S := rfl
def label_value_r14 : List POper := [
  ⟨some 45, .mov (.tmp 5), none⟩,
  ⟨some 46, .idxs (.tmp 45) (.cst (.int .i64 2)), none⟩,
  ⟨some 47, .call .pur 211 [(.cst (.str [48, 49, 50, 51, 52, 53, 54, 55, 56, 57, 97, 98, 99, 100, 101, 102])), (.tmp 46)], none⟩,
  ⟨some 48, .mov (.tmp 5), none⟩,
  ⟨some 49, .idxs (.tmp 48) (.cst (.int .i64 3)), none⟩,
  ⟨some 50, .call .pur 211 [(.cst (.str [48, 49, 50, 51, 52, 53, 54, 55, 56, 57, 97, 98, 99, 100, 101, 102])), (.tmp 49)], none⟩,
  ⟨some 9, .mov (.tmp 47), none⟩,
  ⟨some 10, .mov (.tmp 50), none⟩]
@[simp] theorem label_value_r14_go (T : Tbl) (K : List Kt) (fr : Fr) (S : St) : gval T (.ops label_value_r14 :: K) fr S = gval T (.ops [
  ⟨some 45, .mov (.tmp 5), none⟩,
  ⟨some 46, .idxs (.tmp 45) (.cst (.int .i64 2)), none⟩,
  ⟨some 47, .call .pur 211 [(.cst (.str [48, 49, 50, 51, 52, 53, 54, 55, 56, 57, 97, 98, 99, 100, 101, 102])), (.tmp 46)], none⟩,
  ⟨some 48, .mov (.tmp 5), none⟩,
  ⟨some 49, .idxs (.tmp 48) (.cst (.int .i64 3)), none⟩,
  ⟨some 50, .call .pur 211 [(.cst (.str [48, 49, 50, 51, 52, 53, 54, 55, 56, 57, 97, 98, 99, 100, 101, 102])), (.tmp 49)], none⟩,
  ⟨some 9, .mov (.tmp 47), none⟩,
  ⟨some 10, .mov (.tmp 50), none⟩] :: K) fr S := rfl
def label_value_r15 : List POper := [
  ⟨some 51, .mov (.tmp 9), none⟩,
  ⟨some 52, .arith .lss (.tmp 51) (.cst (.int .i64 0)), none⟩,
  ⟨some 53, .mov (.tmp 52), none⟩,
  ⟨some 54, .mov (.tmp 10), some (53, false)⟩,
  ⟨some 55, .arith .lss (.tmp 54) (.cst (.int .i64 0)), some (53, false)⟩,
  ⟨some 56, .pick (.tmp 53) (.cst (.bool true)) (.tmp 55), none⟩]
@[simp] theorem label_value_r15_go (T : Tbl) (K : List Kt) (fr : Fr) (S : St) : gval T (.ops label_value_r15 :: K) fr S = gval T (.ops [
  ⟨some 51, .mov (.tmp 9), none⟩,
  ⟨some 52, .arith .lss (.tmp 51) (.cst (.int .i64 0)), none⟩,
  ⟨some 53, .mov (.tmp 52), none⟩,
  ⟨some 54, .mov (.tmp 10), some (53, false)⟩,
  ⟨some 55, .arith .lss (.tmp 54) (.cst (.int .i64 0)), some (53, false)⟩,
  ⟨some 56, .pick (.tmp 53) (.cst (.bool true)) (.tmp 55), none⟩] :: K) fr S := rfl
def label_value_r16 : List POper := [
  ⟨some 2, .mov (.cst (.str [])), none⟩,
  ⟨some 3, .mov (.cst (.str [])), none⟩,
  ⟨some 4, .mov (.cst (.bool false)), none⟩]
@[simp] theorem label_value_r16_go (T : Tbl) (K : List Kt) (fr : Fr) (S : St) : gval T (.ops label_value_r16 :: K) fr S = gval T (.ops [
  ⟨some 2, .mov (.cst (.str [])), none⟩,
  ⟨some 3, .mov (.cst (.str [])), none⟩,
  ⟨some 4, .mov (.cst (.bool false)), none⟩] :: K) fr S := rfl
def label_value_r17 : List POper := [
  ⟨some 57, .mov (.tmp 7), none⟩,
  ⟨some 58, .mov (.tmp 9), none⟩,
  ⟨some 59, .arith .shl (.tmp 58) (.cst (.int .u64 4)), none⟩,
  ⟨some 60, .mov (.tmp 10), none⟩,
  ⟨some 61, .arith .or (.tmp 59) (.tmp 60), none⟩,
  ⟨some 62, .toInt .u8 (.tmp 61), none⟩,
  ⟨some 63, .bsl false (.int .u8 0) 1 [(0, (.tmp 62))], none⟩,
  ⟨some 64, .app 1 1 (.tmp 57) (.tmp 63), none⟩,
  ⟨some 7, .mov (.tmp 64), none⟩]
@[simp] theorem label_value_r17_go (T : Tbl) (K : List Kt) (fr : Fr) (S : St) : gval T (.ops label_value_r17 :: K) fr S = gval T (.ops [
  ⟨some 57, .mov (.tmp 7), none⟩,
  ⟨some 58, .mov (.tmp 9), none⟩,
  ⟨some 59, .arith .shl (.tmp 58) (.cst (.int .u64 4)), none⟩,
  ⟨some 60, .mov (.tmp 10), none⟩,
  ⟨some 61, .arith .or (.tmp 59) (.tmp 60), none⟩,
  ⟨some 62, .toInt .u8 (.tmp 61), none⟩,
  ⟨some 63, .bsl false (.int .u8 0) 1 [(0, (.tmp 62))], none⟩,
  ⟨some 64, .app 1 1 (.tmp 57) (.tmp 63), none⟩,
  ⟨some 7, .mov (.tmp 64), none⟩] :: K) fr S := rfl
def label_value_r12 : List POper := [
  ⟨some 36, .mov (.tmp 7), none⟩,
  ⟨some 37, .mov (.tmp 5), none⟩,
  ⟨some 38, .mov (.tmp 8), none⟩,
  ⟨some 39, .arith .sub (.tmp 38) (.cst (.int .i64 1)), none⟩,
  ⟨some 40, .idxs (.tmp 37) (.tmp 39), none⟩,
  ⟨some 41, .bsl false (.int .u8 0) 1 [(0, (.tmp 40))], none⟩,
  ⟨some 42, .app 1 1 (.tmp 36) (.tmp 41), none⟩,
  ⟨some 7, .mov (.tmp 42), none⟩]
@[simp] theorem label_value_r12_go (T : Tbl) (K : List Kt) (fr : Fr) (S : St) : gval T (.ops label_value_r12 :: K) fr S = gval T (.ops [
  ⟨some 36, .mov (.tmp 7), none⟩,
  ⟨some 37, .mov (.tmp 5), none⟩,
  ⟨some 38, .mov (.tmp 8), none⟩,
  ⟨some 39, .arith .sub (.tmp 38) (.cst (.int .i64 1)), none⟩,
  ⟨some 40, .idxs (.tmp 37) (.tmp 39), none⟩,
  ⟨some 41, .bsl false (.int .u8 0) 1 [(0, (.tmp 40))], none⟩,
  ⟨some 42, .app 1 1 (.tmp 36) (.tmp 41), none⟩,
  ⟨some 7, .mov (.tmp 42), none⟩] :: K) fr S := rfl
def label_value_r18 : List POper := [
  ⟨some 65, .mov (.tmp 5), none⟩,
  ⟨some 66, .mov (.tmp 8), none⟩,
  ⟨some 67, .slcs (some (.tmp 66)) none (.tmp 65), none⟩,
  ⟨some 5, .mov (.tmp 67), none⟩]
@[simp] theorem label_value_r18_go (T : Tbl) (K : List Kt) (fr : Fr) (S : St) : gval T (.ops label_value_r18 :: K) fr S = gval T (.ops [
  ⟨some 65, .mov (.tmp 5), none⟩,
  ⟨some 66, .mov (.tmp 8), none⟩,
  ⟨some 67, .slcs (some (.tmp 66)) none (.tmp 65), none⟩,
  ⟨some 5, .mov (.tmp 67), none⟩] :: K) fr S := rfl
def label_value_l0 : PCode :=
  (.seq (.seq (.clr [(16, 25)] (.region label_value_r3)) (.cond (.tmp 25) .skip (.exit 0))) (.block 1 (.seq (.region label_value_r4) (.seq (.seq (.clr [(26, 28)] (.region label_value_r5)) (.cond (.tmp 28) (.seq (.region label_value_r6) (.seq (.clr [(29, 30)] (.region label_value_r7)) (.cond (.tmp 30) (.region label_value_r8) .skip))) .skip)) (.seq (.seq (.clr [(31, 34)] (.region label_value_r9)) (.cond (.tmp 34) (.seq (.region label_value_r10) .ret) .skip)) (.seq (.seq (.region label_value_r11) (.block 2 (.seq (.clr [(44, 45)] (.region label_value_r13)) (.cond (.tmp 43) (.seq (.clr [(45, 51)] (.region label_value_r14)) (.seq (.seq (.clr [(51, 56)] (.region label_value_r15)) (.cond (.tmp 56) (.seq (.region label_value_r16) .ret) .skip)) (.clr [(57, 65)] (.region label_value_r17)))) (.clr [(36, 43)] (.region label_value_r12)))))) (.clr [(65, 68)] (.region label_value_r18))))))))
@[simp] theorem label_value_l0_go (T : Tbl) (K : List Kt) (fr : Fr) (S : St) : gval T (.code label_value_l0 :: K) fr S = gval T (.code (.seq (.seq (.clr [(16, 25)] (.region label_value_r3)) (.cond (.tmp 25) .skip (.exit 0))) (.block 1 (.seq (.region label_value_r4) (.seq (.seq (.clr [(26, 28)] (.region label_value_r5)) (.cond (.tmp 28) (.seq (.region label_value_r6) (.seq (.clr [(29, 30)] (.region label_value_r7)) (.cond (.tmp 30) (.region label_value_r8) .skip))) .skip)) (.seq (.seq (.clr [(31, 34)] (.region label_value_r9)) (.cond (.tmp 34) (.seq (.region label_value_r10) .ret) .skip)) (.seq (.seq (.region label_value_r11) (.block 2 (.seq (.clr [(44, 45)] (.region label_value_r13)) (.cond (.tmp 43) (.seq (.clr [(45, 51)] (.region label_value_r14)) (.seq (.seq (.clr [(51, 56)] (.region label_value_r15)) (.cond (.tmp 56) (.seq (.region label_value_r16) .ret) .skip)) (.clr [(57, 65)] (.region label_value_r17)))) (.clr [(36, 43)] (.region label_value_r12)))))) (.clr [(65, 68)] (.region label_value_r18)))))))) :: K) fr S := rfl
def label_value_r19 : List POper := [
  ⟨some 68, .mov (.tmp 6), none⟩,
  ⟨some 69, .un .not (.tmp 68), none⟩,
  ⟨some 70, .mov (.tmp 69), none⟩,
  ⟨some 71, .mov (.tmp 5), some (70, false)⟩,
  ⟨some 72, .arith .eql (.tmp 71) (.cst (.str [])), some (70, false)⟩,
  ⟨some 73, .pick (.tmp 70) (.cst (.bool true)) (.tmp 72), none⟩]
@[simp] theorem label_value_r19_go (T : Tbl) (K : List Kt) (fr : Fr) (S : St) : gval T (.ops label_value_r19 :: K) fr S = gval T (.ops [
  ⟨some 68, .mov (.tmp 6), none⟩,
  ⟨some 69, .un .not (.tmp 68), none⟩,
  ⟨some 70, .mov (.tmp 69), none⟩,
  ⟨some 71, .mov (.tmp 5), some (70, false)⟩,
  ⟨some 72, .arith .eql (.tmp 71) (.cst (.str [])), some (70, false)⟩,
  ⟨some 73, .pick (.tmp 70) (.cst (.bool true)) (.tmp 72), none⟩] :: K) fr S := rfl
def label_value_r20 : List POper := [
  ⟨some 2, .mov (.cst (.str [])), none⟩,
  ⟨some 3, .mov (.cst (.str [])), none⟩,
  ⟨some 4, .mov (.cst (.bool false)), none⟩]
@[simp] theorem label_value_r20_go (T : Tbl) (K : List Kt) (fr : Fr) (S : St) : gval T (.ops label_value_r20 :: K) fr S = gval T (.ops [
  ⟨some 2, .mov (.cst (.str [])), none⟩,
  ⟨some 3, .mov (.cst (.str [])), none⟩,
  ⟨some 4, .mov (.cst (.bool false)), none⟩] :: K) fr S := rfl
def label_value_r21 : List POper := [
  ⟨some 74, .mov (.tmp 7), none⟩,
  ⟨some 75, .toStr (.tmp 74), none⟩,
  ⟨some 76, .mov (.tmp 5), none⟩,
  ⟨some 77, .slcs (some (.cst (.int .i64 1))) none (.tmp 76), none⟩,
  ⟨some 2, .mov (.tmp 75), none⟩,
  ⟨some 3, .mov (.tmp 77), none⟩,
  ⟨some 4, .mov (.cst (.bool true)), none⟩]
@[simp] theorem label_value_r21_go (T : Tbl) (K : List Kt) (fr : Fr) (S : St) : gval T (.ops label_value_r21 :: K) fr S = gval T (.ops [
  ⟨some 74, .mov (.tmp 7), none⟩,
  ⟨some 75, .toStr (.tmp 74), none⟩,
  ⟨some 76, .mov (.tmp 5), none⟩,
  ⟨some 77, .slcs (some (.cst (.int .i64 1))) none (.tmp 76), none⟩,
  ⟨some 2, .mov (.tmp 75), none⟩,
  ⟨some 3, .mov (.tmp 77), none⟩,
  ⟨some 4, .mov (.cst (.bool true)), none⟩] :: K) fr S := rfl
def label_value : PCodeFn :=
  ⟨1, [.tmp 2, .tmp 3, .tmp 4],
  (.seq (.region label_value_r0) (.seq (.clr [(11, 16)] (.region label_value_r1)) (.seq (.region label_value_r2) (.seq (.block 0 (.loop label_value_l0)) (.seq (.seq (.clr [(68, 73)] (.region label_value_r19)) (.cond (.tmp 73) (.seq (.region label_value_r20) .ret) .skip)) (.seq (.clr [(74, 78)] (.region label_value_r21)) .ret)))))), false⟩

/-! gauge/gaugeref06.Unquoted: 97 -/
def ref06_Unquoted_r0 : List POper := [
  ⟨some 2, .mov (.cst (.str [])), none⟩,
  ⟨some 3, .mov (.cst (.int .i64 0)), none⟩]
@[simp] theorem ref06_Unquoted_r0_go (T : Tbl) (K : List Kt) (fr : Fr) (S : St) : gval T (.ops ref06_Unquoted_r0 :: K) fr S = gval T (.ops [
  ⟨some 2, .mov (.cst (.str [])), none⟩,
  ⟨some 3, .mov (.cst (.int .i64 0)), none⟩] :: K) fr S := rfl
def ref06_Unquoted_r1 : List POper := [
  ⟨some 7, .mov (.tmp 0), none⟩,
  ⟨some 8, .arith .eql (.tmp 7) (.cst (.str [])), none⟩,
  ⟨some 9, .mov (.tmp 8), none⟩,
  ⟨some 10, .mov (.tmp 0), some (9, false)⟩,
  ⟨some 11, .idxs (.tmp 10) (.cst (.int .i64 0)), some (9, false)⟩,
  ⟨some 12, .arith .neq (.tmp 11) (.cst (.int .u8 34)), some (9, false)⟩,
  ⟨some 13, .pick (.tmp 9) (.cst (.bool true)) (.tmp 12), none⟩]
@[simp] theorem ref06_Unquoted_r1_go (T : Tbl) (K : List Kt) (fr : Fr) (S : St) : gval T (.ops ref06_Unquoted_r1 :: K) fr S = gval T (.ops [
  ⟨some 7, .mov (.tmp 0), none⟩,
  ⟨some 8, .arith .eql (.tmp 7) (.cst (.str [])), none⟩,
  ⟨some 9, .mov (.tmp 8), none⟩,
  ⟨some 10, .mov (.tmp 0), some (9, false)⟩,
  ⟨some 11, .idxs (.tmp 10) (.cst (.int .i64 0)), some (9, false)⟩,
  ⟨some 12, .arith .neq (.tmp 11) (.cst (.int .u8 34)), some (9, false)⟩,
  ⟨some 13, .pick (.tmp 9) (.cst (.bool true)) (.tmp 12), none⟩] :: K) fr S := rfl
def ref06_Unquoted_r2 : List POper := [
  ⟨some 2, .mov (.cst (.str [])), none⟩,
  ⟨some 3, .mov (.cst (.int .i64 0)), none⟩]
@[simp] theorem ref06_Unquoted_r2_go (T : Tbl) (K : List Kt) (fr : Fr) (S : St) : gval T (.ops ref06_Unquoted_r2 :: K) fr S = gval T (.ops [
  ⟨some 2, .mov (.cst (.str [])), none⟩,
  ⟨some 3, .mov (.cst (.int .i64 0)), none⟩] :: K) fr S := rfl
def ref06_Unquoted_r3 : List POper := [
  ⟨some 4, .mov (.cst .nils), none⟩]
@[simp] theorem ref06_Unquoted_r3_go (T : Tbl) (K : List Kt) (fr : Fr) (S : St) : gval T (.ops ref06_Unquoted_r3 :: K) fr S = gval T (.ops [
  ⟨some 4, .mov (.cst .nils), none⟩] :: K) fr S := rfl
def ref06_Unquoted_r4 : List POper := [
  ⟨some 5, .mov (.cst (.int .i64 1)), none⟩]
@[simp] theorem ref06_Unquoted_r4_go (T : Tbl) (K : List Kt) (fr : Fr) (S : St) : gval T (.ops ref06_Unquoted_r4 :: K) fr S = gval T (.ops [
  ⟨some 5, .mov (.cst (.int .i64 1)), none⟩] :: K) fr S := rfl
def ref06_Unquoted_r5 : List POper := [
  ⟨some 14, .mov (.tmp 5), none⟩,
  ⟨some 15, .mov (.tmp 0), none⟩,
  ⟨some 16, .len true (.tmp 15), none⟩,
  ⟨some 17, .arith .lss (.tmp 14) (.tmp 16), none⟩,
  ⟨some 18, .mov (.tmp 17), none⟩,
  ⟨some 19, .mov (.tmp 0), some (18, true)⟩,
  ⟨some 20, .mov (.tmp 5), some (18, true)⟩,
  ⟨some 21, .idxs (.tmp 19) (.tmp 20), some (18, true)⟩,
  ⟨some 22, .arith .neq (.tmp 21) (.cst (.int .u8 34)), some (18, true)⟩,
  ⟨some 23, .pick (.tmp 18) (.tmp 22) (.cst (.bool false)), none⟩]
@[simp] theorem ref06_Unquoted_r5_go (T : Tbl) (K : List Kt) (fr : Fr) (S : St) : gval T (.ops ref06_Unquoted_r5 :: K) fr S = gval T (.ops [
  ⟨some 14, .mov (.tmp 5), none⟩,
  ⟨some 15, .mov (.tmp 0), none⟩,
  ⟨some 16, .len true (.tmp 15), none⟩,
  ⟨some 17, .arith .lss (.tmp 14) (.tmp 16), none⟩,
  ⟨some 18, .mov (.tmp 17), none⟩,
  ⟨some 19, .mov (.tmp 0), some (18, true)⟩,
  ⟨some 20, .mov (.tmp 5), some (18, true)⟩,
  ⟨some 21, .idxs (.tmp 19) (.tmp 20), some (18, true)⟩,
  ⟨some 22, .arith .neq (.tmp 21) (.cst (.int .u8 34)), some (18, true)⟩,
  ⟨some 23, .pick (.tmp 18) (.tmp 22) (.cst (.bool false)), none⟩] :: K) fr S := rfl
def ref06_Unquoted_r6 : List POper := [
  ⟨some 24, .mov (.tmp 0), none⟩,
  ⟨some 25, .mov (.tmp 5), none⟩,
  ⟨some 26, .idxs (.tmp 24) (.tmp 25), none⟩,
  ⟨some 6, .mov (.tmp 26), none⟩]
@[simp] theorem ref06_Unquoted_r6_go (T : Tbl) (K : List Kt) (fr : Fr) (S : St) : gval T (.ops ref06_Unquoted_r6 :: K) fr S = gval T (.ops [
  ⟨some 24, .mov (.tmp 0), none⟩,
  ⟨some 25, .mov (.tmp 5), none⟩,
  ⟨some 26, .idxs (.tmp 24) (.tmp 25), none⟩,
  ⟨some 6, .mov (.tmp 26), none⟩] :: K) fr S := rfl
def ref06_Unquoted_r7 : List POper := [
  ⟨some 27, .mov (.tmp 6), none⟩,
  ⟨some 28, .arith .eql (.tmp 27) (.cst (.int .u8 92)), none⟩,
  ⟨some 29, .mov (.tmp 28), none⟩,
  ⟨some 30, .mov (.tmp 5), some (29, true)⟩,
  ⟨some 31, .arith .add (.tmp 30) (.cst (.int .i64 1)), some (29, true)⟩,
  ⟨some 32, .mov (.tmp 0), some (29, true)⟩,
  ⟨some 33, .len true (.tmp 32), some (29, true)⟩,
  ⟨some 34, .arith .lss (.tmp 31) (.tmp 33), some (29, true)⟩,
  ⟨some 35, .pick (.tmp 29) (.tmp 34) (.cst (.bool false)), none⟩,
  ⟨some 36, .mov (.tmp 35), none⟩,
  ⟨some 37, .mov (.tmp 0), some (36, true)⟩,
  ⟨some 38, .mov (.tmp 5), some (36, true)⟩,
  ⟨some 39, .arith .add (.tmp 38) (.cst (.int .i64 1)), some (36, true)⟩,
  ⟨some 40, .idxs (.tmp 37) (.tmp 39), some (36, true)⟩,
  ⟨some 41, .arith .eql (.tmp 40) (.cst (.int .u8 92)), some (36, true)⟩,
  ⟨some 42, .mov (.tmp 41), some (36, true)⟩,
  ⟨some 43, .mov (.tmp 0), some (42, false)⟩,
  ⟨some 44, .mov (.tmp 5), some (42, false)⟩,
  ⟨some 45, .arith .add (.tmp 44) (.cst (.int .i64 1)), some (42, false)⟩,
  ⟨some 46, .idxs (.tmp 43) (.tmp 45), some (42, false)⟩,
  ⟨some 47, .arith .eql (.tmp 46) (.cst (.int .u8 34)), some (42, false)⟩,
  ⟨some 48, .pick (.tmp 42) (.cst (.bool true)) (.tmp 47), some (36, true)⟩,
  ⟨some 49, .pick (.tmp 36) (.tmp 48) (.cst (.bool false)), none⟩]
@[simp] theorem ref06_Unquoted_r7_go (T : Tbl) (K : List Kt) (fr : Fr) (S : St) : gval T (.ops ref06_Unquoted_r7 :: K) fr S = gval T (.ops [
  ⟨some 27, .mov (.tmp 6), none⟩,
  ⟨some 28, .arith .eql (.tmp 27) (.cst (.int .u8 92)), none⟩,
  ⟨some 29, .mov (.tmp 28), none⟩,
  ⟨some 30, .mov (.tmp 5), some (29, true)⟩,
  ⟨some 31, .arith .add (.tmp 30) (.cst (.int .i64 1)), some (29, true)⟩,
  ⟨some 32, .mov (.tmp 0), some (29, true)⟩,
  ⟨some 33, .len true (.tmp 32), some (29, true)⟩,
  ⟨some 34, .arith .lss (.tmp 31) (.tmp 33), some (29, true)⟩,
  ⟨some 35, .pick (.tmp 29) (.tmp 34) (.cst (.bool false)), none⟩,
  ⟨some 36, .mov (.tmp 35), none⟩,
  ⟨some 37, .mov (.tmp 0), some (36, true)⟩,
  ⟨some 38, .mov (.tmp 5), some (36, true)⟩,
  ⟨some 39, .arith .add (.tmp 38) (.cst (.int .i64 1)), some (36, true)⟩,
  ⟨some 40, .idxs (.tmp 37) (.tmp 39), some (36, true)⟩,
  ⟨some 41, .arith .eql (.tmp 40) (.cst (.int .u8 92)), some (36, true)⟩,
  ⟨some 42, .mov (.tmp 41), some (36, true)⟩,
  ⟨some 43, .mov (.tmp 0), some (42, false)⟩,
  ⟨some 44, .mov (.tmp 5), some (42, false)⟩,
  ⟨some 45, .arith .add (.tmp 44) (.cst (.int .i64 1)), some (42, false)⟩,
  ⟨some 46, .idxs (.tmp 43) (.tmp 45), some (42, false)⟩,
  ⟨some 47, .arith .eql (.tmp 46) (.cst (.int .u8 34)), some (42, false)⟩,
  ⟨some 48, .pick (.tmp 42) (.cst (.bool true)) (.tmp 47), some (36, true)⟩,
  ⟨some 49, .pick (.tmp 36) (.tmp 48) (.cst (.bool false)), none⟩] :: K) fr S := rfl
def ref06_Unquoted_r8 : List POper := [
  ⟨some 50, .mov (.tmp 4), none⟩,
  ⟨some 51, .mov (.tmp 0), none⟩,
  ⟨some 52, .mov (.tmp 5), none⟩,
  ⟨some 53, .arith .add (.tmp 52) (.cst (.int .i64 1)), none⟩,
  ⟨some 54, .idxs (.tmp 51) (.tmp 53), none⟩,
  ⟨some 55, .bsl false (.int .u8 0) 1 [(0, (.tmp 54))], none⟩,
  ⟨some 56, .app 1 1 (.tmp 50) (.tmp 55), none⟩,
  ⟨some 4, .mov (.tmp 56), none⟩]
@[simp] theorem ref06_Unquoted_r8_go (T : Tbl) (K : List Kt) (fr : Fr) (S : St) : gval T (.ops ref06_Unquoted_r8 :: K) fr S = gval T (.ops [
  ⟨some 50, .mov (.tmp 4), none⟩,
  ⟨some 51, .mov (.tmp 0), none⟩,
  ⟨some 52, .mov (.tmp 5), none⟩,
  ⟨some 53, .arith .add (.tmp 52) (.cst (.int .i64 1)), none⟩,
  ⟨some 54, .idxs (.tmp 51) (.tmp 53), none⟩,
  ⟨some 55, .bsl false (.int .u8 0) 1 [(0, (.tmp 54))], none⟩,
  ⟨some 56, .app 1 1 (.tmp 50) (.tmp 55), none⟩,
  ⟨some 4, .mov (.tmp 56), none⟩] :: K) fr S := rfl
def ref06_Unquoted_r9 : List POper := [
  ⟨some 57, .mov (.tmp 5), none⟩,
  ⟨some 58, .arith .add (.tmp 57) (.cst (.int .i64 2)), none⟩,
  ⟨some 5, .mov (.tmp 58), none⟩]
@[simp] theorem ref06_Unquoted_r9_go (T : Tbl) (K : List Kt) (fr : Fr) (S : St) : gval T (.ops ref06_Unquoted_r9 :: K) fr S = gval T (.ops [
  ⟨some 57, .mov (.tmp 5), none⟩,
  ⟨some 58, .arith .add (.tmp 57) (.cst (.int .i64 2)), none⟩,
  ⟨some 5, .mov (.tmp 58), none⟩] :: K) fr S := rfl
def ref06_Unquoted_r10 : List POper := [
  ⟨some 59, .mov (.tmp 6), none⟩,
  ⟨some 60, .arith .eql (.tmp 59) (.cst (.int .u8 92)), none⟩,
  ⟨some 61, .mov (.tmp 60), none⟩,
  ⟨some 62, .mov (.tmp 5), some (61, true)⟩,
  ⟨some 63, .arith .add (.tmp 62) (.cst (.int .i64 3)), some (61, true)⟩,
  ⟨some 64, .mov (.tmp 0), some (61, true)⟩,
  ⟨some 65, .len true (.tmp 64), some (61, true)⟩,
  ⟨some 66, .arith .lss (.tmp 63) (.tmp 65), some (61, true)⟩,
  ⟨some 67, .pick (.tmp 61) (.tmp 66) (.cst (.bool false)), none⟩,
  ⟨some 68, .mov (.tmp 67), none⟩,
  ⟨some 69, .mov (.tmp 0), some (68, true)⟩,
  ⟨some 70, .mov (.tmp 5), some (68, true)⟩,
  ⟨some 71, .arith .add (.tmp 70) (.cst (.int .i64 1)), some (68, true)⟩,
  ⟨some 72, .idxs (.tmp 69) (.tmp 71), some (68, true)⟩,
  ⟨some 73, .arith .eql (.tmp 72) (.cst (.int .u8 120)), some (68, true)⟩,
  ⟨some 74, .pick (.tmp 68) (.tmp 73) (.cst (.bool false)), none⟩,
  ⟨some 75, .mov (.tmp 74), none⟩,
  ⟨some 76, .mov (.tmp 0), some (75, true)⟩,
  ⟨some 77, .mov (.tmp 5), some (75, true)⟩,
  ⟨some 78, .arith .add (.tmp 77) (.cst (.int .i64 2)), some (75, true)⟩,
  ⟨some 79, .idxs (.tmp 76) (.tmp 78), some (75, true)⟩,
  ⟨some 80, .call .pur 212 [(.tmp 79)], some (75, true)⟩,
  ⟨some 81, .arith .geq (.tmp 80) (.cst (.int .i64 0)), some (75, true)⟩,
  ⟨some 82, .pick (.tmp 75) (.tmp 81) (.cst (.bool false)), none⟩,
  ⟨some 83, .mov (.tmp 82), none⟩,
  ⟨some 84, .mov (.tmp 0), some (83, true)⟩,
  ⟨some 85, .mov (.tmp 5), some (83, true)⟩,
  ⟨some 86, .arith .add (.tmp 85) (.cst (.int .i64 3)), some (83, true)⟩,
  ⟨some 87, .idxs (.tmp 84) (.tmp 86), some (83, true)⟩,
  ⟨some 88, .call .pur 212 [(.tmp 87)], some (83, true)⟩,
  ⟨some 89, .arith .geq (.tmp 88) (.cst (.int .i64 0)), some (83, true)⟩,
  ⟨some 90, .pick (.tmp 83) (.tmp 89) (.cst (.bool false)), none⟩]
@[simp] theorem ref06_Unquoted_r10_go (T : Tbl) (K : List Kt) (fr : Fr) (S : St) : gval T (.ops ref06_Unquoted_r10 :: K) fr S = gval T (.ops [
  ⟨some 59, .mov (.tmp 6), none⟩,
  ⟨some 60, .arith .eql (.tmp 59) (.cst (.int .u8 92)), none⟩,
  ⟨some 61, .mov (.tmp 60), none⟩,
  ⟨some 62, .mov (.tmp 5), some (61, true)⟩,
  ⟨some 63, .arith .add (.tmp 62) (.cst (.int .i64 3)), some (61, true)⟩,
  ⟨some 64, .mov (.tmp 0), some (61, true)⟩,
  ⟨some 65, .len true (.tmp 64), some (61, true)⟩,
  ⟨some 66, .arith .lss (.tmp 63) (.tmp 65), some (61, true)⟩,
  ⟨some 67, .pick (.tmp 61) (.tmp 66) (.cst (.bool false)), none⟩,
  ⟨some 68, .mov (.tmp 67), none⟩,
  ⟨some 69, .mov (.tmp 0), some (68, true)⟩,
  ⟨some 70, .mov (.tmp 5), some (68, true)⟩,
  ⟨some 71, .arith .add (.tmp 70) (.cst (.int .i64 1)), some (68, true)⟩,
  ⟨some 72, .idxs (.tmp 69) (.tmp 71), some (68, true)⟩,
  ⟨some 73, .arith .eql (.tmp 72) (.cst (.int .u8 120)), some (68, true)⟩,
  ⟨some 74, .pick (.tmp 68) (.tmp 73) (.cst (.bool false)), none⟩,
  ⟨some 75, .mov (.tmp 74), none⟩,
  ⟨some 76, .mov (.tmp 0), some (75, true)⟩,
  ⟨some 77, .mov (.tmp 5), some (75, true)⟩,
  ⟨some 78, .arith .add (.tmp 77) (.cst (.int .i64 2)), some (75, true)⟩,
  ⟨some 79, .idxs (.tmp 76) (.tmp 78), some (75, true)⟩,
  ⟨some 80, .call .pur 212 [(.tmp 79)], some (75, true)⟩,
  ⟨some 81, .arith .geq (.tmp 80) (.cst (.int .i64 0)), some (75, true)⟩,
  ⟨some 82, .pick (.tmp 75) (.tmp 81) (.cst (.bool false)), none⟩,
  ⟨some 83, .mov (.tmp 82), none⟩,
  ⟨some 84, .mov (.tmp 0), some (83, true)⟩,
  ⟨some 85, .mov (.tmp 5), some (83, true)⟩,
  ⟨some 86, .arith .add (.tmp 85) (.cst (.int .i64 3)), some (83, true)⟩,
  ⟨some 87, .idxs (.tmp 84) (.tmp 86), some (83, true)⟩,
  ⟨some 88, .call .pur 212 [(.tmp 87)], some (83, true)⟩,
  ⟨some 89, .arith .geq (.tmp 88) (.cst (.int .i64 0)), some (83, true)⟩,
  ⟨some 90, .pick (.tmp 83) (.tmp 89) (.cst (.bool false)), none⟩] :: K) fr S := rfl
def ref06_Unquoted_r11 : List POper := [
  ⟨some 91, .mov (.tmp 4), none⟩,
  ⟨some 92, .mov (.tmp 0), none⟩,
  ⟨some 93, .mov (.tmp 5), none⟩,
  ⟨some 94, .arith .add (.tmp 93) (.cst (.int .i64 2)), none⟩,
  ⟨some 95, .idxs (.tmp 92) (.tmp 94), none⟩,
  ⟨some 96, .call .pur 212 [(.tmp 95)], none⟩,
  ⟨some 97, .arith .mul (.cst (.int .i64 16)) (.tmp 96), none⟩,
  ⟨some 98, .mov (.tmp 0), none⟩,
  ⟨some 99, .mov (.tmp 5), none⟩,
  ⟨some 100, .arith .add (.tmp 99) (.cst (.int .i64 3)), none⟩,
  ⟨some 101, .idxs (.tmp 98) (.tmp 100), none⟩,
  ⟨some 102, .call .pur 212 [(.tmp 101)], none⟩,
  ⟨some 103, .arith .add (.tmp 97) (.tmp 102), none⟩,
  ⟨some 104, .toInt .u8 (.tmp 103), none⟩,
  ⟨some 105, .bsl false (.int .u8 0) 1 [(0, (.tmp 104))], none⟩,
  ⟨some 106, .app 1 1 (.tmp 91) (.tmp 105), none⟩,
  ⟨some 4, .mov (.tmp 106), none⟩]
@[simp] theorem ref06_Unquoted_r11_go (T : Tbl) (K : List Kt) (fr : Fr) (S : St) : gval T (.ops ref06_Unquoted_r11 :: K) fr S = gval T (.ops [
  ⟨some 91, .mov (.tmp 4), none⟩,
  ⟨some 92, .mov (.tmp 0), none⟩,
  ⟨some 93, .mov (.tmp 5), none⟩,
  ⟨some 94, .arith .add (.tmp 93) (.cst (.int .i64 2)), none⟩,
  ⟨some 95, .idxs (.tmp 92) (.tmp 94), none⟩,
  ⟨some 96, .call .pur 212 [(.tmp 95)], none⟩,
  ⟨some 97, .arith .mul (.cst (.int .i64 16)) (.tmp 96), none⟩,
  ⟨some 98, .mov (.tmp 0), none⟩,
  ⟨some 99, .mov (.tmp 5), none⟩,
  ⟨some 100, .arith .add (.tmp 99) (.cst (.int .i64 3)), none⟩,
  ⟨some 101, .idxs (.tmp 98) (.tmp 100), none⟩,
  ⟨some 102, .call .pur 212 [(.tmp 101)], none⟩,
  ⟨some 103, .arith .add (.tmp 97) (.tmp 102), none⟩,
  ⟨some 104, .toInt .u8 (.tmp 103), none⟩,
  ⟨some 105, .bsl false (.int .u8 0) 1 [(0, (.tmp 104))], none⟩,
  ⟨some 106, .app 1 1 (.tmp 91) (.tmp 105), none⟩,
  ⟨some 4, .mov (.tmp 106), none⟩] :: K) fr S := rfl
def ref06_Unquoted_r12 : List POper := [
  ⟨some 107, .mov (.tmp 5), none⟩,
  ⟨some 108, .arith .add (.tmp 107) (.cst (.int .i64 4)), none⟩,
  ⟨some 5, .mov (.tmp 108), none⟩]
@[simp] theorem ref06_Unquoted_r12_go (T : Tbl) (K : List Kt) (fr : Fr) (S : St) : gval T (.ops ref06_Unquoted_r12 :: K) fr S = gval T (.ops [
  ⟨some 107, .mov (.tmp 5), none⟩,
  ⟨some 108, .arith .add (.tmp 107) (.cst (.int .i64 4)), none⟩,
  ⟨some 5, .mov (.tmp 108), none⟩] :: K) fr S := rfl
def ref06_Unquoted_r13 : List POper := [
  ⟨some 109, .mov (.tmp 6), none⟩,
  ⟨some 110, .arith .eql (.tmp 109) (.cst (.int .u8 92)), none⟩]
@[simp] theorem ref06_Unquoted_r13_go (T : Tbl) (K : List Kt) (fr : Fr) (S : St) : gval T (.ops ref06_Unquoted_r13 :: K) fr S = gval T (.ops [
  ⟨some 109, .mov (.tmp 6), none⟩,
  ⟨some 110, .arith .eql (.tmp 109) (.cst (.int .u8 92)), none⟩] :: K) fr S := rfl
def ref06_Unquoted_r14 : List POper := [
  ⟨some 2, .mov (.cst (.str [])), none⟩,
  ⟨some 3, .mov (.cst (.int .i64 0)), none⟩]
@[simp] theorem ref06_Unquoted_r14_go (T : Tbl) (K : List Kt) (fr : Fr) (S : St) : gval T (.ops ref06_Unquoted_r14 :: K) fr S = gval T (.ops [
  ⟨some 2, .mov (.cst (.str [])), none⟩,
  ⟨some 3, .mov (.cst (.int .i64 0)), none⟩] :: K) fr S := rfl
def ref06_Unquoted_r15 : List POper := [
  ⟨some 111, .mov (.tmp 4), none⟩,
  ⟨some 112, .mov (.tmp 6), none⟩,
  ⟨some 113, .bsl false (.int .u8 0) 1 [(0, (.tmp 112))], none⟩,
  ⟨some 114, .app 1 1 (.tmp 111) (.tmp 113), none⟩,
  ⟨some 4, .mov (.tmp 114), none⟩]
@[simp] theorem ref06_Unquoted_r15_go (T : Tbl) (K : List Kt) (fr : Fr) (S : St) : gval T (.ops ref06_Unquoted_r15 :: K) fr S = gval T (.ops [
  ⟨some 111, .mov (.tmp 4), none⟩,
  ⟨some 112, .mov (.tmp 6), none⟩,
  ⟨some 113, .bsl false (.int .u8 0) 1 [(0, (.tmp 112))], none⟩,
  ⟨some 114, .app 1 1 (.tmp 111) (.tmp 113), none⟩,
  ⟨some 4, .mov (.tmp 114), none⟩] :: K) fr S := rfl
def ref06_Unquoted_r16 : List POper := [
  ⟨some 115, .mov (.tmp 5), none⟩,
  ⟨some 116, .arith .add (.tmp 115) (.cst (.int .i64 1)), none⟩,
  ⟨some 5, .mov (.tmp 116), none⟩]
@[simp] theorem ref06_Unquoted_r16_go (T : Tbl) (K : List Kt) (fr : Fr) (S : St) : gval T (.ops ref06_Unquoted_r16 :: K) fr S = gval T (.ops [
  ⟨some 115, .mov (.tmp 5), none⟩,
  ⟨some 116, .arith .add (.tmp 115) (.cst (.int .i64 1)), none⟩,
  ⟨some 5, .mov (.tmp 116), none⟩] :: K) fr S := rfl
def ref06_Unquoted_l0 : PCode :=
  (.seq (.seq (.clr [(14, 23)] (.region ref06_Unquoted_r5)) (.cond (.tmp 23) .skip (.exit 0))) (.block 1 (.seq (.clr [(24, 27)] (.region ref06_Unquoted_r6)) (.seq (.clr [(27, 49)] (.region ref06_Unquoted_r7)) (.cond (.tmp 49) (.seq (.clr [(50, 57)] (.region ref06_Unquoted_r8)) (.clr [(57, 59)] (.region ref06_Unquoted_r9))) (.seq (.clr [(59, 90)] (.region ref06_Unquoted_r10)) (.cond (.tmp 90) (.seq (.clr [(91, 107)] (.region ref06_Unquoted_r11)) (.clr [(107, 109)] (.region ref06_Unquoted_r12))) (.seq (.clr [(109, 110)] (.region ref06_Unquoted_r13)) (.cond (.tmp 110) (.seq (.region ref06_Unquoted_r14) .ret) (.seq (.clr [(111, 115)] (.region ref06_Unquoted_r15)) (.clr [(115, 117)] (.region ref06_Unquoted_r16))))))))))))
@[simp] theorem ref06_Unquoted_l0_go (T : Tbl) (K : List Kt) (fr : Fr) (S : St) : gval T (.code ref06_Unquoted_l0 :: K) fr S = gval T (.code (.seq (.seq (.clr [(14, 23)] (.region ref06_Unquoted_r5)) (.cond (.tmp 23) .skip (.exit 0))) (.block 1 (.seq (.clr [(24, 27)] (.region ref06_Unquoted_r6)) (.seq (.clr [(27, 49)] (.region ref06_Unquoted_r7)) (.cond (.tmp 49) (.seq (.clr [(50, 57)] (.region ref06_Unquoted_r8)) (.clr [(57, 59)] (.region ref06_Unquoted_r9))) (.seq (.clr [(59, 90)] (.region ref06_Unquoted_r10)) (.cond (.tmp 90) (.seq (.clr [(91, 107)] (.region ref06_Unquoted_r11)) (.clr [(107, 109)] (.region ref06_Unquoted_r12))) (.seq (.clr [(109, 110)] (.region ref06_Unquoted_r13)) (.cond (.tmp 110) (.seq (.region ref06_Unquoted_r14) .ret) (.seq (.clr [(111, 115)] (.region ref06_Unquoted_r15)) (.clr [(115, 117)] (.region ref06_Unquoted_r16)))))))))))) :: K) fr S := rfl
def ref06_Unquoted_r17 : List POper := [
  ⟨some 117, .mov (.tmp 5), none⟩,
  ⟨some 118, .mov (.tmp 0), none⟩,
  ⟨some 119, .len true (.tmp 118), none⟩,
  ⟨some 120, .arith .geq (.tmp 117) (.tmp 119), none⟩,
  ⟨some 121, .mov (.tmp 120), none⟩,
  ⟨some 122, .mov (.tmp 4), some (121, false)⟩,
  ⟨some 123, .toStr (.tmp 122), some (121, false)⟩,
  ⟨some 124, .call .pur 101 [(.tmp 123)], some (121, false)⟩,
  ⟨some 125, .mov (.tmp 0), some (121, false)⟩,
  ⟨some 126, .mov (.tmp 5), some (121, false)⟩,
  ⟨some 127, .arith .add (.tmp 126) (.cst (.int .i64 1)), some (121, false)⟩,
  ⟨some 128, .slcs none (some (.tmp 127)) (.tmp 125), some (121, false)⟩,
  ⟨some 129, .arith .neq (.tmp 124) (.tmp 128), some (121, false)⟩,
  ⟨some 130, .pick (.tmp 121) (.cst (.bool true)) (.tmp 129), none⟩]
@[simp] theorem ref06_Unquoted_r17_go (T : Tbl) (K : List Kt) (fr : Fr) (S : St) : gval T (.ops ref06_Unquoted_r17 :: K) fr S = gval T (.ops [
  ⟨some 117, .mov (.tmp 5), none⟩,
  ⟨some 118, .mov (.tmp 0), none⟩,
  ⟨some 119, .len true (.tmp 118), none⟩,
  ⟨some 120, .arith .geq (.tmp 117) (.tmp 119), none⟩,
  ⟨some 121, .mov (.tmp 120), none⟩,
  ⟨some 122, .mov (.tmp 4), some (121, false)⟩,
  ⟨some 123, .toStr (.tmp 122), some (121, false)⟩,
  ⟨some 124, .call .pur 101 [(.tmp 123)], some (121, false)⟩,
  ⟨some 125, .mov (.tmp 0), some (121, false)⟩,
  ⟨some 126, .mov (.tmp 5), some (121, false)⟩,
  ⟨some 127, .arith .add (.tmp 126) (.cst (.int .i64 1)), some (121, false)⟩,
  ⟨some 128, .slcs none (some (.tmp 127)) (.tmp 125), some (121, false)⟩,
  ⟨some 129, .arith .neq (.tmp 124) (.tmp 128), some (121, false)⟩,
  ⟨some 130, .pick (.tmp 121) (.cst (.bool true)) (.tmp 129), none⟩] :: K) fr S := rfl
def ref06_Unquoted_r18 : List POper := [
  ⟨some 2, .mov (.cst (.str [])), none⟩,
  ⟨some 3, .mov (.cst (.int .i64 0)), none⟩]
@[simp] theorem ref06_Unquoted_r18_go (T : Tbl) (K : List Kt) (fr : Fr) (S : St) : gval T (.ops ref06_Unquoted_r18 :: K) fr S = gval T (.ops [
  ⟨some 2, .mov (.cst (.str [])), none⟩,
  ⟨some 3, .mov (.cst (.int .i64 0)), none⟩] :: K) fr S := rfl
def ref06_Unquoted_r19 : List POper := [
  ⟨some 131, .mov (.tmp 4), none⟩,
  ⟨some 132, .toStr (.tmp 131), none⟩,
  ⟨some 133, .mov (.tmp 5), none⟩,
  ⟨some 134, .arith .add (.tmp 133) (.cst (.int .i64 1)), none⟩,
  ⟨some 2, .mov (.tmp 132), none⟩,
  ⟨some 3, .mov (.tmp 134), none⟩]
@[simp] theorem ref06_Unquoted_r19_go (T : Tbl) (K : List Kt) (fr : Fr) (S : St) : gval T (.ops ref06_Unquoted_r19 :: K) fr S = gval T (.ops [
  ⟨some 131, .mov (.tmp 4), none⟩,
  ⟨some 132, .toStr (.tmp 131), none⟩,
  ⟨some 133, .mov (.tmp 5), none⟩,
  ⟨some 134, .arith .add (.tmp 133) (.cst (.int .i64 1)), none⟩,
  ⟨some 2, .mov (.tmp 132), none⟩,
  ⟨some 3, .mov (.tmp 134), none⟩] :: K) fr S := rfl
def ref06_Unquoted : PCodeFn :=
  ⟨1, [.tmp 2, .tmp 3],
  (.seq (.region ref06_Unquoted_r0) (.seq (.seq (.clr [(7, 13)] (.region ref06_Unquoted_r1)) (.cond (.tmp 13) (.seq (.region ref06_Unquoted_r2) .ret) .skip)) (.seq (.region ref06_Unquoted_r3) (.seq (.region ref06_Unquoted_r4) (.seq (.block 0 (.loop ref06_Unquoted_l0)) (.seq (.seq (.clr [(117, 130)] (.region ref06_Unquoted_r17)) (.cond (.tmp 130) (.seq (.region ref06_Unquoted_r18) .ret) .skip)) (.seq (.clr [(131, 135)] (.region ref06_Unquoted_r19)) .ret))))))), false⟩

/-! gauge/label.quoted: 99 -/
def label_quoted_r0 : List POper := [
  ⟨some 2, .mov (.cst (.str [])), none⟩]
@[simp] theorem label_quoted_r0_go (T : Tbl) (K : List Kt) (fr : Fr) (S : St) : gval T (.ops label_quoted_r0 :: K) fr S = gval T (.ops [
  ⟨some 2, .mov (.cst (.str [])), none⟩] :: K) fr S := rfl
def label_quoted_r1 : List POper := [
  ⟨some 6, .bsl false (.int .u8 0) 1 [(0, (.cst (.int .u8 34)))], none⟩,
  ⟨some 3, .mov (.tmp 6), none⟩]
@[simp] theorem label_quoted_r1_go (T : Tbl) (K : List Kt) (fr : Fr) (S : St) : gval T (.ops label_quoted_r1 :: K) fr S = gval T (.ops [
  ⟨some 6, .bsl false (.int .u8 0) 1 [(0, (.cst (.int .u8 34)))], none⟩,
  ⟨some 3, .mov (.tmp 6), none⟩] :: K) fr S := rfl
def label_quoted_r2 : List POper := [
  ⟨some 7, .mov (.tmp 0), none⟩,
  ⟨some 8, .len true (.tmp 7), none⟩,
  ⟨some 9, .mov (.cst (.int .i64 0)), none⟩]
@[simp] theorem label_quoted_r2_go (T : Tbl) (K : List Kt) (fr : Fr) (S : St) : gval T (.ops label_quoted_r2 :: K) fr S = gval T (.ops [
  ⟨some 7, .mov (.tmp 0), none⟩,
  ⟨some 8, .len true (.tmp 7), none⟩,
  ⟨some 9, .mov (.cst (.int .i64 0)), none⟩] :: K) fr S := rfl
def label_quoted_r3 : List POper := [
  ⟨some 10, .arith .lss (.tmp 9) (.tmp 8), none⟩]
@[simp] theorem label_quoted_r3_go (T : Tbl) (K : List Kt) (fr : Fr) (S : St) : gval T (.ops label_quoted_r3 :: K) fr S = gval T (.ops [
  ⟨some 10, .arith .lss (.tmp 9) (.tmp 8), none⟩] :: K) fr S := rfl
def label_quoted_r4 : List POper := [
  ⟨some 11, .mov (.tmp 9), none⟩,
  ⟨some 4, .mov (.tmp 11), none⟩]
@[simp] theorem label_quoted_r4_go (T : Tbl) (K : List Kt) (fr : Fr) (S : St) : gval T (.ops label_quoted_r4 :: K) fr S = gval T (.ops [
  ⟨some 11, .mov (.tmp 9), none⟩,
  ⟨some 4, .mov (.tmp 11), none⟩] :: K) fr S := rfl
def label_quoted_r5 : List POper := [
  ⟨some 12, .mov (.tmp 0), none⟩,
  ⟨some 13, .mov (.tmp 4), none⟩,
  ⟨some 14, .idxs (.tmp 12) (.tmp 13), none⟩,
  ⟨some 5, .mov (.tmp 14), none⟩]
@[simp] theorem label_quoted_r5_go (T : Tbl) (K : List Kt) (fr : Fr) (S : St) : gval T (.ops label_quoted_r5 :: K) fr S = gval T (.ops [
  ⟨some 12, .mov (.tmp 0), none⟩,
  ⟨some 13, .mov (.tmp 4), none⟩,
  ⟨some 14, .idxs (.tmp 12) (.tmp 13), none⟩,
  ⟨some 5, .mov (.tmp 14), none⟩] :: K) fr S := rfl
def label_quoted_r7 : List POper := [
  ⟨some 20, .mov (.tmp 5), none⟩,
  ⟨some 21, .arith .eql (.tmp 20) (.cst (.int .u8 34)), none⟩,
  ⟨some 19, .mov (.tmp 21), none⟩]
@[simp] theorem label_quoted_r7_go (T : Tbl) (K : List Kt) (fr : Fr) (S : St) : gval T (.ops label_quoted_r7 :: K) fr S = gval T (.ops [
  ⟨some 20, .mov (.tmp 5), none⟩,
  ⟨some 21, .arith .eql (.tmp 20) (.cst (.int .u8 34)), none⟩,
  ⟨some 19, .mov (.tmp 21), none⟩] :: K) fr S := rfl
def label_quoted_r8 : List POper := [
  ⟨some 22, .mov (.tmp 5), none⟩,
  ⟨some 23, .arith .eql (.tmp 22) (.cst (.int .u8 92)), none⟩,
  ⟨some 19, .mov (.tmp 23), none⟩]
@[simp] theorem label_quoted_r8_go (T : Tbl) (K : List Kt) (fr : Fr) (S : St) : gval T (.ops label_quoted_r8 :: K) fr S = gval T (.ops [
  ⟨some 22, .mov (.tmp 5), none⟩,
  ⟨some 23, .arith .eql (.tmp 22) (.cst (.int .u8 92)), none⟩,
  ⟨some 19, .mov (.tmp 23), none⟩] :: K) fr S := rfl
def label_quoted_r9 : List POper := [
  ⟨some 24, .mov (.tmp 3), none⟩,
  ⟨some 25, .mov (.tmp 5), none⟩,
  ⟨some 26, .bsl false (.int .u8 0) 2 [(0, (.cst (.int .u8 92))), (1, (.tmp 25))], none⟩,
  ⟨some 27, .app 1 1 (.tmp 24) (.tmp 26), none⟩,
  ⟨some 3, .mov (.tmp 27), none⟩]
@[simp] theorem label_quoted_r9_go (T : Tbl) (K : List Kt) (fr : Fr) (S : St) : gval T (.ops label_quoted_r9 :: K) fr S = gval T (.ops [
  ⟨some 24, .mov (.tmp 3), none⟩,
  ⟨some 25, .mov (.tmp 5), none⟩,
  ⟨some 26, .bsl false (.int .u8 0) 2 [(0, (.cst (.int .u8 92))), (1, (.tmp 25))], none⟩,
  ⟨some 27, .app 1 1 (.tmp 24) (.tmp 26), none⟩,
  ⟨some 3, .mov (.tmp 27), none⟩] :: K) fr S := rfl
def label_quoted_r10 : List POper := [
  ⟨some 29, .mov (.tmp 5), none⟩,
  ⟨some 30, .arith .lss (.tmp 29) (.cst (.int .u8 32)), none⟩,
  ⟨some 28, .mov (.tmp 30), none⟩]
@[simp] theorem label_quoted_r10_go (T : Tbl) (K : List Kt) (fr : Fr) (S : St) : gval T (.ops label_quoted_r10 :: K) fr S = gval T (.ops [
  ⟨some 29, .mov (.tmp 5), none⟩,
  ⟨some 30, .arith .lss (.tmp 29) (.cst (.int .u8 32)), none⟩,
  ⟨some 28, .mov (.tmp 30), none⟩] :: K) fr S := rfl
def label_quoted_r11 : List POper := [
  ⟨some 31, .mov (.tmp 5), none⟩,
  ⟨some 32, .arith .gtr (.tmp 31) (.cst (.int .u8 126)), none⟩,
  ⟨some 28, .mov (.tmp 32), none⟩]
@[simp] theorem label_quoted_r11_go (T : Tbl) (K : List Kt) (fr : Fr) (S : St) : gval T (.ops label_quoted_r11 :: K) fr S = gval T (.ops [
  ⟨some 31, .mov (.tmp 5), none⟩,
  ⟨some 32, .arith .gtr (.tmp 31) (.cst (.int .u8 126)), none⟩,
  ⟨some 28, .mov (.tmp 32), none⟩] :: K) fr S := rfl
def label_quoted_r12 : List POper := [
  ⟨some 33, .mov (.tmp 3), none⟩,
  ⟨some 34, .mov (.tmp 5), none⟩,
  ⟨some 35, .arith .shr (.tmp 34) (.cst (.int .u64 4)), none⟩,
  ⟨some 36, .idxs (.cst (.str [48, 49, 50, 51, 52, 53, 54, 55, 56, 57, 97, 98, 99, 100, 101, 102])) (.tmp 35), none⟩,
  ⟨some 37, .mov (.tmp 5), none⟩,
  ⟨some 38, .arith .and (.tmp 37) (.cst (.int .u8 15)), none⟩,
  ⟨some 39, .idxs (.cst (.str [48, 49, 50, 51, 52, 53, 54, 55, 56, 57, 97, 98, 99, 100, 101, 102])) (.tmp 38), none⟩,
  ⟨some 40, .bsl false (.int .u8 0) 4 [(0, (.cst (.int .u8 92))), (1, (.cst (.int .u8 120))), (2, (.tmp 36)), (3, (.tmp 39))], none⟩,
  ⟨some 41, .app 1 1 (.tmp 33) (.tmp 40), none⟩,
  ⟨some 3, .mov (.tmp 41), none⟩]
@[simp] theorem label_quoted_r12_go (T : Tbl) (K : List Kt) (fr : Fr) (S : St) : gval T (.ops label_quoted_r12 :: K) fr S = gval T (.ops [
  ⟨some 33, .mov (.tmp 3), none⟩,
  ⟨some 34, .mov (.tmp 5), none⟩,
  ⟨some 35, .arith .shr (.tmp 34) (.cst (.int .u64 4)), none⟩,
  ⟨some 36, .idxs (.cst (.str [48, 49, 50, 51, 52, 53, 54, 55, 56, 57, 97, 98, 99, 100, 101, 102])) (.tmp 35), none⟩,
  ⟨some 37, .mov (.tmp 5), none⟩,
  ⟨some 38, .arith .and (.tmp 37) (.cst (.int .u8 15)), none⟩,
  ⟨some 39, .idxs (.cst (.str [48, 49, 50, 51, 52, 53, 54, 55, 56, 57, 97, 98, 99, 100, 101, 102])) (.tmp 38), none⟩,
  ⟨some 40, .bsl false (.int .u8 0) 4 [(0, (.cst (.int .u8 92))), (1, (.cst (.int .u8 120))), (2, (.tmp 36)), (3, (.tmp 39))], none⟩,
  ⟨some 41, .app 1 1 (.tmp 33) (.tmp 40), none⟩,
  ⟨some 3, .mov (.tmp 41), none⟩] :: K) fr S := rfl
def label_quoted_r6 : List POper := [
  ⟨some 15, .mov (.tmp 3), none⟩,
  ⟨some 16, .mov (.tmp 5), none⟩,
  ⟨some 17, .bsl false (.int .u8 0) 1 [(0, (.tmp 16))], none⟩,
  ⟨some 18, .app 1 1 (.tmp 15) (.tmp 17), none⟩,
  ⟨some 3, .mov (.tmp 18), none⟩]
@[simp] theorem label_quoted_r6_go (T : Tbl) (K : List Kt) (fr : Fr) (S : St) : gval T (.ops label_quoted_r6 :: K) fr S = gval T (.ops [
  ⟨some 15, .mov (.tmp 3), none⟩,
  ⟨some 16, .mov (.tmp 5), none⟩,
  ⟨some 17, .bsl false (.int .u8 0) 1 [(0, (.tmp 16))], none⟩,
  ⟨some 18, .app 1 1 (.tmp 15) (.tmp 17), none⟩,
  ⟨some 3, .mov (.tmp 18), none⟩] :: K) fr S := rfl
def label_quoted_r13 : List POper := [
  ⟨some 42, .arith .add (.tmp 9) (.cst (.int .i64 1)), none⟩,
  ⟨some 9, .mov (.tmp 42), none⟩]
@[simp] theorem label_quoted_r13_go (T : Tbl) (K : List Kt) (fr : Fr) (S : St) : gval T (.ops label_quoted_r13 :: K) fr S = gval T (.ops [
  ⟨some 42, .arith .add (.tmp 9) (.cst (.int .i64 1)), none⟩,
  ⟨some 9, .mov (.tmp 42), none⟩] :: K) fr S := rfl
def label_quoted_l0 : PCode :=
  (.seq (.region label_quoted_r3) (.seq (.cond (.tmp 10) .skip (.exit 0)) (.seq (.block 1 (.seq (.clr [(11, 12)] (.region label_quoted_r4)) (.seq (.clr [(12, 15)] (.region label_quoted_r5)) (.block 2 (.seq (.seq (.clr [(20, 22)] (.region label_quoted_r7)) (.cond (.tmp 19) .skip (.clr [(22, 24)] (.region label_quoted_r8)))) (.cond (.tmp 19) (.clr [(24, 28)] (.region label_quoted_r9)) (.seq (.seq (.clr [(29, 31)] (.region label_quoted_r10)) (.cond (.tmp 28) .skip (.clr [(31, 33)] (.region label_quoted_r11)))) (.cond (.tmp 28) (.clr [(33, 42)] (.region label_quoted_r12)) (.clr [(15, 19)] (.region label_quoted_r6)))))))))) (.clr [(42, 43)] (.region label_quoted_r13)))))
@[simp] theorem label_quoted_l0_go (T : Tbl) (K : List Kt) (fr : Fr) (S : St) : gval T (.code label_quoted_l0 :: K) fr S = gval T (.code (.seq (.region label_quoted_r3) (.seq (.cond (.tmp 10) .skip (.exit 0)) (.seq (.block 1 (.seq (.clr [(11, 12)] (.region label_quoted_r4)) (.seq (.clr [(12, 15)] (.region label_quoted_r5)) (.block 2 (.seq (.seq (.clr [(20, 22)] (.region label_quoted_r7)) (.cond (.tmp 19) .skip (.clr [(22, 24)] (.region label_quoted_r8)))) (.cond (.tmp 19) (.clr [(24, 28)] (.region label_quoted_r9)) (.seq (.seq (.clr [(29, 31)] (.region label_quoted_r10)) (.cond (.tmp 28) .skip (.clr [(31, 33)] (.region label_quoted_r11)))) (.cond (.tmp 28) (.clr [(33, 42)] (.region label_quoted_r12)) (.clr [(15, 19)] (.region label_quoted_r6)))))))))) (.clr [(42, 43)] (.region label_quoted_r13))))) :: K) fr S := rfl
def label_quoted_r14 : List POper := [
  ⟨some 43, .mov (.tmp 3), none⟩,
  ⟨some 44, .bsl false (.int .u8 0) 1 [(0, (.cst (.int .u8 34)))], none⟩,
  ⟨some 45, .app 1 1 (.tmp 43) (.tmp 44), none⟩,
  ⟨some 46, .toStr (.tmp 45), none⟩,
  ⟨some 2, .mov (.tmp 46), none⟩]
@[simp] theorem label_quoted_r14_go (T : Tbl) (K : List Kt) (fr : Fr) (S : St) : gval T (.ops label_quoted_r14 :: K) fr S = gval T (.ops [
  ⟨some 43, .mov (.tmp 3), none⟩,
  ⟨some 44, .bsl false (.int .u8 0) 1 [(0, (.cst (.int .u8 34)))], none⟩,
  ⟨some 45, .app 1 1 (.tmp 43) (.tmp 44), none⟩,
  ⟨some 46, .toStr (.tmp 45), none⟩,
  ⟨some 2, .mov (.tmp 46), none⟩] :: K) fr S := rfl
def label_quoted : PCodeFn :=
  ⟨1, [.tmp 2],
  (.seq (.region label_quoted_r0) (.seq (.clr [(6, 7)] (.region label_quoted_r1)) (.seq (.seq (.clr [(7, 8)] (.region label_quoted_r2)) (.block 0 (.loop label_quoted_l0))) (.seq (.clr [(43, 47)] (.region label_quoted_r14)) .ret)))), false⟩

/-! strings.Join: 100 -/
def strings_Join_r0 : List POper := [
  ⟨some 4, .mov (.cst (.str [])), none⟩]
@[simp] theorem strings_Join_r0_go (T : Tbl) (K : List Kt) (fr : Fr) (S : St) : gval T (.ops strings_Join_r0 :: K) fr S = gval T (.ops [
  ⟨some 4, .mov (.cst (.str [])), none⟩] :: K) fr S := rfl
def strings_Join_r1 : List POper := [
  ⟨some 11, .mov (.tmp 0), none⟩,
  ⟨some 12, .len false (.tmp 11), none⟩]
@[simp] theorem strings_Join_r1_go (T : Tbl) (K : List Kt) (fr : Fr) (S : St) : gval T (.ops strings_Join_r1 :: K) fr S = gval T (.ops [
  ⟨some 11, .mov (.tmp 0), none⟩,
  ⟨some 12, .len false (.tmp 11), none⟩] :: K) fr S := rfl
def strings_Join_r2 : List POper := [
  ⟨some 14, .arith .eql (.tmp 12) (.cst (.int .i64 0)), none⟩,
  ⟨some 13, .mov (.tmp 14), none⟩]
@[simp] theorem strings_Join_r2_go (T : Tbl) (K : List Kt) (fr : Fr) (S : St) : gval T (.ops strings_Join_r2 :: K) fr S = gval T (.ops [
  ⟨some 14, .arith .eql (.tmp 12) (.cst (.int .i64 0)), none⟩,
  ⟨some 13, .mov (.tmp 14), none⟩] :: K) fr S := rfl
def strings_Join_r3 : List POper := [
  ⟨some 4, .mov (.cst (.str [])), none⟩]
@[simp] theorem strings_Join_r3_go (T : Tbl) (K : List Kt) (fr : Fr) (S : St) : gval T (.ops strings_Join_r3 :: K) fr S = gval T (.ops [
  ⟨some 4, .mov (.cst (.str [])), none⟩] :: K) fr S := rfl
def strings_Join_r4 : List POper := [
  ⟨some 16, .arith .eql (.tmp 12) (.cst (.int .i64 1)), none⟩,
  ⟨some 15, .mov (.tmp 16), none⟩]
@[simp] theorem strings_Join_r4_go (T : Tbl) (K : List Kt) (fr : Fr) (S : St) : gval T (.ops strings_Join_r4 :: K) fr S = gval T (.ops [
  ⟨some 16, .arith .eql (.tmp 12) (.cst (.int .i64 1)), none⟩,
  ⟨some 15, .mov (.tmp 16), none⟩] :: K) fr S := rfl
def strings_Join_r5 : List POper := [
  ⟨some 17, .mov (.tmp 0), none⟩,
  ⟨some 18, .iaddr 1 (.tmp 17) (.cst (.int .i64 0)), none⟩,
  ⟨some 19, .load false 1 false (.tmp 18), none⟩,
  ⟨some 4, .mov (.tmp 19), none⟩]
@[simp] theorem strings_Join_r5_go (T : Tbl) (K : List Kt) (fr : Fr) (S : St) : gval T (.ops strings_Join_r5 :: K) fr S = gval T (.ops [
  ⟨some 17, .mov (.tmp 0), none⟩,
  ⟨some 18, .iaddr 1 (.tmp 17) (.cst (.int .i64 0)), none⟩,
  ⟨some 19, .load false 1 false (.tmp 18), none⟩,
  ⟨some 4, .mov (.tmp 19), none⟩] :: K) fr S := rfl
def strings_Join_r6 : List POper := [
  ⟨some 5, .mov (.cst (.int .i64 0)), none⟩]
@[simp] theorem strings_Join_r6_go (T : Tbl) (K : List Kt) (fr : Fr) (S : St) : gval T (.ops strings_Join_r6 :: K) fr S = gval T (.ops [
  ⟨some 5, .mov (.cst (.int .i64 0)), none⟩] :: K) fr S := rfl
def strings_Join_r7 : List POper := [
  ⟨some 20, .mov (.tmp 1), none⟩,
  ⟨some 21, .len true (.tmp 20), none⟩,
  ⟨some 22, .arith .gtr (.tmp 21) (.cst (.int .i64 0)), none⟩]
@[simp] theorem strings_Join_r7_go (T : Tbl) (K : List Kt) (fr : Fr) (S : St) : gval T (.ops strings_Join_r7 :: K) fr S = gval T (.ops [
  ⟨some 20, .mov (.tmp 1), none⟩,
  ⟨some 21, .len true (.tmp 20), none⟩,
  ⟨some 22, .arith .gtr (.tmp 21) (.cst (.int .i64 0)), none⟩] :: K) fr S := rfl
def strings_Join_r8 : List POper := [
  ⟨some 23, .mov (.tmp 1), none⟩,
  ⟨some 24, .len true (.tmp 23), none⟩,
  ⟨some 25, .mov (.tmp 0), none⟩,
  ⟨some 26, .len false (.tmp 25), none⟩,
  ⟨some 27, .arith .sub (.tmp 26) (.cst (.int .i64 1)), none⟩,
  ⟨some 28, .arith .quo (.cst (.int .i64 9223372036854775807)) (.tmp 27), none⟩,
  ⟨some 29, .arith .geq (.tmp 24) (.tmp 28), none⟩]
@[simp] theorem strings_Join_r8_go (T : Tbl) (K : List Kt) (fr : Fr) (S : St) : gval T (.ops strings_Join_r8 :: K) fr S = gval T (.ops [
  ⟨some 23, .mov (.tmp 1), none⟩,
  ⟨some 24, .len true (.tmp 23), none⟩,
  ⟨some 25, .mov (.tmp 0), none⟩,
  ⟨some 26, .len false (.tmp 25), none⟩,
  ⟨some 27, .arith .sub (.tmp 26) (.cst (.int .i64 1)), none⟩,
  ⟨some 28, .arith .quo (.cst (.int .i64 9223372036854775807)) (.tmp 27), none⟩,
  ⟨some 29, .arith .geq (.tmp 24) (.tmp 28), none⟩] :: K) fr S := rfl
def strings_Join_r10 : List POper := [
  ⟨some 31, .mov (.tmp 5), none⟩,
  ⟨some 32, .mov (.tmp 1), none⟩,
  ⟨some 33, .len true (.tmp 32), none⟩,
  ⟨some 34, .mov (.tmp 0), none⟩,
  ⟨some 35, .len false (.tmp 34), none⟩,
  ⟨some 36, .arith .sub (.tmp 35) (.cst (.int .i64 1)), none⟩,
  ⟨some 37, .arith .mul (.tmp 33) (.tmp 36), none⟩,
  ⟨some 38, .arith .add (.tmp 31) (.tmp 37), none⟩,
  ⟨some 5, .mov (.tmp 38), none⟩]
@[simp] theorem strings_Join_r10_go (T : Tbl) (K : List Kt) (fr : Fr) (S : St) : gval T (.ops strings_Join_r10 :: K) fr S = gval T (.ops [
  ⟨some 31, .mov (.tmp 5), none⟩,
  ⟨some 32, .mov (.tmp 1), none⟩,
  ⟨some 33, .len true (.tmp 32), none⟩,
  ⟨some 34, .mov (.tmp 0), none⟩,
  ⟨some 35, .len false (.tmp 34), none⟩,
  ⟨some 36, .arith .sub (.tmp 35) (.cst (.int .i64 1)), none⟩,
  ⟨some 37, .arith .mul (.tmp 33) (.tmp 36), none⟩,
  ⟨some 38, .arith .add (.tmp 31) (.tmp 37), none⟩,
  ⟨some 5, .mov (.tmp 38), none⟩] :: K) fr S := rfl
def strings_Join_r11 : List POper := [
  ⟨some 39, .mov (.tmp 0), none⟩,
  ⟨some 40, .len false (.tmp 39), none⟩,
  ⟨some 41, .mov (.cst (.int .i64 0)), none⟩]
@[simp] theorem strings_Join_r11_go (T : Tbl) (K : List Kt) (fr : Fr) (S : St) : gval T (.ops strings_Join_r11 :: K) fr S = gval T (.ops [
  ⟨some 39, .mov (.tmp 0), none⟩,
  ⟨some 40, .len false (.tmp 39), none⟩,
  ⟨some 41, .mov (.cst (.int .i64 0)), none⟩] :: K) fr S := rfl
def strings_Join_r12 : List POper := [
  ⟨some 42, .arith .lss (.tmp 41) (.tmp 40), none⟩]
@[simp] theorem strings_Join_r12_go (T : Tbl) (K : List Kt) (fr : Fr) (S : St) : gval T (.ops strings_Join_r12 :: K) fr S = gval T (.ops [
  ⟨some 42, .arith .lss (.tmp 41) (.tmp 40), none⟩] :: K) fr S := rfl
def strings_Join_r13 : List POper := [
  ⟨some 43, .iaddr 1 (.tmp 39) (.tmp 41), none⟩,
  ⟨some 44, .load false 1 false (.tmp 43), none⟩,
  ⟨some 7, .mov (.tmp 44), none⟩]
@[simp] theorem strings_Join_r13_go (T : Tbl) (K : List Kt) (fr : Fr) (S : St) : gval T (.ops strings_Join_r13 :: K) fr S = gval T (.ops [
  ⟨some 43, .iaddr 1 (.tmp 39) (.tmp 41), none⟩,
  ⟨some 44, .load false 1 false (.tmp 43), none⟩,
  ⟨some 7, .mov (.tmp 44), none⟩] :: K) fr S := rfl
def strings_Join_r14 : List POper := [
  ⟨some 45, .mov (.tmp 7), none⟩,
  ⟨some 46, .len true (.tmp 45), none⟩,
  ⟨some 47, .mov (.tmp 5), none⟩,
  ⟨some 48, .arith .sub (.cst (.int .i64 9223372036854775807)) (.tmp 47), none⟩,
  ⟨some 49, .arith .gtr (.tmp 46) (.tmp 48), none⟩]
@[simp] theorem strings_Join_r14_go (T : Tbl) (K : List Kt) (fr : Fr) (S : St) : gval T (.ops strings_Join_r14 :: K) fr S = gval T (.ops [
  ⟨some 45, .mov (.tmp 7), none⟩,
  ⟨some 46, .len true (.tmp 45), none⟩,
  ⟨some 47, .mov (.tmp 5), none⟩,
  ⟨some 48, .arith .sub (.cst (.int .i64 9223372036854775807)) (.tmp 47), none⟩,
  ⟨some 49, .arith .gtr (.tmp 46) (.tmp 48), none⟩] :: K) fr S := rfl
def strings_Join_r16 : List POper := [
  ⟨some 51, .mov (.tmp 5), none⟩,
  ⟨some 52, .mov (.tmp 7), none⟩,
  ⟨some 53, .len true (.tmp 52), none⟩,
  ⟨some 54, .arith .add (.tmp 51) (.tmp 53), none⟩,
  ⟨some 5, .mov (.tmp 54), none⟩]
@[simp] theorem strings_Join_r16_go (T : Tbl) (K : List Kt) (fr : Fr) (S : St) : gval T (.ops strings_Join_r16 :: K) fr S = gval T (.ops [
  ⟨some 51, .mov (.tmp 5), none⟩,
  ⟨some 52, .mov (.tmp 7), none⟩,
  ⟨some 53, .len true (.tmp 52), none⟩,
  ⟨some 54, .arith .add (.tmp 51) (.tmp 53), none⟩,
  ⟨some 5, .mov (.tmp 54), none⟩] :: K) fr S := rfl
def strings_Join_r17 : List POper := [
  ⟨some 55, .arith .add (.tmp 41) (.cst (.int .i64 1)), none⟩,
  ⟨some 41, .mov (.tmp 55), none⟩]
@[simp] theorem strings_Join_r17_go (T : Tbl) (K : List Kt) (fr : Fr) (S : St) : gval T (.ops strings_Join_r17 :: K) fr S = gval T (.ops [
  ⟨some 55, .arith .add (.tmp 41) (.cst (.int .i64 1)), none⟩,
  ⟨some 41, .mov (.tmp 55), none⟩] :: K) fr S := rfl
def strings_Join_l0 : PCode :=
  (.seq (.region strings_Join_r12) (.seq (.cond (.tmp 42) .skip (.exit 1)) (.seq (.block 2 (.seq (.clr [(43, 45)] (.region strings_Join_r13)) (.seq (.seq (.clr [(45, 49)] (.region strings_Join_r14)) (.cond (.tmp 49) .bad .skip)) (.clr [(51, 55)] (.region strings_Join_r16))))) (.clr [(55, 56)] (.region strings_Join_r17)))))
@[simp] theorem strings_Join_l0_go (T : Tbl) (K : List Kt) (fr : Fr) (S : St) : gval T (.code strings_Join_l0 :: K) fr S = gval T (.code (.seq (.region strings_Join_r12) (.seq (.cond (.tmp 42) .skip (.exit 1)) (.seq (.block 2 (.seq (.clr [(43, 45)] (.region strings_Join_r13)) (.seq (.seq (.clr [(45, 49)] (.region strings_Join_r14)) (.cond (.tmp 49) .bad .skip)) (.clr [(51, 55)] (.region strings_Join_r16))))) (.clr [(55, 56)] (.region strings_Join_r17))))) :: K) fr S := rfl
def strings_Join_r18 : List POper := [
  ⟨some 8, .alloc false [.nilp, .nils], none⟩]
@[simp] theorem strings_Join_r18_go (T : Tbl) (K : List Kt) (fr : Fr) (S : St) : gval T (.ops strings_Join_r18 :: K) fr S = gval T (.ops [
  ⟨some 8, .alloc false [.nilp, .nils], none⟩] :: K) fr S := rfl
def strings_Join_r19 : List POper := [
  ⟨some 56, .mov (.tmp 5), none⟩,
  ⟨some 57, .call .std 213 [(.tmp 8), (.tmp 56)], none⟩]
@[simp] theorem strings_Join_r19_go (T : Tbl) (K : List Kt) (fr : Fr) (S : St) : gval T (.ops strings_Join_r19 :: K) fr S = gval T (.ops [
  ⟨some 56, .mov (.tmp 5), none⟩,
  ⟨some 57, .call .std 213 [(.tmp 8), (.tmp 56)], none⟩] :: K) fr S := rfl
def strings_Join_r20 : List POper := [
  ⟨some 58, .mov (.tmp 0), none⟩,
  ⟨some 59, .iaddr 1 (.tmp 58) (.cst (.int .i64 0)), none⟩,
  ⟨some 60, .load false 1 false (.tmp 59), none⟩,
  ⟨some 61, .call .std 214 [(.tmp 8), (.tmp 60)], none⟩]
@[simp] theorem strings_Join_r20_go (T : Tbl) (K : List Kt) (fr : Fr) (S : St) : gval T (.ops strings_Join_r20 :: K) fr S = gval T (.ops [
  ⟨some 58, .mov (.tmp 0), none⟩,
  ⟨some 59, .iaddr 1 (.tmp 58) (.cst (.int .i64 0)), none⟩,
  ⟨some 60, .load false 1 false (.tmp 59), none⟩,
  ⟨some 61, .call .std 214 [(.tmp 8), (.tmp 60)], none⟩] :: K) fr S := rfl
def strings_Join_r21 : List POper := [
  ⟨some 62, .mov (.tmp 0), none⟩,
  ⟨some 63, .slc 1 (some (.cst (.int .i64 1))) none (.tmp 62), none⟩,
  ⟨some 64, .len false (.tmp 63), none⟩,
  ⟨some 65, .mov (.cst (.int .i64 0)), none⟩]
@[simp] theorem strings_Join_r21_go (T : Tbl) (K : List Kt) (fr : Fr) (S : St) : gval T (.ops strings_Join_r21 :: K) fr S = gval T (.ops [
  ⟨some 62, .mov (.tmp 0), none⟩,
  ⟨some 63, .slc 1 (some (.cst (.int .i64 1))) none (.tmp 62), none⟩,
  ⟨some 64, .len false (.tmp 63), none⟩,
  ⟨some 65, .mov (.cst (.int .i64 0)), none⟩] :: K) fr S := rfl
def strings_Join_r22 : List POper := [
  ⟨some 66, .arith .lss (.tmp 65) (.tmp 64), none⟩]
@[simp] theorem strings_Join_r22_go (T : Tbl) (K : List Kt) (fr : Fr) (S : St) : gval T (.ops strings_Join_r22 :: K) fr S = gval T (.ops [
  ⟨some 66, .arith .lss (.tmp 65) (.tmp 64), none⟩] :: K) fr S := rfl
def strings_Join_r23 : List POper := [
  ⟨some 67, .iaddr 1 (.tmp 63) (.tmp 65), none⟩,
  ⟨some 68, .load false 1 false (.tmp 67), none⟩,
  ⟨some 10, .mov (.tmp 68), none⟩]
@[simp] theorem strings_Join_r23_go (T : Tbl) (K : List Kt) (fr : Fr) (S : St) : gval T (.ops strings_Join_r23 :: K) fr S = gval T (.ops [
  ⟨some 67, .iaddr 1 (.tmp 63) (.tmp 65), none⟩,
  ⟨some 68, .load false 1 false (.tmp 67), none⟩,
  ⟨some 10, .mov (.tmp 68), none⟩] :: K) fr S := rfl
def strings_Join_r24 : List POper := [
  ⟨some 69, .mov (.tmp 1), none⟩,
  ⟨some 70, .call .std 214 [(.tmp 8), (.tmp 69)], none⟩]
@[simp] theorem strings_Join_r24_go (T : Tbl) (K : List Kt) (fr : Fr) (S : St) : gval T (.ops strings_Join_r24 :: K) fr S = gval T (.ops [
  ⟨some 69, .mov (.tmp 1), none⟩,
  ⟨some 70, .call .std 214 [(.tmp 8), (.tmp 69)], none⟩] :: K) fr S := rfl
def strings_Join_r25 : List POper := [
  ⟨some 71, .mov (.tmp 10), none⟩,
  ⟨some 72, .call .std 214 [(.tmp 8), (.tmp 71)], none⟩]
@[simp] theorem strings_Join_r25_go (T : Tbl) (K : List Kt) (fr : Fr) (S : St) : gval T (.ops strings_Join_r25 :: K) fr S = gval T (.ops [
  ⟨some 71, .mov (.tmp 10), none⟩,
  ⟨some 72, .call .std 214 [(.tmp 8), (.tmp 71)], none⟩] :: K) fr S := rfl
def strings_Join_r26 : List POper := [
  ⟨some 73, .arith .add (.tmp 65) (.cst (.int .i64 1)), none⟩,
  ⟨some 65, .mov (.tmp 73), none⟩]
@[simp] theorem strings_Join_r26_go (T : Tbl) (K : List Kt) (fr : Fr) (S : St) : gval T (.ops strings_Join_r26 :: K) fr S = gval T (.ops [
  ⟨some 73, .arith .add (.tmp 65) (.cst (.int .i64 1)), none⟩,
  ⟨some 65, .mov (.tmp 73), none⟩] :: K) fr S := rfl
def strings_Join_l1 : PCode :=
  (.seq (.region strings_Join_r22) (.seq (.cond (.tmp 66) .skip (.exit 3)) (.seq (.block 4 (.seq (.clr [(67, 69)] (.region strings_Join_r23)) (.seq (.clr [(69, 71)] (.region strings_Join_r24)) (.clr [(71, 73)] (.region strings_Join_r25))))) (.clr [(73, 74)] (.region strings_Join_r26)))))
@[simp] theorem strings_Join_l1_go (T : Tbl) (K : List Kt) (fr : Fr) (S : St) : gval T (.code strings_Join_l1 :: K) fr S = gval T (.code (.seq (.region strings_Join_r22) (.seq (.cond (.tmp 66) .skip (.exit 3)) (.seq (.block 4 (.seq (.clr [(67, 69)] (.region strings_Join_r23)) (.seq (.clr [(69, 71)] (.region strings_Join_r24)) (.clr [(71, 73)] (.region strings_Join_r25))))) (.clr [(73, 74)] (.region strings_Join_r26))))) :: K) fr S := rfl
def strings_Join_r27 : List POper := [
  ⟨some 74, .call .std 215 [(.tmp 8)], none⟩,
  ⟨some 4, .mov (.tmp 74), none⟩]
@[simp] theorem strings_Join_r27_go (T : Tbl) (K : List Kt) (fr : Fr) (S : St) : gval T (.ops strings_Join_r27 :: K) fr S = gval T (.ops [
  ⟨some 74, .call .std 215 [(.tmp 8)], none⟩,
  ⟨some 4, .mov (.tmp 74), none⟩] :: K) fr S := rfl
def strings_Join : PCodeFn :=
  ⟨2, [.tmp 4],
  (.seq (.region strings_Join_r0) (.seq (.seq (.clr [(11, 12)] (.region strings_Join_r1)) (.block 0 (.seq (.clr [(14, 15)] (.region strings_Join_r2)) (.cond (.tmp 13) (.seq (.region strings_Join_r3) .ret) (.seq (.clr [(16, 17)] (.region strings_Join_r4)) (.cond (.tmp 15) (.seq (.clr [(17, 20)] (.region strings_Join_r5)) .ret) .skip)))))) (.seq (.region strings_Join_r6) (.seq (.seq (.clr [(20, 22)] (.region strings_Join_r7)) (.cond (.tmp 22) (.seq (.seq (.clr [(23, 29)] (.region strings_Join_r8)) (.cond (.tmp 29) .bad .skip)) (.clr [(31, 39)] (.region strings_Join_r10))) .skip)) (.seq (.seq (.region strings_Join_r11) (.block 1 (.loop strings_Join_l0))) (.seq (.region strings_Join_r18) (.seq (.clr [(56, 58)] (.region strings_Join_r19)) (.seq (.clr [(58, 62)] (.region strings_Join_r20)) (.seq (.seq (.clr [(62, 63)] (.region strings_Join_r21)) (.block 3 (.loop strings_Join_l1))) (.seq (.clr [(74, 75)] (.region strings_Join_r27)) .ret)))))))))), false⟩

/-! gauge/gaugeref06.Quoted: 101 -/
def ref06_Quoted_r0 : List POper := [
  ⟨some 2, .mov (.cst (.str [])), none⟩]
@[simp] theorem ref06_Quoted_r0_go (T : Tbl) (K : List Kt) (fr : Fr) (S : St) : gval T (.ops ref06_Quoted_r0 :: K) fr S = gval T (.ops [
  ⟨some 2, .mov (.cst (.str [])), none⟩] :: K) fr S := rfl
def ref06_Quoted_r1 : List POper := [
  ⟨some 3, .mov (.cst (.str [48, 49, 50, 51, 52, 53, 54, 55, 56, 57, 97, 98, 99, 100, 101, 102])), none⟩]
@[simp] theorem ref06_Quoted_r1_go (T : Tbl) (K : List Kt) (fr : Fr) (S : St) : gval T (.ops ref06_Quoted_r1 :: K) fr S = gval T (.ops [
  ⟨some 3, .mov (.cst (.str [48, 49, 50, 51, 52, 53, 54, 55, 56, 57, 97, 98, 99, 100, 101, 102])), none⟩] :: K) fr S := rfl
def ref06_Quoted_r2 : List POper := [
  ⟨some 7, .bsl false (.int .u8 0) 1 [(0, (.cst (.int .u8 34)))], none⟩,
  ⟨some 4, .mov (.tmp 7), none⟩]
@[simp] theorem ref06_Quoted_r2_go (T : Tbl) (K : List Kt) (fr : Fr) (S : St) : gval T (.ops ref06_Quoted_r2 :: K) fr S = gval T (.ops [
  ⟨some 7, .bsl false (.int .u8 0) 1 [(0, (.cst (.int .u8 34)))], none⟩,
  ⟨some 4, .mov (.tmp 7), none⟩] :: K) fr S := rfl
def ref06_Quoted_r3 : List POper := [
  ⟨some 5, .mov (.cst (.int .i64 0)), none⟩]
@[simp] theorem ref06_Quoted_r3_go (T : Tbl) (K : List Kt) (fr : Fr) (S : St) : gval T (.ops ref06_Quoted_r3 :: K) fr S = gval T (.ops [
  ⟨some 5, .mov (.cst (.int .i64 0)), none⟩] :: K) fr S := rfl
def ref06_Quoted_r4 : List POper := [
  ⟨some 8, .mov (.tmp 5), none⟩,
  ⟨some 9, .mov (.tmp 0), none⟩,
  ⟨some 10, .len true (.tmp 9), none⟩,
  ⟨some 11, .arith .lss (.tmp 8) (.tmp 10), none⟩]
@[simp] theorem ref06_Quoted_r4_go (T : Tbl) (K : List Kt) (fr : Fr) (S : St) : gval T (.ops ref06_Quoted_r4 :: K) fr S = gval T (.ops [
  ⟨some 8, .mov (.tmp 5), none⟩,
  ⟨some 9, .mov (.tmp 0), none⟩,
  ⟨some 10, .len true (.tmp 9), none⟩,
  ⟨some 11, .arith .lss (.tmp 8) (.tmp 10), none⟩] :: K) fr S := rfl
def ref06_Quoted_r6 : List POper := [
  ⟨some 14, .mov (.tmp 0), none⟩,
  ⟨some 15, .mov (.tmp 5), none⟩,
  ⟨some 16, .idxs (.tmp 14) (.tmp 15), none⟩,
  ⟨some 6, .mov (.tmp 16), none⟩]
@[simp] theorem ref06_Quoted_r6_go (T : Tbl) (K : List Kt) (fr : Fr) (S : St) : gval T (.ops ref06_Quoted_r6 :: K) fr S = gval T (.ops [
  ⟨some 14, .mov (.tmp 0), none⟩,
  ⟨some 15, .mov (.tmp 5), none⟩,
  ⟨some 16, .idxs (.tmp 14) (.tmp 15), none⟩,
  ⟨some 6, .mov (.tmp 16), none⟩] :: K) fr S := rfl
def ref06_Quoted_r7 : List POper := [
  ⟨some 17, .mov (.tmp 6), none⟩,
  ⟨some 18, .arith .eql (.tmp 17) (.cst (.int .u8 34)), none⟩,
  ⟨some 19, .mov (.tmp 18), none⟩,
  ⟨some 20, .mov (.tmp 6), some (19, false)⟩,
  ⟨some 21, .arith .eql (.tmp 20) (.cst (.int .u8 92)), some (19, false)⟩,
  ⟨some 22, .pick (.tmp 19) (.cst (.bool true)) (.tmp 21), none⟩]
@[simp] theorem ref06_Quoted_r7_go (T : Tbl) (K : List Kt) (fr : Fr) (S : St) : gval T (.ops ref06_Quoted_r7 :: K) fr S = gval T (.ops [
  ⟨some 17, .mov (.tmp 6), none⟩,
  ⟨some 18, .arith .eql (.tmp 17) (.cst (.int .u8 34)), none⟩,
  ⟨some 19, .mov (.tmp 18), none⟩,
  ⟨some 20, .mov (.tmp 6), some (19, false)⟩,
  ⟨some 21, .arith .eql (.tmp 20) (.cst (.int .u8 92)), some (19, false)⟩,
  ⟨some 22, .pick (.tmp 19) (.cst (.bool true)) (.tmp 21), none⟩] :: K) fr S := rfl
def ref06_Quoted_r8 : List POper := [
  ⟨some 23, .mov (.tmp 4), none⟩,
  ⟨some 24, .mov (.tmp 6), none⟩,
  ⟨some 25, .bsl false (.int .u8 0) 2 [(0, (.cst (.int .u8 92))), (1, (.tmp 24))], none⟩,
  ⟨some 26, .app 1 1 (.tmp 23) (.tmp 25), none⟩,
  ⟨some 4, .mov (.tmp 26), none⟩]
@[simp] theorem ref06_Quoted_r8_go (T : Tbl) (K : List Kt) (fr : Fr) (S : St) : gval T (.ops ref06_Quoted_r8 :: K) fr S = gval T (.ops [
  ⟨some 23, .mov (.tmp 4), none⟩,
  ⟨some 24, .mov (.tmp 6), none⟩,
  ⟨some 25, .bsl false (.int .u8 0) 2 [(0, (.cst (.int .u8 92))), (1, (.tmp 24))], none⟩,
  ⟨some 26, .app 1 1 (.tmp 23) (.tmp 25), none⟩,
  ⟨some 4, .mov (.tmp 26), none⟩] :: K) fr S := rfl
def ref06_Quoted_r9 : List POper := [
  ⟨some 27, .mov (.tmp 6), none⟩,
  ⟨some 28, .arith .lss (.tmp 27) (.cst (.int .u8 32)), none⟩,
  ⟨some 29, .mov (.tmp 28), none⟩,
  ⟨some 30, .mov (.tmp 6), some (29, false)⟩,
  ⟨some 31, .arith .gtr (.tmp 30) (.cst (.int .u8 126)), some (29, false)⟩,
  ⟨some 32, .pick (.tmp 29) (.cst (.bool true)) (.tmp 31), none⟩]
@[simp] theorem ref06_Quoted_r9_go (T : Tbl) (K : List Kt) (fr : Fr) (S : St) : gval T (.ops ref06_Quoted_r9 :: K) fr S = gval T (.ops [
  ⟨some 27, .mov (.tmp 6), none⟩,
  ⟨some 28, .arith .lss (.tmp 27) (.cst (.int .u8 32)), none⟩,
  ⟨some 29, .mov (.tmp 28), none⟩,
  ⟨some 30, .mov (.tmp 6), some (29, false)⟩,
  ⟨some 31, .arith .gtr (.tmp 30) (.cst (.int .u8 126)), some (29, false)⟩,
  ⟨some 32, .pick (.tmp 29) (.cst (.bool true)) (.tmp 31), none⟩] :: K) fr S := rfl
def ref06_Quoted_r10 : List POper := [
  ⟨some 33, .mov (.tmp 4), none⟩,
  ⟨some 34, .mov (.tmp 3), none⟩,
  ⟨some 35, .mov (.tmp 6), none⟩,
  ⟨some 36, .arith .quo (.tmp 35) (.cst (.int .u8 16)), none⟩,
  ⟨some 37, .idxs (.tmp 34) (.tmp 36), none⟩,
  ⟨some 38, .mov (.tmp 3), none⟩,
  ⟨some 39, .mov (.tmp 6), none⟩,
  ⟨some 40, .arith .rem (.tmp 39) (.cst (.int .u8 16)), none⟩,
  ⟨some 41, .idxs (.tmp 38) (.tmp 40), none⟩,
  ⟨some 42, .bsl false (.int .u8 0) 4 [(0, (.cst (.int .u8 92))), (1, (.cst (.int .u8 120))), (2, (.tmp 37)), (3, (.tmp 41))], none⟩,
  ⟨some 43, .app 1 1 (.tmp 33) (.tmp 42), none⟩,
  ⟨some 4, .mov (.tmp 43), none⟩]
@[simp] theorem ref06_Quoted_r10_go (T : Tbl) (K : List Kt) (fr : Fr) (S : St) : gval T (.ops ref06_Quoted_r10 :: K) fr S = gval T (.ops [
  ⟨some 33, .mov (.tmp 4), none⟩,
  ⟨some 34, .mov (.tmp 3), none⟩,
  ⟨some 35, .mov (.tmp 6), none⟩,
  ⟨some 36, .arith .quo (.tmp 35) (.cst (.int .u8 16)), none⟩,
  ⟨some 37, .idxs (.tmp 34) (.tmp 36), none⟩,
  ⟨some 38, .mov (.tmp 3), none⟩,
  ⟨some 39, .mov (.tmp 6), none⟩,
  ⟨some 40, .arith .rem (.tmp 39) (.cst (.int .u8 16)), none⟩,
  ⟨some 41, .idxs (.tmp 38) (.tmp 40), none⟩,
  ⟨some 42, .bsl false (.int .u8 0) 4 [(0, (.cst (.int .u8 92))), (1, (.cst (.int .u8 120))), (2, (.tmp 37)), (3, (.tmp 41))], none⟩,
  ⟨some 43, .app 1 1 (.tmp 33) (.tmp 42), none⟩,
  ⟨some 4, .mov (.tmp 43), none⟩] :: K) fr S := rfl
def ref06_Quoted_r11 : List POper := [
  ⟨some 44, .mov (.tmp 4), none⟩,
  ⟨some 45, .mov (.tmp 6), none⟩,
  ⟨some 46, .bsl false (.int .u8 0) 1 [(0, (.tmp 45))], none⟩,
  ⟨some 47, .app 1 1 (.tmp 44) (.tmp 46), none⟩,
  ⟨some 4, .mov (.tmp 47), none⟩]
@[simp] theorem ref06_Quoted_r11_go (T : Tbl) (K : List Kt) (fr : Fr) (S : St) : gval T (.ops ref06_Quoted_r11 :: K) fr S = gval T (.ops [
  ⟨some 44, .mov (.tmp 4), none⟩,
  ⟨some 45, .mov (.tmp 6), none⟩,
  ⟨some 46, .bsl false (.int .u8 0) 1 [(0, (.tmp 45))], none⟩,
  ⟨some 47, .app 1 1 (.tmp 44) (.tmp 46), none⟩,
  ⟨some 4, .mov (.tmp 47), none⟩] :: K) fr S := rfl
def ref06_Quoted_r5 : List POper := [
  ⟨some 12, .mov (.tmp 5), none⟩,
  ⟨some 13, .arith .add (.tmp 12) (.cst (.int .i64 1)), none⟩,
  ⟨some 5, .mov (.tmp 13), none⟩]
@[simp] theorem ref06_Quoted_r5_go (T : Tbl) (K : List Kt) (fr : Fr) (S : St) : gval T (.ops ref06_Quoted_r5 :: K) fr S = gval T (.ops [
  ⟨some 12, .mov (.tmp 5), none⟩,
  ⟨some 13, .arith .add (.tmp 12) (.cst (.int .i64 1)), none⟩,
  ⟨some 5, .mov (.tmp 13), none⟩] :: K) fr S := rfl
def ref06_Quoted_l0 : PCode :=
  (.seq (.seq (.clr [(8, 11)] (.region ref06_Quoted_r4)) (.cond (.tmp 11) .skip (.exit 0))) (.seq (.block 1 (.seq (.clr [(14, 17)] (.region ref06_Quoted_r6)) (.seq (.clr [(17, 22)] (.region ref06_Quoted_r7)) (.cond (.tmp 22) (.clr [(23, 27)] (.region ref06_Quoted_r8)) (.seq (.clr [(27, 32)] (.region ref06_Quoted_r9)) (.cond (.tmp 32) (.clr [(33, 44)] (.region ref06_Quoted_r10)) (.clr [(44, 48)] (.region ref06_Quoted_r11)))))))) (.clr [(12, 14)] (.region ref06_Quoted_r5))))
@[simp] theorem ref06_Quoted_l0_go (T : Tbl) (K : List Kt) (fr : Fr) (S : St) : gval T (.code ref06_Quoted_l0 :: K) fr S = gval T (.code (.seq (.seq (.clr [(8, 11)] (.region ref06_Quoted_r4)) (.cond (.tmp 11) .skip (.exit 0))) (.seq (.block 1 (.seq (.clr [(14, 17)] (.region ref06_Quoted_r6)) (.seq (.clr [(17, 22)] (.region ref06_Quoted_r7)) (.cond (.tmp 22) (.clr [(23, 27)] (.region ref06_Quoted_r8)) (.seq (.clr [(27, 32)] (.region ref06_Quoted_r9)) (.cond (.tmp 32) (.clr [(33, 44)] (.region ref06_Quoted_r10)) (.clr [(44, 48)] (.region ref06_Quoted_r11)))))))) (.clr [(12, 14)] (.region ref06_Quoted_r5)))) :: K) fr S := rfl
def ref06_Quoted_r12 : List POper := [
  ⟨some 48, .mov (.tmp 4), none⟩,
  ⟨some 49, .bsl false (.int .u8 0) 1 [(0, (.cst (.int .u8 34)))], none⟩,
  ⟨some 50, .app 1 1 (.tmp 48) (.tmp 49), none⟩,
  ⟨some 51, .toStr (.tmp 50), none⟩,
  ⟨some 2, .mov (.tmp 51), none⟩]
@[simp] theorem ref06_Quoted_r12_go (T : Tbl) (K : List Kt) (fr : Fr) (S : St) : gval T (.ops ref06_Quoted_r12 :: K) fr S = gval T (.ops [
  ⟨some 48, .mov (.tmp 4), none⟩,
  ⟨some 49, .bsl false (.int .u8 0) 1 [(0, (.cst (.int .u8 34)))], none⟩,
  ⟨some 50, .app 1 1 (.tmp 48) (.tmp 49), none⟩,
  ⟨some 51, .toStr (.tmp 50), none⟩,
  ⟨some 2, .mov (.tmp 51), none⟩] :: K) fr S := rfl
def ref06_Quoted : PCodeFn :=
  ⟨1, [.tmp 2],
  (.seq (.region ref06_Quoted_r0) (.seq (.region ref06_Quoted_r1) (.seq (.clr [(7, 8)] (.region ref06_Quoted_r2)) (.seq (.seq (.region ref06_Quoted_r3) (.block 0 (.loop ref06_Quoted_l0))) (.seq (.clr [(48, 52)] (.region ref06_Quoted_r12)) .ret))))), false⟩

/-! gauge/label.those[gauge/api.Label]: 116 -/
def label_those_Label_r0 : List POper := [
  ⟨some 4, .mov (.cst .nils), none⟩]
@[simp] theorem label_those_Label_r0_go (T : Tbl) (K : List Kt) (fr : Fr) (S : St) : gval T (.ops label_those_Label_r0 :: K) fr S = gval T (.ops [
  ⟨some 4, .mov (.cst .nils), none⟩] :: K) fr S := rfl
def label_those_Label_r1 : List POper := [
  ⟨some 5, .mov (.cst .nils), none⟩]
@[simp] theorem label_those_Label_r1_go (T : Tbl) (K : List Kt) (fr : Fr) (S : St) : gval T (.ops label_those_Label_r1 :: K) fr S = gval T (.ops [
  ⟨some 5, .mov (.cst .nils), none⟩] :: K) fr S := rfl
def label_those_Label_r2 : List POper := [
  ⟨some 8, .mov (.tmp 0), none⟩,
  ⟨some 9, .len false (.tmp 8), none⟩,
  ⟨some 10, .mov (.cst (.int .i64 0)), none⟩]
@[simp] theorem label_those_Label_r2_go (T : Tbl) (K : List Kt) (fr : Fr) (S : St) : gval T (.ops label_those_Label_r2 :: K) fr S = gval T (.ops [
  ⟨some 8, .mov (.tmp 0), none⟩,
  ⟨some 9, .len false (.tmp 8), none⟩,
  ⟨some 10, .mov (.cst (.int .i64 0)), none⟩] :: K) fr S := rfl
def label_those_Label_r3 : List POper := [
  ⟨some 11, .arith .lss (.tmp 10) (.tmp 9), none⟩]
@[simp] theorem label_those_Label_r3_go (T : Tbl) (K : List Kt) (fr : Fr) (S : St) : gval T (.ops label_those_Label_r3 :: K) fr S = gval T (.ops [
  ⟨some 11, .arith .lss (.tmp 10) (.tmp 9), none⟩] :: K) fr S := rfl
def label_those_Label_r4 : List POper := [
  ⟨some 12, .iaddr 2 (.tmp 8) (.tmp 10), none⟩,
  ⟨some 13, .load true 2 false (.tmp 12), none⟩,
  ⟨some 7, .alloc false [(.str []), (.str [])], none⟩,
  ⟨none, .store 2 (.tmp 7) (.tmp 13), none⟩]
@[simp] theorem label_those_Label_r4_go (T : Tbl) (K : List Kt) (fr : Fr) (S : St) : gval T (.ops label_those_Label_r4 :: K) fr S = gval T (.ops [
  ⟨some 12, .iaddr 2 (.tmp 8) (.tmp 10), none⟩,
  ⟨some 13, .load true 2 false (.tmp 12), none⟩,
  ⟨some 7, .alloc false [(.str []), (.str [])], none⟩,
  ⟨none, .store 2 (.tmp 7) (.tmp 13), none⟩] :: K) fr S := rfl
def label_those_Label_r5 : List POper := [
  ⟨some 14, .mov (.tmp 1), none⟩,
  ⟨some 15, .load true 2 false (.tmp 7), none⟩,
  ⟨some 16, .callv .std (.tmp 14) [(.tmp 15)], none⟩]
@[simp] theorem label_those_Label_r5_go (T : Tbl) (K : List Kt) (fr : Fr) (S : St) : gval T (.ops label_those_Label_r5 :: K) fr S = gval T (.ops [
  ⟨some 14, .mov (.tmp 1), none⟩,
  ⟨some 15, .load true 2 false (.tmp 7), none⟩,
  ⟨some 16, .callv .std (.tmp 14) [(.tmp 15)], none⟩] :: K) fr S := rfl
def label_those_Label_r6 : List POper := [
  ⟨some 17, .mov (.tmp 5), none⟩,
  ⟨some 18, .load true 2 false (.tmp 7), none⟩,
  ⟨some 19, .bsl false (.agg [(.str []), (.str [])]) 1 [(0, (.tmp 18))], none⟩,
  ⟨some 20, .app 2 32 (.tmp 17) (.tmp 19), none⟩,
  ⟨some 5, .mov (.tmp 20), none⟩]
@[simp] theorem label_those_Label_r6_go (T : Tbl) (K : List Kt) (fr : Fr) (S : St) : gval T (.ops label_those_Label_r6 :: K) fr S = gval T (.ops [
  ⟨some 17, .mov (.tmp 5), none⟩,
  ⟨some 18, .load true 2 false (.tmp 7), none⟩,
  ⟨some 19, .bsl false (.agg [(.str []), (.str [])]) 1 [(0, (.tmp 18))], none⟩,
  ⟨some 20, .app 2 32 (.tmp 17) (.tmp 19), none⟩,
  ⟨some 5, .mov (.tmp 20), none⟩] :: K) fr S := rfl
def label_those_Label_r7 : List POper := [
  ⟨some 21, .arith .add (.tmp 10) (.cst (.int .i64 1)), none⟩,
  ⟨some 10, .mov (.tmp 21), none⟩]
@[simp] theorem label_those_Label_r7_go (T : Tbl) (K : List Kt) (fr : Fr) (S : St) : gval T (.ops label_those_Label_r7 :: K) fr S = gval T (.ops [
  ⟨some 21, .arith .add (.tmp 10) (.cst (.int .i64 1)), none⟩,
  ⟨some 10, .mov (.tmp 21), none⟩] :: K) fr S := rfl
def label_those_Label_l0 : PCode :=
  (.seq (.region label_those_Label_r3) (.seq (.cond (.tmp 11) .skip (.exit 0)) (.seq (.block 1 (.seq (.clr [(12, 14)] (.region label_those_Label_r4)) (.seq (.clr [(14, 16)] (.region label_those_Label_r5)) (.cond (.tmp 16) (.clr [(17, 21)] (.region label_those_Label_r6)) .skip)))) (.clr [(21, 22)] (.region label_those_Label_r7)))))
@[simp] theorem label_those_Label_l0_go (T : Tbl) (K : List Kt) (fr : Fr) (S : St) : gval T (.code label_those_Label_l0 :: K) fr S = gval T (.code (.seq (.region label_those_Label_r3) (.seq (.cond (.tmp 11) .skip (.exit 0)) (.seq (.block 1 (.seq (.clr [(12, 14)] (.region label_those_Label_r4)) (.seq (.clr [(14, 16)] (.region label_those_Label_r5)) (.cond (.tmp 16) (.clr [(17, 21)] (.region label_those_Label_r6)) .skip)))) (.clr [(21, 22)] (.region label_those_Label_r7))))) :: K) fr S := rfl
def label_those_Label_r8 : List POper := [
  ⟨some 22, .mov (.tmp 5), none⟩,
  ⟨some 4, .mov (.tmp 22), none⟩]
@[simp] theorem label_those_Label_r8_go (T : Tbl) (K : List Kt) (fr : Fr) (S : St) : gval T (.ops label_those_Label_r8 :: K) fr S = gval T (.ops [
  ⟨some 22, .mov (.tmp 5), none⟩,
  ⟨some 4, .mov (.tmp 22), none⟩] :: K) fr S := rfl
def label_those_Label : PCodeFn :=
  ⟨2, [.tmp 4],
  (.seq (.region label_those_Label_r0) (.seq (.region label_those_Label_r1) (.seq (.seq (.region label_those_Label_r2) (.block 0 (.loop label_those_Label_l0))) (.seq (.clr [(22, 23)] (.region label_those_Label_r8)) .ret)))), false⟩

/-! gauge/label.Keep.1: 117 -/
def label_Keep_1_r0 : List POper := [
  ⟨some 2, .box true (.tmp 0), none⟩,
  ⟨some 3, .mov (.cst (.bool false)), none⟩]
@[simp] theorem label_Keep_1_r0_go (T : Tbl) (K : List Kt) (fr : Fr) (S : St) : gval T (.ops label_Keep_1_r0 :: K) fr S = gval T (.ops [
  ⟨some 2, .box true (.tmp 0), none⟩,
  ⟨some 3, .mov (.cst (.bool false)), none⟩] :: K) fr S := rfl
def label_Keep_1_r1 : List POper := [
  ⟨some 4, .load false 1 false (.tmp 1), none⟩,
  ⟨some 5, .faddr 0 (.tmp 2), none⟩,
  ⟨some 6, .load false 1 false (.tmp 5), none⟩,
  ⟨some 7, .call .std 118 [(.tmp 4), (.tmp 6)], none⟩,
  ⟨some 3, .mov (.tmp 7), none⟩]
@[simp] theorem label_Keep_1_r1_go (T : Tbl) (K : List Kt) (fr : Fr) (S : St) : gval T (.ops label_Keep_1_r1 :: K) fr S = gval T (.ops [
  ⟨some 4, .load false 1 false (.tmp 1), none⟩,
  ⟨some 5, .faddr 0 (.tmp 2), none⟩,
  ⟨some 6, .load false 1 false (.tmp 5), none⟩,
  ⟨some 7, .call .std 118 [(.tmp 4), (.tmp 6)], none⟩,
  ⟨some 3, .mov (.tmp 7), none⟩] :: K) fr S := rfl
def label_Keep_1 : PCodeFn :=
  ⟨2, [.tmp 3],
  (.seq (.region label_Keep_1_r0) (.seq (.clr [(4, 8)] (.region label_Keep_1_r1)) .ret)), false⟩

/-! slices.Contains[[]string,string]: 118 -/
def slices_Contains_string_r0 : List POper := [
  ⟨some 4, .mov (.cst (.bool false)), none⟩]
@[simp] theorem slices_Contains_string_r0_go (T : Tbl) (K : List Kt) (fr : Fr) (S : St) : gval T (.ops slices_Contains_string_r0 :: K) fr S = gval T (.ops [
  ⟨some 4, .mov (.cst (.bool false)), none⟩] :: K) fr S := rfl
def slices_Contains_string_r1 : List POper := [
  ⟨some 5, .mov (.tmp 0), none⟩,
  ⟨some 6, .mov (.tmp 1), none⟩,
  ⟨some 7, .call .std 221 [(.tmp 5), (.tmp 6)], none⟩,
  ⟨some 8, .arith .geq (.tmp 7) (.cst (.int .i64 0)), none⟩,
  ⟨some 4, .mov (.tmp 8), none⟩]
@[simp] theorem slices_Contains_string_r1_go (T : Tbl) (K : List Kt) (fr : Fr) (S : St) : gval T (.ops slices_Contains_string_r1 :: K) fr S = gval T (.ops [
  ⟨some 5, .mov (.tmp 0), none⟩,
  ⟨some 6, .mov (.tmp 1), none⟩,
  ⟨some 7, .call .std 221 [(.tmp 5), (.tmp 6)], none⟩,
  ⟨some 8, .arith .geq (.tmp 7) (.cst (.int .i64 0)), none⟩,
  ⟨some 4, .mov (.tmp 8), none⟩] :: K) fr S := rfl
def slices_Contains_string : PCodeFn :=
  ⟨2, [.tmp 4],
  (.seq (.region slices_Contains_string_r0) (.seq (.clr [(5, 9)] (.region slices_Contains_string_r1)) .ret)), false⟩

/-! gauge/label.Drop.1: 120 -/
def label_Drop_1_r0 : List POper := [
  ⟨some 2, .box true (.tmp 0), none⟩,
  ⟨some 3, .mov (.cst (.bool false)), none⟩]
@[simp] theorem label_Drop_1_r0_go (T : Tbl) (K : List Kt) (fr : Fr) (S : St) : gval T (.ops label_Drop_1_r0 :: K) fr S = gval T (.ops [
  ⟨some 2, .box true (.tmp 0), none⟩,
  ⟨some 3, .mov (.cst (.bool false)), none⟩] :: K) fr S := rfl
def label_Drop_1_r1 : List POper := [
  ⟨some 4, .load false 1 false (.tmp 1), none⟩,
  ⟨some 5, .faddr 0 (.tmp 2), none⟩,
  ⟨some 6, .load false 1 false (.tmp 5), none⟩,
  ⟨some 7, .call .std 118 [(.tmp 4), (.tmp 6)], none⟩,
  ⟨some 8, .un .not (.tmp 7), none⟩,
  ⟨some 3, .mov (.tmp 8), none⟩]
@[simp] theorem label_Drop_1_r1_go (T : Tbl) (K : List Kt) (fr : Fr) (S : St) : gval T (.ops label_Drop_1_r1 :: K) fr S = gval T (.ops [
  ⟨some 4, .load false 1 false (.tmp 1), none⟩,
  ⟨some 5, .faddr 0 (.tmp 2), none⟩,
  ⟨some 6, .load false 1 false (.tmp 5), none⟩,
  ⟨some 7, .call .std 118 [(.tmp 4), (.tmp 6)], none⟩,
  ⟨some 8, .un .not (.tmp 7), none⟩,
  ⟨some 3, .mov (.tmp 8), none⟩] :: K) fr S := rfl
def label_Drop_1 : PCodeFn :=
  ⟨2, [.tmp 3],
  (.seq (.region label_Drop_1_r0) (.seq (.clr [(4, 9)] (.region label_Drop_1_r1)) .ret)), false⟩

end Ps
