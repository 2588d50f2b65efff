/- The functions' code, as the pure semantics has it: printed by program. -/
import Derived.Test.YtmhigcjhjmcpcaaWalk
namespace Ps
open Go
set_option maxRecDepth 10000

/-! gauge/gaugelaw07.RegexChecks: 479 -/
def law07_RegexChecks_r0 : List POper := [
  ⟨some 2, .mov (.cst (.bool false)), none⟩]
@[simp] theorem law07_RegexChecks_r0_go (T : Tbl) (K : List Kt) (fr : Fr) (S : St) : gval T (.ops law07_RegexChecks_r0 :: K) fr S = gval T (.ops [
  ⟨some 2, .mov (.cst (.bool false)), none⟩] :: K) fr S := rfl
def law07_RegexChecks_r1 : List POper := [
  ⟨some 3, .mov (.tmp 0), none⟩,
  ⟨some 4, .call .pur 125 [(.tmp 3)], none⟩,
  ⟨some 5, .mov (.tmp 0), none⟩,
  ⟨some 6, .call .pur 123 [(.tmp 5)], none⟩,
  ⟨some 7, .arith .eql (.tmp 4) (.tmp 6), none⟩,
  ⟨some 8, .mov (.tmp 7), none⟩,
  ⟨some 9, .call .pur 44 [], some (8, true)⟩,
  ⟨some 10, .pick (.tmp 8) (.tmp 9) (.cst (.bool false)), none⟩,
  ⟨some 2, .mov (.tmp 10), none⟩]
@[simp] theorem law07_RegexChecks_r1_go (T : Tbl) (K : List Kt) (fr : Fr) (S : St) : gval T (.ops law07_RegexChecks_r1 :: K) fr S = gval T (.ops [
  ⟨some 3, .mov (.tmp 0), none⟩,
  ⟨some 4, .call .pur 125 [(.tmp 3)], none⟩,
  ⟨some 5, .mov (.tmp 0), none⟩,
  ⟨some 6, .call .pur 123 [(.tmp 5)], none⟩,
  ⟨some 7, .arith .eql (.tmp 4) (.tmp 6), none⟩,
  ⟨some 8, .mov (.tmp 7), none⟩,
  ⟨some 9, .call .pur 44 [], some (8, true)⟩,
  ⟨some 10, .pick (.tmp 8) (.tmp 9) (.cst (.bool false)), none⟩,
  ⟨some 2, .mov (.tmp 10), none⟩] :: K) fr S := rfl
def law07_RegexChecks : PCodeFn :=
  ⟨1, [.tmp 2],
  (.seq (.region law07_RegexChecks_r0) (.seq (.clr [(3, 11)] (.region law07_RegexChecks_r1)) .ret)), false⟩

/-! gauge/gaugelaw07.RegexFits: 10 -/
def law07_RegexFits_r0 : List POper := [
  ⟨some 4, .mov (.cst (.bool false)), none⟩]
@[simp] theorem law07_RegexFits_r0_go (T : Tbl) (K : List Kt) (fr : Fr) (S : St) : gval T (.ops law07_RegexFits_r0 :: K) fr S = gval T (.ops [
  ⟨some 4, .mov (.cst (.bool false)), none⟩] :: K) fr S := rfl
def law07_RegexFits_r1 : List POper := [
  ⟨some 10, .mov (.tmp 0), none⟩,
  ⟨some 11, .mov (.tmp 1), none⟩,
  ⟨some 12, .call .pur 42 [(.tmp 10), (.tmp 11)], none⟩,
  ⟨some 9, .mov (.tmp 12), none⟩,
  ⟨some 13, .extract 0 (.tmp 9), none⟩,
  ⟨some 14, .extract 1 (.tmp 9), none⟩,
  ⟨some 5, .mov (.tmp 13), none⟩,
  ⟨some 6, .mov (.tmp 14), none⟩]
@[simp] theorem law07_RegexFits_r1_go (T : Tbl) (K : List Kt) (fr : Fr) (S : St) : gval T (.ops law07_RegexFits_r1 :: K) fr S = gval T (.ops [
  ⟨some 10, .mov (.tmp 0), none⟩,
  ⟨some 11, .mov (.tmp 1), none⟩,
  ⟨some 12, .call .pur 42 [(.tmp 10), (.tmp 11)], none⟩,
  ⟨some 9, .mov (.tmp 12), none⟩,
  ⟨some 13, .extract 0 (.tmp 9), none⟩,
  ⟨some 14, .extract 1 (.tmp 9), none⟩,
  ⟨some 5, .mov (.tmp 13), none⟩,
  ⟨some 6, .mov (.tmp 14), none⟩] :: K) fr S := rfl
def law07_RegexFits_r2 : List POper := [
  ⟨some 16, .mov (.tmp 0), none⟩,
  ⟨some 17, .mov (.tmp 1), none⟩,
  ⟨some 18, .call .pur 43 [(.tmp 16), (.tmp 17)], none⟩,
  ⟨some 15, .mov (.tmp 18), none⟩,
  ⟨some 19, .extract 0 (.tmp 15), none⟩,
  ⟨some 20, .extract 1 (.tmp 15), none⟩,
  ⟨some 7, .mov (.tmp 19), none⟩,
  ⟨some 8, .mov (.tmp 20), none⟩]
@[simp] theorem law07_RegexFits_r2_go (T : Tbl) (K : List Kt) (fr : Fr) (S : St) : gval T (.ops law07_RegexFits_r2 :: K) fr S = gval T (.ops [
  ⟨some 16, .mov (.tmp 0), none⟩,
  ⟨some 17, .mov (.tmp 1), none⟩,
  ⟨some 18, .call .pur 43 [(.tmp 16), (.tmp 17)], none⟩,
  ⟨some 15, .mov (.tmp 18), none⟩,
  ⟨some 19, .extract 0 (.tmp 15), none⟩,
  ⟨some 20, .extract 1 (.tmp 15), none⟩,
  ⟨some 7, .mov (.tmp 19), none⟩,
  ⟨some 8, .mov (.tmp 20), none⟩] :: K) fr S := rfl
def law07_RegexFits_r3 : List POper := [
  ⟨some 21, .mov (.tmp 5), none⟩,
  ⟨some 22, .mov (.tmp 7), none⟩,
  ⟨some 23, .eqb false (.tmp 21) (.tmp 22), none⟩,
  ⟨some 24, .mov (.tmp 23), none⟩,
  ⟨some 25, .mov (.tmp 6), some (24, true)⟩,
  ⟨some 26, .mov (.tmp 8), some (24, true)⟩,
  ⟨some 27, .arith .eql (.tmp 25) (.tmp 26), some (24, true)⟩,
  ⟨some 28, .pick (.tmp 24) (.tmp 27) (.cst (.bool false)), none⟩,
  ⟨some 29, .mov (.tmp 28), none⟩,
  ⟨some 30, .call .pur 44 [], some (29, true)⟩,
  ⟨some 31, .pick (.tmp 29) (.tmp 30) (.cst (.bool false)), none⟩,
  ⟨some 4, .mov (.tmp 31), none⟩]
@[simp] theorem law07_RegexFits_r3_go (T : Tbl) (K : List Kt) (fr : Fr) (S : St) : gval T (.ops law07_RegexFits_r3 :: K) fr S = gval T (.ops [
  ⟨some 21, .mov (.tmp 5), none⟩,
  ⟨some 22, .mov (.tmp 7), none⟩,
  ⟨some 23, .eqb false (.tmp 21) (.tmp 22), none⟩,
  ⟨some 24, .mov (.tmp 23), none⟩,
  ⟨some 25, .mov (.tmp 6), some (24, true)⟩,
  ⟨some 26, .mov (.tmp 8), some (24, true)⟩,
  ⟨some 27, .arith .eql (.tmp 25) (.tmp 26), some (24, true)⟩,
  ⟨some 28, .pick (.tmp 24) (.tmp 27) (.cst (.bool false)), none⟩,
  ⟨some 29, .mov (.tmp 28), none⟩,
  ⟨some 30, .call .pur 44 [], some (29, true)⟩,
  ⟨some 31, .pick (.tmp 29) (.tmp 30) (.cst (.bool false)), none⟩,
  ⟨some 4, .mov (.tmp 31), none⟩] :: K) fr S := rfl
def law07_RegexFits : PCodeFn :=
  ⟨2, [.tmp 4],
  (.seq (.region law07_RegexFits_r0) (.seq (.clr [(9, 15)] (.region law07_RegexFits_r1)) (.seq (.clr [(15, 21)] (.region law07_RegexFits_r2)) (.seq (.clr [(21, 32)] (.region law07_RegexFits_r3)) .ret)))), false⟩

/-! gauge/gaugelaw07.RegexOr: 481 -/
def law07_RegexOr_r0 : List POper := [
  ⟨some 6, .mov (.cst (.bool false)), none⟩]
@[simp] theorem law07_RegexOr_r0_go (T : Tbl) (K : List Kt) (fr : Fr) (S : St) : gval T (.ops law07_RegexOr_r0 :: K) fr S = gval T (.ops [
  ⟨some 6, .mov (.cst (.bool false)), none⟩] :: K) fr S := rfl
def law07_RegexOr_r1 : List POper := [
  ⟨some 8, .mov (.tmp 0), none⟩,
  ⟨some 9, .arith .add (.tmp 8) (.cst (.str [124])), none⟩,
  ⟨some 10, .mov (.tmp 1), none⟩,
  ⟨some 11, .arith .add (.tmp 9) (.tmp 10), none⟩,
  ⟨some 7, .mov (.tmp 11), none⟩]
@[simp] theorem law07_RegexOr_r1_go (T : Tbl) (K : List Kt) (fr : Fr) (S : St) : gval T (.ops law07_RegexOr_r1 :: K) fr S = gval T (.ops [
  ⟨some 8, .mov (.tmp 0), none⟩,
  ⟨some 9, .arith .add (.tmp 8) (.cst (.str [124])), none⟩,
  ⟨some 10, .mov (.tmp 1), none⟩,
  ⟨some 11, .arith .add (.tmp 9) (.tmp 10), none⟩,
  ⟨some 7, .mov (.tmp 11), none⟩] :: K) fr S := rfl
def law07_RegexOr_r2 : List POper := [
  ⟨some 12, .mov (.tmp 2), none⟩,
  ⟨some 13, .len true (.tmp 12), none⟩,
  ⟨some 14, .arith .gtr (.tmp 13) (.cst (.int .i64 64)), none⟩,
  ⟨some 15, .mov (.tmp 14), none⟩,
  ⟨some 16, .mov (.tmp 0), some (15, false)⟩,
  ⟨some 17, .call .pur 125 [(.tmp 16)], some (15, false)⟩,
  ⟨some 18, .arith .neq (.tmp 17) (.cst (.int .i64 0)), some (15, false)⟩,
  ⟨some 19, .pick (.tmp 15) (.cst (.bool true)) (.tmp 18), none⟩,
  ⟨some 20, .mov (.tmp 19), none⟩,
  ⟨some 21, .mov (.tmp 1), some (20, false)⟩,
  ⟨some 22, .call .pur 125 [(.tmp 21)], some (20, false)⟩,
  ⟨some 23, .arith .neq (.tmp 22) (.cst (.int .i64 0)), some (20, false)⟩,
  ⟨some 24, .pick (.tmp 20) (.cst (.bool true)) (.tmp 23), none⟩,
  ⟨some 25, .mov (.tmp 24), none⟩,
  ⟨some 26, .mov (.tmp 7), some (25, false)⟩,
  ⟨some 27, .len true (.tmp 26), some (25, false)⟩,
  ⟨some 28, .arith .gtr (.tmp 27) (.cst (.int .i64 64)), some (25, false)⟩,
  ⟨some 29, .pick (.tmp 25) (.cst (.bool true)) (.tmp 28), none⟩]
@[simp] theorem law07_RegexOr_r2_go (T : Tbl) (K : List Kt) (fr : Fr) (S : St) : gval T (.ops law07_RegexOr_r2 :: K) fr S = gval T (.ops [
  ⟨some 12, .mov (.tmp 2), none⟩,
  ⟨some 13, .len true (.tmp 12), none⟩,
  ⟨some 14, .arith .gtr (.tmp 13) (.cst (.int .i64 64)), none⟩,
  ⟨some 15, .mov (.tmp 14), none⟩,
  ⟨some 16, .mov (.tmp 0), some (15, false)⟩,
  ⟨some 17, .call .pur 125 [(.tmp 16)], some (15, false)⟩,
  ⟨some 18, .arith .neq (.tmp 17) (.cst (.int .i64 0)), some (15, false)⟩,
  ⟨some 19, .pick (.tmp 15) (.cst (.bool true)) (.tmp 18), none⟩,
  ⟨some 20, .mov (.tmp 19), none⟩,
  ⟨some 21, .mov (.tmp 1), some (20, false)⟩,
  ⟨some 22, .call .pur 125 [(.tmp 21)], some (20, false)⟩,
  ⟨some 23, .arith .neq (.tmp 22) (.cst (.int .i64 0)), some (20, false)⟩,
  ⟨some 24, .pick (.tmp 20) (.cst (.bool true)) (.tmp 23), none⟩,
  ⟨some 25, .mov (.tmp 24), none⟩,
  ⟨some 26, .mov (.tmp 7), some (25, false)⟩,
  ⟨some 27, .len true (.tmp 26), some (25, false)⟩,
  ⟨some 28, .arith .gtr (.tmp 27) (.cst (.int .i64 64)), some (25, false)⟩,
  ⟨some 29, .pick (.tmp 25) (.cst (.bool true)) (.tmp 28), none⟩] :: K) fr S := rfl
def law07_RegexOr_r3 : List POper := [
  ⟨some 30, .call .pur 44 [], none⟩,
  ⟨some 6, .mov (.tmp 30), none⟩]
@[simp] theorem law07_RegexOr_r3_go (T : Tbl) (K : List Kt) (fr : Fr) (S : St) : gval T (.ops law07_RegexOr_r3 :: K) fr S = gval T (.ops [
  ⟨some 30, .call .pur 44 [], none⟩,
  ⟨some 6, .mov (.tmp 30), none⟩] :: K) fr S := rfl
def law07_RegexOr_r4 : List POper := [
  ⟨some 31, .mov (.tmp 7), none⟩,
  ⟨some 32, .call .pur 125 [(.tmp 31)], none⟩,
  ⟨some 33, .arith .eql (.tmp 32) (.cst (.int .i64 0)), none⟩,
  ⟨some 34, .mov (.tmp 33), none⟩,
  ⟨some 35, .mov (.tmp 7), some (34, true)⟩,
  ⟨some 36, .mov (.tmp 2), some (34, true)⟩,
  ⟨some 37, .call .pur 478 [(.tmp 35), (.tmp 36)], some (34, true)⟩,
  ⟨some 38, .mov (.tmp 0), some (34, true)⟩,
  ⟨some 39, .mov (.tmp 2), some (34, true)⟩,
  ⟨some 40, .call .pur 478 [(.tmp 38), (.tmp 39)], some (34, true)⟩,
  ⟨some 41, .mov (.tmp 40), some (34, true)⟩,
  ⟨some 42, .mov (.tmp 1), some (41, false)⟩,
  ⟨some 43, .mov (.tmp 2), some (41, false)⟩,
  ⟨some 44, .call .pur 478 [(.tmp 42), (.tmp 43)], some (41, false)⟩,
  ⟨some 45, .pick (.tmp 41) (.cst (.bool true)) (.tmp 44), some (34, true)⟩,
  ⟨some 46, .eqb false (.tmp 37) (.tmp 45), some (34, true)⟩,
  ⟨some 47, .pick (.tmp 34) (.tmp 46) (.cst (.bool false)), none⟩,
  ⟨some 48, .mov (.tmp 47), none⟩,
  ⟨some 49, .call .pur 44 [], some (48, true)⟩,
  ⟨some 50, .pick (.tmp 48) (.tmp 49) (.cst (.bool false)), none⟩,
  ⟨some 6, .mov (.tmp 50), none⟩]
@[simp] theorem law07_RegexOr_r4_go (T : Tbl) (K : List Kt) (fr : Fr) (S : St) : gval T (.ops law07_RegexOr_r4 :: K) fr S = gval T (.ops [
  ⟨some 31, .mov (.tmp 7), none⟩,
  ⟨some 32, .call .pur 125 [(.tmp 31)], none⟩,
  ⟨some 33, .arith .eql (.tmp 32) (.cst (.int .i64 0)), none⟩,
  ⟨some 34, .mov (.tmp 33), none⟩,
  ⟨some 35, .mov (.tmp 7), some (34, true)⟩,
  ⟨some 36, .mov (.tmp 2), some (34, true)⟩,
  ⟨some 37, .call .pur 478 [(.tmp 35), (.tmp 36)], some (34, true)⟩,
  ⟨some 38, .mov (.tmp 0), some (34, true)⟩,
  ⟨some 39, .mov (.tmp 2), some (34, true)⟩,
  ⟨some 40, .call .pur 478 [(.tmp 38), (.tmp 39)], some (34, true)⟩,
  ⟨some 41, .mov (.tmp 40), some (34, true)⟩,
  ⟨some 42, .mov (.tmp 1), some (41, false)⟩,
  ⟨some 43, .mov (.tmp 2), some (41, false)⟩,
  ⟨some 44, .call .pur 478 [(.tmp 42), (.tmp 43)], some (41, false)⟩,
  ⟨some 45, .pick (.tmp 41) (.cst (.bool true)) (.tmp 44), some (34, true)⟩,
  ⟨some 46, .eqb false (.tmp 37) (.tmp 45), some (34, true)⟩,
  ⟨some 47, .pick (.tmp 34) (.tmp 46) (.cst (.bool false)), none⟩,
  ⟨some 48, .mov (.tmp 47), none⟩,
  ⟨some 49, .call .pur 44 [], some (48, true)⟩,
  ⟨some 50, .pick (.tmp 48) (.tmp 49) (.cst (.bool false)), none⟩,
  ⟨some 6, .mov (.tmp 50), none⟩] :: K) fr S := rfl
def law07_RegexOr : PCodeFn :=
  ⟨3, [.tmp 6],
  (.seq (.region law07_RegexOr_r0) (.seq (.clr [(8, 12)] (.region law07_RegexOr_r1)) (.seq (.seq (.clr [(12, 29)] (.region law07_RegexOr_r2)) (.cond (.tmp 29) (.seq (.clr [(30, 31)] (.region law07_RegexOr_r3)) .ret) .skip)) (.seq (.clr [(31, 51)] (.region law07_RegexOr_r4)) .ret)))), false⟩

/-! gauge/gaugelaw07.RegexThen: 487 -/
def law07_RegexThen_r0 : List POper := [
  ⟨some 6, .mov (.cst (.bool false)), none⟩]
@[simp] theorem law07_RegexThen_r0_go (T : Tbl) (K : List Kt) (fr : Fr) (S : St) : gval T (.ops law07_RegexThen_r0 :: K) fr S = gval T (.ops [
  ⟨some 6, .mov (.cst (.bool false)), none⟩] :: K) fr S := rfl
def law07_RegexThen_r1 : List POper := [
  ⟨some 10, .mov (.tmp 0), none⟩,
  ⟨some 11, .arith .add (.cst (.str [40])) (.tmp 10), none⟩,
  ⟨some 12, .arith .add (.tmp 11) (.cst (.str [41, 40])), none⟩,
  ⟨some 13, .mov (.tmp 1), none⟩,
  ⟨some 14, .arith .add (.tmp 12) (.tmp 13), none⟩,
  ⟨some 15, .arith .add (.tmp 14) (.cst (.str [41])), none⟩,
  ⟨some 7, .mov (.tmp 15), none⟩]
@[simp] theorem law07_RegexThen_r1_go (T : Tbl) (K : List Kt) (fr : Fr) (S : St) : gval T (.ops law07_RegexThen_r1 :: K) fr S = gval T (.ops [
  ⟨some 10, .mov (.tmp 0), none⟩,
  ⟨some 11, .arith .add (.cst (.str [40])) (.tmp 10), none⟩,
  ⟨some 12, .arith .add (.tmp 11) (.cst (.str [41, 40])), none⟩,
  ⟨some 13, .mov (.tmp 1), none⟩,
  ⟨some 14, .arith .add (.tmp 12) (.tmp 13), none⟩,
  ⟨some 15, .arith .add (.tmp 14) (.cst (.str [41])), none⟩,
  ⟨some 7, .mov (.tmp 15), none⟩] :: K) fr S := rfl
def law07_RegexThen_r2 : List POper := [
  ⟨some 16, .mov (.tmp 2), none⟩,
  ⟨some 17, .len true (.tmp 16), none⟩,
  ⟨some 18, .arith .gtr (.tmp 17) (.cst (.int .i64 64)), none⟩,
  ⟨some 19, .mov (.tmp 18), none⟩,
  ⟨some 20, .mov (.tmp 0), some (19, false)⟩,
  ⟨some 21, .call .pur 125 [(.tmp 20)], some (19, false)⟩,
  ⟨some 22, .arith .neq (.tmp 21) (.cst (.int .i64 0)), some (19, false)⟩,
  ⟨some 23, .pick (.tmp 19) (.cst (.bool true)) (.tmp 22), none⟩,
  ⟨some 24, .mov (.tmp 23), none⟩,
  ⟨some 25, .mov (.tmp 1), some (24, false)⟩,
  ⟨some 26, .call .pur 125 [(.tmp 25)], some (24, false)⟩,
  ⟨some 27, .arith .neq (.tmp 26) (.cst (.int .i64 0)), some (24, false)⟩,
  ⟨some 28, .pick (.tmp 24) (.cst (.bool true)) (.tmp 27), none⟩,
  ⟨some 29, .mov (.tmp 28), none⟩,
  ⟨some 30, .mov (.tmp 7), some (29, false)⟩,
  ⟨some 31, .call .pur 125 [(.tmp 30)], some (29, false)⟩,
  ⟨some 32, .arith .neq (.tmp 31) (.cst (.int .i64 0)), some (29, false)⟩,
  ⟨some 33, .pick (.tmp 29) (.cst (.bool true)) (.tmp 32), none⟩]
@[simp] theorem law07_RegexThen_r2_go (T : Tbl) (K : List Kt) (fr : Fr) (S : St) : gval T (.ops law07_RegexThen_r2 :: K) fr S = gval T (.ops [
  ⟨some 16, .mov (.tmp 2), none⟩,
  ⟨some 17, .len true (.tmp 16), none⟩,
  ⟨some 18, .arith .gtr (.tmp 17) (.cst (.int .i64 64)), none⟩,
  ⟨some 19, .mov (.tmp 18), none⟩,
  ⟨some 20, .mov (.tmp 0), some (19, false)⟩,
  ⟨some 21, .call .pur 125 [(.tmp 20)], some (19, false)⟩,
  ⟨some 22, .arith .neq (.tmp 21) (.cst (.int .i64 0)), some (19, false)⟩,
  ⟨some 23, .pick (.tmp 19) (.cst (.bool true)) (.tmp 22), none⟩,
  ⟨some 24, .mov (.tmp 23), none⟩,
  ⟨some 25, .mov (.tmp 1), some (24, false)⟩,
  ⟨some 26, .call .pur 125 [(.tmp 25)], some (24, false)⟩,
  ⟨some 27, .arith .neq (.tmp 26) (.cst (.int .i64 0)), some (24, false)⟩,
  ⟨some 28, .pick (.tmp 24) (.cst (.bool true)) (.tmp 27), none⟩,
  ⟨some 29, .mov (.tmp 28), none⟩,
  ⟨some 30, .mov (.tmp 7), some (29, false)⟩,
  ⟨some 31, .call .pur 125 [(.tmp 30)], some (29, false)⟩,
  ⟨some 32, .arith .neq (.tmp 31) (.cst (.int .i64 0)), some (29, false)⟩,
  ⟨some 33, .pick (.tmp 29) (.cst (.bool true)) (.tmp 32), none⟩] :: K) fr S := rfl
def law07_RegexThen_r3 : List POper := [
  ⟨some 34, .call .pur 44 [], none⟩,
  ⟨some 6, .mov (.tmp 34), none⟩]
@[simp] theorem law07_RegexThen_r3_go (T : Tbl) (K : List Kt) (fr : Fr) (S : St) : gval T (.ops law07_RegexThen_r3 :: K) fr S = gval T (.ops [
  ⟨some 34, .call .pur 44 [], none⟩,
  ⟨some 6, .mov (.tmp 34), none⟩] :: K) fr S := rfl
def law07_RegexThen_r4 : List POper := [
  ⟨some 8, .mov (.cst (.bool false)), none⟩]
@[simp] theorem law07_RegexThen_r4_go (T : Tbl) (K : List Kt) (fr : Fr) (S : St) : gval T (.ops law07_RegexThen_r4 :: K) fr S = gval T (.ops [
  ⟨some 8, .mov (.cst (.bool false)), none⟩] :: K) fr S := rfl
def law07_RegexThen_r5 : List POper := [
  ⟨some 9, .mov (.cst (.int .i64 0)), none⟩]
@[simp] theorem law07_RegexThen_r5_go (T : Tbl) (K : List Kt) (fr : Fr) (S : St) : gval T (.ops law07_RegexThen_r5 :: K) fr S = gval T (.ops [
  ⟨some 9, .mov (.cst (.int .i64 0)), none⟩] :: K) fr S := rfl
def law07_RegexThen_r6 : List POper := [
  ⟨some 35, .mov (.tmp 9), none⟩,
  ⟨some 36, .mov (.tmp 2), none⟩,
  ⟨some 37, .len true (.tmp 36), none⟩,
  ⟨some 38, .arith .leq (.tmp 35) (.tmp 37), none⟩]
@[simp] theorem law07_RegexThen_r6_go (T : Tbl) (K : List Kt) (fr : Fr) (S : St) : gval T (.ops law07_RegexThen_r6 :: K) fr S = gval T (.ops [
  ⟨some 35, .mov (.tmp 9), none⟩,
  ⟨some 36, .mov (.tmp 2), none⟩,
  ⟨some 37, .len true (.tmp 36), none⟩,
  ⟨some 38, .arith .leq (.tmp 35) (.tmp 37), none⟩] :: K) fr S := rfl
def law07_RegexThen_r8 : List POper := [
  ⟨some 41, .mov (.tmp 8), none⟩,
  ⟨some 42, .mov (.tmp 41), none⟩,
  ⟨some 43, .mov (.tmp 0), some (42, false)⟩,
  ⟨some 44, .mov (.tmp 2), some (42, false)⟩,
  ⟨some 45, .mov (.tmp 9), some (42, false)⟩,
  ⟨some 46, .slcs none (some (.tmp 45)) (.tmp 44), some (42, false)⟩,
  ⟨some 47, .call .pur 478 [(.tmp 43), (.tmp 46)], some (42, false)⟩,
  ⟨some 48, .mov (.tmp 47), some (42, false)⟩,
  ⟨some 49, .mov (.tmp 1), some (48, true)⟩,
  ⟨some 50, .mov (.tmp 2), some (48, true)⟩,
  ⟨some 51, .mov (.tmp 9), some (48, true)⟩,
  ⟨some 52, .slcs (some (.tmp 51)) none (.tmp 50), some (48, true)⟩,
  ⟨some 53, .call .pur 478 [(.tmp 49), (.tmp 52)], some (48, true)⟩,
  ⟨some 54, .pick (.tmp 48) (.tmp 53) (.cst (.bool false)), some (42, false)⟩,
  ⟨some 55, .pick (.tmp 42) (.cst (.bool true)) (.tmp 54), none⟩,
  ⟨some 8, .mov (.tmp 55), none⟩]
@[simp] theorem law07_RegexThen_r8_go (T : Tbl) (K : List Kt) (fr : Fr) (S : St) : gval T (.ops law07_RegexThen_r8 :: K) fr S = gval T (.ops [
  ⟨some 41, .mov (.tmp 8), none⟩,
  ⟨some 42, .mov (.tmp 41), none⟩,
  ⟨some 43, .mov (.tmp 0), some (42, false)⟩,
  ⟨some 44, .mov (.tmp 2), some (42, false)⟩,
  ⟨some 45, .mov (.tmp 9), some (42, false)⟩,
  ⟨some 46, .slcs none (some (.tmp 45)) (.tmp 44), some (42, false)⟩,
  ⟨some 47, .call .pur 478 [(.tmp 43), (.tmp 46)], some (42, false)⟩,
  ⟨some 48, .mov (.tmp 47), some (42, false)⟩,
  ⟨some 49, .mov (.tmp 1), some (48, true)⟩,
  ⟨some 50, .mov (.tmp 2), some (48, true)⟩,
  ⟨some 51, .mov (.tmp 9), some (48, true)⟩,
  ⟨some 52, .slcs (some (.tmp 51)) none (.tmp 50), some (48, true)⟩,
  ⟨some 53, .call .pur 478 [(.tmp 49), (.tmp 52)], some (48, true)⟩,
  ⟨some 54, .pick (.tmp 48) (.tmp 53) (.cst (.bool false)), some (42, false)⟩,
  ⟨some 55, .pick (.tmp 42) (.cst (.bool true)) (.tmp 54), none⟩,
  ⟨some 8, .mov (.tmp 55), none⟩] :: K) fr S := rfl
def law07_RegexThen_r7 : List POper := [
  ⟨some 39, .mov (.tmp 9), none⟩,
  ⟨some 40, .arith .add (.tmp 39) (.cst (.int .i64 1)), none⟩,
  ⟨some 9, .mov (.tmp 40), none⟩]
@[simp] theorem law07_RegexThen_r7_go (T : Tbl) (K : List Kt) (fr : Fr) (S : St) : gval T (.ops law07_RegexThen_r7 :: K) fr S = gval T (.ops [
  ⟨some 39, .mov (.tmp 9), none⟩,
  ⟨some 40, .arith .add (.tmp 39) (.cst (.int .i64 1)), none⟩,
  ⟨some 9, .mov (.tmp 40), none⟩] :: K) fr S := rfl
def law07_RegexThen_l0 : PCode :=
  (.seq (.seq (.clr [(35, 38)] (.region law07_RegexThen_r6)) (.cond (.tmp 38) .skip (.exit 0))) (.seq (.block 1 (.clr [(41, 56)] (.region law07_RegexThen_r8))) (.clr [(39, 41)] (.region law07_RegexThen_r7))))
@[simp] theorem law07_RegexThen_l0_go (T : Tbl) (K : List Kt) (fr : Fr) (S : St) : gval T (.code law07_RegexThen_l0 :: K) fr S = gval T (.code (.seq (.seq (.clr [(35, 38)] (.region law07_RegexThen_r6)) (.cond (.tmp 38) .skip (.exit 0))) (.seq (.block 1 (.clr [(41, 56)] (.region law07_RegexThen_r8))) (.clr [(39, 41)] (.region law07_RegexThen_r7)))) :: K) fr S := rfl
def law07_RegexThen_r9 : List POper := [
  ⟨some 56, .mov (.tmp 7), none⟩,
  ⟨some 57, .mov (.tmp 2), none⟩,
  ⟨some 58, .call .pur 478 [(.tmp 56), (.tmp 57)], none⟩,
  ⟨some 59, .mov (.tmp 8), none⟩,
  ⟨some 60, .eqb false (.tmp 58) (.tmp 59), none⟩,
  ⟨some 61, .mov (.tmp 60), none⟩,
  ⟨some 62, .call .pur 44 [], some (61, true)⟩,
  ⟨some 63, .pick (.tmp 61) (.tmp 62) (.cst (.bool false)), none⟩,
  ⟨some 6, .mov (.tmp 63), none⟩]
@[simp] theorem law07_RegexThen_r9_go (T : Tbl) (K : List Kt) (fr : Fr) (S : St) : gval T (.ops law07_RegexThen_r9 :: K) fr S = gval T (.ops [
  ⟨some 56, .mov (.tmp 7), none⟩,
  ⟨some 57, .mov (.tmp 2), none⟩,
  ⟨some 58, .call .pur 478 [(.tmp 56), (.tmp 57)], none⟩,
  ⟨some 59, .mov (.tmp 8), none⟩,
  ⟨some 60, .eqb false (.tmp 58) (.tmp 59), none⟩,
  ⟨some 61, .mov (.tmp 60), none⟩,
  ⟨some 62, .call .pur 44 [], some (61, true)⟩,
  ⟨some 63, .pick (.tmp 61) (.tmp 62) (.cst (.bool false)), none⟩,
  ⟨some 6, .mov (.tmp 63), none⟩] :: K) fr S := rfl
def law07_RegexThen : PCodeFn :=
  ⟨3, [.tmp 6],
  (.seq (.region law07_RegexThen_r0) (.seq (.clr [(10, 16)] (.region law07_RegexThen_r1)) (.seq (.seq (.clr [(16, 33)] (.region law07_RegexThen_r2)) (.cond (.tmp 33) (.seq (.clr [(34, 35)] (.region law07_RegexThen_r3)) .ret) .skip)) (.seq (.region law07_RegexThen_r4) (.seq (.seq (.region law07_RegexThen_r5) (.block 0 (.loop law07_RegexThen_l0))) (.seq (.clr [(56, 64)] (.region law07_RegexThen_r9)) .ret)))))), false⟩

/-! gauge/gaugelaw07.RegexAgain: 477 -/
def law07_RegexAgain_r0 : List POper := [
  ⟨some 4, .mov (.cst (.bool false)), none⟩]
@[simp] theorem law07_RegexAgain_r0_go (T : Tbl) (K : List Kt) (fr : Fr) (S : St) : gval T (.ops law07_RegexAgain_r0 :: K) fr S = gval T (.ops [
  ⟨some 4, .mov (.cst (.bool false)), none⟩] :: K) fr S := rfl
def law07_RegexAgain_r1 : List POper := [
  ⟨some 10, .mov (.tmp 0), none⟩,
  ⟨some 11, .arith .add (.cst (.str [40])) (.tmp 10), none⟩,
  ⟨some 12, .arith .add (.tmp 11) (.cst (.str [41, 42])), none⟩,
  ⟨some 13, .mov (.tmp 0), none⟩,
  ⟨some 14, .arith .add (.cst (.str [40])) (.tmp 13), none⟩,
  ⟨some 15, .arith .add (.tmp 14) (.cst (.str [41, 43])), none⟩,
  ⟨some 16, .mov (.tmp 0), none⟩,
  ⟨some 17, .arith .add (.cst (.str [40])) (.tmp 16), none⟩,
  ⟨some 18, .arith .add (.tmp 17) (.cst (.str [41, 63])), none⟩,
  ⟨some 5, .mov (.tmp 12), none⟩,
  ⟨some 6, .mov (.tmp 15), none⟩,
  ⟨some 7, .mov (.tmp 18), none⟩]
@[simp] theorem law07_RegexAgain_r1_go (T : Tbl) (K : List Kt) (fr : Fr) (S : St) : gval T (.ops law07_RegexAgain_r1 :: K) fr S = gval T (.ops [
  ⟨some 10, .mov (.tmp 0), none⟩,
  ⟨some 11, .arith .add (.cst (.str [40])) (.tmp 10), none⟩,
  ⟨some 12, .arith .add (.tmp 11) (.cst (.str [41, 42])), none⟩,
  ⟨some 13, .mov (.tmp 0), none⟩,
  ⟨some 14, .arith .add (.cst (.str [40])) (.tmp 13), none⟩,
  ⟨some 15, .arith .add (.tmp 14) (.cst (.str [41, 43])), none⟩,
  ⟨some 16, .mov (.tmp 0), none⟩,
  ⟨some 17, .arith .add (.cst (.str [40])) (.tmp 16), none⟩,
  ⟨some 18, .arith .add (.tmp 17) (.cst (.str [41, 63])), none⟩,
  ⟨some 5, .mov (.tmp 12), none⟩,
  ⟨some 6, .mov (.tmp 15), none⟩,
  ⟨some 7, .mov (.tmp 18), none⟩] :: K) fr S := rfl
def law07_RegexAgain_r2 : List POper := [
  ⟨some 19, .mov (.tmp 1), none⟩,
  ⟨some 20, .len true (.tmp 19), none⟩,
  ⟨some 21, .arith .gtr (.tmp 20) (.cst (.int .i64 64)), none⟩,
  ⟨some 22, .mov (.tmp 21), none⟩,
  ⟨some 23, .mov (.tmp 0), some (22, false)⟩,
  ⟨some 24, .call .pur 125 [(.tmp 23)], some (22, false)⟩,
  ⟨some 25, .arith .neq (.tmp 24) (.cst (.int .i64 0)), some (22, false)⟩,
  ⟨some 26, .pick (.tmp 22) (.cst (.bool true)) (.tmp 25), none⟩,
  ⟨some 27, .mov (.tmp 26), none⟩,
  ⟨some 28, .mov (.tmp 5), some (27, false)⟩,
  ⟨some 29, .call .pur 125 [(.tmp 28)], some (27, false)⟩,
  ⟨some 30, .arith .neq (.tmp 29) (.cst (.int .i64 0)), some (27, false)⟩,
  ⟨some 31, .pick (.tmp 27) (.cst (.bool true)) (.tmp 30), none⟩]
@[simp] theorem law07_RegexAgain_r2_go (T : Tbl) (K : List Kt) (fr : Fr) (S : St) : gval T (.ops law07_RegexAgain_r2 :: K) fr S = gval T (.ops [
  ⟨some 19, .mov (.tmp 1), none⟩,
  ⟨some 20, .len true (.tmp 19), none⟩,
  ⟨some 21, .arith .gtr (.tmp 20) (.cst (.int .i64 64)), none⟩,
  ⟨some 22, .mov (.tmp 21), none⟩,
  ⟨some 23, .mov (.tmp 0), some (22, false)⟩,
  ⟨some 24, .call .pur 125 [(.tmp 23)], some (22, false)⟩,
  ⟨some 25, .arith .neq (.tmp 24) (.cst (.int .i64 0)), some (22, false)⟩,
  ⟨some 26, .pick (.tmp 22) (.cst (.bool true)) (.tmp 25), none⟩,
  ⟨some 27, .mov (.tmp 26), none⟩,
  ⟨some 28, .mov (.tmp 5), some (27, false)⟩,
  ⟨some 29, .call .pur 125 [(.tmp 28)], some (27, false)⟩,
  ⟨some 30, .arith .neq (.tmp 29) (.cst (.int .i64 0)), some (27, false)⟩,
  ⟨some 31, .pick (.tmp 27) (.cst (.bool true)) (.tmp 30), none⟩] :: K) fr S := rfl
def law07_RegexAgain_r3 : List POper := [
  ⟨some 32, .call .pur 44 [], none⟩,
  ⟨some 4, .mov (.tmp 32), none⟩]
@[simp] theorem law07_RegexAgain_r3_go (T : Tbl) (K : List Kt) (fr : Fr) (S : St) : gval T (.ops law07_RegexAgain_r3 :: K) fr S = gval T (.ops [
  ⟨some 32, .call .pur 44 [], none⟩,
  ⟨some 4, .mov (.tmp 32), none⟩] :: K) fr S := rfl
def law07_RegexAgain_r4 : List POper := [
  ⟨some 8, .mov (.cst (.bool false)), none⟩]
@[simp] theorem law07_RegexAgain_r4_go (T : Tbl) (K : List Kt) (fr : Fr) (S : St) : gval T (.ops law07_RegexAgain_r4 :: K) fr S = gval T (.ops [
  ⟨some 8, .mov (.cst (.bool false)), none⟩] :: K) fr S := rfl
def law07_RegexAgain_r5 : List POper := [
  ⟨some 9, .mov (.cst (.int .i64 1)), none⟩]
@[simp] theorem law07_RegexAgain_r5_go (T : Tbl) (K : List Kt) (fr : Fr) (S : St) : gval T (.ops law07_RegexAgain_r5 :: K) fr S = gval T (.ops [
  ⟨some 9, .mov (.cst (.int .i64 1)), none⟩] :: K) fr S := rfl
def law07_RegexAgain_r6 : List POper := [
  ⟨some 33, .mov (.tmp 9), none⟩,
  ⟨some 34, .mov (.tmp 1), none⟩,
  ⟨some 35, .len true (.tmp 34), none⟩,
  ⟨some 36, .arith .leq (.tmp 33) (.tmp 35), none⟩]
@[simp] theorem law07_RegexAgain_r6_go (T : Tbl) (K : List Kt) (fr : Fr) (S : St) : gval T (.ops law07_RegexAgain_r6 :: K) fr S = gval T (.ops [
  ⟨some 33, .mov (.tmp 9), none⟩,
  ⟨some 34, .mov (.tmp 1), none⟩,
  ⟨some 35, .len true (.tmp 34), none⟩,
  ⟨some 36, .arith .leq (.tmp 33) (.tmp 35), none⟩] :: K) fr S := rfl
def law07_RegexAgain_r8 : List POper := [
  ⟨some 39, .mov (.tmp 8), none⟩,
  ⟨some 40, .mov (.tmp 39), none⟩,
  ⟨some 41, .mov (.tmp 0), some (40, false)⟩,
  ⟨some 42, .mov (.tmp 1), some (40, false)⟩,
  ⟨some 43, .mov (.tmp 9), some (40, false)⟩,
  ⟨some 44, .slcs none (some (.tmp 43)) (.tmp 42), some (40, false)⟩,
  ⟨some 45, .call .pur 478 [(.tmp 41), (.tmp 44)], some (40, false)⟩,
  ⟨some 46, .mov (.tmp 45), some (40, false)⟩,
  ⟨some 47, .mov (.tmp 5), some (46, true)⟩,
  ⟨some 48, .mov (.tmp 1), some (46, true)⟩,
  ⟨some 49, .mov (.tmp 9), some (46, true)⟩,
  ⟨some 50, .slcs (some (.tmp 49)) none (.tmp 48), some (46, true)⟩,
  ⟨some 51, .call .pur 478 [(.tmp 47), (.tmp 50)], some (46, true)⟩,
  ⟨some 52, .pick (.tmp 46) (.tmp 51) (.cst (.bool false)), some (40, false)⟩,
  ⟨some 53, .pick (.tmp 40) (.cst (.bool true)) (.tmp 52), none⟩,
  ⟨some 8, .mov (.tmp 53), none⟩]
@[simp] theorem law07_RegexAgain_r8_go (T : Tbl) (K : List Kt) (fr : Fr) (S : St) : gval T (.ops law07_RegexAgain_r8 :: K) fr S = gval T (.ops [
  ⟨some 39, .mov (.tmp 8), none⟩,
  ⟨some 40, .mov (.tmp 39), none⟩,
  ⟨some 41, .mov (.tmp 0), some (40, false)⟩,
  ⟨some 42, .mov (.tmp 1), some (40, false)⟩,
  ⟨some 43, .mov (.tmp 9), some (40, false)⟩,
  ⟨some 44, .slcs none (some (.tmp 43)) (.tmp 42), some (40, false)⟩,
  ⟨some 45, .call .pur 478 [(.tmp 41), (.tmp 44)], some (40, false)⟩,
  ⟨some 46, .mov (.tmp 45), some (40, false)⟩,
  ⟨some 47, .mov (.tmp 5), some (46, true)⟩,
  ⟨some 48, .mov (.tmp 1), some (46, true)⟩,
  ⟨some 49, .mov (.tmp 9), some (46, true)⟩,
  ⟨some 50, .slcs (some (.tmp 49)) none (.tmp 48), some (46, true)⟩,
  ⟨some 51, .call .pur 478 [(.tmp 47), (.tmp 50)], some (46, true)⟩,
  ⟨some 52, .pick (.tmp 46) (.tmp 51) (.cst (.bool false)), some (40, false)⟩,
  ⟨some 53, .pick (.tmp 40) (.cst (.bool true)) (.tmp 52), none⟩,
  ⟨some 8, .mov (.tmp 53), none⟩] :: K) fr S := rfl
def law07_RegexAgain_r7 : List POper := [
  ⟨some 37, .mov (.tmp 9), none⟩,
  ⟨some 38, .arith .add (.tmp 37) (.cst (.int .i64 1)), none⟩,
  ⟨some 9, .mov (.tmp 38), none⟩]
@[simp] theorem law07_RegexAgain_r7_go (T : Tbl) (K : List Kt) (fr : Fr) (S : St) : gval T (.ops law07_RegexAgain_r7 :: K) fr S = gval T (.ops [
  ⟨some 37, .mov (.tmp 9), none⟩,
  ⟨some 38, .arith .add (.tmp 37) (.cst (.int .i64 1)), none⟩,
  ⟨some 9, .mov (.tmp 38), none⟩] :: K) fr S := rfl
def law07_RegexAgain_l0 : PCode :=
  (.seq (.seq (.clr [(33, 36)] (.region law07_RegexAgain_r6)) (.cond (.tmp 36) .skip (.exit 0))) (.seq (.block 1 (.clr [(39, 54)] (.region law07_RegexAgain_r8))) (.clr [(37, 39)] (.region law07_RegexAgain_r7))))
@[simp] theorem law07_RegexAgain_l0_go (T : Tbl) (K : List Kt) (fr : Fr) (S : St) : gval T (.code law07_RegexAgain_l0 :: K) fr S = gval T (.code (.seq (.seq (.clr [(33, 36)] (.region law07_RegexAgain_r6)) (.cond (.tmp 36) .skip (.exit 0))) (.seq (.block 1 (.clr [(39, 54)] (.region law07_RegexAgain_r8))) (.clr [(37, 39)] (.region law07_RegexAgain_r7)))) :: K) fr S := rfl
def law07_RegexAgain_r9 : List POper := [
  ⟨some 54, .mov (.tmp 5), none⟩,
  ⟨some 55, .mov (.tmp 1), none⟩,
  ⟨some 56, .call .pur 478 [(.tmp 54), (.tmp 55)], none⟩,
  ⟨some 57, .mov (.tmp 1), none⟩,
  ⟨some 58, .arith .eql (.tmp 57) (.cst (.str [])), none⟩,
  ⟨some 59, .mov (.tmp 58), none⟩,
  ⟨some 60, .mov (.tmp 8), some (59, false)⟩,
  ⟨some 61, .pick (.tmp 59) (.cst (.bool true)) (.tmp 60), none⟩,
  ⟨some 62, .eqb false (.tmp 56) (.tmp 61), none⟩,
  ⟨some 63, .mov (.tmp 62), none⟩,
  ⟨some 64, .mov (.tmp 6), some (63, true)⟩,
  ⟨some 65, .mov (.tmp 1), some (63, true)⟩,
  ⟨some 66, .call .pur 478 [(.tmp 64), (.tmp 65)], some (63, true)⟩,
  ⟨some 67, .mov (.tmp 8), some (63, true)⟩,
  ⟨some 68, .mov (.tmp 67), some (63, true)⟩,
  ⟨some 69, .mov (.tmp 0), some (68, false)⟩,
  ⟨some 70, .mov (.tmp 1), some (68, false)⟩,
  ⟨some 71, .call .pur 478 [(.tmp 69), (.tmp 70)], some (68, false)⟩,
  ⟨some 72, .pick (.tmp 68) (.cst (.bool true)) (.tmp 71), some (63, true)⟩,
  ⟨some 73, .eqb false (.tmp 66) (.tmp 72), some (63, true)⟩,
  ⟨some 74, .pick (.tmp 63) (.tmp 73) (.cst (.bool false)), none⟩,
  ⟨some 75, .mov (.tmp 74), none⟩,
  ⟨some 76, .mov (.tmp 7), some (75, true)⟩,
  ⟨some 77, .mov (.tmp 1), some (75, true)⟩,
  ⟨some 78, .call .pur 478 [(.tmp 76), (.tmp 77)], some (75, true)⟩,
  ⟨some 79, .mov (.tmp 1), some (75, true)⟩,
  ⟨some 80, .arith .eql (.tmp 79) (.cst (.str [])), some (75, true)⟩,
  ⟨some 81, .mov (.tmp 80), some (75, true)⟩,
  ⟨some 82, .mov (.tmp 0), some (81, false)⟩,
  ⟨some 83, .mov (.tmp 1), some (81, false)⟩,
  ⟨some 84, .call .pur 478 [(.tmp 82), (.tmp 83)], some (81, false)⟩,
  ⟨some 85, .pick (.tmp 81) (.cst (.bool true)) (.tmp 84), some (75, true)⟩,
  ⟨some 86, .eqb false (.tmp 78) (.tmp 85), some (75, true)⟩,
  ⟨some 87, .pick (.tmp 75) (.tmp 86) (.cst (.bool false)), none⟩,
  ⟨some 88, .mov (.tmp 87), none⟩,
  ⟨some 89, .call .pur 44 [], some (88, true)⟩,
  ⟨some 90, .pick (.tmp 88) (.tmp 89) (.cst (.bool false)), none⟩,
  ⟨some 4, .mov (.tmp 90), none⟩]
@[simp] theorem law07_RegexAgain_r9_go (T : Tbl) (K : List Kt) (fr : Fr) (S : St) : gval T (.ops law07_RegexAgain_r9 :: K) fr S = gval T (.ops [
  ⟨some 54, .mov (.tmp 5), none⟩,
  ⟨some 55, .mov (.tmp 1), none⟩,
  ⟨some 56, .call .pur 478 [(.tmp 54), (.tmp 55)], none⟩,
  ⟨some 57, .mov (.tmp 1), none⟩,
  ⟨some 58, .arith .eql (.tmp 57) (.cst (.str [])), none⟩,
  ⟨some 59, .mov (.tmp 58), none⟩,
  ⟨some 60, .mov (.tmp 8), some (59, false)⟩,
  ⟨some 61, .pick (.tmp 59) (.cst (.bool true)) (.tmp 60), none⟩,
  ⟨some 62, .eqb false (.tmp 56) (.tmp 61), none⟩,
  ⟨some 63, .mov (.tmp 62), none⟩,
  ⟨some 64, .mov (.tmp 6), some (63, true)⟩,
  ⟨some 65, .mov (.tmp 1), some (63, true)⟩,
  ⟨some 66, .call .pur 478 [(.tmp 64), (.tmp 65)], some (63, true)⟩,
  ⟨some 67, .mov (.tmp 8), some (63, true)⟩,
  ⟨some 68, .mov (.tmp 67), some (63, true)⟩,
  ⟨some 69, .mov (.tmp 0), some (68, false)⟩,
  ⟨some 70, .mov (.tmp 1), some (68, false)⟩,
  ⟨some 71, .call .pur 478 [(.tmp 69), (.tmp 70)], some (68, false)⟩,
  ⟨some 72, .pick (.tmp 68) (.cst (.bool true)) (.tmp 71), some (63, true)⟩,
  ⟨some 73, .eqb false (.tmp 66) (.tmp 72), some (63, true)⟩,
  ⟨some 74, .pick (.tmp 63) (.tmp 73) (.cst (.bool false)), none⟩,
  ⟨some 75, .mov (.tmp 74), none⟩,
  ⟨some 76, .mov (.tmp 7), some (75, true)⟩,
  ⟨some 77, .mov (.tmp 1), some (75, true)⟩,
  ⟨some 78, .call .pur 478 [(.tmp 76), (.tmp 77)], some (75, true)⟩,
  ⟨some 79, .mov (.tmp 1), some (75, true)⟩,
  ⟨some 80, .arith .eql (.tmp 79) (.cst (.str [])), some (75, true)⟩,
  ⟨some 81, .mov (.tmp 80), some (75, true)⟩,
  ⟨some 82, .mov (.tmp 0), some (81, false)⟩,
  ⟨some 83, .mov (.tmp 1), some (81, false)⟩,
  ⟨some 84, .call .pur 478 [(.tmp 82), (.tmp 83)], some (81, false)⟩,
  ⟨some 85, .pick (.tmp 81) (.cst (.bool true)) (.tmp 84), some (75, true)⟩,
  ⟨some 86, .eqb false (.tmp 78) (.tmp 85), some (75, true)⟩,
  ⟨some 87, .pick (.tmp 75) (.tmp 86) (.cst (.bool false)), none⟩,
  ⟨some 88, .mov (.tmp 87), none⟩,
  ⟨some 89, .call .pur 44 [], some (88, true)⟩,
  ⟨some 90, .pick (.tmp 88) (.tmp 89) (.cst (.bool false)), none⟩,
  ⟨some 4, .mov (.tmp 90), none⟩] :: K) fr S := rfl
def law07_RegexAgain : PCodeFn :=
  ⟨2, [.tmp 4],
  (.seq (.region law07_RegexAgain_r0) (.seq (.clr [(10, 19)] (.region law07_RegexAgain_r1)) (.seq (.seq (.clr [(19, 31)] (.region law07_RegexAgain_r2)) (.cond (.tmp 31) (.seq (.clr [(32, 33)] (.region law07_RegexAgain_r3)) .ret) .skip)) (.seq (.region law07_RegexAgain_r4) (.seq (.seq (.region law07_RegexAgain_r5) (.block 0 (.loop law07_RegexAgain_l0))) (.seq (.clr [(54, 91)] (.region law07_RegexAgain_r9)) .ret)))))), false⟩

/-! gauge/gaugelaw07.RegexClass: 480 -/
def law07_RegexClass_r0 : List POper := [
  ⟨some 6, .mov (.cst (.bool false)), none⟩]
@[simp] theorem law07_RegexClass_r0_go (T : Tbl) (K : List Kt) (fr : Fr) (S : St) : gval T (.ops law07_RegexClass_r0 :: K) fr S = gval T (.ops [
  ⟨some 6, .mov (.cst (.bool false)), none⟩] :: K) fr S := rfl
def law07_RegexClass_r1 : List POper := [
  ⟨some 11, .mov (.tmp 0), none⟩,
  ⟨some 12, .mov (.tmp 1), none⟩,
  ⟨some 13, .bsl false (.int .u8 0) 3 [(0, (.tmp 11)), (1, (.cst (.int .u8 45))), (2, (.tmp 12))], none⟩,
  ⟨some 14, .toStr (.tmp 13), none⟩,
  ⟨some 15, .arith .add (.cst (.str [91])) (.tmp 14), none⟩,
  ⟨some 16, .arith .add (.tmp 15) (.cst (.str [93])), none⟩,
  ⟨some 17, .mov (.tmp 0), none⟩,
  ⟨some 18, .mov (.tmp 1), none⟩,
  ⟨some 19, .bsl true (.int .u8 0) 3 [(0, (.tmp 17)), (1, (.cst (.int .u8 45))), (2, (.tmp 18))], none⟩,
  ⟨some 20, .toStr (.tmp 19), none⟩,
  ⟨some 21, .arith .add (.cst (.str [91, 94])) (.tmp 20), none⟩,
  ⟨some 22, .arith .add (.tmp 21) (.cst (.str [93])), none⟩,
  ⟨some 7, .mov (.tmp 16), none⟩,
  ⟨some 8, .mov (.tmp 22), none⟩]
@[simp] theorem law07_RegexClass_r1_go (T : Tbl) (K : List Kt) (fr : Fr) (S : St) : gval T (.ops law07_RegexClass_r1 :: K) fr S = gval T (.ops [
  ⟨some 11, .mov (.tmp 0), none⟩,
  ⟨some 12, .mov (.tmp 1), none⟩,
  ⟨some 13, .bsl false (.int .u8 0) 3 [(0, (.tmp 11)), (1, (.cst (.int .u8 45))), (2, (.tmp 12))], none⟩,
  ⟨some 14, .toStr (.tmp 13), none⟩,
  ⟨some 15, .arith .add (.cst (.str [91])) (.tmp 14), none⟩,
  ⟨some 16, .arith .add (.tmp 15) (.cst (.str [93])), none⟩,
  ⟨some 17, .mov (.tmp 0), none⟩,
  ⟨some 18, .mov (.tmp 1), none⟩,
  ⟨some 19, .bsl true (.int .u8 0) 3 [(0, (.tmp 17)), (1, (.cst (.int .u8 45))), (2, (.tmp 18))], none⟩,
  ⟨some 20, .toStr (.tmp 19), none⟩,
  ⟨some 21, .arith .add (.cst (.str [91, 94])) (.tmp 20), none⟩,
  ⟨some 22, .arith .add (.tmp 21) (.cst (.str [93])), none⟩,
  ⟨some 7, .mov (.tmp 16), none⟩,
  ⟨some 8, .mov (.tmp 22), none⟩] :: K) fr S := rfl
def law07_RegexClass_r2 : List POper := [
  ⟨some 23, .mov (.tmp 7), none⟩,
  ⟨some 24, .call .pur 125 [(.tmp 23)], none⟩,
  ⟨some 25, .arith .neq (.tmp 24) (.cst (.int .i64 0)), none⟩]
@[simp] theorem law07_RegexClass_r2_go (T : Tbl) (K : List Kt) (fr : Fr) (S : St) : gval T (.ops law07_RegexClass_r2 :: K) fr S = gval T (.ops [
  ⟨some 23, .mov (.tmp 7), none⟩,
  ⟨some 24, .call .pur 125 [(.tmp 23)], none⟩,
  ⟨some 25, .arith .neq (.tmp 24) (.cst (.int .i64 0)), none⟩] :: K) fr S := rfl
def law07_RegexClass_r3 : List POper := [
  ⟨some 26, .mov (.tmp 8), none⟩,
  ⟨some 27, .call .pur 125 [(.tmp 26)], none⟩,
  ⟨some 28, .arith .eql (.tmp 27) (.cst (.int .i64 14)), none⟩,
  ⟨some 29, .mov (.tmp 28), none⟩,
  ⟨some 30, .call .pur 44 [], some (29, true)⟩,
  ⟨some 31, .pick (.tmp 29) (.tmp 30) (.cst (.bool false)), none⟩,
  ⟨some 6, .mov (.tmp 31), none⟩]
@[simp] theorem law07_RegexClass_r3_go (T : Tbl) (K : List Kt) (fr : Fr) (S : St) : gval T (.ops law07_RegexClass_r3 :: K) fr S = gval T (.ops [
  ⟨some 26, .mov (.tmp 8), none⟩,
  ⟨some 27, .call .pur 125 [(.tmp 26)], none⟩,
  ⟨some 28, .arith .eql (.tmp 27) (.cst (.int .i64 14)), none⟩,
  ⟨some 29, .mov (.tmp 28), none⟩,
  ⟨some 30, .call .pur 44 [], some (29, true)⟩,
  ⟨some 31, .pick (.tmp 29) (.tmp 30) (.cst (.bool false)), none⟩,
  ⟨some 6, .mov (.tmp 31), none⟩] :: K) fr S := rfl
def law07_RegexClass_r4 : List POper := [
  ⟨some 32, .mov (.tmp 2), none⟩,
  ⟨some 33, .bsl false (.int .u8 0) 1 [(0, (.tmp 32))], none⟩,
  ⟨some 34, .toStr (.tmp 33), none⟩,
  ⟨some 9, .mov (.tmp 34), none⟩]
@[simp] theorem law07_RegexClass_r4_go (T : Tbl) (K : List Kt) (fr : Fr) (S : St) : gval T (.ops law07_RegexClass_r4 :: K) fr S = gval T (.ops [
  ⟨some 32, .mov (.tmp 2), none⟩,
  ⟨some 33, .bsl false (.int .u8 0) 1 [(0, (.tmp 32))], none⟩,
  ⟨some 34, .toStr (.tmp 33), none⟩,
  ⟨some 9, .mov (.tmp 34), none⟩] :: K) fr S := rfl
def law07_RegexClass_r5 : List POper := [
  ⟨some 35, .mov (.tmp 0), none⟩,
  ⟨some 36, .mov (.tmp 2), none⟩,
  ⟨some 37, .arith .leq (.tmp 35) (.tmp 36), none⟩,
  ⟨some 38, .mov (.tmp 37), none⟩,
  ⟨some 39, .mov (.tmp 2), some (38, true)⟩,
  ⟨some 40, .mov (.tmp 1), some (38, true)⟩,
  ⟨some 41, .arith .leq (.tmp 39) (.tmp 40), some (38, true)⟩,
  ⟨some 42, .pick (.tmp 38) (.tmp 41) (.cst (.bool false)), none⟩,
  ⟨some 10, .mov (.tmp 42), none⟩]
@[simp] theorem law07_RegexClass_r5_go (T : Tbl) (K : List Kt) (fr : Fr) (S : St) : gval T (.ops law07_RegexClass_r5 :: K) fr S = gval T (.ops [
  ⟨some 35, .mov (.tmp 0), none⟩,
  ⟨some 36, .mov (.tmp 2), none⟩,
  ⟨some 37, .arith .leq (.tmp 35) (.tmp 36), none⟩,
  ⟨some 38, .mov (.tmp 37), none⟩,
  ⟨some 39, .mov (.tmp 2), some (38, true)⟩,
  ⟨some 40, .mov (.tmp 1), some (38, true)⟩,
  ⟨some 41, .arith .leq (.tmp 39) (.tmp 40), some (38, true)⟩,
  ⟨some 42, .pick (.tmp 38) (.tmp 41) (.cst (.bool false)), none⟩,
  ⟨some 10, .mov (.tmp 42), none⟩] :: K) fr S := rfl
def law07_RegexClass_r6 : List POper := [
  ⟨some 43, .mov (.tmp 7), none⟩,
  ⟨some 44, .mov (.tmp 9), none⟩,
  ⟨some 45, .call .pur 478 [(.tmp 43), (.tmp 44)], none⟩,
  ⟨some 46, .mov (.tmp 10), none⟩,
  ⟨some 47, .eqb false (.tmp 45) (.tmp 46), none⟩,
  ⟨some 48, .mov (.tmp 47), none⟩,
  ⟨some 49, .mov (.tmp 8), some (48, true)⟩,
  ⟨some 50, .mov (.tmp 9), some (48, true)⟩,
  ⟨some 51, .call .pur 478 [(.tmp 49), (.tmp 50)], some (48, true)⟩,
  ⟨some 52, .mov (.tmp 10), some (48, true)⟩,
  ⟨some 53, .eqb true (.tmp 51) (.tmp 52), some (48, true)⟩,
  ⟨some 54, .pick (.tmp 48) (.tmp 53) (.cst (.bool false)), none⟩,
  ⟨some 55, .mov (.tmp 54), none⟩,
  ⟨some 56, .mov (.tmp 7), some (55, true)⟩,
  ⟨some 57, .call .pur 478 [(.tmp 56), (.cst (.str []))], some (55, true)⟩,
  ⟨some 58, .un .not (.tmp 57), some (55, true)⟩,
  ⟨some 59, .pick (.tmp 55) (.tmp 58) (.cst (.bool false)), none⟩,
  ⟨some 60, .mov (.tmp 59), none⟩,
  ⟨some 61, .mov (.tmp 8), some (60, true)⟩,
  ⟨some 62, .call .pur 478 [(.tmp 61), (.cst (.str []))], some (60, true)⟩,
  ⟨some 63, .un .not (.tmp 62), some (60, true)⟩,
  ⟨some 64, .pick (.tmp 60) (.tmp 63) (.cst (.bool false)), none⟩,
  ⟨some 65, .mov (.tmp 64), none⟩,
  ⟨some 66, .mov (.tmp 7), some (65, true)⟩,
  ⟨some 67, .mov (.tmp 9), some (65, true)⟩,
  ⟨some 68, .mov (.tmp 9), some (65, true)⟩,
  ⟨some 69, .arith .add (.tmp 67) (.tmp 68), some (65, true)⟩,
  ⟨some 70, .call .pur 478 [(.tmp 66), (.tmp 69)], some (65, true)⟩,
  ⟨some 71, .un .not (.tmp 70), some (65, true)⟩,
  ⟨some 72, .pick (.tmp 65) (.tmp 71) (.cst (.bool false)), none⟩,
  ⟨some 73, .mov (.tmp 72), none⟩,
  ⟨some 74, .call .pur 44 [], some (73, true)⟩,
  ⟨some 75, .pick (.tmp 73) (.tmp 74) (.cst (.bool false)), none⟩,
  ⟨some 6, .mov (.tmp 75), none⟩]
@[simp] theorem law07_RegexClass_r6_go (T : Tbl) (K : List Kt) (fr : Fr) (S : St) : gval T (.ops law07_RegexClass_r6 :: K) fr S = gval T (.ops [
  ⟨some 43, .mov (.tmp 7), none⟩,
  ⟨some 44, .mov (.tmp 9), none⟩,
  ⟨some 45, .call .pur 478 [(.tmp 43), (.tmp 44)], none⟩,
  ⟨some 46, .mov (.tmp 10), none⟩,
  ⟨some 47, .eqb false (.tmp 45) (.tmp 46), none⟩,
  ⟨some 48, .mov (.tmp 47), none⟩,
  ⟨some 49, .mov (.tmp 8), some (48, true)⟩,
  ⟨some 50, .mov (.tmp 9), some (48, true)⟩,
  ⟨some 51, .call .pur 478 [(.tmp 49), (.tmp 50)], some (48, true)⟩,
  ⟨some 52, .mov (.tmp 10), some (48, true)⟩,
  ⟨some 53, .eqb true (.tmp 51) (.tmp 52), some (48, true)⟩,
  ⟨some 54, .pick (.tmp 48) (.tmp 53) (.cst (.bool false)), none⟩,
  ⟨some 55, .mov (.tmp 54), none⟩,
  ⟨some 56, .mov (.tmp 7), some (55, true)⟩,
  ⟨some 57, .call .pur 478 [(.tmp 56), (.cst (.str []))], some (55, true)⟩,
  ⟨some 58, .un .not (.tmp 57), some (55, true)⟩,
  ⟨some 59, .pick (.tmp 55) (.tmp 58) (.cst (.bool false)), none⟩,
  ⟨some 60, .mov (.tmp 59), none⟩,
  ⟨some 61, .mov (.tmp 8), some (60, true)⟩,
  ⟨some 62, .call .pur 478 [(.tmp 61), (.cst (.str []))], some (60, true)⟩,
  ⟨some 63, .un .not (.tmp 62), some (60, true)⟩,
  ⟨some 64, .pick (.tmp 60) (.tmp 63) (.cst (.bool false)), none⟩,
  ⟨some 65, .mov (.tmp 64), none⟩,
  ⟨some 66, .mov (.tmp 7), some (65, true)⟩,
  ⟨some 67, .mov (.tmp 9), some (65, true)⟩,
  ⟨some 68, .mov (.tmp 9), some (65, true)⟩,
  ⟨some 69, .arith .add (.tmp 67) (.tmp 68), some (65, true)⟩,
  ⟨some 70, .call .pur 478 [(.tmp 66), (.tmp 69)], some (65, true)⟩,
  ⟨some 71, .un .not (.tmp 70), some (65, true)⟩,
  ⟨some 72, .pick (.tmp 65) (.tmp 71) (.cst (.bool false)), none⟩,
  ⟨some 73, .mov (.tmp 72), none⟩,
  ⟨some 74, .call .pur 44 [], some (73, true)⟩,
  ⟨some 75, .pick (.tmp 73) (.tmp 74) (.cst (.bool false)), none⟩,
  ⟨some 6, .mov (.tmp 75), none⟩] :: K) fr S := rfl
def law07_RegexClass : PCodeFn :=
  ⟨3, [.tmp 6],
  (.seq (.region law07_RegexClass_r0) (.seq (.clr [(11, 23)] (.region law07_RegexClass_r1)) (.seq (.seq (.clr [(23, 25)] (.region law07_RegexClass_r2)) (.cond (.tmp 25) (.seq (.clr [(26, 32)] (.region law07_RegexClass_r3)) .ret) .skip)) (.seq (.clr [(32, 35)] (.region law07_RegexClass_r4)) (.seq (.clr [(35, 43)] (.region law07_RegexClass_r5)) (.seq (.clr [(43, 76)] (.region law07_RegexClass_r6)) .ret)))))), false⟩

/-! gauge/gaugelaw07.RegexQuoted: 482 -/
def law07_RegexQuoted_r0 : List POper := [
  ⟨some 4, .mov (.cst (.bool false)), none⟩]
@[simp] theorem law07_RegexQuoted_r0_go (T : Tbl) (K : List Kt) (fr : Fr) (S : St) : gval T (.ops law07_RegexQuoted_r0 :: K) fr S = gval T (.ops [
  ⟨some 4, .mov (.cst (.bool false)), none⟩] :: K) fr S := rfl
def law07_RegexQuoted_r1 : List POper := [
  ⟨some 8, .mov (.tmp 0), none⟩,
  ⟨some 9, .call .pur 483 [(.tmp 8)], none⟩,
  ⟨some 5, .mov (.tmp 9), none⟩]
@[simp] theorem law07_RegexQuoted_r1_go (T : Tbl) (K : List Kt) (fr : Fr) (S : St) : gval T (.ops law07_RegexQuoted_r1 :: K) fr S = gval T (.ops [
  ⟨some 8, .mov (.tmp 0), none⟩,
  ⟨some 9, .call .pur 483 [(.tmp 8)], none⟩,
  ⟨some 5, .mov (.tmp 9), none⟩] :: K) fr S := rfl
def law07_RegexQuoted_r2 : List POper := [
  ⟨some 10, .mov (.tmp 5), none⟩,
  ⟨some 11, .len true (.tmp 10), none⟩,
  ⟨some 12, .arith .gtr (.tmp 11) (.cst (.int .i64 64)), none⟩,
  ⟨some 13, .mov (.tmp 12), none⟩,
  ⟨some 14, .mov (.tmp 1), some (13, false)⟩,
  ⟨some 15, .len true (.tmp 14), some (13, false)⟩,
  ⟨some 16, .arith .gtr (.tmp 15) (.cst (.int .i64 64)), some (13, false)⟩,
  ⟨some 17, .pick (.tmp 13) (.cst (.bool true)) (.tmp 16), none⟩]
@[simp] theorem law07_RegexQuoted_r2_go (T : Tbl) (K : List Kt) (fr : Fr) (S : St) : gval T (.ops law07_RegexQuoted_r2 :: K) fr S = gval T (.ops [
  ⟨some 10, .mov (.tmp 5), none⟩,
  ⟨some 11, .len true (.tmp 10), none⟩,
  ⟨some 12, .arith .gtr (.tmp 11) (.cst (.int .i64 64)), none⟩,
  ⟨some 13, .mov (.tmp 12), none⟩,
  ⟨some 14, .mov (.tmp 1), some (13, false)⟩,
  ⟨some 15, .len true (.tmp 14), some (13, false)⟩,
  ⟨some 16, .arith .gtr (.tmp 15) (.cst (.int .i64 64)), some (13, false)⟩,
  ⟨some 17, .pick (.tmp 13) (.cst (.bool true)) (.tmp 16), none⟩] :: K) fr S := rfl
def law07_RegexQuoted_r3 : List POper := [
  ⟨some 18, .call .pur 44 [], none⟩,
  ⟨some 4, .mov (.tmp 18), none⟩]
@[simp] theorem law07_RegexQuoted_r3_go (T : Tbl) (K : List Kt) (fr : Fr) (S : St) : gval T (.ops law07_RegexQuoted_r3 :: K) fr S = gval T (.ops [
  ⟨some 18, .call .pur 44 [], none⟩,
  ⟨some 4, .mov (.tmp 18), none⟩] :: K) fr S := rfl
def law07_RegexQuoted_r4 : List POper := [
  ⟨some 20, .mov (.tmp 5), none⟩,
  ⟨some 21, .call .pur 484 [(.tmp 20)], none⟩,
  ⟨some 19, .mov (.tmp 21), none⟩,
  ⟨some 22, .extract 0 (.tmp 19), none⟩,
  ⟨some 23, .extract 1 (.tmp 19), none⟩,
  ⟨some 6, .mov (.tmp 22), none⟩,
  ⟨some 7, .mov (.tmp 23), none⟩]
@[simp] theorem law07_RegexQuoted_r4_go (T : Tbl) (K : List Kt) (fr : Fr) (S : St) : gval T (.ops law07_RegexQuoted_r4 :: K) fr S = gval T (.ops [
  ⟨some 20, .mov (.tmp 5), none⟩,
  ⟨some 21, .call .pur 484 [(.tmp 20)], none⟩,
  ⟨some 19, .mov (.tmp 21), none⟩,
  ⟨some 22, .extract 0 (.tmp 19), none⟩,
  ⟨some 23, .extract 1 (.tmp 19), none⟩,
  ⟨some 6, .mov (.tmp 22), none⟩,
  ⟨some 7, .mov (.tmp 23), none⟩] :: K) fr S := rfl
def law07_RegexQuoted_r5 : List POper := [
  ⟨some 24, .mov (.tmp 5), none⟩,
  ⟨some 25, .call .pur 125 [(.tmp 24)], none⟩,
  ⟨some 26, .arith .eql (.tmp 25) (.cst (.int .i64 0)), none⟩,
  ⟨some 27, .mov (.tmp 26), none⟩,
  ⟨some 28, .mov (.tmp 5), some (27, true)⟩,
  ⟨some 29, .mov (.tmp 0), some (27, true)⟩,
  ⟨some 30, .call .pur 478 [(.tmp 28), (.tmp 29)], some (27, true)⟩,
  ⟨some 31, .pick (.tmp 27) (.tmp 30) (.cst (.bool false)), none⟩,
  ⟨some 32, .mov (.tmp 31), none⟩,
  ⟨some 33, .mov (.tmp 5), some (32, true)⟩,
  ⟨some 34, .mov (.tmp 1), some (32, true)⟩,
  ⟨some 35, .call .pur 478 [(.tmp 33), (.tmp 34)], some (32, true)⟩,
  ⟨some 36, .mov (.tmp 0), some (32, true)⟩,
  ⟨some 37, .mov (.tmp 1), some (32, true)⟩,
  ⟨some 38, .arith .eql (.tmp 36) (.tmp 37), some (32, true)⟩,
  ⟨some 39, .eqb false (.tmp 35) (.tmp 38), some (32, true)⟩,
  ⟨some 40, .pick (.tmp 32) (.tmp 39) (.cst (.bool false)), none⟩,
  ⟨some 41, .mov (.tmp 40), none⟩,
  ⟨some 42, .mov (.tmp 7), some (41, true)⟩,
  ⟨some 43, .pick (.tmp 41) (.tmp 42) (.cst (.bool false)), none⟩,
  ⟨some 44, .mov (.tmp 43), none⟩,
  ⟨some 45, .mov (.tmp 6), some (44, true)⟩,
  ⟨some 46, .mov (.tmp 0), some (44, true)⟩,
  ⟨some 47, .arith .eql (.tmp 45) (.tmp 46), some (44, true)⟩,
  ⟨some 48, .pick (.tmp 44) (.tmp 47) (.cst (.bool false)), none⟩,
  ⟨some 49, .mov (.tmp 48), none⟩,
  ⟨some 50, .call .pur 44 [], some (49, true)⟩,
  ⟨some 51, .pick (.tmp 49) (.tmp 50) (.cst (.bool false)), none⟩,
  ⟨some 4, .mov (.tmp 51), none⟩]
@[simp] theorem law07_RegexQuoted_r5_go (T : Tbl) (K : List Kt) (fr : Fr) (S : St) : gval T (.ops law07_RegexQuoted_r5 :: K) fr S = gval T (.ops [
  ⟨some 24, .mov (.tmp 5), none⟩,
  ⟨some 25, .call .pur 125 [(.tmp 24)], none⟩,
  ⟨some 26, .arith .eql (.tmp 25) (.cst (.int .i64 0)), none⟩,
  ⟨some 27, .mov (.tmp 26), none⟩,
  ⟨some 28, .mov (.tmp 5), some (27, true)⟩,
  ⟨some 29, .mov (.tmp 0), some (27, true)⟩,
  ⟨some 30, .call .pur 478 [(.tmp 28), (.tmp 29)], some (27, true)⟩,
  ⟨some 31, .pick (.tmp 27) (.tmp 30) (.cst (.bool false)), none⟩,
  ⟨some 32, .mov (.tmp 31), none⟩,
  ⟨some 33, .mov (.tmp 5), some (32, true)⟩,
  ⟨some 34, .mov (.tmp 1), some (32, true)⟩,
  ⟨some 35, .call .pur 478 [(.tmp 33), (.tmp 34)], some (32, true)⟩,
  ⟨some 36, .mov (.tmp 0), some (32, true)⟩,
  ⟨some 37, .mov (.tmp 1), some (32, true)⟩,
  ⟨some 38, .arith .eql (.tmp 36) (.tmp 37), some (32, true)⟩,
  ⟨some 39, .eqb false (.tmp 35) (.tmp 38), some (32, true)⟩,
  ⟨some 40, .pick (.tmp 32) (.tmp 39) (.cst (.bool false)), none⟩,
  ⟨some 41, .mov (.tmp 40), none⟩,
  ⟨some 42, .mov (.tmp 7), some (41, true)⟩,
  ⟨some 43, .pick (.tmp 41) (.tmp 42) (.cst (.bool false)), none⟩,
  ⟨some 44, .mov (.tmp 43), none⟩,
  ⟨some 45, .mov (.tmp 6), some (44, true)⟩,
  ⟨some 46, .mov (.tmp 0), some (44, true)⟩,
  ⟨some 47, .arith .eql (.tmp 45) (.tmp 46), some (44, true)⟩,
  ⟨some 48, .pick (.tmp 44) (.tmp 47) (.cst (.bool false)), none⟩,
  ⟨some 49, .mov (.tmp 48), none⟩,
  ⟨some 50, .call .pur 44 [], some (49, true)⟩,
  ⟨some 51, .pick (.tmp 49) (.tmp 50) (.cst (.bool false)), none⟩,
  ⟨some 4, .mov (.tmp 51), none⟩] :: K) fr S := rfl
def law07_RegexQuoted : PCodeFn :=
  ⟨2, [.tmp 4],
  (.seq (.region law07_RegexQuoted_r0) (.seq (.clr [(8, 10)] (.region law07_RegexQuoted_r1)) (.seq (.seq (.clr [(10, 17)] (.region law07_RegexQuoted_r2)) (.cond (.tmp 17) (.seq (.clr [(18, 19)] (.region law07_RegexQuoted_r3)) .ret) .skip)) (.seq (.clr [(19, 24)] (.region law07_RegexQuoted_r4)) (.seq (.clr [(24, 52)] (.region law07_RegexQuoted_r5)) .ret))))), false⟩

/-! gauge/regex.Check: 125 -/
def regex_Check_r0 : List POper := [
  ⟨some 2, .mov (.cst (.int .i64 0)), none⟩]
@[simp] theorem regex_Check_r0_go (T : Tbl) (K : List Kt) (fr : Fr) (S : St) : gval T (.ops regex_Check_r0 :: K) fr S = gval T (.ops [
  ⟨some 2, .mov (.cst (.int .i64 0)), none⟩] :: K) fr S := rfl
def regex_Check_r1 : List POper := [
  ⟨some 6, .mov (.tmp 0), none⟩,
  ⟨some 7, .call .pur 122 [(.tmp 6)], none⟩,
  ⟨some 5, .mov (.tmp 7), none⟩,
  ⟨some 8, .extract 0 (.tmp 5), none⟩,
  ⟨some 9, .extract 1 (.tmp 5), none⟩,
  ⟨some 3, .mov (.tmp 8), none⟩,
  ⟨some 4, .mov (.tmp 9), none⟩]
@[simp] theorem regex_Check_r1_go (T : Tbl) (K : List Kt) (fr : Fr) (S : St) : gval T (.ops regex_Check_r1 :: K) fr S = gval T (.ops [
  ⟨some 6, .mov (.tmp 0), none⟩,
  ⟨some 7, .call .pur 122 [(.tmp 6)], none⟩,
  ⟨some 5, .mov (.tmp 7), none⟩,
  ⟨some 8, .extract 0 (.tmp 5), none⟩,
  ⟨some 9, .extract 1 (.tmp 5), none⟩,
  ⟨some 3, .mov (.tmp 8), none⟩,
  ⟨some 4, .mov (.tmp 9), none⟩] :: K) fr S := rfl
def regex_Check_r2 : List POper := [
  ⟨some 10, .mov (.tmp 4), none⟩,
  ⟨some 2, .mov (.tmp 10), none⟩]
@[simp] theorem regex_Check_r2_go (T : Tbl) (K : List Kt) (fr : Fr) (S : St) : gval T (.ops regex_Check_r2 :: K) fr S = gval T (.ops [
  ⟨some 10, .mov (.tmp 4), none⟩,
  ⟨some 2, .mov (.tmp 10), none⟩] :: K) fr S := rfl
def regex_Check : PCodeFn :=
  ⟨1, [.tmp 2],
  (.seq (.region regex_Check_r0) (.seq (.clr [(3, 4), (5, 10)] (.region regex_Check_r1)) (.seq (.clr [(10, 11)] (.region regex_Check_r2)) .ret))), false⟩

/-! gauge/gaugeref07.Check: 123 -/
def ref07_Check_r0 : List POper := [
  ⟨some 2, .mov (.cst (.int .i64 0)), none⟩]
@[simp] theorem ref07_Check_r0_go (T : Tbl) (K : List Kt) (fr : Fr) (S : St) : gval T (.ops ref07_Check_r0 :: K) fr S = gval T (.ops [
  ⟨some 2, .mov (.cst (.int .i64 0)), none⟩] :: K) fr S := rfl
def ref07_Check_r1 : List POper := [
  ⟨some 3, .mov (.tmp 0), none⟩,
  ⟨some 4, .len true (.tmp 3), none⟩,
  ⟨some 5, .arith .gtr (.tmp 4) (.cst (.int .i64 64)), none⟩]
@[simp] theorem ref07_Check_r1_go (T : Tbl) (K : List Kt) (fr : Fr) (S : St) : gval T (.ops ref07_Check_r1 :: K) fr S = gval T (.ops [
  ⟨some 3, .mov (.tmp 0), none⟩,
  ⟨some 4, .len true (.tmp 3), none⟩,
  ⟨some 5, .arith .gtr (.tmp 4) (.cst (.int .i64 64)), none⟩] :: K) fr S := rfl
def ref07_Check_r2 : List POper := [
  ⟨some 2, .mov (.cst (.int .i64 3)), none⟩]
@[simp] theorem ref07_Check_r2_go (T : Tbl) (K : List Kt) (fr : Fr) (S : St) : gval T (.ops ref07_Check_r2 :: K) fr S = gval T (.ops [
  ⟨some 2, .mov (.cst (.int .i64 3)), none⟩] :: K) fr S := rfl
def ref07_Check_r3 : List POper := [
  ⟨some 6, .mov (.tmp 0), none⟩,
  ⟨some 7, .call .pur 223 [(.tmp 6)], none⟩,
  ⟨some 8, .un .not (.tmp 7), none⟩]
@[simp] theorem ref07_Check_r3_go (T : Tbl) (K : List Kt) (fr : Fr) (S : St) : gval T (.ops ref07_Check_r3 :: K) fr S = gval T (.ops [
  ⟨some 6, .mov (.tmp 0), none⟩,
  ⟨some 7, .call .pur 223 [(.tmp 6)], none⟩,
  ⟨some 8, .un .not (.tmp 7), none⟩] :: K) fr S := rfl
def ref07_Check_r4 : List POper := [
  ⟨some 2, .mov (.cst (.int .i64 14)), none⟩]
@[simp] theorem ref07_Check_r4_go (T : Tbl) (K : List Kt) (fr : Fr) (S : St) : gval T (.ops ref07_Check_r4 :: K) fr S = gval T (.ops [
  ⟨some 2, .mov (.cst (.int .i64 14)), none⟩] :: K) fr S := rfl
def ref07_Check_r5 : List POper := [
  ⟨some 9, .mov (.tmp 0), none⟩,
  ⟨some 10, .call .pur 224 [(.tmp 9)], none⟩,
  ⟨some 11, .arith .gtr (.tmp 10) (.cst (.int .i64 8)), none⟩]
@[simp] theorem ref07_Check_r5_go (T : Tbl) (K : List Kt) (fr : Fr) (S : St) : gval T (.ops ref07_Check_r5 :: K) fr S = gval T (.ops [
  ⟨some 9, .mov (.tmp 0), none⟩,
  ⟨some 10, .call .pur 224 [(.tmp 9)], none⟩,
  ⟨some 11, .arith .gtr (.tmp 10) (.cst (.int .i64 8)), none⟩] :: K) fr S := rfl
def ref07_Check_r6 : List POper := [
  ⟨some 2, .mov (.cst (.int .i64 15)), none⟩]
@[simp] theorem ref07_Check_r6_go (T : Tbl) (K : List Kt) (fr : Fr) (S : St) : gval T (.ops ref07_Check_r6 :: K) fr S = gval T (.ops [
  ⟨some 2, .mov (.cst (.int .i64 15)), none⟩] :: K) fr S := rfl
def ref07_Check_r7 : List POper := [
  ⟨some 2, .mov (.cst (.int .i64 0)), none⟩]
@[simp] theorem ref07_Check_r7_go (T : Tbl) (K : List Kt) (fr : Fr) (S : St) : gval T (.ops ref07_Check_r7 :: K) fr S = gval T (.ops [
  ⟨some 2, .mov (.cst (.int .i64 0)), none⟩] :: K) fr S := rfl
def ref07_Check : PCodeFn :=
  ⟨1, [.tmp 2],
  (.seq (.region ref07_Check_r0) (.seq (.seq (.clr [(3, 5)] (.region ref07_Check_r1)) (.cond (.tmp 5) (.seq (.region ref07_Check_r2) .ret) .skip)) (.seq (.seq (.clr [(6, 8)] (.region ref07_Check_r3)) (.cond (.tmp 8) (.seq (.region ref07_Check_r4) .ret) .skip)) (.seq (.seq (.clr [(9, 11)] (.region ref07_Check_r5)) (.cond (.tmp 11) (.seq (.region ref07_Check_r6) .ret) .skip)) (.seq (.region ref07_Check_r7) .ret))))), false⟩

/-! gauge/gaugelaw07.lives: 44 -/
def law07_lives_r0 : List POper := [
  ⟨some 0, .mov (.cst (.bool false)), none⟩]
@[simp] theorem law07_lives_r0_go (T : Tbl) (K : List Kt) (fr : Fr) (S : St) : gval T (.ops law07_lives_r0 :: K) fr S = gval T (.ops [
  ⟨some 0, .mov (.cst (.bool false)), none⟩] :: K) fr S := rfl
def law07_lives_r1 : List POper := [
  ⟨some 6, .call .pur 42 [(.cst (.str [40, 97, 98, 124, 99, 41, 42])), (.cst (.str [97, 98, 99, 97, 98]))], none⟩,
  ⟨some 5, .mov (.tmp 6), none⟩,
  ⟨some 7, .extract 0 (.tmp 5), none⟩,
  ⟨some 8, .extract 1 (.tmp 5), none⟩,
  ⟨some 1, .mov (.tmp 7), none⟩,
  ⟨some 2, .mov (.tmp 8), none⟩]
@[simp] theorem law07_lives_r1_go (T : Tbl) (K : List Kt) (fr : Fr) (S : St) : gval T (.ops law07_lives_r1 :: K) fr S = gval T (.ops [
  ⟨some 6, .call .pur 42 [(.cst (.str [40, 97, 98, 124, 99, 41, 42])), (.cst (.str [97, 98, 99, 97, 98]))], none⟩,
  ⟨some 5, .mov (.tmp 6), none⟩,
  ⟨some 7, .extract 0 (.tmp 5), none⟩,
  ⟨some 8, .extract 1 (.tmp 5), none⟩,
  ⟨some 1, .mov (.tmp 7), none⟩,
  ⟨some 2, .mov (.tmp 8), none⟩] :: K) fr S := rfl
def law07_lives_r2 : List POper := [
  ⟨some 10, .call .pur 42 [(.cst (.str [97])), (.cst (.str [97, 98]))], none⟩,
  ⟨some 9, .mov (.tmp 10), none⟩,
  ⟨some 11, .extract 0 (.tmp 9), none⟩,
  ⟨some 12, .extract 1 (.tmp 9), none⟩,
  ⟨some 3, .mov (.tmp 11), none⟩,
  ⟨some 4, .mov (.tmp 12), none⟩]
@[simp] theorem law07_lives_r2_go (T : Tbl) (K : List Kt) (fr : Fr) (S : St) : gval T (.ops law07_lives_r2 :: K) fr S = gval T (.ops [
  ⟨some 10, .call .pur 42 [(.cst (.str [97])), (.cst (.str [97, 98]))], none⟩,
  ⟨some 9, .mov (.tmp 10), none⟩,
  ⟨some 11, .extract 0 (.tmp 9), none⟩,
  ⟨some 12, .extract 1 (.tmp 9), none⟩,
  ⟨some 3, .mov (.tmp 11), none⟩,
  ⟨some 4, .mov (.tmp 12), none⟩] :: K) fr S := rfl
def law07_lives_r3 : List POper := [
  ⟨some 13, .mov (.tmp 1), none⟩,
  ⟨some 14, .mov (.tmp 13), none⟩,
  ⟨some 15, .mov (.tmp 2), some (14, true)⟩,
  ⟨some 16, .arith .eql (.tmp 15) (.cst (.int .i64 0)), some (14, true)⟩,
  ⟨some 17, .pick (.tmp 14) (.tmp 16) (.cst (.bool false)), none⟩,
  ⟨some 18, .mov (.tmp 17), none⟩,
  ⟨some 19, .mov (.tmp 3), some (18, true)⟩,
  ⟨some 20, .un .not (.tmp 19), some (18, true)⟩,
  ⟨some 21, .pick (.tmp 18) (.tmp 20) (.cst (.bool false)), none⟩,
  ⟨some 22, .mov (.tmp 21), none⟩,
  ⟨some 23, .mov (.tmp 4), some (22, true)⟩,
  ⟨some 24, .arith .eql (.tmp 23) (.cst (.int .i64 0)), some (22, true)⟩,
  ⟨some 25, .pick (.tmp 22) (.tmp 24) (.cst (.bool false)), none⟩,
  ⟨some 26, .mov (.tmp 25), none⟩,
  ⟨some 27, .call .pur 125 [(.cst (.str [40, 97]))], some (26, true)⟩,
  ⟨some 28, .arith .eql (.tmp 27) (.cst (.int .i64 14)), some (26, true)⟩,
  ⟨some 29, .pick (.tmp 26) (.tmp 28) (.cst (.bool false)), none⟩,
  ⟨some 30, .mov (.tmp 29), none⟩,
  ⟨some 31, .pick (.tmp 30) (.cst (.bool true)) (.cst (.bool false)), none⟩,
  ⟨some 32, .mov (.tmp 31), none⟩,
  ⟨some 33, .pick (.tmp 32) (.cst (.bool true)) (.cst (.bool false)), none⟩,
  ⟨some 34, .mov (.tmp 33), none⟩,
  ⟨some 35, .pick (.tmp 34) (.cst (.bool true)) (.cst (.bool false)), none⟩,
  ⟨some 36, .mov (.tmp 35), none⟩,
  ⟨some 37, .pick (.tmp 36) (.cst (.bool true)) (.cst (.bool false)), none⟩,
  ⟨some 0, .mov (.tmp 37), none⟩]
@[simp] theorem law07_lives_r3_go (T : Tbl) (K : List Kt) (fr : Fr) (S : St) : gval T (.ops law07_lives_r3 :: K) fr S = gval T (.ops [
  ⟨some 13, .mov (.tmp 1), none⟩,
  ⟨some 14, .mov (.tmp 13), none⟩,
  ⟨some 15, .mov (.tmp 2), some (14, true)⟩,
  ⟨some 16, .arith .eql (.tmp 15) (.cst (.int .i64 0)), some (14, true)⟩,
  ⟨some 17, .pick (.tmp 14) (.tmp 16) (.cst (.bool false)), none⟩,
  ⟨some 18, .mov (.tmp 17), none⟩,
  ⟨some 19, .mov (.tmp 3), some (18, true)⟩,
  ⟨some 20, .un .not (.tmp 19), some (18, true)⟩,
  ⟨some 21, .pick (.tmp 18) (.tmp 20) (.cst (.bool false)), none⟩,
  ⟨some 22, .mov (.tmp 21), none⟩,
  ⟨some 23, .mov (.tmp 4), some (22, true)⟩,
  ⟨some 24, .arith .eql (.tmp 23) (.cst (.int .i64 0)), some (22, true)⟩,
  ⟨some 25, .pick (.tmp 22) (.tmp 24) (.cst (.bool false)), none⟩,
  ⟨some 26, .mov (.tmp 25), none⟩,
  ⟨some 27, .call .pur 125 [(.cst (.str [40, 97]))], some (26, true)⟩,
  ⟨some 28, .arith .eql (.tmp 27) (.cst (.int .i64 14)), some (26, true)⟩,
  ⟨some 29, .pick (.tmp 26) (.tmp 28) (.cst (.bool false)), none⟩,
  ⟨some 30, .mov (.tmp 29), none⟩,
  ⟨some 31, .pick (.tmp 30) (.cst (.bool true)) (.cst (.bool false)), none⟩,
  ⟨some 32, .mov (.tmp 31), none⟩,
  ⟨some 33, .pick (.tmp 32) (.cst (.bool true)) (.cst (.bool false)), none⟩,
  ⟨some 34, .mov (.tmp 33), none⟩,
  ⟨some 35, .pick (.tmp 34) (.cst (.bool true)) (.cst (.bool false)), none⟩,
  ⟨some 36, .mov (.tmp 35), none⟩,
  ⟨some 37, .pick (.tmp 36) (.cst (.bool true)) (.cst (.bool false)), none⟩,
  ⟨some 0, .mov (.tmp 37), none⟩] :: K) fr S := rfl
def law07_lives : PCodeFn :=
  ⟨0, [.tmp 0],
  (.seq (.region law07_lives_r0) (.seq (.clr [(5, 9)] (.region law07_lives_r1)) (.seq (.clr [(9, 13)] (.region law07_lives_r2)) (.seq (.clr [(13, 38)] (.region law07_lives_r3)) .ret)))), false⟩

/-! gauge/regex.Fits: 42 -/
def regex_Fits_r0 : List POper := [
  ⟨some 4, .mov (.cst (.bool false)), none⟩,
  ⟨some 5, .mov (.cst (.int .i64 0)), none⟩]
@[simp] theorem regex_Fits_r0_go (T : Tbl) (K : List Kt) (fr : Fr) (S : St) : gval T (.ops regex_Fits_r0 :: K) fr S = gval T (.ops [
  ⟨some 4, .mov (.cst (.bool false)), none⟩,
  ⟨some 5, .mov (.cst (.int .i64 0)), none⟩] :: K) fr S := rfl
def regex_Fits_r1 : List POper := [
  ⟨some 9, .mov (.tmp 0), none⟩,
  ⟨some 10, .call .pur 122 [(.tmp 9)], none⟩,
  ⟨some 8, .mov (.tmp 10), none⟩,
  ⟨some 11, .extract 0 (.tmp 8), none⟩,
  ⟨some 12, .extract 1 (.tmp 8), none⟩,
  ⟨some 6, .mov (.tmp 11), none⟩,
  ⟨some 7, .mov (.tmp 12), none⟩]
@[simp] theorem regex_Fits_r1_go (T : Tbl) (K : List Kt) (fr : Fr) (S : St) : gval T (.ops regex_Fits_r1 :: K) fr S = gval T (.ops [
  ⟨some 9, .mov (.tmp 0), none⟩,
  ⟨some 10, .call .pur 122 [(.tmp 9)], none⟩,
  ⟨some 8, .mov (.tmp 10), none⟩,
  ⟨some 11, .extract 0 (.tmp 8), none⟩,
  ⟨some 12, .extract 1 (.tmp 8), none⟩,
  ⟨some 6, .mov (.tmp 11), none⟩,
  ⟨some 7, .mov (.tmp 12), none⟩] :: K) fr S := rfl
def regex_Fits_r2 : List POper := [
  ⟨some 14, .mov (.tmp 7), none⟩,
  ⟨some 15, .arith .neq (.tmp 14) (.cst (.int .i64 0)), none⟩,
  ⟨some 13, .mov (.tmp 15), none⟩]
@[simp] theorem regex_Fits_r2_go (T : Tbl) (K : List Kt) (fr : Fr) (S : St) : gval T (.ops regex_Fits_r2 :: K) fr S = gval T (.ops [
  ⟨some 14, .mov (.tmp 7), none⟩,
  ⟨some 15, .arith .neq (.tmp 14) (.cst (.int .i64 0)), none⟩,
  ⟨some 13, .mov (.tmp 15), none⟩] :: K) fr S := rfl
def regex_Fits_r3 : List POper := [
  ⟨some 16, .mov (.tmp 7), none⟩,
  ⟨some 4, .mov (.cst (.bool false)), none⟩,
  ⟨some 5, .mov (.tmp 16), none⟩]
@[simp] theorem regex_Fits_r3_go (T : Tbl) (K : List Kt) (fr : Fr) (S : St) : gval T (.ops regex_Fits_r3 :: K) fr S = gval T (.ops [
  ⟨some 16, .mov (.tmp 7), none⟩,
  ⟨some 4, .mov (.cst (.bool false)), none⟩,
  ⟨some 5, .mov (.tmp 16), none⟩] :: K) fr S := rfl
def regex_Fits_r4 : List POper := [
  ⟨some 18, .mov (.tmp 1), none⟩,
  ⟨some 19, .len true (.tmp 18), none⟩,
  ⟨some 20, .arith .gtr (.tmp 19) (.cst (.int .i64 64)), none⟩,
  ⟨some 17, .mov (.tmp 20), none⟩]
@[simp] theorem regex_Fits_r4_go (T : Tbl) (K : List Kt) (fr : Fr) (S : St) : gval T (.ops regex_Fits_r4 :: K) fr S = gval T (.ops [
  ⟨some 18, .mov (.tmp 1), none⟩,
  ⟨some 19, .len true (.tmp 18), none⟩,
  ⟨some 20, .arith .gtr (.tmp 19) (.cst (.int .i64 64)), none⟩,
  ⟨some 17, .mov (.tmp 20), none⟩] :: K) fr S := rfl
def regex_Fits_r5 : List POper := [
  ⟨some 4, .mov (.cst (.bool false)), none⟩,
  ⟨some 5, .mov (.cst (.int .i64 3)), none⟩]
@[simp] theorem regex_Fits_r5_go (T : Tbl) (K : List Kt) (fr : Fr) (S : St) : gval T (.ops regex_Fits_r5 :: K) fr S = gval T (.ops [
  ⟨some 4, .mov (.cst (.bool false)), none⟩,
  ⟨some 5, .mov (.cst (.int .i64 3)), none⟩] :: K) fr S := rfl
def regex_Fits_r6 : List POper := [
  ⟨some 21, .mov (.tmp 6), none⟩,
  ⟨some 22, .mov (.tmp 1), none⟩,
  ⟨some 23, .build (List.replicate 65 (.bool false)) [(0, 1, (.cst (.bool true)))], none⟩,
  ⟨some 24, .inv .std 0 (.tmp 21) [(.tmp 22), (.tmp 23)], none⟩,
  ⟨some 25, .mov (.tmp 1), none⟩,
  ⟨some 26, .len true (.tmp 25), none⟩,
  ⟨some 27, .idxa 65 1 false (.tmp 24) (.tmp 26), none⟩,
  ⟨some 4, .mov (.tmp 27), none⟩,
  ⟨some 5, .mov (.cst (.int .i64 0)), none⟩]
@[simp] theorem regex_Fits_r6_go (T : Tbl) (K : List Kt) (fr : Fr) (S : St) : gval T (.ops regex_Fits_r6 :: K) fr S = gval T (.ops [
  ⟨some 21, .mov (.tmp 6), none⟩,
  ⟨some 22, .mov (.tmp 1), none⟩,
  ⟨some 23, .build (List.replicate 65 (.bool false)) [(0, 1, (.cst (.bool true)))], none⟩,
  ⟨some 24, .inv .std 0 (.tmp 21) [(.tmp 22), (.tmp 23)], none⟩,
  ⟨some 25, .mov (.tmp 1), none⟩,
  ⟨some 26, .len true (.tmp 25), none⟩,
  ⟨some 27, .idxa 65 1 false (.tmp 24) (.tmp 26), none⟩,
  ⟨some 4, .mov (.tmp 27), none⟩,
  ⟨some 5, .mov (.cst (.int .i64 0)), none⟩] :: K) fr S := rfl
def regex_Fits : PCodeFn :=
  ⟨2, [.tmp 4, .tmp 5],
  (.seq (.region regex_Fits_r0) (.seq (.clr [(8, 13)] (.region regex_Fits_r1)) (.seq (.block 0 (.seq (.clr [(14, 16)] (.region regex_Fits_r2)) (.cond (.tmp 13) (.seq (.clr [(16, 17)] (.region regex_Fits_r3)) .ret) (.seq (.clr [(18, 21)] (.region regex_Fits_r4)) (.cond (.tmp 17) (.seq (.region regex_Fits_r5) .ret) .skip))))) (.seq (.clr [(21, 28)] (.region regex_Fits_r6)) .ret)))), false⟩

/-! gauge/gaugeref07.Fits: 43 -/
def ref07_Fits_r0 : List POper := [
  ⟨some 4, .mov (.cst (.bool false)), none⟩,
  ⟨some 5, .mov (.cst (.int .i64 0)), none⟩]
@[simp] theorem ref07_Fits_r0_go (T : Tbl) (K : List Kt) (fr : Fr) (S : St) : gval T (.ops ref07_Fits_r0 :: K) fr S = gval T (.ops [
  ⟨some 4, .mov (.cst (.bool false)), none⟩,
  ⟨some 5, .mov (.cst (.int .i64 0)), none⟩] :: K) fr S := rfl
def ref07_Fits_r1 : List POper := [
  ⟨some 8, .mov (.tmp 0), none⟩,
  ⟨some 9, .call .pur 123 [(.tmp 8)], none⟩,
  ⟨some 6, .mov (.tmp 9), none⟩]
@[simp] theorem ref07_Fits_r1_go (T : Tbl) (K : List Kt) (fr : Fr) (S : St) : gval T (.ops ref07_Fits_r1 :: K) fr S = gval T (.ops [
  ⟨some 8, .mov (.tmp 0), none⟩,
  ⟨some 9, .call .pur 123 [(.tmp 8)], none⟩,
  ⟨some 6, .mov (.tmp 9), none⟩] :: K) fr S := rfl
def ref07_Fits_r2 : List POper := [
  ⟨some 10, .mov (.tmp 6), none⟩,
  ⟨some 11, .arith .neq (.tmp 10) (.cst (.int .i64 0)), none⟩]
@[simp] theorem ref07_Fits_r2_go (T : Tbl) (K : List Kt) (fr : Fr) (S : St) : gval T (.ops ref07_Fits_r2 :: K) fr S = gval T (.ops [
  ⟨some 10, .mov (.tmp 6), none⟩,
  ⟨some 11, .arith .neq (.tmp 10) (.cst (.int .i64 0)), none⟩] :: K) fr S := rfl
def ref07_Fits_r3 : List POper := [
  ⟨some 12, .mov (.tmp 6), none⟩,
  ⟨some 4, .mov (.cst (.bool false)), none⟩,
  ⟨some 5, .mov (.tmp 12), none⟩]
@[simp] theorem ref07_Fits_r3_go (T : Tbl) (K : List Kt) (fr : Fr) (S : St) : gval T (.ops ref07_Fits_r3 :: K) fr S = gval T (.ops [
  ⟨some 12, .mov (.tmp 6), none⟩,
  ⟨some 4, .mov (.cst (.bool false)), none⟩,
  ⟨some 5, .mov (.tmp 12), none⟩] :: K) fr S := rfl
def ref07_Fits_r4 : List POper := [
  ⟨some 13, .mov (.tmp 1), none⟩,
  ⟨some 14, .len true (.tmp 13), none⟩,
  ⟨some 15, .arith .gtr (.tmp 14) (.cst (.int .i64 64)), none⟩]
@[simp] theorem ref07_Fits_r4_go (T : Tbl) (K : List Kt) (fr : Fr) (S : St) : gval T (.ops ref07_Fits_r4 :: K) fr S = gval T (.ops [
  ⟨some 13, .mov (.tmp 1), none⟩,
  ⟨some 14, .len true (.tmp 13), none⟩,
  ⟨some 15, .arith .gtr (.tmp 14) (.cst (.int .i64 64)), none⟩] :: K) fr S := rfl
def ref07_Fits_r5 : List POper := [
  ⟨some 4, .mov (.cst (.bool false)), none⟩,
  ⟨some 5, .mov (.cst (.int .i64 3)), none⟩]
@[simp] theorem ref07_Fits_r5_go (T : Tbl) (K : List Kt) (fr : Fr) (S : St) : gval T (.ops ref07_Fits_r5 :: K) fr S = gval T (.ops [
  ⟨some 4, .mov (.cst (.bool false)), none⟩,
  ⟨some 5, .mov (.cst (.int .i64 3)), none⟩] :: K) fr S := rfl
def ref07_Fits_r6 : List POper := [
  ⟨some 16, .mov (.tmp 0), none⟩,
  ⟨some 17, .mov (.tmp 1), none⟩,
  ⟨some 18, .bsl false (.int .i64 0) 1 [(0, (.cst (.int .i64 0)))], none⟩,
  ⟨some 19, .call .std 124 [(.tmp 16), (.tmp 17), (.tmp 18)], none⟩,
  ⟨some 7, .mov (.tmp 19), none⟩]
@[simp] theorem ref07_Fits_r6_go (T : Tbl) (K : List Kt) (fr : Fr) (S : St) : gval T (.ops ref07_Fits_r6 :: K) fr S = gval T (.ops [
  ⟨some 16, .mov (.tmp 0), none⟩,
  ⟨some 17, .mov (.tmp 1), none⟩,
  ⟨some 18, .bsl false (.int .i64 0) 1 [(0, (.cst (.int .i64 0)))], none⟩,
  ⟨some 19, .call .std 124 [(.tmp 16), (.tmp 17), (.tmp 18)], none⟩,
  ⟨some 7, .mov (.tmp 19), none⟩] :: K) fr S := rfl
def ref07_Fits_r7 : List POper := [
  ⟨some 20, .mov (.tmp 7), none⟩,
  ⟨some 21, .len false (.tmp 20), none⟩,
  ⟨some 22, .arith .gtr (.tmp 21) (.cst (.int .i64 0)), none⟩,
  ⟨some 23, .mov (.tmp 22), none⟩,
  ⟨some 24, .mov (.tmp 7), some (23, true)⟩,
  ⟨some 25, .mov (.tmp 7), some (23, true)⟩,
  ⟨some 26, .len false (.tmp 25), some (23, true)⟩,
  ⟨some 27, .arith .sub (.tmp 26) (.cst (.int .i64 1)), some (23, true)⟩,
  ⟨some 28, .iaddr 1 (.tmp 24) (.tmp 27), some (23, true)⟩,
  ⟨some 29, .load false 1 false (.tmp 28), some (23, true)⟩,
  ⟨some 30, .mov (.tmp 1), some (23, true)⟩,
  ⟨some 31, .len true (.tmp 30), some (23, true)⟩,
  ⟨some 32, .arith .eql (.tmp 29) (.tmp 31), some (23, true)⟩,
  ⟨some 33, .pick (.tmp 23) (.tmp 32) (.cst (.bool false)), none⟩,
  ⟨some 4, .mov (.tmp 33), none⟩,
  ⟨some 5, .mov (.cst (.int .i64 0)), none⟩]
@[simp] theorem ref07_Fits_r7_go (T : Tbl) (K : List Kt) (fr : Fr) (S : St) : gval T (.ops ref07_Fits_r7 :: K) fr S = gval T (.ops [
  ⟨some 20, .mov (.tmp 7), none⟩,
  ⟨some 21, .len false (.tmp 20), none⟩,
  ⟨some 22, .arith .gtr (.tmp 21) (.cst (.int .i64 0)), none⟩,
  ⟨some 23, .mov (.tmp 22), none⟩,
  ⟨some 24, .mov (.tmp 7), some (23, true)⟩,
  ⟨some 25, .mov (.tmp 7), some (23, true)⟩,
  ⟨some 26, .len false (.tmp 25), some (23, true)⟩,
  ⟨some 27, .arith .sub (.tmp 26) (.cst (.int .i64 1)), some (23, true)⟩,
  ⟨some 28, .iaddr 1 (.tmp 24) (.tmp 27), some (23, true)⟩,
  ⟨some 29, .load false 1 false (.tmp 28), some (23, true)⟩,
  ⟨some 30, .mov (.tmp 1), some (23, true)⟩,
  ⟨some 31, .len true (.tmp 30), some (23, true)⟩,
  ⟨some 32, .arith .eql (.tmp 29) (.tmp 31), some (23, true)⟩,
  ⟨some 33, .pick (.tmp 23) (.tmp 32) (.cst (.bool false)), none⟩,
  ⟨some 4, .mov (.tmp 33), none⟩,
  ⟨some 5, .mov (.cst (.int .i64 0)), none⟩] :: K) fr S := rfl
def ref07_Fits : PCodeFn :=
  ⟨2, [.tmp 4, .tmp 5],
  (.seq (.region ref07_Fits_r0) (.seq (.seq (.clr [(8, 10)] (.region ref07_Fits_r1)) (.seq (.clr [(10, 11)] (.region ref07_Fits_r2)) (.cond (.tmp 11) (.seq (.clr [(12, 13)] (.region ref07_Fits_r3)) .ret) .skip))) (.seq (.seq (.clr [(13, 15)] (.region ref07_Fits_r4)) (.cond (.tmp 15) (.seq (.region ref07_Fits_r5) .ret) .skip)) (.seq (.clr [(16, 20)] (.region ref07_Fits_r6)) (.seq (.clr [(20, 34)] (.region ref07_Fits_r7)) .ret))))), false⟩

/-! gauge/gaugelaw07.fits: 478 -/
def law07_fits_r0 : List POper := [
  ⟨some 4, .mov (.cst (.bool false)), none⟩]
@[simp] theorem law07_fits_r0_go (T : Tbl) (K : List Kt) (fr : Fr) (S : St) : gval T (.ops law07_fits_r0 :: K) fr S = gval T (.ops [
  ⟨some 4, .mov (.cst (.bool false)), none⟩] :: K) fr S := rfl
def law07_fits_r1 : List POper := [
  ⟨some 8, .mov (.tmp 0), none⟩,
  ⟨some 9, .mov (.tmp 1), none⟩,
  ⟨some 10, .call .pur 42 [(.tmp 8), (.tmp 9)], none⟩,
  ⟨some 7, .mov (.tmp 10), none⟩,
  ⟨some 11, .extract 0 (.tmp 7), none⟩,
  ⟨some 12, .extract 1 (.tmp 7), none⟩,
  ⟨some 5, .mov (.tmp 11), none⟩,
  ⟨some 6, .mov (.tmp 12), none⟩]
@[simp] theorem law07_fits_r1_go (T : Tbl) (K : List Kt) (fr : Fr) (S : St) : gval T (.ops law07_fits_r1 :: K) fr S = gval T (.ops [
  ⟨some 8, .mov (.tmp 0), none⟩,
  ⟨some 9, .mov (.tmp 1), none⟩,
  ⟨some 10, .call .pur 42 [(.tmp 8), (.tmp 9)], none⟩,
  ⟨some 7, .mov (.tmp 10), none⟩,
  ⟨some 11, .extract 0 (.tmp 7), none⟩,
  ⟨some 12, .extract 1 (.tmp 7), none⟩,
  ⟨some 5, .mov (.tmp 11), none⟩,
  ⟨some 6, .mov (.tmp 12), none⟩] :: K) fr S := rfl
def law07_fits_r2 : List POper := [
  ⟨some 13, .mov (.tmp 5), none⟩,
  ⟨some 14, .mov (.tmp 13), none⟩,
  ⟨some 15, .mov (.tmp 6), some (14, true)⟩,
  ⟨some 16, .arith .eql (.tmp 15) (.cst (.int .i64 0)), some (14, true)⟩,
  ⟨some 17, .pick (.tmp 14) (.tmp 16) (.cst (.bool false)), none⟩,
  ⟨some 4, .mov (.tmp 17), none⟩]
@[simp] theorem law07_fits_r2_go (T : Tbl) (K : List Kt) (fr : Fr) (S : St) : gval T (.ops law07_fits_r2 :: K) fr S = gval T (.ops [
  ⟨some 13, .mov (.tmp 5), none⟩,
  ⟨some 14, .mov (.tmp 13), none⟩,
  ⟨some 15, .mov (.tmp 6), some (14, true)⟩,
  ⟨some 16, .arith .eql (.tmp 15) (.cst (.int .i64 0)), some (14, true)⟩,
  ⟨some 17, .pick (.tmp 14) (.tmp 16) (.cst (.bool false)), none⟩,
  ⟨some 4, .mov (.tmp 17), none⟩] :: K) fr S := rfl
def law07_fits : PCodeFn :=
  ⟨2, [.tmp 4],
  (.seq (.region law07_fits_r0) (.seq (.clr [(7, 13)] (.region law07_fits_r1)) (.seq (.clr [(13, 18)] (.region law07_fits_r2)) .ret))), false⟩

/-! gauge/regex.Quote: 483 -/
def regex_Quote_r0 : List POper := [
  ⟨some 2, .mov (.cst (.str [])), none⟩]
@[simp] theorem regex_Quote_r0_go (T : Tbl) (K : List Kt) (fr : Fr) (S : St) : gval T (.ops regex_Quote_r0 :: K) fr S = gval T (.ops [
  ⟨some 2, .mov (.cst (.str [])), none⟩] :: K) fr S := rfl
def regex_Quote_r1 : List POper := [
  ⟨some 3, .mov (.cst .nils), none⟩]
@[simp] theorem regex_Quote_r1_go (T : Tbl) (K : List Kt) (fr : Fr) (S : St) : gval T (.ops regex_Quote_r1 :: K) fr S = gval T (.ops [
  ⟨some 3, .mov (.cst .nils), none⟩] :: K) fr S := rfl
def regex_Quote_r2 : List POper := [
  ⟨some 5, .mov (.tmp 0), none⟩,
  ⟨some 6, .len true (.tmp 5), none⟩,
  ⟨some 7, .mov (.cst (.int .i64 0)), none⟩]
@[simp] theorem regex_Quote_r2_go (T : Tbl) (K : List Kt) (fr : Fr) (S : St) : gval T (.ops regex_Quote_r2 :: K) fr S = gval T (.ops [
  ⟨some 5, .mov (.tmp 0), none⟩,
  ⟨some 6, .len true (.tmp 5), none⟩,
  ⟨some 7, .mov (.cst (.int .i64 0)), none⟩] :: K) fr S := rfl
def regex_Quote_r3 : List POper := [
  ⟨some 8, .arith .lss (.tmp 7) (.tmp 6), none⟩]
@[simp] theorem regex_Quote_r3_go (T : Tbl) (K : List Kt) (fr : Fr) (S : St) : gval T (.ops regex_Quote_r3 :: K) fr S = gval T (.ops [
  ⟨some 8, .arith .lss (.tmp 7) (.tmp 6), none⟩] :: K) fr S := rfl
def regex_Quote_r4 : List POper := [
  ⟨some 9, .mov (.tmp 7), none⟩,
  ⟨some 4, .mov (.tmp 9), none⟩]
@[simp] theorem regex_Quote_r4_go (T : Tbl) (K : List Kt) (fr : Fr) (S : St) : gval T (.ops regex_Quote_r4 :: K) fr S = gval T (.ops [
  ⟨some 9, .mov (.tmp 7), none⟩,
  ⟨some 4, .mov (.tmp 9), none⟩] :: K) fr S := rfl
def regex_Quote_r5 : List POper := [
  ⟨some 10, .mov (.tmp 0), none⟩,
  ⟨some 11, .mov (.tmp 4), none⟩,
  ⟨some 12, .idxs (.tmp 10) (.tmp 11), none⟩,
  ⟨some 13, .call .pur 390 [(.tmp 12)], none⟩,
  ⟨some 14, .un .not (.tmp 13), none⟩]
@[simp] theorem regex_Quote_r5_go (T : Tbl) (K : List Kt) (fr : Fr) (S : St) : gval T (.ops regex_Quote_r5 :: K) fr S = gval T (.ops [
  ⟨some 10, .mov (.tmp 0), none⟩,
  ⟨some 11, .mov (.tmp 4), none⟩,
  ⟨some 12, .idxs (.tmp 10) (.tmp 11), none⟩,
  ⟨some 13, .call .pur 390 [(.tmp 12)], none⟩,
  ⟨some 14, .un .not (.tmp 13), none⟩] :: K) fr S := rfl
def regex_Quote_r6 : List POper := [
  ⟨some 15, .mov (.tmp 3), none⟩,
  ⟨some 16, .bsl false (.int .u8 0) 1 [(0, (.cst (.int .u8 92)))], none⟩,
  ⟨some 17, .app 1 1 (.tmp 15) (.tmp 16), none⟩,
  ⟨some 3, .mov (.tmp 17), none⟩]
@[simp] theorem regex_Quote_r6_go (T : Tbl) (K : List Kt) (fr : Fr) (S : St) : gval T (.ops regex_Quote_r6 :: K) fr S = gval T (.ops [
  ⟨some 15, .mov (.tmp 3), none⟩,
  ⟨some 16, .bsl false (.int .u8 0) 1 [(0, (.cst (.int .u8 92)))], none⟩,
  ⟨some 17, .app 1 1 (.tmp 15) (.tmp 16), none⟩,
  ⟨some 3, .mov (.tmp 17), none⟩] :: K) fr S := rfl
def regex_Quote_r7 : List POper := [
  ⟨some 18, .mov (.tmp 3), none⟩,
  ⟨some 19, .mov (.tmp 0), none⟩,
  ⟨some 20, .mov (.tmp 4), none⟩,
  ⟨some 21, .idxs (.tmp 19) (.tmp 20), none⟩,
  ⟨some 22, .bsl false (.int .u8 0) 1 [(0, (.tmp 21))], none⟩,
  ⟨some 23, .app 1 1 (.tmp 18) (.tmp 22), none⟩,
  ⟨some 3, .mov (.tmp 23), none⟩]
@[simp] theorem regex_Quote_r7_go (T : Tbl) (K : List Kt) (fr : Fr) (S : St) : gval T (.ops regex_Quote_r7 :: K) fr S = gval T (.ops [
  ⟨some 18, .mov (.tmp 3), none⟩,
  ⟨some 19, .mov (.tmp 0), none⟩,
  ⟨some 20, .mov (.tmp 4), none⟩,
  ⟨some 21, .idxs (.tmp 19) (.tmp 20), none⟩,
  ⟨some 22, .bsl false (.int .u8 0) 1 [(0, (.tmp 21))], none⟩,
  ⟨some 23, .app 1 1 (.tmp 18) (.tmp 22), none⟩,
  ⟨some 3, .mov (.tmp 23), none⟩] :: K) fr S := rfl
def regex_Quote_r8 : List POper := [
  ⟨some 24, .arith .add (.tmp 7) (.cst (.int .i64 1)), none⟩,
  ⟨some 7, .mov (.tmp 24), none⟩]
@[simp] theorem regex_Quote_r8_go (T : Tbl) (K : List Kt) (fr : Fr) (S : St) : gval T (.ops regex_Quote_r8 :: K) fr S = gval T (.ops [
  ⟨some 24, .arith .add (.tmp 7) (.cst (.int .i64 1)), none⟩,
  ⟨some 7, .mov (.tmp 24), none⟩] :: K) fr S := rfl
def regex_Quote_l0 : PCode :=
  (.seq (.region regex_Quote_r3) (.seq (.cond (.tmp 8) .skip (.exit 0)) (.seq (.block 1 (.seq (.clr [(9, 10)] (.region regex_Quote_r4)) (.seq (.seq (.clr [(10, 14)] (.region regex_Quote_r5)) (.cond (.tmp 14) (.clr [(15, 18)] (.region regex_Quote_r6)) .skip)) (.clr [(18, 24)] (.region regex_Quote_r7))))) (.clr [(24, 25)] (.region regex_Quote_r8)))))
@[simp] theorem regex_Quote_l0_go (T : Tbl) (K : List Kt) (fr : Fr) (S : St) : gval T (.code regex_Quote_l0 :: K) fr S = gval T (.code (.seq (.region regex_Quote_r3) (.seq (.cond (.tmp 8) .skip (.exit 0)) (.seq (.block 1 (.seq (.clr [(9, 10)] (.region regex_Quote_r4)) (.seq (.seq (.clr [(10, 14)] (.region regex_Quote_r5)) (.cond (.tmp 14) (.clr [(15, 18)] (.region regex_Quote_r6)) .skip)) (.clr [(18, 24)] (.region regex_Quote_r7))))) (.clr [(24, 25)] (.region regex_Quote_r8))))) :: K) fr S := rfl
def regex_Quote_r9 : List POper := [
  ⟨some 25, .mov (.tmp 3), none⟩,
  ⟨some 26, .toStr (.tmp 25), none⟩,
  ⟨some 2, .mov (.tmp 26), none⟩]
@[simp] theorem regex_Quote_r9_go (T : Tbl) (K : List Kt) (fr : Fr) (S : St) : gval T (.ops regex_Quote_r9 :: K) fr S = gval T (.ops [
  ⟨some 25, .mov (.tmp 3), none⟩,
  ⟨some 26, .toStr (.tmp 25), none⟩,
  ⟨some 2, .mov (.tmp 26), none⟩] :: K) fr S := rfl
def regex_Quote : PCodeFn :=
  ⟨1, [.tmp 2],
  (.seq (.region regex_Quote_r0) (.seq (.region regex_Quote_r1) (.seq (.seq (.clr [(5, 6)] (.region regex_Quote_r2)) (.block 0 (.loop regex_Quote_l0))) (.seq (.clr [(25, 27)] (.region regex_Quote_r9)) .ret)))), false⟩

/-! gauge/regex.Literal: 484 -/
def regex_Literal_r0 : List POper := [
  ⟨some 2, .mov (.cst (.str [])), none⟩,
  ⟨some 3, .mov (.cst (.bool false)), none⟩]
@[simp] theorem regex_Literal_r0_go (T : Tbl) (K : List Kt) (fr : Fr) (S : St) : gval T (.ops regex_Literal_r0 :: K) fr S = gval T (.ops [
  ⟨some 2, .mov (.cst (.str [])), none⟩,
  ⟨some 3, .mov (.cst (.bool false)), none⟩] :: K) fr S := rfl
def regex_Literal_r1 : List POper := [
  ⟨some 9, .mov (.tmp 0), none⟩,
  ⟨some 10, .call .pur 122 [(.tmp 9)], none⟩,
  ⟨some 8, .mov (.tmp 10), none⟩,
  ⟨some 11, .extract 0 (.tmp 8), none⟩,
  ⟨some 12, .extract 1 (.tmp 8), none⟩,
  ⟨some 4, .mov (.tmp 11), none⟩,
  ⟨some 5, .mov (.tmp 12), none⟩]
@[simp] theorem regex_Literal_r1_go (T : Tbl) (K : List Kt) (fr : Fr) (S : St) : gval T (.ops regex_Literal_r1 :: K) fr S = gval T (.ops [
  ⟨some 9, .mov (.tmp 0), none⟩,
  ⟨some 10, .call .pur 122 [(.tmp 9)], none⟩,
  ⟨some 8, .mov (.tmp 10), none⟩,
  ⟨some 11, .extract 0 (.tmp 8), none⟩,
  ⟨some 12, .extract 1 (.tmp 8), none⟩,
  ⟨some 4, .mov (.tmp 11), none⟩,
  ⟨some 5, .mov (.tmp 12), none⟩] :: K) fr S := rfl
def regex_Literal_r2 : List POper := [
  ⟨some 13, .mov (.tmp 5), none⟩,
  ⟨some 14, .arith .neq (.tmp 13) (.cst (.int .i64 0)), none⟩]
@[simp] theorem regex_Literal_r2_go (T : Tbl) (K : List Kt) (fr : Fr) (S : St) : gval T (.ops regex_Literal_r2 :: K) fr S = gval T (.ops [
  ⟨some 13, .mov (.tmp 5), none⟩,
  ⟨some 14, .arith .neq (.tmp 13) (.cst (.int .i64 0)), none⟩] :: K) fr S := rfl
def regex_Literal_r3 : List POper := [
  ⟨some 2, .mov (.cst (.str [])), none⟩,
  ⟨some 3, .mov (.cst (.bool false)), none⟩]
@[simp] theorem regex_Literal_r3_go (T : Tbl) (K : List Kt) (fr : Fr) (S : St) : gval T (.ops regex_Literal_r3 :: K) fr S = gval T (.ops [
  ⟨some 2, .mov (.cst (.str [])), none⟩,
  ⟨some 3, .mov (.cst (.bool false)), none⟩] :: K) fr S := rfl
def regex_Literal_r4 : List POper := [
  ⟨some 16, .mov (.tmp 4), none⟩,
  ⟨some 17, .call .std 485 [(.tmp 16)], none⟩,
  ⟨some 15, .mov (.tmp 17), none⟩,
  ⟨some 18, .extract 0 (.tmp 15), none⟩,
  ⟨some 19, .extract 1 (.tmp 15), none⟩,
  ⟨some 6, .mov (.tmp 18), none⟩,
  ⟨some 7, .mov (.tmp 19), none⟩]
@[simp] theorem regex_Literal_r4_go (T : Tbl) (K : List Kt) (fr : Fr) (S : St) : gval T (.ops regex_Literal_r4 :: K) fr S = gval T (.ops [
  ⟨some 16, .mov (.tmp 4), none⟩,
  ⟨some 17, .call .std 485 [(.tmp 16)], none⟩,
  ⟨some 15, .mov (.tmp 17), none⟩,
  ⟨some 18, .extract 0 (.tmp 15), none⟩,
  ⟨some 19, .extract 1 (.tmp 15), none⟩,
  ⟨some 6, .mov (.tmp 18), none⟩,
  ⟨some 7, .mov (.tmp 19), none⟩] :: K) fr S := rfl
def regex_Literal_r5 : List POper := [
  ⟨some 20, .mov (.tmp 7), none⟩,
  ⟨some 21, .un .not (.tmp 20), none⟩,
  ⟨some 22, .mov (.tmp 21), none⟩,
  ⟨some 23, .mov (.tmp 6), some (22, false)⟩,
  ⟨some 24, .toStr (.tmp 23), some (22, false)⟩,
  ⟨some 25, .call .pur 483 [(.tmp 24)], some (22, false)⟩,
  ⟨some 26, .len true (.tmp 25), some (22, false)⟩,
  ⟨some 27, .mov (.tmp 0), some (22, false)⟩,
  ⟨some 28, .len true (.tmp 27), some (22, false)⟩,
  ⟨some 29, .arith .neq (.tmp 26) (.tmp 28), some (22, false)⟩,
  ⟨some 30, .pick (.tmp 22) (.cst (.bool true)) (.tmp 29), none⟩,
  ⟨some 31, .mov (.tmp 30), none⟩,
  ⟨some 32, .mov (.tmp 6), some (31, false)⟩,
  ⟨some 33, .toStr (.tmp 32), some (31, false)⟩,
  ⟨some 34, .call .pur 483 [(.tmp 33)], some (31, false)⟩,
  ⟨some 35, .mov (.tmp 0), some (31, false)⟩,
  ⟨some 36, .arith .neq (.tmp 34) (.tmp 35), some (31, false)⟩,
  ⟨some 37, .pick (.tmp 31) (.cst (.bool true)) (.tmp 36), none⟩]
@[simp] theorem regex_Literal_r5_go (T : Tbl) (K : List Kt) (fr : Fr) (S : St) : gval T (.ops regex_Literal_r5 :: K) fr S = gval T (.ops [
  ⟨some 20, .mov (.tmp 7), none⟩,
  ⟨some 21, .un .not (.tmp 20), none⟩,
  ⟨some 22, .mov (.tmp 21), none⟩,
  ⟨some 23, .mov (.tmp 6), some (22, false)⟩,
  ⟨some 24, .toStr (.tmp 23), some (22, false)⟩,
  ⟨some 25, .call .pur 483 [(.tmp 24)], some (22, false)⟩,
  ⟨some 26, .len true (.tmp 25), some (22, false)⟩,
  ⟨some 27, .mov (.tmp 0), some (22, false)⟩,
  ⟨some 28, .len true (.tmp 27), some (22, false)⟩,
  ⟨some 29, .arith .neq (.tmp 26) (.tmp 28), some (22, false)⟩,
  ⟨some 30, .pick (.tmp 22) (.cst (.bool true)) (.tmp 29), none⟩,
  ⟨some 31, .mov (.tmp 30), none⟩,
  ⟨some 32, .mov (.tmp 6), some (31, false)⟩,
  ⟨some 33, .toStr (.tmp 32), some (31, false)⟩,
  ⟨some 34, .call .pur 483 [(.tmp 33)], some (31, false)⟩,
  ⟨some 35, .mov (.tmp 0), some (31, false)⟩,
  ⟨some 36, .arith .neq (.tmp 34) (.tmp 35), some (31, false)⟩,
  ⟨some 37, .pick (.tmp 31) (.cst (.bool true)) (.tmp 36), none⟩] :: K) fr S := rfl
def regex_Literal_r6 : List POper := [
  ⟨some 2, .mov (.cst (.str [])), none⟩,
  ⟨some 3, .mov (.cst (.bool false)), none⟩]
@[simp] theorem regex_Literal_r6_go (T : Tbl) (K : List Kt) (fr : Fr) (S : St) : gval T (.ops regex_Literal_r6 :: K) fr S = gval T (.ops [
  ⟨some 2, .mov (.cst (.str [])), none⟩,
  ⟨some 3, .mov (.cst (.bool false)), none⟩] :: K) fr S := rfl
def regex_Literal_r7 : List POper := [
  ⟨some 38, .mov (.tmp 6), none⟩,
  ⟨some 39, .toStr (.tmp 38), none⟩,
  ⟨some 2, .mov (.tmp 39), none⟩,
  ⟨some 3, .mov (.cst (.bool true)), none⟩]
@[simp] theorem regex_Literal_r7_go (T : Tbl) (K : List Kt) (fr : Fr) (S : St) : gval T (.ops regex_Literal_r7 :: K) fr S = gval T (.ops [
  ⟨some 38, .mov (.tmp 6), none⟩,
  ⟨some 39, .toStr (.tmp 38), none⟩,
  ⟨some 2, .mov (.tmp 39), none⟩,
  ⟨some 3, .mov (.cst (.bool true)), none⟩] :: K) fr S := rfl
def regex_Literal : PCodeFn :=
  ⟨1, [.tmp 2, .tmp 3],
  (.seq (.region regex_Literal_r0) (.seq (.clr [(8, 13)] (.region regex_Literal_r1)) (.seq (.seq (.clr [(13, 14)] (.region regex_Literal_r2)) (.cond (.tmp 14) (.seq (.region regex_Literal_r3) .ret) .skip)) (.seq (.clr [(15, 20)] (.region regex_Literal_r4)) (.seq (.seq (.clr [(20, 37)] (.region regex_Literal_r5)) (.cond (.tmp 37) (.seq (.region regex_Literal_r6) .ret) .skip)) (.seq (.clr [(38, 40)] (.region regex_Literal_r7)) .ret)))))), false⟩

/-! gauge/regex.read: 122 -/
def regex_read_r0 : List POper := [
  ⟨some 2, .mov (.cst .nili), none⟩,
  ⟨some 3, .mov (.cst (.int .i64 0)), none⟩]
@[simp] theorem regex_read_r0_go (T : Tbl) (K : List Kt) (fr : Fr) (S : St) : gval T (.ops regex_read_r0 :: K) fr S = gval T (.ops [
  ⟨some 2, .mov (.cst .nili), none⟩,
  ⟨some 3, .mov (.cst (.int .i64 0)), none⟩] :: K) fr S := rfl
def regex_read_r1 : List POper := [
  ⟨some 6, .mov (.tmp 0), none⟩,
  ⟨some 7, .len true (.tmp 6), none⟩,
  ⟨some 8, .arith .gtr (.tmp 7) (.cst (.int .i64 64)), none⟩]
@[simp] theorem regex_read_r1_go (T : Tbl) (K : List Kt) (fr : Fr) (S : St) : gval T (.ops regex_read_r1 :: K) fr S = gval T (.ops [
  ⟨some 6, .mov (.tmp 0), none⟩,
  ⟨some 7, .len true (.tmp 6), none⟩,
  ⟨some 8, .arith .gtr (.tmp 7) (.cst (.int .i64 64)), none⟩] :: K) fr S := rfl
def regex_read_r2 : List POper := [
  ⟨some 2, .mov (.cst .nili), none⟩,
  ⟨some 3, .mov (.cst (.int .i64 3)), none⟩]
@[simp] theorem regex_read_r2_go (T : Tbl) (K : List Kt) (fr : Fr) (S : St) : gval T (.ops regex_read_r2 :: K) fr S = gval T (.ops [
  ⟨some 2, .mov (.cst .nili), none⟩,
  ⟨some 3, .mov (.cst (.int .i64 3)), none⟩] :: K) fr S := rfl
def regex_read_r3 : List POper := [
  ⟨some 9, .mov (.tmp 0), none⟩,
  ⟨some 10, .build [(.str []), (.int .i64 0), (.int .i64 0), (.bool false)] [(0, 1, (.tmp 9))], none⟩,
  ⟨some 11, .box false (.tmp 10), none⟩,
  ⟨some 4, .mov (.tmp 11), none⟩]
@[simp] theorem regex_read_r3_go (T : Tbl) (K : List Kt) (fr : Fr) (S : St) : gval T (.ops regex_read_r3 :: K) fr S = gval T (.ops [
  ⟨some 9, .mov (.tmp 0), none⟩,
  ⟨some 10, .build [(.str []), (.int .i64 0), (.int .i64 0), (.bool false)] [(0, 1, (.tmp 9))], none⟩,
  ⟨some 11, .box false (.tmp 10), none⟩,
  ⟨some 4, .mov (.tmp 11), none⟩] :: K) fr S := rfl
def regex_read_r4 : List POper := [
  ⟨some 12, .mov (.tmp 4), none⟩,
  ⟨some 13, .call .std 222 [(.tmp 12)], none⟩,
  ⟨some 5, .mov (.tmp 13), none⟩]
@[simp] theorem regex_read_r4_go (T : Tbl) (K : List Kt) (fr : Fr) (S : St) : gval T (.ops regex_read_r4 :: K) fr S = gval T (.ops [
  ⟨some 12, .mov (.tmp 4), none⟩,
  ⟨some 13, .call .std 222 [(.tmp 12)], none⟩,
  ⟨some 5, .mov (.tmp 13), none⟩] :: K) fr S := rfl
def regex_read_r5 : List POper := [
  ⟨some 15, .mov (.tmp 4), none⟩,
  ⟨some 16, .nilck (.tmp 15), none⟩,
  ⟨some 17, .faddr 3 (.tmp 16), none⟩,
  ⟨some 18, .load false 1 false (.tmp 17), none⟩,
  ⟨some 19, .mov (.tmp 18), none⟩,
  ⟨some 20, .mov (.tmp 4), some (19, false)⟩,
  ⟨some 21, .nilck (.tmp 20), some (19, false)⟩,
  ⟨some 22, .faddr 0 (.tmp 21), some (19, false)⟩,
  ⟨some 23, .load false 1 false (.tmp 22), some (19, false)⟩,
  ⟨some 24, .arith .neq (.tmp 23) (.cst (.str [])), some (19, false)⟩,
  ⟨some 25, .pick (.tmp 19) (.cst (.bool true)) (.tmp 24), none⟩,
  ⟨some 14, .mov (.tmp 25), none⟩]
@[simp] theorem regex_read_r5_go (T : Tbl) (K : List Kt) (fr : Fr) (S : St) : gval T (.ops regex_read_r5 :: K) fr S = gval T (.ops [
  ⟨some 15, .mov (.tmp 4), none⟩,
  ⟨some 16, .nilck (.tmp 15), none⟩,
  ⟨some 17, .faddr 3 (.tmp 16), none⟩,
  ⟨some 18, .load false 1 false (.tmp 17), none⟩,
  ⟨some 19, .mov (.tmp 18), none⟩,
  ⟨some 20, .mov (.tmp 4), some (19, false)⟩,
  ⟨some 21, .nilck (.tmp 20), some (19, false)⟩,
  ⟨some 22, .faddr 0 (.tmp 21), some (19, false)⟩,
  ⟨some 23, .load false 1 false (.tmp 22), some (19, false)⟩,
  ⟨some 24, .arith .neq (.tmp 23) (.cst (.str [])), some (19, false)⟩,
  ⟨some 25, .pick (.tmp 19) (.cst (.bool true)) (.tmp 24), none⟩,
  ⟨some 14, .mov (.tmp 25), none⟩] :: K) fr S := rfl
def regex_read_r6 : List POper := [
  ⟨some 2, .mov (.cst .nili), none⟩,
  ⟨some 3, .mov (.cst (.int .i64 14)), none⟩]
@[simp] theorem regex_read_r6_go (T : Tbl) (K : List Kt) (fr : Fr) (S : St) : gval T (.ops regex_read_r6 :: K) fr S = gval T (.ops [
  ⟨some 2, .mov (.cst .nili), none⟩,
  ⟨some 3, .mov (.cst (.int .i64 14)), none⟩] :: K) fr S := rfl
def regex_read_r7 : List POper := [
  ⟨some 27, .mov (.tmp 4), none⟩,
  ⟨some 28, .nilck (.tmp 27), none⟩,
  ⟨some 29, .faddr 2 (.tmp 28), none⟩,
  ⟨some 30, .load false 1 false (.tmp 29), none⟩,
  ⟨some 31, .arith .gtr (.tmp 30) (.cst (.int .i64 8)), none⟩,
  ⟨some 26, .mov (.tmp 31), none⟩]
@[simp] theorem regex_read_r7_go (T : Tbl) (K : List Kt) (fr : Fr) (S : St) : gval T (.ops regex_read_r7 :: K) fr S = gval T (.ops [
  ⟨some 27, .mov (.tmp 4), none⟩,
  ⟨some 28, .nilck (.tmp 27), none⟩,
  ⟨some 29, .faddr 2 (.tmp 28), none⟩,
  ⟨some 30, .load false 1 false (.tmp 29), none⟩,
  ⟨some 31, .arith .gtr (.tmp 30) (.cst (.int .i64 8)), none⟩,
  ⟨some 26, .mov (.tmp 31), none⟩] :: K) fr S := rfl
def regex_read_r8 : List POper := [
  ⟨some 2, .mov (.cst .nili), none⟩,
  ⟨some 3, .mov (.cst (.int .i64 15)), none⟩]
@[simp] theorem regex_read_r8_go (T : Tbl) (K : List Kt) (fr : Fr) (S : St) : gval T (.ops regex_read_r8 :: K) fr S = gval T (.ops [
  ⟨some 2, .mov (.cst .nili), none⟩,
  ⟨some 3, .mov (.cst (.int .i64 15)), none⟩] :: K) fr S := rfl
def regex_read_r9 : List POper := [
  ⟨some 32, .mov (.tmp 5), none⟩,
  ⟨some 2, .mov (.tmp 32), none⟩,
  ⟨some 3, .mov (.cst (.int .i64 0)), none⟩]
@[simp] theorem regex_read_r9_go (T : Tbl) (K : List Kt) (fr : Fr) (S : St) : gval T (.ops regex_read_r9 :: K) fr S = gval T (.ops [
  ⟨some 32, .mov (.tmp 5), none⟩,
  ⟨some 2, .mov (.tmp 32), none⟩,
  ⟨some 3, .mov (.cst (.int .i64 0)), none⟩] :: K) fr S := rfl
def regex_read : PCodeFn :=
  ⟨1, [.tmp 2, .tmp 3],
  (.seq (.region regex_read_r0) (.seq (.seq (.clr [(6, 8)] (.region regex_read_r1)) (.cond (.tmp 8) (.seq (.region regex_read_r2) .ret) .skip)) (.seq (.clr [(9, 12)] (.region regex_read_r3)) (.seq (.clr [(12, 14)] (.region regex_read_r4)) (.seq (.block 0 (.seq (.clr [(15, 26)] (.region regex_read_r5)) (.cond (.tmp 14) (.seq (.region regex_read_r6) .ret) (.seq (.clr [(27, 32)] (.region regex_read_r7)) (.cond (.tmp 26) (.seq (.region regex_read_r8) .ret) .skip))))) (.seq (.clr [(32, 33)] (.region regex_read_r9)) .ret)))))), false⟩

/-! gauge/gaugeref07.Right: 223 -/
def ref07_Right_r0 : List POper := [
  ⟨some 2, .mov (.cst (.bool false)), none⟩]
@[simp] theorem ref07_Right_r0_go (T : Tbl) (K : List Kt) (fr : Fr) (S : St) : gval T (.ops ref07_Right_r0 :: K) fr S = gval T (.ops [
  ⟨some 2, .mov (.cst (.bool false)), none⟩] :: K) fr S := rfl
def ref07_Right_r1 : List POper := [
  ⟨some 6, .mov (.tmp 0), none⟩,
  ⟨some 7, .call .pur 225 [(.tmp 6)], none⟩,
  ⟨some 5, .mov (.tmp 7), none⟩,
  ⟨some 8, .extract 0 (.tmp 5), none⟩,
  ⟨some 9, .extract 1 (.tmp 5), none⟩,
  ⟨some 3, .mov (.tmp 8), none⟩,
  ⟨some 4, .mov (.tmp 9), none⟩]
@[simp] theorem ref07_Right_r1_go (T : Tbl) (K : List Kt) (fr : Fr) (S : St) : gval T (.ops ref07_Right_r1 :: K) fr S = gval T (.ops [
  ⟨some 6, .mov (.tmp 0), none⟩,
  ⟨some 7, .call .pur 225 [(.tmp 6)], none⟩,
  ⟨some 5, .mov (.tmp 7), none⟩,
  ⟨some 8, .extract 0 (.tmp 5), none⟩,
  ⟨some 9, .extract 1 (.tmp 5), none⟩,
  ⟨some 3, .mov (.tmp 8), none⟩,
  ⟨some 4, .mov (.tmp 9), none⟩] :: K) fr S := rfl
def ref07_Right_r2 : List POper := [
  ⟨some 10, .mov (.tmp 4), none⟩,
  ⟨some 2, .mov (.tmp 10), none⟩]
@[simp] theorem ref07_Right_r2_go (T : Tbl) (K : List Kt) (fr : Fr) (S : St) : gval T (.ops ref07_Right_r2 :: K) fr S = gval T (.ops [
  ⟨some 10, .mov (.tmp 4), none⟩,
  ⟨some 2, .mov (.tmp 10), none⟩] :: K) fr S := rfl
def ref07_Right : PCodeFn :=
  ⟨1, [.tmp 2],
  (.seq (.region ref07_Right_r0) (.seq (.clr [(3, 4), (5, 10)] (.region ref07_Right_r1)) (.seq (.clr [(10, 11)] (.region ref07_Right_r2)) .ret))), false⟩

/-! gauge/gaugeref07.Depth: 224 -/
def ref07_Depth_r0 : List POper := [
  ⟨some 2, .mov (.cst (.int .i64 0)), none⟩]
@[simp] theorem ref07_Depth_r0_go (T : Tbl) (K : List Kt) (fr : Fr) (S : St) : gval T (.ops ref07_Depth_r0 :: K) fr S = gval T (.ops [
  ⟨some 2, .mov (.cst (.int .i64 0)), none⟩] :: K) fr S := rfl
def ref07_Depth_r1 : List POper := [
  ⟨some 3, .mov (.cst (.int .i64 0)), none⟩,
  ⟨some 4, .mov (.cst (.int .i64 0)), none⟩]
@[simp] theorem ref07_Depth_r1_go (T : Tbl) (K : List Kt) (fr : Fr) (S : St) : gval T (.ops ref07_Depth_r1 :: K) fr S = gval T (.ops [
  ⟨some 3, .mov (.cst (.int .i64 0)), none⟩,
  ⟨some 4, .mov (.cst (.int .i64 0)), none⟩] :: K) fr S := rfl
def ref07_Depth_r2 : List POper := [
  ⟨some 5, .mov (.cst (.int .i64 0)), none⟩]
@[simp] theorem ref07_Depth_r2_go (T : Tbl) (K : List Kt) (fr : Fr) (S : St) : gval T (.ops ref07_Depth_r2 :: K) fr S = gval T (.ops [
  ⟨some 5, .mov (.cst (.int .i64 0)), none⟩] :: K) fr S := rfl
def ref07_Depth_r3 : List POper := [
  ⟨some 8, .mov (.tmp 5), none⟩,
  ⟨some 9, .mov (.tmp 0), none⟩,
  ⟨some 10, .len true (.tmp 9), none⟩,
  ⟨some 11, .arith .lss (.tmp 8) (.tmp 10), none⟩]
@[simp] theorem ref07_Depth_r3_go (T : Tbl) (K : List Kt) (fr : Fr) (S : St) : gval T (.ops ref07_Depth_r3 :: K) fr S = gval T (.ops [
  ⟨some 8, .mov (.tmp 5), none⟩,
  ⟨some 9, .mov (.tmp 0), none⟩,
  ⟨some 10, .len true (.tmp 9), none⟩,
  ⟨some 11, .arith .lss (.tmp 8) (.tmp 10), none⟩] :: K) fr S := rfl
def ref07_Depth_r5 : List POper := [
  ⟨some 14, .mov (.tmp 0), none⟩,
  ⟨some 15, .mov (.tmp 5), none⟩,
  ⟨some 16, .idxs (.tmp 14) (.tmp 15), none⟩]
@[simp] theorem ref07_Depth_r5_go (T : Tbl) (K : List Kt) (fr : Fr) (S : St) : gval T (.ops ref07_Depth_r5 :: K) fr S = gval T (.ops [
  ⟨some 14, .mov (.tmp 0), none⟩,
  ⟨some 15, .mov (.tmp 5), none⟩,
  ⟨some 16, .idxs (.tmp 14) (.tmp 15), none⟩] :: K) fr S := rfl
def ref07_Depth_r6 : List POper := [
  ⟨some 18, .arith .eql (.tmp 16) (.cst (.int .u8 92)), none⟩,
  ⟨some 17, .mov (.tmp 18), none⟩]
@[simp] theorem ref07_Depth_r6_go (T : Tbl) (K : List Kt) (fr : Fr) (S : St) : gval T (.ops ref07_Depth_r6 :: K) fr S = gval T (.ops [
  ⟨some 18, .arith .eql (.tmp 16) (.cst (.int .u8 92)), none⟩,
  ⟨some 17, .mov (.tmp 18), none⟩] :: K) fr S := rfl
def ref07_Depth_r7 : List POper := [
  ⟨some 19, .mov (.tmp 5), none⟩,
  ⟨some 20, .arith .add (.tmp 19) (.cst (.int .i64 1)), none⟩,
  ⟨some 5, .mov (.tmp 20), none⟩]
@[simp] theorem ref07_Depth_r7_go (T : Tbl) (K : List Kt) (fr : Fr) (S : St) : gval T (.ops ref07_Depth_r7 :: K) fr S = gval T (.ops [
  ⟨some 19, .mov (.tmp 5), none⟩,
  ⟨some 20, .arith .add (.tmp 19) (.cst (.int .i64 1)), none⟩,
  ⟨some 5, .mov (.tmp 20), none⟩] :: K) fr S := rfl
def ref07_Depth_r8 : List POper := [
  ⟨some 22, .arith .eql (.tmp 16) (.cst (.int .u8 91)), none⟩,
  ⟨some 21, .mov (.tmp 22), none⟩]
@[simp] theorem ref07_Depth_r8_go (T : Tbl) (K : List Kt) (fr : Fr) (S : St) : gval T (.ops ref07_Depth_r8 :: K) fr S = gval T (.ops [
  ⟨some 22, .arith .eql (.tmp 16) (.cst (.int .u8 91)), none⟩,
  ⟨some 21, .mov (.tmp 22), none⟩] :: K) fr S := rfl
def ref07_Depth_r9 : List POper := [
  ⟨some 24, .mov (.tmp 0), none⟩,
  ⟨some 25, .mov (.tmp 5), none⟩,
  ⟨some 26, .call .pur 305 [(.tmp 24), (.tmp 25), (.cst (.int .u8 0))], none⟩,
  ⟨some 23, .mov (.tmp 26), none⟩,
  ⟨some 27, .extract 0 (.tmp 23), none⟩,
  ⟨some 28, .extract 1 (.tmp 23), none⟩,
  ⟨some 6, .mov (.tmp 27), none⟩,
  ⟨some 7, .mov (.tmp 28), none⟩]
@[simp] theorem ref07_Depth_r9_go (T : Tbl) (K : List Kt) (fr : Fr) (S : St) : gval T (.ops ref07_Depth_r9 :: K) fr S = gval T (.ops [
  ⟨some 24, .mov (.tmp 0), none⟩,
  ⟨some 25, .mov (.tmp 5), none⟩,
  ⟨some 26, .call .pur 305 [(.tmp 24), (.tmp 25), (.cst (.int .u8 0))], none⟩,
  ⟨some 23, .mov (.tmp 26), none⟩,
  ⟨some 27, .extract 0 (.tmp 23), none⟩,
  ⟨some 28, .extract 1 (.tmp 23), none⟩,
  ⟨some 6, .mov (.tmp 27), none⟩,
  ⟨some 7, .mov (.tmp 28), none⟩] :: K) fr S := rfl
def ref07_Depth_r10 : List POper := [
  ⟨some 29, .mov (.tmp 6), none⟩,
  ⟨some 30, .arith .sub (.tmp 29) (.cst (.int .i64 1)), none⟩,
  ⟨some 5, .mov (.tmp 30), none⟩]
@[simp] theorem ref07_Depth_r10_go (T : Tbl) (K : List Kt) (fr : Fr) (S : St) : gval T (.ops ref07_Depth_r10 :: K) fr S = gval T (.ops [
  ⟨some 29, .mov (.tmp 6), none⟩,
  ⟨some 30, .arith .sub (.tmp 29) (.cst (.int .i64 1)), none⟩,
  ⟨some 5, .mov (.tmp 30), none⟩] :: K) fr S := rfl
def ref07_Depth_r11 : List POper := [
  ⟨some 32, .arith .eql (.tmp 16) (.cst (.int .u8 40)), none⟩,
  ⟨some 31, .mov (.tmp 32), none⟩]
@[simp] theorem ref07_Depth_r11_go (T : Tbl) (K : List Kt) (fr : Fr) (S : St) : gval T (.ops ref07_Depth_r11 :: K) fr S = gval T (.ops [
  ⟨some 32, .arith .eql (.tmp 16) (.cst (.int .u8 40)), none⟩,
  ⟨some 31, .mov (.tmp 32), none⟩] :: K) fr S := rfl
def ref07_Depth_r12 : List POper := [
  ⟨some 33, .mov (.tmp 3), none⟩,
  ⟨some 34, .arith .add (.tmp 33) (.cst (.int .i64 1)), none⟩,
  ⟨some 3, .mov (.tmp 34), none⟩]
@[simp] theorem ref07_Depth_r12_go (T : Tbl) (K : List Kt) (fr : Fr) (S : St) : gval T (.ops ref07_Depth_r12 :: K) fr S = gval T (.ops [
  ⟨some 33, .mov (.tmp 3), none⟩,
  ⟨some 34, .arith .add (.tmp 33) (.cst (.int .i64 1)), none⟩,
  ⟨some 3, .mov (.tmp 34), none⟩] :: K) fr S := rfl
def ref07_Depth_r13 : List POper := [
  ⟨some 35, .mov (.tmp 4), none⟩,
  ⟨some 36, .mov (.tmp 3), none⟩,
  ⟨some 37, .mnmx true (.tmp 35) (.tmp 36), none⟩,
  ⟨some 4, .mov (.tmp 37), none⟩]
@[simp] theorem ref07_Depth_r13_go (T : Tbl) (K : List Kt) (fr : Fr) (S : St) : gval T (.ops ref07_Depth_r13 :: K) fr S = gval T (.ops [
  ⟨some 35, .mov (.tmp 4), none⟩,
  ⟨some 36, .mov (.tmp 3), none⟩,
  ⟨some 37, .mnmx true (.tmp 35) (.tmp 36), none⟩,
  ⟨some 4, .mov (.tmp 37), none⟩] :: K) fr S := rfl
def ref07_Depth_r14 : List POper := [
  ⟨some 39, .arith .eql (.tmp 16) (.cst (.int .u8 41)), none⟩,
  ⟨some 38, .mov (.tmp 39), none⟩]
@[simp] theorem ref07_Depth_r14_go (T : Tbl) (K : List Kt) (fr : Fr) (S : St) : gval T (.ops ref07_Depth_r14 :: K) fr S = gval T (.ops [
  ⟨some 39, .arith .eql (.tmp 16) (.cst (.int .u8 41)), none⟩,
  ⟨some 38, .mov (.tmp 39), none⟩] :: K) fr S := rfl
def ref07_Depth_r15 : List POper := [
  ⟨some 40, .mov (.tmp 3), none⟩,
  ⟨some 41, .arith .sub (.tmp 40) (.cst (.int .i64 1)), none⟩,
  ⟨some 3, .mov (.tmp 41), none⟩]
@[simp] theorem ref07_Depth_r15_go (T : Tbl) (K : List Kt) (fr : Fr) (S : St) : gval T (.ops ref07_Depth_r15 :: K) fr S = gval T (.ops [
  ⟨some 40, .mov (.tmp 3), none⟩,
  ⟨some 41, .arith .sub (.tmp 40) (.cst (.int .i64 1)), none⟩,
  ⟨some 3, .mov (.tmp 41), none⟩] :: K) fr S := rfl
def ref07_Depth_r4 : List POper := [
  ⟨some 12, .mov (.tmp 5), none⟩,
  ⟨some 13, .arith .add (.tmp 12) (.cst (.int .i64 1)), none⟩,
  ⟨some 5, .mov (.tmp 13), none⟩]
@[simp] theorem ref07_Depth_r4_go (T : Tbl) (K : List Kt) (fr : Fr) (S : St) : gval T (.ops ref07_Depth_r4 :: K) fr S = gval T (.ops [
  ⟨some 12, .mov (.tmp 5), none⟩,
  ⟨some 13, .arith .add (.tmp 12) (.cst (.int .i64 1)), none⟩,
  ⟨some 5, .mov (.tmp 13), none⟩] :: K) fr S := rfl
def ref07_Depth_l0 : PCode :=
  (.seq (.seq (.clr [(8, 11)] (.region ref07_Depth_r3)) (.cond (.tmp 11) .skip (.exit 0))) (.seq (.block 1 (.seq (.clr [(14, 16)] (.region ref07_Depth_r5)) (.block 2 (.seq (.clr [(18, 19)] (.region ref07_Depth_r6)) (.cond (.tmp 17) (.clr [(19, 21)] (.region ref07_Depth_r7)) (.seq (.clr [(22, 23)] (.region ref07_Depth_r8)) (.cond (.tmp 21) (.seq (.clr [(7, 8), (23, 29)] (.region ref07_Depth_r9)) (.clr [(29, 31)] (.region ref07_Depth_r10))) (.seq (.clr [(32, 33)] (.region ref07_Depth_r11)) (.cond (.tmp 31) (.seq (.clr [(33, 35)] (.region ref07_Depth_r12)) (.clr [(35, 38)] (.region ref07_Depth_r13))) (.seq (.clr [(39, 40)] (.region ref07_Depth_r14)) (.cond (.tmp 38) (.clr [(40, 42)] (.region ref07_Depth_r15)) .skip))))))))))) (.clr [(12, 14)] (.region ref07_Depth_r4))))
@[simp] theorem ref07_Depth_l0_go (T : Tbl) (K : List Kt) (fr : Fr) (S : St) : gval T (.code ref07_Depth_l0 :: K) fr S = gval T (.code (.seq (.seq (.clr [(8, 11)] (.region ref07_Depth_r3)) (.cond (.tmp 11) .skip (.exit 0))) (.seq (.block 1 (.seq (.clr [(14, 16)] (.region ref07_Depth_r5)) (.block 2 (.seq (.clr [(18, 19)] (.region ref07_Depth_r6)) (.cond (.tmp 17) (.clr [(19, 21)] (.region ref07_Depth_r7)) (.seq (.clr [(22, 23)] (.region ref07_Depth_r8)) (.cond (.tmp 21) (.seq (.clr [(7, 8), (23, 29)] (.region ref07_Depth_r9)) (.clr [(29, 31)] (.region ref07_Depth_r10))) (.seq (.clr [(32, 33)] (.region ref07_Depth_r11)) (.cond (.tmp 31) (.seq (.clr [(33, 35)] (.region ref07_Depth_r12)) (.clr [(35, 38)] (.region ref07_Depth_r13))) (.seq (.clr [(39, 40)] (.region ref07_Depth_r14)) (.cond (.tmp 38) (.clr [(40, 42)] (.region ref07_Depth_r15)) .skip))))))))))) (.clr [(12, 14)] (.region ref07_Depth_r4)))) :: K) fr S := rfl
def ref07_Depth_r16 : List POper := [
  ⟨some 42, .mov (.tmp 4), none⟩,
  ⟨some 2, .mov (.tmp 42), none⟩]
@[simp] theorem ref07_Depth_r16_go (T : Tbl) (K : List Kt) (fr : Fr) (S : St) : gval T (.ops ref07_Depth_r16 :: K) fr S = gval T (.ops [
  ⟨some 42, .mov (.tmp 4), none⟩,
  ⟨some 2, .mov (.tmp 42), none⟩] :: K) fr S := rfl
def ref07_Depth : PCodeFn :=
  ⟨1, [.tmp 2],
  (.seq (.region ref07_Depth_r0) (.seq (.region ref07_Depth_r1) (.seq (.seq (.region ref07_Depth_r2) (.block 0 (.loop ref07_Depth_l0))) (.seq (.clr [(42, 43)] (.region ref07_Depth_r16)) .ret)))), false⟩

/-! gauge/gaugeref07.Ends: 124 -/
def ref07_Ends_r0 : List POper := [
  ⟨some 6, .mov (.cst .nils), none⟩]
@[simp] theorem ref07_Ends_r0_go (T : Tbl) (K : List Kt) (fr : Fr) (S : St) : gval T (.ops ref07_Ends_r0 :: K) fr S = gval T (.ops [
  ⟨some 6, .mov (.cst .nils), none⟩] :: K) fr S := rfl
def ref07_Ends_r1 : List POper := [
  ⟨some 12, .mov (.tmp 0), none⟩,
  ⟨some 13, .call .pur 225 [(.tmp 12)], none⟩,
  ⟨some 11, .mov (.tmp 13), none⟩,
  ⟨some 14, .extract 0 (.tmp 11), none⟩,
  ⟨some 15, .extract 1 (.tmp 11), none⟩,
  ⟨some 7, .mov (.tmp 14), none⟩,
  ⟨some 8, .mov (.tmp 15), none⟩]
@[simp] theorem ref07_Ends_r1_go (T : Tbl) (K : List Kt) (fr : Fr) (S : St) : gval T (.ops ref07_Ends_r1 :: K) fr S = gval T (.ops [
  ⟨some 12, .mov (.tmp 0), none⟩,
  ⟨some 13, .call .pur 225 [(.tmp 12)], none⟩,
  ⟨some 11, .mov (.tmp 13), none⟩,
  ⟨some 14, .extract 0 (.tmp 11), none⟩,
  ⟨some 15, .extract 1 (.tmp 11), none⟩,
  ⟨some 7, .mov (.tmp 14), none⟩,
  ⟨some 8, .mov (.tmp 15), none⟩] :: K) fr S := rfl
def ref07_Ends_r2 : List POper := [
  ⟨some 9, .mov (.cst .nils), none⟩]
@[simp] theorem ref07_Ends_r2_go (T : Tbl) (K : List Kt) (fr : Fr) (S : St) : gval T (.ops ref07_Ends_r2 :: K) fr S = gval T (.ops [
  ⟨some 9, .mov (.cst .nils), none⟩] :: K) fr S := rfl
def ref07_Ends_r3 : List POper := [
  ⟨some 10, .mov (.cst (.int .i64 0)), none⟩]
@[simp] theorem ref07_Ends_r3_go (T : Tbl) (K : List Kt) (fr : Fr) (S : St) : gval T (.ops ref07_Ends_r3 :: K) fr S = gval T (.ops [
  ⟨some 10, .mov (.cst (.int .i64 0)), none⟩] :: K) fr S := rfl
def ref07_Ends_r4 : List POper := [
  ⟨some 16, .mov (.tmp 10), none⟩,
  ⟨some 17, .mov (.tmp 7), none⟩,
  ⟨some 18, .len false (.tmp 17), none⟩,
  ⟨some 19, .arith .lss (.tmp 16) (.tmp 18), none⟩]
@[simp] theorem ref07_Ends_r4_go (T : Tbl) (K : List Kt) (fr : Fr) (S : St) : gval T (.ops ref07_Ends_r4 :: K) fr S = gval T (.ops [
  ⟨some 16, .mov (.tmp 10), none⟩,
  ⟨some 17, .mov (.tmp 7), none⟩,
  ⟨some 18, .len false (.tmp 17), none⟩,
  ⟨some 19, .arith .lss (.tmp 16) (.tmp 18), none⟩] :: K) fr S := rfl
def ref07_Ends_r6 : List POper := [
  ⟨some 22, .mov (.tmp 9), none⟩,
  ⟨some 23, .mov (.tmp 7), none⟩,
  ⟨some 24, .mov (.tmp 10), none⟩,
  ⟨some 25, .iaddr 1 (.tmp 23) (.tmp 24), none⟩,
  ⟨some 26, .load false 1 false (.tmp 25), none⟩,
  ⟨some 27, .mov (.tmp 1), none⟩,
  ⟨some 28, .mov (.tmp 2), none⟩,
  ⟨some 29, .call .std 227 [(.tmp 26), (.tmp 27), (.tmp 28)], none⟩,
  ⟨some 30, .call .std 226 [(.tmp 22), (.tmp 29)], none⟩,
  ⟨some 9, .mov (.tmp 30), none⟩]
@[simp] theorem ref07_Ends_r6_go (T : Tbl) (K : List Kt) (fr : Fr) (S : St) : gval T (.ops ref07_Ends_r6 :: K) fr S = gval T (.ops [
  ⟨some 22, .mov (.tmp 9), none⟩,
  ⟨some 23, .mov (.tmp 7), none⟩,
  ⟨some 24, .mov (.tmp 10), none⟩,
  ⟨some 25, .iaddr 1 (.tmp 23) (.tmp 24), none⟩,
  ⟨some 26, .load false 1 false (.tmp 25), none⟩,
  ⟨some 27, .mov (.tmp 1), none⟩,
  ⟨some 28, .mov (.tmp 2), none⟩,
  ⟨some 29, .call .std 227 [(.tmp 26), (.tmp 27), (.tmp 28)], none⟩,
  ⟨some 30, .call .std 226 [(.tmp 22), (.tmp 29)], none⟩,
  ⟨some 9, .mov (.tmp 30), none⟩] :: K) fr S := rfl
def ref07_Ends_r5 : List POper := [
  ⟨some 20, .mov (.tmp 10), none⟩,
  ⟨some 21, .arith .add (.tmp 20) (.cst (.int .i64 1)), none⟩,
  ⟨some 10, .mov (.tmp 21), none⟩]
@[simp] theorem ref07_Ends_r5_go (T : Tbl) (K : List Kt) (fr : Fr) (S : St) : gval T (.ops ref07_Ends_r5 :: K) fr S = gval T (.ops [
  ⟨some 20, .mov (.tmp 10), none⟩,
  ⟨some 21, .arith .add (.tmp 20) (.cst (.int .i64 1)), none⟩,
  ⟨some 10, .mov (.tmp 21), none⟩] :: K) fr S := rfl
def ref07_Ends_l0 : PCode :=
  (.seq (.seq (.clr [(16, 19)] (.region ref07_Ends_r4)) (.cond (.tmp 19) .skip (.exit 0))) (.seq (.block 1 (.clr [(22, 31)] (.region ref07_Ends_r6))) (.clr [(20, 22)] (.region ref07_Ends_r5))))
@[simp] theorem ref07_Ends_l0_go (T : Tbl) (K : List Kt) (fr : Fr) (S : St) : gval T (.code ref07_Ends_l0 :: K) fr S = gval T (.code (.seq (.seq (.clr [(16, 19)] (.region ref07_Ends_r4)) (.cond (.tmp 19) .skip (.exit 0))) (.seq (.block 1 (.clr [(22, 31)] (.region ref07_Ends_r6))) (.clr [(20, 22)] (.region ref07_Ends_r5)))) :: K) fr S := rfl
def ref07_Ends_r7 : List POper := [
  ⟨some 31, .mov (.tmp 9), none⟩,
  ⟨some 6, .mov (.tmp 31), none⟩]
@[simp] theorem ref07_Ends_r7_go (T : Tbl) (K : List Kt) (fr : Fr) (S : St) : gval T (.ops ref07_Ends_r7 :: K) fr S = gval T (.ops [
  ⟨some 31, .mov (.tmp 9), none⟩,
  ⟨some 6, .mov (.tmp 31), none⟩] :: K) fr S := rfl
def ref07_Ends : PCodeFn :=
  ⟨3, [.tmp 6],
  (.seq (.region ref07_Ends_r0) (.seq (.clr [(8, 9), (11, 16)] (.region ref07_Ends_r1)) (.seq (.region ref07_Ends_r2) (.seq (.seq (.region ref07_Ends_r3) (.block 0 (.loop ref07_Ends_l0))) (.seq (.clr [(31, 32)] (.region ref07_Ends_r7)) .ret))))), false⟩

/-! gauge/regex.plain: 390 -/
def regex_plain_r0 : List POper := [
  ⟨some 2, .mov (.cst (.bool false)), none⟩]
@[simp] theorem regex_plain_r0_go (T : Tbl) (K : List Kt) (fr : Fr) (S : St) : gval T (.ops regex_plain_r0 :: K) fr S = gval T (.ops [
  ⟨some 2, .mov (.cst (.bool false)), none⟩] :: K) fr S := rfl
def regex_plain_r1 : List POper := [
  ⟨some 3, .mov (.tmp 0), none⟩,
  ⟨some 4, .call .pur 211 [(.cst (.str [92, 40, 41, 91, 93, 124, 42, 43, 63, 46])), (.tmp 3)], none⟩,
  ⟨some 5, .arith .lss (.tmp 4) (.cst (.int .i64 0)), none⟩,
  ⟨some 2, .mov (.tmp 5), none⟩]
@[simp] theorem regex_plain_r1_go (T : Tbl) (K : List Kt) (fr : Fr) (S : St) : gval T (.ops regex_plain_r1 :: K) fr S = gval T (.ops [
  ⟨some 3, .mov (.tmp 0), none⟩,
  ⟨some 4, .call .pur 211 [(.cst (.str [92, 40, 41, 91, 93, 124, 42, 43, 63, 46])), (.tmp 3)], none⟩,
  ⟨some 5, .arith .lss (.tmp 4) (.cst (.int .i64 0)), none⟩,
  ⟨some 2, .mov (.tmp 5), none⟩] :: K) fr S := rfl
def regex_plain : PCodeFn :=
  ⟨1, [.tmp 2],
  (.seq (.region regex_plain_r0) (.seq (.clr [(3, 6)] (.region regex_plain_r1)) .ret)), false⟩

/-! gauge/regex.text: 485 -/
def regex_text_r0 : List POper := [
  ⟨some 2, .mov (.cst .nils), none⟩,
  ⟨some 3, .mov (.cst (.bool false)), none⟩]
@[simp] theorem regex_text_r0_go (T : Tbl) (K : List Kt) (fr : Fr) (S : St) : gval T (.ops regex_text_r0 :: K) fr S = gval T (.ops [
  ⟨some 2, .mov (.cst .nils), none⟩,
  ⟨some 3, .mov (.cst (.bool false)), none⟩] :: K) fr S := rfl
def regex_text_r1 : List POper := [
  ⟨some 12, .mov (.tmp 0), none⟩]
@[simp] theorem regex_text_r1_go (T : Tbl) (K : List Kt) (fr : Fr) (S : St) : gval T (.ops regex_text_r1 :: K) fr S = gval T (.ops [
  ⟨some 12, .mov (.tmp 0), none⟩] :: K) fr S := rfl
def regex_text_r2 : List POper := [
  ⟨some 13, .assert 5 true .nils (.tmp 12), none⟩,
  ⟨some 14, .extract 1 (.tmp 13), none⟩,
  ⟨some 15, .extract 0 (.tmp 13), none⟩]
@[simp] theorem regex_text_r2_go (T : Tbl) (K : List Kt) (fr : Fr) (S : St) : gval T (.ops regex_text_r2 :: K) fr S = gval T (.ops [
  ⟨some 13, .assert 5 true .nils (.tmp 12), none⟩,
  ⟨some 14, .extract 1 (.tmp 13), none⟩,
  ⟨some 15, .extract 0 (.tmp 13), none⟩] :: K) fr S := rfl
def regex_text_r3 : List POper := [
  ⟨some 4, .mov (.tmp 15), none⟩]
@[simp] theorem regex_text_r3_go (T : Tbl) (K : List Kt) (fr : Fr) (S : St) : gval T (.ops regex_text_r3 :: K) fr S = gval T (.ops [
  ⟨some 4, .mov (.tmp 15), none⟩] :: K) fr S := rfl
def regex_text_r4 : List POper := [
  ⟨some 16, .mov (.tmp 4), none⟩,
  ⟨some 17, .len false (.tmp 16), none⟩,
  ⟨some 18, .arith .eql (.tmp 17) (.cst (.int .i64 1)), none⟩]
@[simp] theorem regex_text_r4_go (T : Tbl) (K : List Kt) (fr : Fr) (S : St) : gval T (.ops regex_text_r4 :: K) fr S = gval T (.ops [
  ⟨some 16, .mov (.tmp 4), none⟩,
  ⟨some 17, .len false (.tmp 16), none⟩,
  ⟨some 18, .arith .eql (.tmp 17) (.cst (.int .i64 1)), none⟩] :: K) fr S := rfl
def regex_text_r5 : List POper := [
  ⟨some 19, .mov (.tmp 4), none⟩,
  ⟨some 20, .iaddr 1 (.tmp 19) (.cst (.int .i64 0)), none⟩,
  ⟨some 21, .load false 1 false (.tmp 20), none⟩,
  ⟨some 22, .call .std 485 [(.tmp 21)], none⟩,
  ⟨some 23, .extract 0 (.tmp 22), none⟩,
  ⟨some 24, .extract 1 (.tmp 22), none⟩,
  ⟨some 2, .mov (.tmp 23), none⟩,
  ⟨some 3, .mov (.tmp 24), none⟩]
@[simp] theorem regex_text_r5_go (T : Tbl) (K : List Kt) (fr : Fr) (S : St) : gval T (.ops regex_text_r5 :: K) fr S = gval T (.ops [
  ⟨some 19, .mov (.tmp 4), none⟩,
  ⟨some 20, .iaddr 1 (.tmp 19) (.cst (.int .i64 0)), none⟩,
  ⟨some 21, .load false 1 false (.tmp 20), none⟩,
  ⟨some 22, .call .std 485 [(.tmp 21)], none⟩,
  ⟨some 23, .extract 0 (.tmp 22), none⟩,
  ⟨some 24, .extract 1 (.tmp 22), none⟩,
  ⟨some 2, .mov (.tmp 23), none⟩,
  ⟨some 3, .mov (.tmp 24), none⟩] :: K) fr S := rfl
def regex_text_r6 : List POper := [
  ⟨some 25, .assert 10 true .nils (.tmp 12), none⟩,
  ⟨some 26, .extract 1 (.tmp 25), none⟩,
  ⟨some 27, .extract 0 (.tmp 25), none⟩]
@[simp] theorem regex_text_r6_go (T : Tbl) (K : List Kt) (fr : Fr) (S : St) : gval T (.ops regex_text_r6 :: K) fr S = gval T (.ops [
  ⟨some 25, .assert 10 true .nils (.tmp 12), none⟩,
  ⟨some 26, .extract 1 (.tmp 25), none⟩,
  ⟨some 27, .extract 0 (.tmp 25), none⟩] :: K) fr S := rfl
def regex_text_r7 : List POper := [
  ⟨some 5, .mov (.tmp 27), none⟩]
@[simp] theorem regex_text_r7_go (T : Tbl) (K : List Kt) (fr : Fr) (S : St) : gval T (.ops regex_text_r7 :: K) fr S = gval T (.ops [
  ⟨some 5, .mov (.tmp 27), none⟩] :: K) fr S := rfl
def regex_text_r8 : List POper := [
  ⟨some 6, .mov (.cst .nils), none⟩]
@[simp] theorem regex_text_r8_go (T : Tbl) (K : List Kt) (fr : Fr) (S : St) : gval T (.ops regex_text_r8 :: K) fr S = gval T (.ops [
  ⟨some 6, .mov (.cst .nils), none⟩] :: K) fr S := rfl
def regex_text_r9 : List POper := [
  ⟨some 28, .mov (.tmp 5), none⟩,
  ⟨some 29, .len false (.tmp 28), none⟩,
  ⟨some 30, .mov (.cst (.int .i64 0)), none⟩]
@[simp] theorem regex_text_r9_go (T : Tbl) (K : List Kt) (fr : Fr) (S : St) : gval T (.ops regex_text_r9 :: K) fr S = gval T (.ops [
  ⟨some 28, .mov (.tmp 5), none⟩,
  ⟨some 29, .len false (.tmp 28), none⟩,
  ⟨some 30, .mov (.cst (.int .i64 0)), none⟩] :: K) fr S := rfl
def regex_text_r10 : List POper := [
  ⟨some 31, .arith .lss (.tmp 30) (.tmp 29), none⟩]
@[simp] theorem regex_text_r10_go (T : Tbl) (K : List Kt) (fr : Fr) (S : St) : gval T (.ops regex_text_r10 :: K) fr S = gval T (.ops [
  ⟨some 31, .arith .lss (.tmp 30) (.tmp 29), none⟩] :: K) fr S := rfl
def regex_text_r11 : List POper := [
  ⟨some 32, .iaddr 1 (.tmp 28) (.tmp 30), none⟩,
  ⟨some 33, .load false 1 false (.tmp 32), none⟩,
  ⟨some 8, .mov (.tmp 33), none⟩]
@[simp] theorem regex_text_r11_go (T : Tbl) (K : List Kt) (fr : Fr) (S : St) : gval T (.ops regex_text_r11 :: K) fr S = gval T (.ops [
  ⟨some 32, .iaddr 1 (.tmp 28) (.tmp 30), none⟩,
  ⟨some 33, .load false 1 false (.tmp 32), none⟩,
  ⟨some 8, .mov (.tmp 33), none⟩] :: K) fr S := rfl
def regex_text_r12 : List POper := [
  ⟨some 35, .mov (.tmp 8), none⟩,
  ⟨some 36, .assert 12 true .nilp (.tmp 35), none⟩,
  ⟨some 34, .mov (.tmp 36), none⟩,
  ⟨some 37, .extract 0 (.tmp 34), none⟩,
  ⟨some 38, .extract 1 (.tmp 34), none⟩,
  ⟨some 9, .mov (.tmp 37), none⟩,
  ⟨some 10, .mov (.tmp 38), none⟩]
@[simp] theorem regex_text_r12_go (T : Tbl) (K : List Kt) (fr : Fr) (S : St) : gval T (.ops regex_text_r12 :: K) fr S = gval T (.ops [
  ⟨some 35, .mov (.tmp 8), none⟩,
  ⟨some 36, .assert 12 true .nilp (.tmp 35), none⟩,
  ⟨some 34, .mov (.tmp 36), none⟩,
  ⟨some 37, .extract 0 (.tmp 34), none⟩,
  ⟨some 38, .extract 1 (.tmp 34), none⟩,
  ⟨some 9, .mov (.tmp 37), none⟩,
  ⟨some 10, .mov (.tmp 38), none⟩] :: K) fr S := rfl
def regex_text_r13 : List POper := [
  ⟨some 39, .mov (.tmp 10), none⟩,
  ⟨some 40, .un .not (.tmp 39), none⟩]
@[simp] theorem regex_text_r13_go (T : Tbl) (K : List Kt) (fr : Fr) (S : St) : gval T (.ops regex_text_r13 :: K) fr S = gval T (.ops [
  ⟨some 39, .mov (.tmp 10), none⟩,
  ⟨some 40, .un .not (.tmp 39), none⟩] :: K) fr S := rfl
def regex_text_r14 : List POper := [
  ⟨some 2, .mov (.cst .nils), none⟩,
  ⟨some 3, .mov (.cst (.bool false)), none⟩]
@[simp] theorem regex_text_r14_go (T : Tbl) (K : List Kt) (fr : Fr) (S : St) : gval T (.ops regex_text_r14 :: K) fr S = gval T (.ops [
  ⟨some 2, .mov (.cst .nils), none⟩,
  ⟨some 3, .mov (.cst (.bool false)), none⟩] :: K) fr S := rfl
def regex_text_r15 : List POper := [
  ⟨some 41, .mov (.tmp 9), none⟩,
  ⟨some 42, .nilck (.tmp 41), none⟩,
  ⟨some 43, .slca 256 1 none none (.tmp 42), none⟩,
  ⟨some 44, .call .std 486 [(.tmp 43), (.cst (.bool true))], none⟩,
  ⟨some 11, .mov (.tmp 44), none⟩]
@[simp] theorem regex_text_r15_go (T : Tbl) (K : List Kt) (fr : Fr) (S : St) : gval T (.ops regex_text_r15 :: K) fr S = gval T (.ops [
  ⟨some 41, .mov (.tmp 9), none⟩,
  ⟨some 42, .nilck (.tmp 41), none⟩,
  ⟨some 43, .slca 256 1 none none (.tmp 42), none⟩,
  ⟨some 44, .call .std 486 [(.tmp 43), (.cst (.bool true))], none⟩,
  ⟨some 11, .mov (.tmp 44), none⟩] :: K) fr S := rfl
def regex_text_r16 : List POper := [
  ⟨some 45, .mov (.tmp 6), none⟩,
  ⟨some 46, .mov (.tmp 11), none⟩,
  ⟨some 47, .toInt .u8 (.tmp 46), none⟩,
  ⟨some 48, .bsl false (.int .u8 0) 1 [(0, (.tmp 47))], none⟩,
  ⟨some 49, .app 1 1 (.tmp 45) (.tmp 48), none⟩,
  ⟨some 6, .mov (.tmp 49), none⟩]
@[simp] theorem regex_text_r16_go (T : Tbl) (K : List Kt) (fr : Fr) (S : St) : gval T (.ops regex_text_r16 :: K) fr S = gval T (.ops [
  ⟨some 45, .mov (.tmp 6), none⟩,
  ⟨some 46, .mov (.tmp 11), none⟩,
  ⟨some 47, .toInt .u8 (.tmp 46), none⟩,
  ⟨some 48, .bsl false (.int .u8 0) 1 [(0, (.tmp 47))], none⟩,
  ⟨some 49, .app 1 1 (.tmp 45) (.tmp 48), none⟩,
  ⟨some 6, .mov (.tmp 49), none⟩] :: K) fr S := rfl
def regex_text_r17 : List POper := [
  ⟨some 50, .arith .add (.tmp 30) (.cst (.int .i64 1)), none⟩,
  ⟨some 30, .mov (.tmp 50), none⟩]
@[simp] theorem regex_text_r17_go (T : Tbl) (K : List Kt) (fr : Fr) (S : St) : gval T (.ops regex_text_r17 :: K) fr S = gval T (.ops [
  ⟨some 50, .arith .add (.tmp 30) (.cst (.int .i64 1)), none⟩,
  ⟨some 30, .mov (.tmp 50), none⟩] :: K) fr S := rfl
def regex_text_l0 : PCode :=
  (.seq (.region regex_text_r10) (.seq (.cond (.tmp 31) .skip (.exit 1)) (.seq (.block 2 (.seq (.clr [(32, 34)] (.region regex_text_r11)) (.seq (.clr [(34, 39)] (.region regex_text_r12)) (.seq (.seq (.clr [(39, 40)] (.region regex_text_r13)) (.cond (.tmp 40) (.seq (.region regex_text_r14) .ret) .skip)) (.seq (.clr [(41, 45)] (.region regex_text_r15)) (.clr [(45, 50)] (.region regex_text_r16))))))) (.clr [(50, 51)] (.region regex_text_r17)))))
@[simp] theorem regex_text_l0_go (T : Tbl) (K : List Kt) (fr : Fr) (S : St) : gval T (.code regex_text_l0 :: K) fr S = gval T (.code (.seq (.region regex_text_r10) (.seq (.cond (.tmp 31) .skip (.exit 1)) (.seq (.block 2 (.seq (.clr [(32, 34)] (.region regex_text_r11)) (.seq (.clr [(34, 39)] (.region regex_text_r12)) (.seq (.seq (.clr [(39, 40)] (.region regex_text_r13)) (.cond (.tmp 40) (.seq (.region regex_text_r14) .ret) .skip)) (.seq (.clr [(41, 45)] (.region regex_text_r15)) (.clr [(45, 50)] (.region regex_text_r16))))))) (.clr [(50, 51)] (.region regex_text_r17))))) :: K) fr S := rfl
def regex_text_r18 : List POper := [
  ⟨some 51, .mov (.tmp 6), none⟩,
  ⟨some 2, .mov (.tmp 51), none⟩,
  ⟨some 3, .mov (.cst (.bool true)), none⟩]
@[simp] theorem regex_text_r18_go (T : Tbl) (K : List Kt) (fr : Fr) (S : St) : gval T (.ops regex_text_r18 :: K) fr S = gval T (.ops [
  ⟨some 51, .mov (.tmp 6), none⟩,
  ⟨some 2, .mov (.tmp 51), none⟩,
  ⟨some 3, .mov (.cst (.bool true)), none⟩] :: K) fr S := rfl
def regex_text_r19 : List POper := [
  ⟨some 2, .mov (.cst .nils), none⟩,
  ⟨some 3, .mov (.cst (.bool false)), none⟩]
@[simp] theorem regex_text_r19_go (T : Tbl) (K : List Kt) (fr : Fr) (S : St) : gval T (.ops regex_text_r19 :: K) fr S = gval T (.ops [
  ⟨some 2, .mov (.cst .nils), none⟩,
  ⟨some 3, .mov (.cst (.bool false)), none⟩] :: K) fr S := rfl
def regex_text : PCodeFn :=
  ⟨1, [.tmp 2, .tmp 3],
  (.seq (.region regex_text_r0) (.seq (.seq (.region regex_text_r1) (.block 0 (.seq (.clr [(13, 14)] (.region regex_text_r2)) (.cond (.tmp 14) (.seq (.region regex_text_r3) (.seq (.clr [(16, 18)] (.region regex_text_r4)) (.cond (.tmp 18) (.seq (.clr [(19, 25)] (.region regex_text_r5)) .ret) .skip))) (.seq (.clr [(25, 26)] (.region regex_text_r6)) (.cond (.tmp 26) (.seq (.region regex_text_r7) (.seq (.region regex_text_r8) (.seq (.seq (.region regex_text_r9) (.block 1 (.loop regex_text_l0))) (.seq (.clr [(51, 52)] (.region regex_text_r18)) .ret)))) .skip)))))) (.seq (.region regex_text_r19) .ret))), false⟩

/-! (*gauge/regex.reader).pattern: 222 -/
def regex_reader_pattern_r0 : List POper := [
  ⟨some 2, .mov (.cst .nili), none⟩]
@[simp] theorem regex_reader_pattern_r0_go (T : Tbl) (K : List Kt) (fr : Fr) (S : St) : gval T (.ops regex_reader_pattern_r0 :: K) fr S = gval T (.ops [
  ⟨some 2, .mov (.cst .nili), none⟩] :: K) fr S := rfl
def regex_reader_pattern_r1 : List POper := [
  ⟨some 4, .mov (.tmp 0), none⟩,
  ⟨some 5, .call .std 302 [(.tmp 4)], none⟩,
  ⟨some 6, .bsl false .nili 1 [(0, (.tmp 5))], none⟩,
  ⟨some 3, .mov (.tmp 6), none⟩]
@[simp] theorem regex_reader_pattern_r1_go (T : Tbl) (K : List Kt) (fr : Fr) (S : St) : gval T (.ops regex_reader_pattern_r1 :: K) fr S = gval T (.ops [
  ⟨some 4, .mov (.tmp 0), none⟩,
  ⟨some 5, .call .std 302 [(.tmp 4)], none⟩,
  ⟨some 6, .bsl false .nili 1 [(0, (.tmp 5))], none⟩,
  ⟨some 3, .mov (.tmp 6), none⟩] :: K) fr S := rfl
def regex_reader_pattern_r2 : List POper := [
  ⟨some 7, .mov (.tmp 0), none⟩,
  ⟨some 8, .call .std 303 [(.tmp 7), (.cst (.str [124]))], none⟩,
  ⟨some 9, .mov (.tmp 8), none⟩,
  ⟨some 10, .mov (.tmp 0), some (9, true)⟩,
  ⟨some 11, .nilck (.tmp 10), some (9, true)⟩,
  ⟨some 12, .faddr 3 (.tmp 11), some (9, true)⟩,
  ⟨some 13, .load false 1 false (.tmp 12), some (9, true)⟩,
  ⟨some 14, .un .not (.tmp 13), some (9, true)⟩,
  ⟨some 15, .pick (.tmp 9) (.tmp 14) (.cst (.bool false)), none⟩]
@[simp] theorem regex_reader_pattern_r2_go (T : Tbl) (K : List Kt) (fr : Fr) (S : St) : gval T (.ops regex_reader_pattern_r2 :: K) fr S = gval T (.ops [
  ⟨some 7, .mov (.tmp 0), none⟩,
  ⟨some 8, .call .std 303 [(.tmp 7), (.cst (.str [124]))], none⟩,
  ⟨some 9, .mov (.tmp 8), none⟩,
  ⟨some 10, .mov (.tmp 0), some (9, true)⟩,
  ⟨some 11, .nilck (.tmp 10), some (9, true)⟩,
  ⟨some 12, .faddr 3 (.tmp 11), some (9, true)⟩,
  ⟨some 13, .load false 1 false (.tmp 12), some (9, true)⟩,
  ⟨some 14, .un .not (.tmp 13), some (9, true)⟩,
  ⟨some 15, .pick (.tmp 9) (.tmp 14) (.cst (.bool false)), none⟩] :: K) fr S := rfl
def regex_reader_pattern_r3 : List POper := [
  ⟨some 16, .mov (.tmp 0), none⟩,
  ⟨some 17, .call .std 304 [(.tmp 16)], none⟩]
@[simp] theorem regex_reader_pattern_r3_go (T : Tbl) (K : List Kt) (fr : Fr) (S : St) : gval T (.ops regex_reader_pattern_r3 :: K) fr S = gval T (.ops [
  ⟨some 16, .mov (.tmp 0), none⟩,
  ⟨some 17, .call .std 304 [(.tmp 16)], none⟩] :: K) fr S := rfl
def regex_reader_pattern_r4 : List POper := [
  ⟨some 18, .mov (.tmp 3), none⟩,
  ⟨some 19, .mov (.tmp 0), none⟩,
  ⟨some 20, .call .std 302 [(.tmp 19)], none⟩,
  ⟨some 21, .bsl false .nili 1 [(0, (.tmp 20))], none⟩,
  ⟨some 22, .app 1 16 (.tmp 18) (.tmp 21), none⟩,
  ⟨some 3, .mov (.tmp 22), none⟩]
@[simp] theorem regex_reader_pattern_r4_go (T : Tbl) (K : List Kt) (fr : Fr) (S : St) : gval T (.ops regex_reader_pattern_r4 :: K) fr S = gval T (.ops [
  ⟨some 18, .mov (.tmp 3), none⟩,
  ⟨some 19, .mov (.tmp 0), none⟩,
  ⟨some 20, .call .std 302 [(.tmp 19)], none⟩,
  ⟨some 21, .bsl false .nili 1 [(0, (.tmp 20))], none⟩,
  ⟨some 22, .app 1 16 (.tmp 18) (.tmp 21), none⟩,
  ⟨some 3, .mov (.tmp 22), none⟩] :: K) fr S := rfl
def regex_reader_pattern_l0 : PCode :=
  (.seq (.seq (.clr [(7, 15)] (.region regex_reader_pattern_r2)) (.cond (.tmp 15) .skip (.exit 0))) (.block 1 (.seq (.clr [(16, 18)] (.region regex_reader_pattern_r3)) (.clr [(18, 23)] (.region regex_reader_pattern_r4)))))
@[simp] theorem regex_reader_pattern_l0_go (T : Tbl) (K : List Kt) (fr : Fr) (S : St) : gval T (.code regex_reader_pattern_l0 :: K) fr S = gval T (.code (.seq (.seq (.clr [(7, 15)] (.region regex_reader_pattern_r2)) (.cond (.tmp 15) .skip (.exit 0))) (.block 1 (.seq (.clr [(16, 18)] (.region regex_reader_pattern_r3)) (.clr [(18, 23)] (.region regex_reader_pattern_r4))))) :: K) fr S := rfl
def regex_reader_pattern_r5 : List POper := [
  ⟨some 23, .mov (.tmp 3), none⟩,
  ⟨some 24, .mkif 5 (.tmp 23), none⟩,
  ⟨some 2, .mov (.tmp 24), none⟩]
@[simp] theorem regex_reader_pattern_r5_go (T : Tbl) (K : List Kt) (fr : Fr) (S : St) : gval T (.ops regex_reader_pattern_r5 :: K) fr S = gval T (.ops [
  ⟨some 23, .mov (.tmp 3), none⟩,
  ⟨some 24, .mkif 5 (.tmp 23), none⟩,
  ⟨some 2, .mov (.tmp 24), none⟩] :: K) fr S := rfl
def regex_reader_pattern : PCodeFn :=
  ⟨1, [.tmp 2],
  (.seq (.region regex_reader_pattern_r0) (.seq (.clr [(4, 7)] (.region regex_reader_pattern_r1)) (.seq (.block 0 (.loop regex_reader_pattern_l0)) (.seq (.clr [(23, 25)] (.region regex_reader_pattern_r5)) .ret)))), false⟩

/-! gauge/gaugeref07.Cut: 225 -/
def ref07_Cut_r0 : List POper := [
  ⟨some 2, .mov (.cst .nils), none⟩,
  ⟨some 3, .mov (.cst (.bool false)), none⟩]
@[simp] theorem ref07_Cut_r0_go (T : Tbl) (K : List Kt) (fr : Fr) (S : St) : gval T (.ops ref07_Cut_r0 :: K) fr S = gval T (.ops [
  ⟨some 2, .mov (.cst .nils), none⟩,
  ⟨some 3, .mov (.cst (.bool false)), none⟩] :: K) fr S := rfl
def ref07_Cut_r1 : List POper := [
  ⟨some 4, .mov (.cst .nils), none⟩]
@[simp] theorem ref07_Cut_r1_go (T : Tbl) (K : List Kt) (fr : Fr) (S : St) : gval T (.ops ref07_Cut_r1 :: K) fr S = gval T (.ops [
  ⟨some 4, .mov (.cst .nils), none⟩] :: K) fr S := rfl
def ref07_Cut_r2 : List POper := [
  ⟨some 5, .mov (.cst (.int .i64 0)), none⟩,
  ⟨some 6, .mov (.cst (.int .i64 0)), none⟩]
@[simp] theorem ref07_Cut_r2_go (T : Tbl) (K : List Kt) (fr : Fr) (S : St) : gval T (.ops ref07_Cut_r2 :: K) fr S = gval T (.ops [
  ⟨some 5, .mov (.cst (.int .i64 0)), none⟩,
  ⟨some 6, .mov (.cst (.int .i64 0)), none⟩] :: K) fr S := rfl
def ref07_Cut_r3 : List POper := [
  ⟨some 8, .mov (.tmp 6), none⟩,
  ⟨some 9, .mov (.tmp 0), none⟩,
  ⟨some 10, .len true (.tmp 9), none⟩,
  ⟨some 11, .arith .lss (.tmp 8) (.tmp 10), none⟩]
@[simp] theorem ref07_Cut_r3_go (T : Tbl) (K : List Kt) (fr : Fr) (S : St) : gval T (.ops ref07_Cut_r3 :: K) fr S = gval T (.ops [
  ⟨some 8, .mov (.tmp 6), none⟩,
  ⟨some 9, .mov (.tmp 0), none⟩,
  ⟨some 10, .len true (.tmp 9), none⟩,
  ⟨some 11, .arith .lss (.tmp 8) (.tmp 10), none⟩] :: K) fr S := rfl
def ref07_Cut_r4 : List POper := [
  ⟨some 12, .mov (.tmp 0), none⟩,
  ⟨some 13, .mov (.tmp 6), none⟩,
  ⟨some 14, .idxs (.tmp 12) (.tmp 13), none⟩,
  ⟨some 15, .arith .eql (.tmp 14) (.cst (.int .u8 124)), none⟩]
@[simp] theorem ref07_Cut_r4_go (T : Tbl) (K : List Kt) (fr : Fr) (S : St) : gval T (.ops ref07_Cut_r4 :: K) fr S = gval T (.ops [
  ⟨some 12, .mov (.tmp 0), none⟩,
  ⟨some 13, .mov (.tmp 6), none⟩,
  ⟨some 14, .idxs (.tmp 12) (.tmp 13), none⟩,
  ⟨some 15, .arith .eql (.tmp 14) (.cst (.int .u8 124)), none⟩] :: K) fr S := rfl
def ref07_Cut_r5 : List POper := [
  ⟨some 16, .mov (.tmp 4), none⟩,
  ⟨some 17, .mov (.tmp 0), none⟩,
  ⟨some 18, .mov (.tmp 5), none⟩,
  ⟨some 19, .mov (.tmp 6), none⟩,
  ⟨some 20, .slcs (some (.tmp 18)) (some (.tmp 19)) (.tmp 17), none⟩,
  ⟨some 21, .bsl false (.str []) 1 [(0, (.tmp 20))], none⟩,
  ⟨some 22, .app 1 16 (.tmp 16) (.tmp 21), none⟩,
  ⟨some 4, .mov (.tmp 22), none⟩]
@[simp] theorem ref07_Cut_r5_go (T : Tbl) (K : List Kt) (fr : Fr) (S : St) : gval T (.ops ref07_Cut_r5 :: K) fr S = gval T (.ops [
  ⟨some 16, .mov (.tmp 4), none⟩,
  ⟨some 17, .mov (.tmp 0), none⟩,
  ⟨some 18, .mov (.tmp 5), none⟩,
  ⟨some 19, .mov (.tmp 6), none⟩,
  ⟨some 20, .slcs (some (.tmp 18)) (some (.tmp 19)) (.tmp 17), none⟩,
  ⟨some 21, .bsl false (.str []) 1 [(0, (.tmp 20))], none⟩,
  ⟨some 22, .app 1 16 (.tmp 16) (.tmp 21), none⟩,
  ⟨some 4, .mov (.tmp 22), none⟩] :: K) fr S := rfl
def ref07_Cut_r6 : List POper := [
  ⟨some 23, .mov (.tmp 6), none⟩,
  ⟨some 24, .arith .add (.tmp 23) (.cst (.int .i64 1)), none⟩,
  ⟨some 6, .mov (.tmp 24), none⟩]
@[simp] theorem ref07_Cut_r6_go (T : Tbl) (K : List Kt) (fr : Fr) (S : St) : gval T (.ops ref07_Cut_r6 :: K) fr S = gval T (.ops [
  ⟨some 23, .mov (.tmp 6), none⟩,
  ⟨some 24, .arith .add (.tmp 23) (.cst (.int .i64 1)), none⟩,
  ⟨some 6, .mov (.tmp 24), none⟩] :: K) fr S := rfl
def ref07_Cut_r7 : List POper := [
  ⟨some 25, .mov (.tmp 6), none⟩,
  ⟨some 5, .mov (.tmp 25), none⟩]
@[simp] theorem ref07_Cut_r7_go (T : Tbl) (K : List Kt) (fr : Fr) (S : St) : gval T (.ops ref07_Cut_r7 :: K) fr S = gval T (.ops [
  ⟨some 25, .mov (.tmp 6), none⟩,
  ⟨some 5, .mov (.tmp 25), none⟩] :: K) fr S := rfl
def ref07_Cut_r8 : List POper := [
  ⟨some 26, .mov (.tmp 0), none⟩,
  ⟨some 27, .mov (.tmp 6), none⟩,
  ⟨some 28, .call .pur 306 [(.tmp 26), (.tmp 27)], none⟩,
  ⟨some 7, .mov (.tmp 28), none⟩]
@[simp] theorem ref07_Cut_r8_go (T : Tbl) (K : List Kt) (fr : Fr) (S : St) : gval T (.ops ref07_Cut_r8 :: K) fr S = gval T (.ops [
  ⟨some 26, .mov (.tmp 0), none⟩,
  ⟨some 27, .mov (.tmp 6), none⟩,
  ⟨some 28, .call .pur 306 [(.tmp 26), (.tmp 27)], none⟩,
  ⟨some 7, .mov (.tmp 28), none⟩] :: K) fr S := rfl
def ref07_Cut_r9 : List POper := [
  ⟨some 29, .mov (.tmp 7), none⟩,
  ⟨some 30, .arith .eql (.tmp 29) (.cst (.int .i64 0)), none⟩]
@[simp] theorem ref07_Cut_r9_go (T : Tbl) (K : List Kt) (fr : Fr) (S : St) : gval T (.ops ref07_Cut_r9 :: K) fr S = gval T (.ops [
  ⟨some 29, .mov (.tmp 7), none⟩,
  ⟨some 30, .arith .eql (.tmp 29) (.cst (.int .i64 0)), none⟩] :: K) fr S := rfl
def ref07_Cut_r10 : List POper := [
  ⟨some 2, .mov (.cst .nils), none⟩,
  ⟨some 3, .mov (.cst (.bool false)), none⟩]
@[simp] theorem ref07_Cut_r10_go (T : Tbl) (K : List Kt) (fr : Fr) (S : St) : gval T (.ops ref07_Cut_r10 :: K) fr S = gval T (.ops [
  ⟨some 2, .mov (.cst .nils), none⟩,
  ⟨some 3, .mov (.cst (.bool false)), none⟩] :: K) fr S := rfl
def ref07_Cut_r11 : List POper := [
  ⟨some 31, .mov (.tmp 7), none⟩,
  ⟨some 6, .mov (.tmp 31), none⟩]
@[simp] theorem ref07_Cut_r11_go (T : Tbl) (K : List Kt) (fr : Fr) (S : St) : gval T (.ops ref07_Cut_r11 :: K) fr S = gval T (.ops [
  ⟨some 31, .mov (.tmp 7), none⟩,
  ⟨some 6, .mov (.tmp 31), none⟩] :: K) fr S := rfl
def ref07_Cut_r12 : List POper := [
  ⟨some 32, .mov (.tmp 6), none⟩,
  ⟨some 33, .mov (.tmp 0), none⟩,
  ⟨some 34, .len true (.tmp 33), none⟩,
  ⟨some 35, .arith .lss (.tmp 32) (.tmp 34), none⟩,
  ⟨some 36, .mov (.tmp 35), none⟩,
  ⟨some 37, .mov (.tmp 0), some (36, true)⟩,
  ⟨some 38, .mov (.tmp 6), some (36, true)⟩,
  ⟨some 39, .idxs (.tmp 37) (.tmp 38), some (36, true)⟩,
  ⟨some 40, .arith .eql (.tmp 39) (.cst (.int .u8 42)), some (36, true)⟩,
  ⟨some 41, .mov (.tmp 40), some (36, true)⟩,
  ⟨some 42, .mov (.tmp 0), some (41, false)⟩,
  ⟨some 43, .mov (.tmp 6), some (41, false)⟩,
  ⟨some 44, .idxs (.tmp 42) (.tmp 43), some (41, false)⟩,
  ⟨some 45, .arith .eql (.tmp 44) (.cst (.int .u8 43)), some (41, false)⟩,
  ⟨some 46, .pick (.tmp 41) (.cst (.bool true)) (.tmp 45), some (36, true)⟩,
  ⟨some 47, .mov (.tmp 46), some (36, true)⟩,
  ⟨some 48, .mov (.tmp 0), some (47, false)⟩,
  ⟨some 49, .mov (.tmp 6), some (47, false)⟩,
  ⟨some 50, .idxs (.tmp 48) (.tmp 49), some (47, false)⟩,
  ⟨some 51, .arith .eql (.tmp 50) (.cst (.int .u8 63)), some (47, false)⟩,
  ⟨some 52, .pick (.tmp 47) (.cst (.bool true)) (.tmp 51), some (36, true)⟩,
  ⟨some 53, .pick (.tmp 36) (.tmp 52) (.cst (.bool false)), none⟩]
@[simp] theorem ref07_Cut_r12_go (T : Tbl) (K : List Kt) (fr : Fr) (S : St) : gval T (.ops ref07_Cut_r12 :: K) fr S = gval T (.ops [
  ⟨some 32, .mov (.tmp 6), none⟩,
  ⟨some 33, .mov (.tmp 0), none⟩,
  ⟨some 34, .len true (.tmp 33), none⟩,
  ⟨some 35, .arith .lss (.tmp 32) (.tmp 34), none⟩,
  ⟨some 36, .mov (.tmp 35), none⟩,
  ⟨some 37, .mov (.tmp 0), some (36, true)⟩,
  ⟨some 38, .mov (.tmp 6), some (36, true)⟩,
  ⟨some 39, .idxs (.tmp 37) (.tmp 38), some (36, true)⟩,
  ⟨some 40, .arith .eql (.tmp 39) (.cst (.int .u8 42)), some (36, true)⟩,
  ⟨some 41, .mov (.tmp 40), some (36, true)⟩,
  ⟨some 42, .mov (.tmp 0), some (41, false)⟩,
  ⟨some 43, .mov (.tmp 6), some (41, false)⟩,
  ⟨some 44, .idxs (.tmp 42) (.tmp 43), some (41, false)⟩,
  ⟨some 45, .arith .eql (.tmp 44) (.cst (.int .u8 43)), some (41, false)⟩,
  ⟨some 46, .pick (.tmp 41) (.cst (.bool true)) (.tmp 45), some (36, true)⟩,
  ⟨some 47, .mov (.tmp 46), some (36, true)⟩,
  ⟨some 48, .mov (.tmp 0), some (47, false)⟩,
  ⟨some 49, .mov (.tmp 6), some (47, false)⟩,
  ⟨some 50, .idxs (.tmp 48) (.tmp 49), some (47, false)⟩,
  ⟨some 51, .arith .eql (.tmp 50) (.cst (.int .u8 63)), some (47, false)⟩,
  ⟨some 52, .pick (.tmp 47) (.cst (.bool true)) (.tmp 51), some (36, true)⟩,
  ⟨some 53, .pick (.tmp 36) (.tmp 52) (.cst (.bool false)), none⟩] :: K) fr S := rfl
def ref07_Cut_r13 : List POper := [
  ⟨some 54, .mov (.tmp 6), none⟩,
  ⟨some 55, .arith .add (.tmp 54) (.cst (.int .i64 1)), none⟩,
  ⟨some 6, .mov (.tmp 55), none⟩]
@[simp] theorem ref07_Cut_r13_go (T : Tbl) (K : List Kt) (fr : Fr) (S : St) : gval T (.ops ref07_Cut_r13 :: K) fr S = gval T (.ops [
  ⟨some 54, .mov (.tmp 6), none⟩,
  ⟨some 55, .arith .add (.tmp 54) (.cst (.int .i64 1)), none⟩,
  ⟨some 6, .mov (.tmp 55), none⟩] :: K) fr S := rfl
def ref07_Cut_l0 : PCode :=
  (.seq (.seq (.clr [(8, 11)] (.region ref07_Cut_r3)) (.cond (.tmp 11) .skip (.exit 0))) (.block 1 (.seq (.seq (.clr [(12, 15)] (.region ref07_Cut_r4)) (.cond (.tmp 15) (.seq (.clr [(16, 23)] (.region ref07_Cut_r5)) (.seq (.clr [(23, 25)] (.region ref07_Cut_r6)) (.seq (.clr [(25, 26)] (.region ref07_Cut_r7)) (.exit 1)))) .skip)) (.seq (.clr [(26, 29)] (.region ref07_Cut_r8)) (.seq (.seq (.clr [(29, 30)] (.region ref07_Cut_r9)) (.cond (.tmp 30) (.seq (.region ref07_Cut_r10) .ret) .skip)) (.seq (.clr [(31, 32)] (.region ref07_Cut_r11)) (.seq (.clr [(32, 53)] (.region ref07_Cut_r12)) (.cond (.tmp 53) (.clr [(54, 56)] (.region ref07_Cut_r13)) .skip))))))))
@[simp] theorem ref07_Cut_l0_go (T : Tbl) (K : List Kt) (fr : Fr) (S : St) : gval T (.code ref07_Cut_l0 :: K) fr S = gval T (.code (.seq (.seq (.clr [(8, 11)] (.region ref07_Cut_r3)) (.cond (.tmp 11) .skip (.exit 0))) (.block 1 (.seq (.seq (.clr [(12, 15)] (.region ref07_Cut_r4)) (.cond (.tmp 15) (.seq (.clr [(16, 23)] (.region ref07_Cut_r5)) (.seq (.clr [(23, 25)] (.region ref07_Cut_r6)) (.seq (.clr [(25, 26)] (.region ref07_Cut_r7)) (.exit 1)))) .skip)) (.seq (.clr [(26, 29)] (.region ref07_Cut_r8)) (.seq (.seq (.clr [(29, 30)] (.region ref07_Cut_r9)) (.cond (.tmp 30) (.seq (.region ref07_Cut_r10) .ret) .skip)) (.seq (.clr [(31, 32)] (.region ref07_Cut_r11)) (.seq (.clr [(32, 53)] (.region ref07_Cut_r12)) (.cond (.tmp 53) (.clr [(54, 56)] (.region ref07_Cut_r13)) .skip)))))))) :: K) fr S := rfl
def ref07_Cut_r14 : List POper := [
  ⟨some 56, .mov (.tmp 4), none⟩,
  ⟨some 57, .mov (.tmp 0), none⟩,
  ⟨some 58, .mov (.tmp 5), none⟩,
  ⟨some 59, .slcs (some (.tmp 58)) none (.tmp 57), none⟩,
  ⟨some 60, .bsl false (.str []) 1 [(0, (.tmp 59))], none⟩,
  ⟨some 61, .app 1 16 (.tmp 56) (.tmp 60), none⟩,
  ⟨some 2, .mov (.tmp 61), none⟩,
  ⟨some 3, .mov (.cst (.bool true)), none⟩]
@[simp] theorem ref07_Cut_r14_go (T : Tbl) (K : List Kt) (fr : Fr) (S : St) : gval T (.ops ref07_Cut_r14 :: K) fr S = gval T (.ops [
  ⟨some 56, .mov (.tmp 4), none⟩,
  ⟨some 57, .mov (.tmp 0), none⟩,
  ⟨some 58, .mov (.tmp 5), none⟩,
  ⟨some 59, .slcs (some (.tmp 58)) none (.tmp 57), none⟩,
  ⟨some 60, .bsl false (.str []) 1 [(0, (.tmp 59))], none⟩,
  ⟨some 61, .app 1 16 (.tmp 56) (.tmp 60), none⟩,
  ⟨some 2, .mov (.tmp 61), none⟩,
  ⟨some 3, .mov (.cst (.bool true)), none⟩] :: K) fr S := rfl
def ref07_Cut : PCodeFn :=
  ⟨1, [.tmp 2, .tmp 3],
  (.seq (.region ref07_Cut_r0) (.seq (.region ref07_Cut_r1) (.seq (.region ref07_Cut_r2) (.seq (.block 0 (.loop ref07_Cut_l0)) (.seq (.clr [(56, 62)] (.region ref07_Cut_r14)) .ret))))), false⟩

end Ps
