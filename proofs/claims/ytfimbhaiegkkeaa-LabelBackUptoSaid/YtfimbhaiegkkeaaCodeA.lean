/- The functions' code, as the pure semantics has it: printed by program. -/
import Derived.Test.YtfimbhaiegkkeaaWalk
namespace Ps
open Go
set_option maxRecDepth 10000

/-! gauge/gaugelaw06.LabelChecks: 475 -/
def law06_LabelChecks_r0 : List POper := [
  ⟨some 4, .mov (.cst (.bool false)), none⟩]
@[simp] theorem law06_LabelChecks_r0_go (T : Tbl) (K : List Kt) (fr : Fr) (S : St) : gval T (.ops law06_LabelChecks_r0 :: K) fr S = gval T (.ops [
  ⟨some 4, .mov (.cst (.bool false)), none⟩] :: K) fr S := rfl
def law06_LabelChecks_r1 : List POper := [
  ⟨some 5, .mov (.tmp 1), none⟩,
  ⟨some 6, .call .pur 121 [(.tmp 5)], none⟩,
  ⟨some 7, .mov (.tmp 1), none⟩,
  ⟨some 8, .call .pur 126 [(.tmp 7)], none⟩,
  ⟨some 9, .eqb false (.tmp 6) (.tmp 8), none⟩,
  ⟨some 10, .mov (.tmp 9), none⟩,
  ⟨some 11, .mov (.tmp 0), some (10, true)⟩,
  ⟨some 12, .call .std 40 [(.tmp 11)], some (10, true)⟩,
  ⟨some 13, .mov (.tmp 0), some (10, true)⟩,
  ⟨some 14, .call .std 98 [(.tmp 13)], some (10, true)⟩,
  ⟨some 15, .arith .eql (.tmp 12) (.tmp 14), some (10, true)⟩,
  ⟨some 16, .pick (.tmp 10) (.tmp 15) (.cst (.bool false)), none⟩,
  ⟨some 17, .mov (.tmp 16), none⟩,
  ⟨some 18, .call .pur 27 [], some (17, true)⟩,
  ⟨some 19, .pick (.tmp 17) (.tmp 18) (.cst (.bool false)), none⟩,
  ⟨some 4, .mov (.tmp 19), none⟩]
@[simp] theorem law06_LabelChecks_r1_go (T : Tbl) (K : List Kt) (fr : Fr) (S : St) : gval T (.ops law06_LabelChecks_r1 :: K) fr S = gval T (.ops [
  ⟨some 5, .mov (.tmp 1), none⟩,
  ⟨some 6, .call .pur 121 [(.tmp 5)], none⟩,
  ⟨some 7, .mov (.tmp 1), none⟩,
  ⟨some 8, .call .pur 126 [(.tmp 7)], none⟩,
  ⟨some 9, .eqb false (.tmp 6) (.tmp 8), none⟩,
  ⟨some 10, .mov (.tmp 9), none⟩,
  ⟨some 11, .mov (.tmp 0), some (10, true)⟩,
  ⟨some 12, .call .std 40 [(.tmp 11)], some (10, true)⟩,
  ⟨some 13, .mov (.tmp 0), some (10, true)⟩,
  ⟨some 14, .call .std 98 [(.tmp 13)], some (10, true)⟩,
  ⟨some 15, .arith .eql (.tmp 12) (.tmp 14), some (10, true)⟩,
  ⟨some 16, .pick (.tmp 10) (.tmp 15) (.cst (.bool false)), none⟩,
  ⟨some 17, .mov (.tmp 16), none⟩,
  ⟨some 18, .call .pur 27 [], some (17, true)⟩,
  ⟨some 19, .pick (.tmp 17) (.tmp 18) (.cst (.bool false)), none⟩,
  ⟨some 4, .mov (.tmp 19), none⟩] :: K) fr S := rfl
def law06_LabelChecks : PCodeFn :=
  ⟨2, [.tmp 4],
  (.seq (.region law06_LabelChecks_r0) (.seq (.clr [(5, 20)] (.region law06_LabelChecks_r1)) .ret)), false⟩

/-! gauge/gaugelaw06.LabelTexts: 4 -/
def law06_LabelTexts_r0 : List POper := [
  ⟨some 4, .mov (.cst (.bool false)), none⟩]
@[simp] theorem law06_LabelTexts_r0_go (T : Tbl) (K : List Kt) (fr : Fr) (S : St) : gval T (.ops law06_LabelTexts_r0 :: K) fr S = gval T (.ops [
  ⟨some 4, .mov (.cst (.bool false)), none⟩] :: K) fr S := rfl
def law06_LabelTexts_r1 : List POper := [
  ⟨some 10, .mov (.tmp 1), none⟩,
  ⟨some 11, .call .pur 22 [(.tmp 10)], none⟩,
  ⟨some 9, .mov (.tmp 11), none⟩,
  ⟨some 12, .extract 0 (.tmp 9), none⟩,
  ⟨some 13, .extract 1 (.tmp 9), none⟩,
  ⟨some 5, .mov (.tmp 12), none⟩,
  ⟨some 6, .mov (.tmp 13), none⟩]
@[simp] theorem law06_LabelTexts_r1_go (T : Tbl) (K : List Kt) (fr : Fr) (S : St) : gval T (.ops law06_LabelTexts_r1 :: K) fr S = gval T (.ops [
  ⟨some 10, .mov (.tmp 1), none⟩,
  ⟨some 11, .call .pur 22 [(.tmp 10)], none⟩,
  ⟨some 9, .mov (.tmp 11), none⟩,
  ⟨some 12, .extract 0 (.tmp 9), none⟩,
  ⟨some 13, .extract 1 (.tmp 9), none⟩,
  ⟨some 5, .mov (.tmp 12), none⟩,
  ⟨some 6, .mov (.tmp 13), none⟩] :: K) fr S := rfl
def law06_LabelTexts_r2 : List POper := [
  ⟨some 15, .mov (.tmp 1), none⟩,
  ⟨some 16, .call .pur 23 [(.tmp 15)], none⟩,
  ⟨some 14, .mov (.tmp 16), none⟩,
  ⟨some 17, .extract 0 (.tmp 14), none⟩,
  ⟨some 18, .extract 1 (.tmp 14), none⟩,
  ⟨some 7, .mov (.tmp 17), none⟩,
  ⟨some 8, .mov (.tmp 18), none⟩]
@[simp] theorem law06_LabelTexts_r2_go (T : Tbl) (K : List Kt) (fr : Fr) (S : St) : gval T (.ops law06_LabelTexts_r2 :: K) fr S = gval T (.ops [
  ⟨some 15, .mov (.tmp 1), none⟩,
  ⟨some 16, .call .pur 23 [(.tmp 15)], none⟩,
  ⟨some 14, .mov (.tmp 16), none⟩,
  ⟨some 17, .extract 0 (.tmp 14), none⟩,
  ⟨some 18, .extract 1 (.tmp 14), none⟩,
  ⟨some 7, .mov (.tmp 17), none⟩,
  ⟨some 8, .mov (.tmp 18), none⟩] :: K) fr S := rfl
def law06_LabelTexts_r3 : List POper := [
  ⟨some 19, .mov (.tmp 0), none⟩,
  ⟨some 20, .call .std 24 [(.tmp 19)], none⟩,
  ⟨some 21, .mov (.tmp 0), none⟩,
  ⟨some 22, .call .std 25 [(.tmp 21)], none⟩,
  ⟨some 23, .arith .eql (.tmp 20) (.tmp 22), none⟩,
  ⟨some 24, .mov (.tmp 23), none⟩,
  ⟨some 25, .mov (.tmp 5), some (24, true)⟩,
  ⟨some 26, .mov (.tmp 7), some (24, true)⟩,
  ⟨some 27, .call .std 26 [(.tmp 25), (.tmp 26)], some (24, true)⟩,
  ⟨some 28, .pick (.tmp 24) (.tmp 27) (.cst (.bool false)), none⟩,
  ⟨some 29, .mov (.tmp 28), none⟩,
  ⟨some 30, .mov (.tmp 6), some (29, true)⟩,
  ⟨some 31, .mov (.tmp 8), some (29, true)⟩,
  ⟨some 32, .arith .eql (.tmp 30) (.tmp 31), some (29, true)⟩,
  ⟨some 33, .pick (.tmp 29) (.tmp 32) (.cst (.bool false)), none⟩,
  ⟨some 34, .mov (.tmp 33), none⟩,
  ⟨some 35, .call .pur 27 [], some (34, true)⟩,
  ⟨some 36, .pick (.tmp 34) (.tmp 35) (.cst (.bool false)), none⟩,
  ⟨some 4, .mov (.tmp 36), none⟩]
@[simp] theorem law06_LabelTexts_r3_go (T : Tbl) (K : List Kt) (fr : Fr) (S : St) : gval T (.ops law06_LabelTexts_r3 :: K) fr S = gval T (.ops [
  ⟨some 19, .mov (.tmp 0), none⟩,
  ⟨some 20, .call .std 24 [(.tmp 19)], none⟩,
  ⟨some 21, .mov (.tmp 0), none⟩,
  ⟨some 22, .call .std 25 [(.tmp 21)], none⟩,
  ⟨some 23, .arith .eql (.tmp 20) (.tmp 22), none⟩,
  ⟨some 24, .mov (.tmp 23), none⟩,
  ⟨some 25, .mov (.tmp 5), some (24, true)⟩,
  ⟨some 26, .mov (.tmp 7), some (24, true)⟩,
  ⟨some 27, .call .std 26 [(.tmp 25), (.tmp 26)], some (24, true)⟩,
  ⟨some 28, .pick (.tmp 24) (.tmp 27) (.cst (.bool false)), none⟩,
  ⟨some 29, .mov (.tmp 28), none⟩,
  ⟨some 30, .mov (.tmp 6), some (29, true)⟩,
  ⟨some 31, .mov (.tmp 8), some (29, true)⟩,
  ⟨some 32, .arith .eql (.tmp 30) (.tmp 31), some (29, true)⟩,
  ⟨some 33, .pick (.tmp 29) (.tmp 32) (.cst (.bool false)), none⟩,
  ⟨some 34, .mov (.tmp 33), none⟩,
  ⟨some 35, .call .pur 27 [], some (34, true)⟩,
  ⟨some 36, .pick (.tmp 34) (.tmp 35) (.cst (.bool false)), none⟩,
  ⟨some 4, .mov (.tmp 36), none⟩] :: K) fr S := rfl
def law06_LabelTexts : PCodeFn :=
  ⟨2, [.tmp 4],
  (.seq (.region law06_LabelTexts_r0) (.seq (.clr [(9, 14)] (.region law06_LabelTexts_r1)) (.seq (.clr [(14, 19)] (.region law06_LabelTexts_r2)) (.seq (.clr [(19, 37)] (.region law06_LabelTexts_r3)) .ret)))), false⟩

/-! gauge/gaugelaw06.LabelParts: 8 -/
def law06_LabelParts_r0 : List POper := [
  ⟨some 4, .mov (.cst (.bool false)), none⟩]
@[simp] theorem law06_LabelParts_r0_go (T : Tbl) (K : List Kt) (fr : Fr) (S : St) : gval T (.ops law06_LabelParts_r0 :: K) fr S = gval T (.ops [
  ⟨some 4, .mov (.cst (.bool false)), none⟩] :: K) fr S := rfl
def law06_LabelParts_r1 : List POper := [
  ⟨some 7, .mov (.tmp 0), none⟩,
  ⟨some 8, .call .std 40 [(.tmp 7)], none⟩,
  ⟨some 9, .arith .neq (.tmp 8) (.cst (.int .i64 0)), none⟩]
@[simp] theorem law06_LabelParts_r1_go (T : Tbl) (K : List Kt) (fr : Fr) (S : St) : gval T (.ops law06_LabelParts_r1 :: K) fr S = gval T (.ops [
  ⟨some 7, .mov (.tmp 0), none⟩,
  ⟨some 8, .call .std 40 [(.tmp 7)], none⟩,
  ⟨some 9, .arith .neq (.tmp 8) (.cst (.int .i64 0)), none⟩] :: K) fr S := rfl
def law06_LabelParts_r2 : List POper := [
  ⟨some 10, .call .pur 27 [], none⟩,
  ⟨some 4, .mov (.tmp 10), none⟩]
@[simp] theorem law06_LabelParts_r2_go (T : Tbl) (K : List Kt) (fr : Fr) (S : St) : gval T (.ops law06_LabelParts_r2 :: K) fr S = gval T (.ops [
  ⟨some 10, .call .pur 27 [], none⟩,
  ⟨some 4, .mov (.tmp 10), none⟩] :: K) fr S := rfl
def law06_LabelParts_r3 : List POper := [
  ⟨some 11, .mov (.tmp 0), none⟩,
  ⟨some 12, .mov (.tmp 1), none⟩,
  ⟨some 13, .call .std 36 [(.tmp 11), (.tmp 12)], none⟩,
  ⟨some 14, .mov (.tmp 0), none⟩,
  ⟨some 15, .mov (.tmp 1), none⟩,
  ⟨some 16, .call .std 38 [(.tmp 14), (.tmp 15)], none⟩,
  ⟨some 5, .mov (.tmp 13), none⟩,
  ⟨some 6, .mov (.tmp 16), none⟩]
@[simp] theorem law06_LabelParts_r3_go (T : Tbl) (K : List Kt) (fr : Fr) (S : St) : gval T (.ops law06_LabelParts_r3 :: K) fr S = gval T (.ops [
  ⟨some 11, .mov (.tmp 0), none⟩,
  ⟨some 12, .mov (.tmp 1), none⟩,
  ⟨some 13, .call .std 36 [(.tmp 11), (.tmp 12)], none⟩,
  ⟨some 14, .mov (.tmp 0), none⟩,
  ⟨some 15, .mov (.tmp 1), none⟩,
  ⟨some 16, .call .std 38 [(.tmp 14), (.tmp 15)], none⟩,
  ⟨some 5, .mov (.tmp 13), none⟩,
  ⟨some 6, .mov (.tmp 16), none⟩] :: K) fr S := rfl
def law06_LabelParts_r4 : List POper := [
  ⟨some 17, .mov (.tmp 5), none⟩,
  ⟨some 18, .len false (.tmp 17), none⟩,
  ⟨some 19, .mov (.tmp 6), none⟩,
  ⟨some 20, .len false (.tmp 19), none⟩,
  ⟨some 21, .arith .add (.tmp 18) (.tmp 20), none⟩,
  ⟨some 22, .mov (.tmp 0), none⟩,
  ⟨some 23, .len false (.tmp 22), none⟩,
  ⟨some 24, .arith .eql (.tmp 21) (.tmp 23), none⟩,
  ⟨some 25, .mov (.tmp 24), none⟩,
  ⟨some 26, .mov (.tmp 5), some (25, true)⟩,
  ⟨some 27, .call .std 40 [(.tmp 26)], some (25, true)⟩,
  ⟨some 28, .arith .eql (.tmp 27) (.cst (.int .i64 0)), some (25, true)⟩,
  ⟨some 29, .pick (.tmp 25) (.tmp 28) (.cst (.bool false)), none⟩,
  ⟨some 30, .mov (.tmp 29), none⟩,
  ⟨some 31, .mov (.tmp 6), some (30, true)⟩,
  ⟨some 32, .call .std 40 [(.tmp 31)], some (30, true)⟩,
  ⟨some 33, .arith .eql (.tmp 32) (.cst (.int .i64 0)), some (30, true)⟩,
  ⟨some 34, .pick (.tmp 30) (.tmp 33) (.cst (.bool false)), none⟩,
  ⟨some 35, .mov (.tmp 34), none⟩,
  ⟨some 36, .mov (.tmp 5), some (35, true)⟩,
  ⟨some 37, .mov (.tmp 6), some (35, true)⟩,
  ⟨some 38, .call .std 41 [(.tmp 36), (.tmp 37)], some (35, true)⟩,
  ⟨some 39, .mov (.tmp 0), some (35, true)⟩,
  ⟨some 40, .call .std 26 [(.tmp 38), (.tmp 39)], some (35, true)⟩,
  ⟨some 41, .pick (.tmp 35) (.tmp 40) (.cst (.bool false)), none⟩,
  ⟨some 42, .mov (.tmp 41), none⟩,
  ⟨some 43, .mov (.tmp 6), some (42, true)⟩,
  ⟨some 44, .mov (.tmp 5), some (42, true)⟩,
  ⟨some 45, .call .std 41 [(.tmp 43), (.tmp 44)], some (42, true)⟩,
  ⟨some 46, .mov (.tmp 0), some (42, true)⟩,
  ⟨some 47, .call .std 26 [(.tmp 45), (.tmp 46)], some (42, true)⟩,
  ⟨some 48, .pick (.tmp 42) (.tmp 47) (.cst (.bool false)), none⟩,
  ⟨some 49, .mov (.tmp 48), none⟩,
  ⟨some 50, .call .pur 27 [], some (49, true)⟩,
  ⟨some 51, .pick (.tmp 49) (.tmp 50) (.cst (.bool false)), none⟩,
  ⟨some 4, .mov (.tmp 51), none⟩]
@[simp] theorem law06_LabelParts_r4_go (T : Tbl) (K : List Kt) (fr : Fr) (S : St) : gval T (.ops law06_LabelParts_r4 :: K) fr S = gval T (.ops [
  ⟨some 17, .mov (.tmp 5), none⟩,
  ⟨some 18, .len false (.tmp 17), none⟩,
  ⟨some 19, .mov (.tmp 6), none⟩,
  ⟨some 20, .len false (.tmp 19), none⟩,
  ⟨some 21, .arith .add (.tmp 18) (.tmp 20), none⟩,
  ⟨some 22, .mov (.tmp 0), none⟩,
  ⟨some 23, .len false (.tmp 22), none⟩,
  ⟨some 24, .arith .eql (.tmp 21) (.tmp 23), none⟩,
  ⟨some 25, .mov (.tmp 24), none⟩,
  ⟨some 26, .mov (.tmp 5), some (25, true)⟩,
  ⟨some 27, .call .std 40 [(.tmp 26)], some (25, true)⟩,
  ⟨some 28, .arith .eql (.tmp 27) (.cst (.int .i64 0)), some (25, true)⟩,
  ⟨some 29, .pick (.tmp 25) (.tmp 28) (.cst (.bool false)), none⟩,
  ⟨some 30, .mov (.tmp 29), none⟩,
  ⟨some 31, .mov (.tmp 6), some (30, true)⟩,
  ⟨some 32, .call .std 40 [(.tmp 31)], some (30, true)⟩,
  ⟨some 33, .arith .eql (.tmp 32) (.cst (.int .i64 0)), some (30, true)⟩,
  ⟨some 34, .pick (.tmp 30) (.tmp 33) (.cst (.bool false)), none⟩,
  ⟨some 35, .mov (.tmp 34), none⟩,
  ⟨some 36, .mov (.tmp 5), some (35, true)⟩,
  ⟨some 37, .mov (.tmp 6), some (35, true)⟩,
  ⟨some 38, .call .std 41 [(.tmp 36), (.tmp 37)], some (35, true)⟩,
  ⟨some 39, .mov (.tmp 0), some (35, true)⟩,
  ⟨some 40, .call .std 26 [(.tmp 38), (.tmp 39)], some (35, true)⟩,
  ⟨some 41, .pick (.tmp 35) (.tmp 40) (.cst (.bool false)), none⟩,
  ⟨some 42, .mov (.tmp 41), none⟩,
  ⟨some 43, .mov (.tmp 6), some (42, true)⟩,
  ⟨some 44, .mov (.tmp 5), some (42, true)⟩,
  ⟨some 45, .call .std 41 [(.tmp 43), (.tmp 44)], some (42, true)⟩,
  ⟨some 46, .mov (.tmp 0), some (42, true)⟩,
  ⟨some 47, .call .std 26 [(.tmp 45), (.tmp 46)], some (42, true)⟩,
  ⟨some 48, .pick (.tmp 42) (.tmp 47) (.cst (.bool false)), none⟩,
  ⟨some 49, .mov (.tmp 48), none⟩,
  ⟨some 50, .call .pur 27 [], some (49, true)⟩,
  ⟨some 51, .pick (.tmp 49) (.tmp 50) (.cst (.bool false)), none⟩,
  ⟨some 4, .mov (.tmp 51), none⟩] :: K) fr S := rfl
def law06_LabelParts : PCodeFn :=
  ⟨2, [.tmp 4],
  (.seq (.region law06_LabelParts_r0) (.seq (.seq (.clr [(7, 9)] (.region law06_LabelParts_r1)) (.cond (.tmp 9) (.seq (.clr [(10, 11)] (.region law06_LabelParts_r2)) .ret) .skip)) (.seq (.clr [(11, 17)] (.region law06_LabelParts_r3)) (.seq (.clr [(17, 52)] (.region law06_LabelParts_r4)) .ret)))), false⟩

/-! gauge/gaugelaw06.LabelPicks: 7 -/
def law06_LabelPicks_r0 : List POper := [
  ⟨some 6, .mov (.cst (.bool false)), none⟩]
@[simp] theorem law06_LabelPicks_r0_go (T : Tbl) (K : List Kt) (fr : Fr) (S : St) : gval T (.ops law06_LabelPicks_r0 :: K) fr S = gval T (.ops [
  ⟨some 6, .mov (.cst (.bool false)), none⟩] :: K) fr S := rfl
def law06_LabelPicks_r1 : List POper := [
  ⟨some 8, .mov (.tmp 0), none⟩,
  ⟨some 9, .call .std 33 [(.tmp 8)], none⟩,
  ⟨some 7, .mov (.tmp 9), none⟩]
@[simp] theorem law06_LabelPicks_r1_go (T : Tbl) (K : List Kt) (fr : Fr) (S : St) : gval T (.ops law06_LabelPicks_r1 :: K) fr S = gval T (.ops [
  ⟨some 8, .mov (.tmp 0), none⟩,
  ⟨some 9, .call .std 33 [(.tmp 8)], none⟩,
  ⟨some 7, .mov (.tmp 9), none⟩] :: K) fr S := rfl
def law06_LabelPicks_r2 : List POper := [
  ⟨some 10, .mov (.tmp 7), none⟩,
  ⟨some 11, .mov (.tmp 2), none⟩,
  ⟨some 12, .call .std 34 [(.tmp 10), (.tmp 11)], none⟩,
  ⟨some 13, .mov (.tmp 0), none⟩,
  ⟨some 14, .mov (.tmp 2), none⟩,
  ⟨some 15, .call .std 35 [(.tmp 13), (.tmp 14)], none⟩,
  ⟨some 16, .arith .eql (.tmp 12) (.tmp 15), none⟩,
  ⟨some 17, .mov (.tmp 16), none⟩,
  ⟨some 18, .mov (.tmp 7), some (17, true)⟩,
  ⟨some 19, .mov (.tmp 1), some (17, true)⟩,
  ⟨some 20, .call .std 36 [(.tmp 18), (.tmp 19)], some (17, true)⟩,
  ⟨some 21, .mov (.tmp 0), some (17, true)⟩,
  ⟨some 22, .mov (.tmp 1), some (17, true)⟩,
  ⟨some 23, .call .std 37 [(.tmp 21), (.tmp 22), (.cst (.bool true))], some (17, true)⟩,
  ⟨some 24, .call .std 26 [(.tmp 20), (.tmp 23)], some (17, true)⟩,
  ⟨some 25, .pick (.tmp 17) (.tmp 24) (.cst (.bool false)), none⟩,
  ⟨some 26, .mov (.tmp 25), none⟩,
  ⟨some 27, .mov (.tmp 7), some (26, true)⟩,
  ⟨some 28, .mov (.tmp 1), some (26, true)⟩,
  ⟨some 29, .call .std 38 [(.tmp 27), (.tmp 28)], some (26, true)⟩,
  ⟨some 30, .mov (.tmp 0), some (26, true)⟩,
  ⟨some 31, .mov (.tmp 1), some (26, true)⟩,
  ⟨some 32, .call .std 37 [(.tmp 30), (.tmp 31), (.cst (.bool false))], some (26, true)⟩,
  ⟨some 33, .call .std 26 [(.tmp 29), (.tmp 32)], some (26, true)⟩,
  ⟨some 34, .pick (.tmp 26) (.tmp 33) (.cst (.bool false)), none⟩,
  ⟨some 35, .mov (.tmp 34), none⟩,
  ⟨some 36, .mov (.tmp 7), some (35, true)⟩,
  ⟨some 37, .mov (.tmp 0), some (35, true)⟩,
  ⟨some 38, .call .std 39 [(.tmp 36), (.tmp 37)], some (35, true)⟩,
  ⟨some 39, .pick (.tmp 35) (.tmp 38) (.cst (.bool false)), none⟩,
  ⟨some 40, .mov (.tmp 39), none⟩,
  ⟨some 41, .call .pur 27 [], some (40, true)⟩,
  ⟨some 42, .pick (.tmp 40) (.tmp 41) (.cst (.bool false)), none⟩,
  ⟨some 6, .mov (.tmp 42), none⟩]
@[simp] theorem law06_LabelPicks_r2_go (T : Tbl) (K : List Kt) (fr : Fr) (S : St) : gval T (.ops law06_LabelPicks_r2 :: K) fr S = gval T (.ops [
  ⟨some 10, .mov (.tmp 7), none⟩,
  ⟨some 11, .mov (.tmp 2), none⟩,
  ⟨some 12, .call .std 34 [(.tmp 10), (.tmp 11)], none⟩,
  ⟨some 13, .mov (.tmp 0), none⟩,
  ⟨some 14, .mov (.tmp 2), none⟩,
  ⟨some 15, .call .std 35 [(.tmp 13), (.tmp 14)], none⟩,
  ⟨some 16, .arith .eql (.tmp 12) (.tmp 15), none⟩,
  ⟨some 17, .mov (.tmp 16), none⟩,
  ⟨some 18, .mov (.tmp 7), some (17, true)⟩,
  ⟨some 19, .mov (.tmp 1), some (17, true)⟩,
  ⟨some 20, .call .std 36 [(.tmp 18), (.tmp 19)], some (17, true)⟩,
  ⟨some 21, .mov (.tmp 0), some (17, true)⟩,
  ⟨some 22, .mov (.tmp 1), some (17, true)⟩,
  ⟨some 23, .call .std 37 [(.tmp 21), (.tmp 22), (.cst (.bool true))], some (17, true)⟩,
  ⟨some 24, .call .std 26 [(.tmp 20), (.tmp 23)], some (17, true)⟩,
  ⟨some 25, .pick (.tmp 17) (.tmp 24) (.cst (.bool false)), none⟩,
  ⟨some 26, .mov (.tmp 25), none⟩,
  ⟨some 27, .mov (.tmp 7), some (26, true)⟩,
  ⟨some 28, .mov (.tmp 1), some (26, true)⟩,
  ⟨some 29, .call .std 38 [(.tmp 27), (.tmp 28)], some (26, true)⟩,
  ⟨some 30, .mov (.tmp 0), some (26, true)⟩,
  ⟨some 31, .mov (.tmp 1), some (26, true)⟩,
  ⟨some 32, .call .std 37 [(.tmp 30), (.tmp 31), (.cst (.bool false))], some (26, true)⟩,
  ⟨some 33, .call .std 26 [(.tmp 29), (.tmp 32)], some (26, true)⟩,
  ⟨some 34, .pick (.tmp 26) (.tmp 33) (.cst (.bool false)), none⟩,
  ⟨some 35, .mov (.tmp 34), none⟩,
  ⟨some 36, .mov (.tmp 7), some (35, true)⟩,
  ⟨some 37, .mov (.tmp 0), some (35, true)⟩,
  ⟨some 38, .call .std 39 [(.tmp 36), (.tmp 37)], some (35, true)⟩,
  ⟨some 39, .pick (.tmp 35) (.tmp 38) (.cst (.bool false)), none⟩,
  ⟨some 40, .mov (.tmp 39), none⟩,
  ⟨some 41, .call .pur 27 [], some (40, true)⟩,
  ⟨some 42, .pick (.tmp 40) (.tmp 41) (.cst (.bool false)), none⟩,
  ⟨some 6, .mov (.tmp 42), none⟩] :: K) fr S := rfl
def law06_LabelPicks : PCodeFn :=
  ⟨3, [.tmp 6],
  (.seq (.region law06_LabelPicks_r0) (.seq (.clr [(8, 10)] (.region law06_LabelPicks_r1)) (.seq (.clr [(10, 43)] (.region law06_LabelPicks_r2)) .ret))), false⟩

/-! gauge/gaugelaw06.LabelCompares: 476 -/
def law06_LabelCompares_r0 : List POper := [
  ⟨some 4, .mov (.cst (.bool false)), none⟩]
@[simp] theorem law06_LabelCompares_r0_go (T : Tbl) (K : List Kt) (fr : Fr) (S : St) : gval T (.ops law06_LabelCompares_r0 :: K) fr S = gval T (.ops [
  ⟨some 4, .mov (.cst (.bool false)), none⟩] :: K) fr S := rfl
def law06_LabelCompares_r1 : List POper := [
  ⟨some 5, .mov (.tmp 0), none⟩,
  ⟨some 6, .mov (.tmp 1), none⟩,
  ⟨some 7, .call .std 28 [(.tmp 5), (.tmp 6)], none⟩,
  ⟨some 8, .mov (.tmp 0), none⟩,
  ⟨some 9, .mov (.tmp 1), none⟩,
  ⟨some 10, .call .std 102 [(.tmp 8), (.tmp 9)], none⟩,
  ⟨some 11, .arith .eql (.tmp 7) (.tmp 10), none⟩,
  ⟨some 12, .mov (.tmp 11), none⟩,
  ⟨some 13, .call .pur 27 [], some (12, true)⟩,
  ⟨some 14, .pick (.tmp 12) (.tmp 13) (.cst (.bool false)), none⟩,
  ⟨some 4, .mov (.tmp 14), none⟩]
@[simp] theorem law06_LabelCompares_r1_go (T : Tbl) (K : List Kt) (fr : Fr) (S : St) : gval T (.ops law06_LabelCompares_r1 :: K) fr S = gval T (.ops [
  ⟨some 5, .mov (.tmp 0), none⟩,
  ⟨some 6, .mov (.tmp 1), none⟩,
  ⟨some 7, .call .std 28 [(.tmp 5), (.tmp 6)], none⟩,
  ⟨some 8, .mov (.tmp 0), none⟩,
  ⟨some 9, .mov (.tmp 1), none⟩,
  ⟨some 10, .call .std 102 [(.tmp 8), (.tmp 9)], none⟩,
  ⟨some 11, .arith .eql (.tmp 7) (.tmp 10), none⟩,
  ⟨some 12, .mov (.tmp 11), none⟩,
  ⟨some 13, .call .pur 27 [], some (12, true)⟩,
  ⟨some 14, .pick (.tmp 12) (.tmp 13) (.cst (.bool false)), none⟩,
  ⟨some 4, .mov (.tmp 14), none⟩] :: K) fr S := rfl
def law06_LabelCompares : PCodeFn :=
  ⟨2, [.tmp 4],
  (.seq (.region law06_LabelCompares_r0) (.seq (.clr [(5, 15)] (.region law06_LabelCompares_r1)) .ret)), false⟩

/-! gauge/gaugelaw06.LabelOrder: 5 -/
def law06_LabelOrder_r0 : List POper := [
  ⟨some 6, .mov (.cst (.bool false)), none⟩]
@[simp] theorem law06_LabelOrder_r0_go (T : Tbl) (K : List Kt) (fr : Fr) (S : St) : gval T (.ops law06_LabelOrder_r0 :: K) fr S = gval T (.ops [
  ⟨some 6, .mov (.cst (.bool false)), none⟩] :: K) fr S := rfl
def law06_LabelOrder_r1 : List POper := [
  ⟨some 10, .mov (.tmp 0), none⟩,
  ⟨some 11, .mov (.tmp 1), none⟩,
  ⟨some 12, .call .std 28 [(.tmp 10), (.tmp 11)], none⟩,
  ⟨some 13, .mov (.tmp 1), none⟩,
  ⟨some 14, .mov (.tmp 2), none⟩,
  ⟨some 15, .call .std 28 [(.tmp 13), (.tmp 14)], none⟩,
  ⟨some 16, .mov (.tmp 0), none⟩,
  ⟨some 17, .mov (.tmp 2), none⟩,
  ⟨some 18, .call .std 28 [(.tmp 16), (.tmp 17)], none⟩,
  ⟨some 7, .mov (.tmp 12), none⟩,
  ⟨some 8, .mov (.tmp 15), none⟩,
  ⟨some 9, .mov (.tmp 18), none⟩]
@[simp] theorem law06_LabelOrder_r1_go (T : Tbl) (K : List Kt) (fr : Fr) (S : St) : gval T (.ops law06_LabelOrder_r1 :: K) fr S = gval T (.ops [
  ⟨some 10, .mov (.tmp 0), none⟩,
  ⟨some 11, .mov (.tmp 1), none⟩,
  ⟨some 12, .call .std 28 [(.tmp 10), (.tmp 11)], none⟩,
  ⟨some 13, .mov (.tmp 1), none⟩,
  ⟨some 14, .mov (.tmp 2), none⟩,
  ⟨some 15, .call .std 28 [(.tmp 13), (.tmp 14)], none⟩,
  ⟨some 16, .mov (.tmp 0), none⟩,
  ⟨some 17, .mov (.tmp 2), none⟩,
  ⟨some 18, .call .std 28 [(.tmp 16), (.tmp 17)], none⟩,
  ⟨some 7, .mov (.tmp 12), none⟩,
  ⟨some 8, .mov (.tmp 15), none⟩,
  ⟨some 9, .mov (.tmp 18), none⟩] :: K) fr S := rfl
def law06_LabelOrder_r2 : List POper := [
  ⟨some 19, .mov (.tmp 1), none⟩,
  ⟨some 20, .mov (.tmp 0), none⟩,
  ⟨some 21, .call .std 28 [(.tmp 19), (.tmp 20)], none⟩,
  ⟨some 22, .mov (.tmp 7), none⟩,
  ⟨some 23, .un .neg (.tmp 22), none⟩,
  ⟨some 24, .arith .neq (.tmp 21) (.tmp 23), none⟩,
  ⟨some 25, .mov (.tmp 24), none⟩,
  ⟨some 26, .mov (.tmp 7), some (25, false)⟩,
  ⟨some 27, .arith .eql (.tmp 26) (.cst (.int .i64 0)), some (25, false)⟩,
  ⟨some 28, .mov (.tmp 0), some (25, false)⟩,
  ⟨some 29, .mov (.tmp 1), some (25, false)⟩,
  ⟨some 30, .call .std 26 [(.tmp 28), (.tmp 29)], some (25, false)⟩,
  ⟨some 31, .eqb true (.tmp 27) (.tmp 30), some (25, false)⟩,
  ⟨some 32, .pick (.tmp 25) (.cst (.bool true)) (.tmp 31), none⟩,
  ⟨some 33, .mov (.tmp 32), none⟩,
  ⟨some 34, .mov (.tmp 7), some (33, false)⟩,
  ⟨some 35, .arith .lss (.tmp 34) (.cst (.int .i64 (-1))), some (33, false)⟩,
  ⟨some 36, .pick (.tmp 33) (.cst (.bool true)) (.tmp 35), none⟩,
  ⟨some 37, .mov (.tmp 36), none⟩,
  ⟨some 38, .mov (.tmp 7), some (37, false)⟩,
  ⟨some 39, .arith .gtr (.tmp 38) (.cst (.int .i64 1)), some (37, false)⟩,
  ⟨some 40, .pick (.tmp 37) (.cst (.bool true)) (.tmp 39), none⟩]
@[simp] theorem law06_LabelOrder_r2_go (T : Tbl) (K : List Kt) (fr : Fr) (S : St) : gval T (.ops law06_LabelOrder_r2 :: K) fr S = gval T (.ops [
  ⟨some 19, .mov (.tmp 1), none⟩,
  ⟨some 20, .mov (.tmp 0), none⟩,
  ⟨some 21, .call .std 28 [(.tmp 19), (.tmp 20)], none⟩,
  ⟨some 22, .mov (.tmp 7), none⟩,
  ⟨some 23, .un .neg (.tmp 22), none⟩,
  ⟨some 24, .arith .neq (.tmp 21) (.tmp 23), none⟩,
  ⟨some 25, .mov (.tmp 24), none⟩,
  ⟨some 26, .mov (.tmp 7), some (25, false)⟩,
  ⟨some 27, .arith .eql (.tmp 26) (.cst (.int .i64 0)), some (25, false)⟩,
  ⟨some 28, .mov (.tmp 0), some (25, false)⟩,
  ⟨some 29, .mov (.tmp 1), some (25, false)⟩,
  ⟨some 30, .call .std 26 [(.tmp 28), (.tmp 29)], some (25, false)⟩,
  ⟨some 31, .eqb true (.tmp 27) (.tmp 30), some (25, false)⟩,
  ⟨some 32, .pick (.tmp 25) (.cst (.bool true)) (.tmp 31), none⟩,
  ⟨some 33, .mov (.tmp 32), none⟩,
  ⟨some 34, .mov (.tmp 7), some (33, false)⟩,
  ⟨some 35, .arith .lss (.tmp 34) (.cst (.int .i64 (-1))), some (33, false)⟩,
  ⟨some 36, .pick (.tmp 33) (.cst (.bool true)) (.tmp 35), none⟩,
  ⟨some 37, .mov (.tmp 36), none⟩,
  ⟨some 38, .mov (.tmp 7), some (37, false)⟩,
  ⟨some 39, .arith .gtr (.tmp 38) (.cst (.int .i64 1)), some (37, false)⟩,
  ⟨some 40, .pick (.tmp 37) (.cst (.bool true)) (.tmp 39), none⟩] :: K) fr S := rfl
def law06_LabelOrder_r3 : List POper := [
  ⟨some 6, .mov (.cst (.bool false)), none⟩]
@[simp] theorem law06_LabelOrder_r3_go (T : Tbl) (K : List Kt) (fr : Fr) (S : St) : gval T (.ops law06_LabelOrder_r3 :: K) fr S = gval T (.ops [
  ⟨some 6, .mov (.cst (.bool false)), none⟩] :: K) fr S := rfl
def law06_LabelOrder_r4 : List POper := [
  ⟨some 41, .mov (.tmp 7), none⟩,
  ⟨some 42, .arith .gtr (.tmp 41) (.cst (.int .i64 0)), none⟩,
  ⟨some 43, .mov (.tmp 42), none⟩,
  ⟨some 44, .mov (.tmp 8), some (43, false)⟩,
  ⟨some 45, .arith .gtr (.tmp 44) (.cst (.int .i64 0)), some (43, false)⟩,
  ⟨some 46, .pick (.tmp 43) (.cst (.bool true)) (.tmp 45), none⟩,
  ⟨some 47, .mov (.tmp 46), none⟩,
  ⟨some 48, .mov (.tmp 9), some (47, false)⟩,
  ⟨some 49, .arith .leq (.tmp 48) (.cst (.int .i64 0)), some (47, false)⟩,
  ⟨some 50, .pick (.tmp 47) (.cst (.bool true)) (.tmp 49), none⟩,
  ⟨some 51, .mov (.tmp 50), none⟩,
  ⟨some 52, .mov (.tmp 7), some (51, true)⟩,
  ⟨some 53, .arith .lss (.tmp 52) (.cst (.int .i64 0)), some (51, true)⟩,
  ⟨some 54, .mov (.tmp 53), some (51, true)⟩,
  ⟨some 55, .mov (.tmp 8), some (54, false)⟩,
  ⟨some 56, .arith .lss (.tmp 55) (.cst (.int .i64 0)), some (54, false)⟩,
  ⟨some 57, .pick (.tmp 54) (.cst (.bool true)) (.tmp 56), some (51, true)⟩,
  ⟨some 58, .mov (.tmp 57), some (51, true)⟩,
  ⟨some 59, .mov (.tmp 9), some (58, false)⟩,
  ⟨some 60, .arith .geq (.tmp 59) (.cst (.int .i64 0)), some (58, false)⟩,
  ⟨some 61, .pick (.tmp 58) (.cst (.bool true)) (.tmp 60), some (51, true)⟩,
  ⟨some 62, .pick (.tmp 51) (.tmp 61) (.cst (.bool false)), none⟩,
  ⟨some 63, .mov (.tmp 62), none⟩,
  ⟨some 64, .call .pur 27 [], some (63, true)⟩,
  ⟨some 65, .pick (.tmp 63) (.tmp 64) (.cst (.bool false)), none⟩,
  ⟨some 6, .mov (.tmp 65), none⟩]
@[simp] theorem law06_LabelOrder_r4_go (T : Tbl) (K : List Kt) (fr : Fr) (S : St) : gval T (.ops law06_LabelOrder_r4 :: K) fr S = gval T (.ops [
  ⟨some 41, .mov (.tmp 7), none⟩,
  ⟨some 42, .arith .gtr (.tmp 41) (.cst (.int .i64 0)), none⟩,
  ⟨some 43, .mov (.tmp 42), none⟩,
  ⟨some 44, .mov (.tmp 8), some (43, false)⟩,
  ⟨some 45, .arith .gtr (.tmp 44) (.cst (.int .i64 0)), some (43, false)⟩,
  ⟨some 46, .pick (.tmp 43) (.cst (.bool true)) (.tmp 45), none⟩,
  ⟨some 47, .mov (.tmp 46), none⟩,
  ⟨some 48, .mov (.tmp 9), some (47, false)⟩,
  ⟨some 49, .arith .leq (.tmp 48) (.cst (.int .i64 0)), some (47, false)⟩,
  ⟨some 50, .pick (.tmp 47) (.cst (.bool true)) (.tmp 49), none⟩,
  ⟨some 51, .mov (.tmp 50), none⟩,
  ⟨some 52, .mov (.tmp 7), some (51, true)⟩,
  ⟨some 53, .arith .lss (.tmp 52) (.cst (.int .i64 0)), some (51, true)⟩,
  ⟨some 54, .mov (.tmp 53), some (51, true)⟩,
  ⟨some 55, .mov (.tmp 8), some (54, false)⟩,
  ⟨some 56, .arith .lss (.tmp 55) (.cst (.int .i64 0)), some (54, false)⟩,
  ⟨some 57, .pick (.tmp 54) (.cst (.bool true)) (.tmp 56), some (51, true)⟩,
  ⟨some 58, .mov (.tmp 57), some (51, true)⟩,
  ⟨some 59, .mov (.tmp 9), some (58, false)⟩,
  ⟨some 60, .arith .geq (.tmp 59) (.cst (.int .i64 0)), some (58, false)⟩,
  ⟨some 61, .pick (.tmp 58) (.cst (.bool true)) (.tmp 60), some (51, true)⟩,
  ⟨some 62, .pick (.tmp 51) (.tmp 61) (.cst (.bool false)), none⟩,
  ⟨some 63, .mov (.tmp 62), none⟩,
  ⟨some 64, .call .pur 27 [], some (63, true)⟩,
  ⟨some 65, .pick (.tmp 63) (.tmp 64) (.cst (.bool false)), none⟩,
  ⟨some 6, .mov (.tmp 65), none⟩] :: K) fr S := rfl
def law06_LabelOrder : PCodeFn :=
  ⟨3, [.tmp 6],
  (.seq (.region law06_LabelOrder_r0) (.seq (.clr [(10, 19)] (.region law06_LabelOrder_r1)) (.seq (.seq (.clr [(19, 40)] (.region law06_LabelOrder_r2)) (.cond (.tmp 40) (.seq (.region law06_LabelOrder_r3) .ret) .skip)) (.seq (.clr [(41, 66)] (.region law06_LabelOrder_r4)) .ret)))), false⟩

/-! gauge/gaugelaw06.LabelBytes: 6 -/
def law06_LabelBytes_r0 : List POper := [
  ⟨some 6, .mov (.cst (.bool false)), none⟩]
@[simp] theorem law06_LabelBytes_r0_go (T : Tbl) (K : List Kt) (fr : Fr) (S : St) : gval T (.ops law06_LabelBytes_r0 :: K) fr S = gval T (.ops [
  ⟨some 6, .mov (.cst (.bool false)), none⟩] :: K) fr S := rfl
def law06_LabelBytes_r1 : List POper := [
  ⟨some 18, .bsl false (.int .u8 0) 0 [], none⟩,
  ⟨some 19, .mov (.tmp 0), none⟩,
  ⟨some 20, .app 1 1 (.tmp 18) (.tmp 19), none⟩,
  ⟨some 21, .mov (.tmp 1), none⟩,
  ⟨some 22, .call .std 29 [(.tmp 20), (.tmp 21)], none⟩,
  ⟨some 17, .mov (.tmp 22), none⟩,
  ⟨some 23, .extract 0 (.tmp 17), none⟩,
  ⟨some 24, .extract 1 (.tmp 17), none⟩,
  ⟨some 7, .mov (.tmp 23), none⟩,
  ⟨some 8, .mov (.tmp 24), none⟩]
@[simp] theorem law06_LabelBytes_r1_go (T : Tbl) (K : List Kt) (fr : Fr) (S : St) : gval T (.ops law06_LabelBytes_r1 :: K) fr S = gval T (.ops [
  ⟨some 18, .bsl false (.int .u8 0) 0 [], none⟩,
  ⟨some 19, .mov (.tmp 0), none⟩,
  ⟨some 20, .app 1 1 (.tmp 18) (.tmp 19), none⟩,
  ⟨some 21, .mov (.tmp 1), none⟩,
  ⟨some 22, .call .std 29 [(.tmp 20), (.tmp 21)], none⟩,
  ⟨some 17, .mov (.tmp 22), none⟩,
  ⟨some 23, .extract 0 (.tmp 17), none⟩,
  ⟨some 24, .extract 1 (.tmp 17), none⟩,
  ⟨some 7, .mov (.tmp 23), none⟩,
  ⟨some 8, .mov (.tmp 24), none⟩] :: K) fr S := rfl
def law06_LabelBytes_r2 : List POper := [
  ⟨some 26, .mov (.tmp 0), none⟩,
  ⟨some 27, .mov (.tmp 1), none⟩,
  ⟨some 28, .call .std 30 [(.tmp 26), (.tmp 27)], none⟩,
  ⟨some 25, .mov (.tmp 28), none⟩,
  ⟨some 29, .extract 0 (.tmp 25), none⟩,
  ⟨some 30, .extract 1 (.tmp 25), none⟩,
  ⟨some 9, .mov (.tmp 29), none⟩,
  ⟨some 10, .mov (.tmp 30), none⟩]
@[simp] theorem law06_LabelBytes_r2_go (T : Tbl) (K : List Kt) (fr : Fr) (S : St) : gval T (.ops law06_LabelBytes_r2 :: K) fr S = gval T (.ops [
  ⟨some 26, .mov (.tmp 0), none⟩,
  ⟨some 27, .mov (.tmp 1), none⟩,
  ⟨some 28, .call .std 30 [(.tmp 26), (.tmp 27)], none⟩,
  ⟨some 25, .mov (.tmp 28), none⟩,
  ⟨some 29, .extract 0 (.tmp 25), none⟩,
  ⟨some 30, .extract 1 (.tmp 25), none⟩,
  ⟨some 9, .mov (.tmp 29), none⟩,
  ⟨some 10, .mov (.tmp 30), none⟩] :: K) fr S := rfl
def law06_LabelBytes_r3 : List POper := [
  ⟨some 32, .mov (.tmp 0), none⟩,
  ⟨some 33, .mov (.tmp 2), none⟩,
  ⟨some 34, .call .std 31 [(.tmp 32), (.tmp 33)], none⟩,
  ⟨some 31, .mov (.tmp 34), none⟩,
  ⟨some 35, .extract 0 (.tmp 31), none⟩,
  ⟨some 36, .extract 1 (.tmp 31), none⟩,
  ⟨some 37, .extract 2 (.tmp 31), none⟩,
  ⟨some 11, .mov (.tmp 35), none⟩,
  ⟨some 12, .mov (.tmp 36), none⟩,
  ⟨some 13, .mov (.tmp 37), none⟩]
@[simp] theorem law06_LabelBytes_r3_go (T : Tbl) (K : List Kt) (fr : Fr) (S : St) : gval T (.ops law06_LabelBytes_r3 :: K) fr S = gval T (.ops [
  ⟨some 32, .mov (.tmp 0), none⟩,
  ⟨some 33, .mov (.tmp 2), none⟩,
  ⟨some 34, .call .std 31 [(.tmp 32), (.tmp 33)], none⟩,
  ⟨some 31, .mov (.tmp 34), none⟩,
  ⟨some 35, .extract 0 (.tmp 31), none⟩,
  ⟨some 36, .extract 1 (.tmp 31), none⟩,
  ⟨some 37, .extract 2 (.tmp 31), none⟩,
  ⟨some 11, .mov (.tmp 35), none⟩,
  ⟨some 12, .mov (.tmp 36), none⟩,
  ⟨some 13, .mov (.tmp 37), none⟩] :: K) fr S := rfl
def law06_LabelBytes_r4 : List POper := [
  ⟨some 39, .mov (.tmp 0), none⟩,
  ⟨some 40, .mov (.tmp 2), none⟩,
  ⟨some 41, .call .std 32 [(.tmp 39), (.tmp 40)], none⟩,
  ⟨some 38, .mov (.tmp 41), none⟩,
  ⟨some 42, .extract 0 (.tmp 38), none⟩,
  ⟨some 43, .extract 1 (.tmp 38), none⟩,
  ⟨some 44, .extract 2 (.tmp 38), none⟩,
  ⟨some 14, .mov (.tmp 42), none⟩,
  ⟨some 15, .mov (.tmp 43), none⟩,
  ⟨some 16, .mov (.tmp 44), none⟩]
@[simp] theorem law06_LabelBytes_r4_go (T : Tbl) (K : List Kt) (fr : Fr) (S : St) : gval T (.ops law06_LabelBytes_r4 :: K) fr S = gval T (.ops [
  ⟨some 39, .mov (.tmp 0), none⟩,
  ⟨some 40, .mov (.tmp 2), none⟩,
  ⟨some 41, .call .std 32 [(.tmp 39), (.tmp 40)], none⟩,
  ⟨some 38, .mov (.tmp 41), none⟩,
  ⟨some 42, .extract 0 (.tmp 38), none⟩,
  ⟨some 43, .extract 1 (.tmp 38), none⟩,
  ⟨some 44, .extract 2 (.tmp 38), none⟩,
  ⟨some 14, .mov (.tmp 42), none⟩,
  ⟨some 15, .mov (.tmp 43), none⟩,
  ⟨some 16, .mov (.tmp 44), none⟩] :: K) fr S := rfl
def law06_LabelBytes_r5 : List POper := [
  ⟨some 45, .mov (.tmp 7), none⟩,
  ⟨some 46, .toStr (.tmp 45), none⟩,
  ⟨some 47, .mov (.tmp 9), none⟩,
  ⟨some 48, .toStr (.tmp 47), none⟩,
  ⟨some 49, .arith .eql (.tmp 46) (.tmp 48), none⟩,
  ⟨some 50, .mov (.tmp 49), none⟩,
  ⟨some 51, .mov (.tmp 8), some (50, true)⟩,
  ⟨some 52, .mov (.tmp 10), some (50, true)⟩,
  ⟨some 53, .arith .eql (.tmp 51) (.tmp 52), some (50, true)⟩,
  ⟨some 54, .pick (.tmp 50) (.tmp 53) (.cst (.bool false)), none⟩,
  ⟨some 55, .mov (.tmp 54), none⟩,
  ⟨some 56, .mov (.tmp 11), some (55, true)⟩,
  ⟨some 57, .mov (.tmp 14), some (55, true)⟩,
  ⟨some 58, .call .std 26 [(.tmp 56), (.tmp 57)], some (55, true)⟩,
  ⟨some 59, .pick (.tmp 55) (.tmp 58) (.cst (.bool false)), none⟩,
  ⟨some 60, .mov (.tmp 59), none⟩,
  ⟨some 61, .mov (.tmp 12), some (60, true)⟩,
  ⟨some 62, .mov (.tmp 15), some (60, true)⟩,
  ⟨some 63, .arith .eql (.tmp 61) (.tmp 62), some (60, true)⟩,
  ⟨some 64, .pick (.tmp 60) (.tmp 63) (.cst (.bool false)), none⟩,
  ⟨some 65, .mov (.tmp 64), none⟩,
  ⟨some 66, .mov (.tmp 13), some (65, true)⟩,
  ⟨some 67, .mov (.tmp 16), some (65, true)⟩,
  ⟨some 68, .arith .eql (.tmp 66) (.tmp 67), some (65, true)⟩,
  ⟨some 69, .pick (.tmp 65) (.tmp 68) (.cst (.bool false)), none⟩,
  ⟨some 70, .mov (.tmp 69), none⟩,
  ⟨some 71, .call .pur 27 [], some (70, true)⟩,
  ⟨some 72, .pick (.tmp 70) (.tmp 71) (.cst (.bool false)), none⟩,
  ⟨some 6, .mov (.tmp 72), none⟩]
@[simp] theorem law06_LabelBytes_r5_go (T : Tbl) (K : List Kt) (fr : Fr) (S : St) : gval T (.ops law06_LabelBytes_r5 :: K) fr S = gval T (.ops [
  ⟨some 45, .mov (.tmp 7), none⟩,
  ⟨some 46, .toStr (.tmp 45), none⟩,
  ⟨some 47, .mov (.tmp 9), none⟩,
  ⟨some 48, .toStr (.tmp 47), none⟩,
  ⟨some 49, .arith .eql (.tmp 46) (.tmp 48), none⟩,
  ⟨some 50, .mov (.tmp 49), none⟩,
  ⟨some 51, .mov (.tmp 8), some (50, true)⟩,
  ⟨some 52, .mov (.tmp 10), some (50, true)⟩,
  ⟨some 53, .arith .eql (.tmp 51) (.tmp 52), some (50, true)⟩,
  ⟨some 54, .pick (.tmp 50) (.tmp 53) (.cst (.bool false)), none⟩,
  ⟨some 55, .mov (.tmp 54), none⟩,
  ⟨some 56, .mov (.tmp 11), some (55, true)⟩,
  ⟨some 57, .mov (.tmp 14), some (55, true)⟩,
  ⟨some 58, .call .std 26 [(.tmp 56), (.tmp 57)], some (55, true)⟩,
  ⟨some 59, .pick (.tmp 55) (.tmp 58) (.cst (.bool false)), none⟩,
  ⟨some 60, .mov (.tmp 59), none⟩,
  ⟨some 61, .mov (.tmp 12), some (60, true)⟩,
  ⟨some 62, .mov (.tmp 15), some (60, true)⟩,
  ⟨some 63, .arith .eql (.tmp 61) (.tmp 62), some (60, true)⟩,
  ⟨some 64, .pick (.tmp 60) (.tmp 63) (.cst (.bool false)), none⟩,
  ⟨some 65, .mov (.tmp 64), none⟩,
  ⟨some 66, .mov (.tmp 13), some (65, true)⟩,
  ⟨some 67, .mov (.tmp 16), some (65, true)⟩,
  ⟨some 68, .arith .eql (.tmp 66) (.tmp 67), some (65, true)⟩,
  ⟨some 69, .pick (.tmp 65) (.tmp 68) (.cst (.bool false)), none⟩,
  ⟨some 70, .mov (.tmp 69), none⟩,
  ⟨some 71, .call .pur 27 [], some (70, true)⟩,
  ⟨some 72, .pick (.tmp 70) (.tmp 71) (.cst (.bool false)), none⟩,
  ⟨some 6, .mov (.tmp 72), none⟩] :: K) fr S := rfl
def law06_LabelBytes : PCodeFn :=
  ⟨3, [.tmp 6],
  (.seq (.region law06_LabelBytes_r0) (.seq (.clr [(17, 25)] (.region law06_LabelBytes_r1)) (.seq (.clr [(25, 31)] (.region law06_LabelBytes_r2)) (.seq (.clr [(31, 38)] (.region law06_LabelBytes_r3)) (.seq (.clr [(38, 45)] (.region law06_LabelBytes_r4)) (.seq (.clr [(45, 73)] (.region law06_LabelBytes_r5)) .ret)))))), false⟩

/-! gauge/gaugelaw06.LabelBack: 9 -/
def law06_LabelBack_r0 : List POper := [
  ⟨some 6, .mov (.cst (.bool false)), none⟩]
@[simp] theorem law06_LabelBack_r0_go (T : Tbl) (K : List Kt) (fr : Fr) (S : St) : gval T (.ops law06_LabelBack_r0 :: K) fr S = gval T (.ops [
  ⟨some 6, .mov (.cst (.bool false)), none⟩] :: K) fr S := rfl
def law06_LabelBack_r1 : List POper := [
  ⟨some 15, .mov (.tmp 1), none⟩,
  ⟨some 16, .mov (.tmp 0), none⟩,
  ⟨some 17, .call .std 29 [(.tmp 15), (.tmp 16)], none⟩,
  ⟨some 14, .mov (.tmp 17), none⟩,
  ⟨some 18, .extract 0 (.tmp 14), none⟩,
  ⟨some 19, .extract 1 (.tmp 14), none⟩,
  ⟨some 7, .mov (.tmp 18), none⟩,
  ⟨some 8, .mov (.tmp 19), none⟩]
@[simp] theorem law06_LabelBack_r1_go (T : Tbl) (K : List Kt) (fr : Fr) (S : St) : gval T (.ops law06_LabelBack_r1 :: K) fr S = gval T (.ops [
  ⟨some 15, .mov (.tmp 1), none⟩,
  ⟨some 16, .mov (.tmp 0), none⟩,
  ⟨some 17, .call .std 29 [(.tmp 15), (.tmp 16)], none⟩,
  ⟨some 14, .mov (.tmp 17), none⟩,
  ⟨some 18, .extract 0 (.tmp 14), none⟩,
  ⟨some 19, .extract 1 (.tmp 14), none⟩,
  ⟨some 7, .mov (.tmp 18), none⟩,
  ⟨some 8, .mov (.tmp 19), none⟩] :: K) fr S := rfl
def law06_LabelBack_r2 : List POper := [
  ⟨some 20, .mov (.tmp 8), none⟩,
  ⟨some 21, .arith .neq (.tmp 20) (.cst (.int .i64 0)), none⟩]
@[simp] theorem law06_LabelBack_r2_go (T : Tbl) (K : List Kt) (fr : Fr) (S : St) : gval T (.ops law06_LabelBack_r2 :: K) fr S = gval T (.ops [
  ⟨some 20, .mov (.tmp 8), none⟩,
  ⟨some 21, .arith .neq (.tmp 20) (.cst (.int .i64 0)), none⟩] :: K) fr S := rfl
def law06_LabelBack_r3 : List POper := [
  ⟨some 22, .mov (.tmp 7), none⟩,
  ⟨some 23, .len false (.tmp 22), none⟩,
  ⟨some 24, .arith .eql (.tmp 23) (.cst (.int .i64 0)), none⟩,
  ⟨some 25, .mov (.tmp 24), none⟩,
  ⟨some 26, .mov (.tmp 0), some (25, true)⟩,
  ⟨some 27, .call .std 40 [(.tmp 26)], some (25, true)⟩,
  ⟨some 28, .mov (.tmp 8), some (25, true)⟩,
  ⟨some 29, .arith .eql (.tmp 27) (.tmp 28), some (25, true)⟩,
  ⟨some 30, .pick (.tmp 25) (.tmp 29) (.cst (.bool false)), none⟩,
  ⟨some 31, .mov (.tmp 30), none⟩,
  ⟨some 32, .call .pur 27 [], some (31, true)⟩,
  ⟨some 33, .pick (.tmp 31) (.tmp 32) (.cst (.bool false)), none⟩,
  ⟨some 6, .mov (.tmp 33), none⟩]
@[simp] theorem law06_LabelBack_r3_go (T : Tbl) (K : List Kt) (fr : Fr) (S : St) : gval T (.ops law06_LabelBack_r3 :: K) fr S = gval T (.ops [
  ⟨some 22, .mov (.tmp 7), none⟩,
  ⟨some 23, .len false (.tmp 22), none⟩,
  ⟨some 24, .arith .eql (.tmp 23) (.cst (.int .i64 0)), none⟩,
  ⟨some 25, .mov (.tmp 24), none⟩,
  ⟨some 26, .mov (.tmp 0), some (25, true)⟩,
  ⟨some 27, .call .std 40 [(.tmp 26)], some (25, true)⟩,
  ⟨some 28, .mov (.tmp 8), some (25, true)⟩,
  ⟨some 29, .arith .eql (.tmp 27) (.tmp 28), some (25, true)⟩,
  ⟨some 30, .pick (.tmp 25) (.tmp 29) (.cst (.bool false)), none⟩,
  ⟨some 31, .mov (.tmp 30), none⟩,
  ⟨some 32, .call .pur 27 [], some (31, true)⟩,
  ⟨some 33, .pick (.tmp 31) (.tmp 32) (.cst (.bool false)), none⟩,
  ⟨some 6, .mov (.tmp 33), none⟩] :: K) fr S := rfl
def law06_LabelBack_r4 : List POper := [
  ⟨some 35, .mov (.tmp 0), none⟩,
  ⟨some 36, .call .std 24 [(.tmp 35)], none⟩,
  ⟨some 37, .call .pur 22 [(.tmp 36)], none⟩,
  ⟨some 34, .mov (.tmp 37), none⟩,
  ⟨some 38, .extract 0 (.tmp 34), none⟩,
  ⟨some 39, .extract 1 (.tmp 34), none⟩,
  ⟨some 9, .mov (.tmp 38), none⟩,
  ⟨some 10, .mov (.tmp 39), none⟩]
@[simp] theorem law06_LabelBack_r4_go (T : Tbl) (K : List Kt) (fr : Fr) (S : St) : gval T (.ops law06_LabelBack_r4 :: K) fr S = gval T (.ops [
  ⟨some 35, .mov (.tmp 0), none⟩,
  ⟨some 36, .call .std 24 [(.tmp 35)], none⟩,
  ⟨some 37, .call .pur 22 [(.tmp 36)], none⟩,
  ⟨some 34, .mov (.tmp 37), none⟩,
  ⟨some 38, .extract 0 (.tmp 34), none⟩,
  ⟨some 39, .extract 1 (.tmp 34), none⟩,
  ⟨some 9, .mov (.tmp 38), none⟩,
  ⟨some 10, .mov (.tmp 39), none⟩] :: K) fr S := rfl
def law06_LabelBack_r5 : List POper := [
  ⟨some 41, .bsl false (.int .u8 0) 0 [], none⟩,
  ⟨some 42, .mov (.tmp 7), none⟩,
  ⟨some 43, .app 1 1 (.tmp 41) (.tmp 42), none⟩,
  ⟨some 44, .mov (.tmp 2), none⟩,
  ⟨some 45, .app 1 1 (.tmp 43) (.tmp 44), none⟩,
  ⟨some 46, .mov (.tmp 1), none⟩,
  ⟨some 47, .len false (.tmp 46), none⟩,
  ⟨some 48, .call .std 31 [(.tmp 45), (.tmp 47)], none⟩,
  ⟨some 40, .mov (.tmp 48), none⟩,
  ⟨some 49, .extract 0 (.tmp 40), none⟩,
  ⟨some 50, .extract 1 (.tmp 40), none⟩,
  ⟨some 51, .extract 2 (.tmp 40), none⟩,
  ⟨some 11, .mov (.tmp 49), none⟩,
  ⟨some 12, .mov (.tmp 50), none⟩,
  ⟨some 13, .mov (.tmp 51), none⟩]
@[simp] theorem law06_LabelBack_r5_go (T : Tbl) (K : List Kt) (fr : Fr) (S : St) : gval T (.ops law06_LabelBack_r5 :: K) fr S = gval T (.ops [
  ⟨some 41, .bsl false (.int .u8 0) 0 [], none⟩,
  ⟨some 42, .mov (.tmp 7), none⟩,
  ⟨some 43, .app 1 1 (.tmp 41) (.tmp 42), none⟩,
  ⟨some 44, .mov (.tmp 2), none⟩,
  ⟨some 45, .app 1 1 (.tmp 43) (.tmp 44), none⟩,
  ⟨some 46, .mov (.tmp 1), none⟩,
  ⟨some 47, .len false (.tmp 46), none⟩,
  ⟨some 48, .call .std 31 [(.tmp 45), (.tmp 47)], none⟩,
  ⟨some 40, .mov (.tmp 48), none⟩,
  ⟨some 49, .extract 0 (.tmp 40), none⟩,
  ⟨some 50, .extract 1 (.tmp 40), none⟩,
  ⟨some 51, .extract 2 (.tmp 40), none⟩,
  ⟨some 11, .mov (.tmp 49), none⟩,
  ⟨some 12, .mov (.tmp 50), none⟩,
  ⟨some 13, .mov (.tmp 51), none⟩] :: K) fr S := rfl
def law06_LabelBack_r6 : List POper := [
  ⟨some 52, .mov (.tmp 9), none⟩,
  ⟨some 53, .mov (.tmp 0), none⟩,
  ⟨some 54, .call .std 26 [(.tmp 52), (.tmp 53)], none⟩,
  ⟨some 55, .mov (.tmp 54), none⟩,
  ⟨some 56, .mov (.tmp 10), some (55, true)⟩,
  ⟨some 57, .arith .eql (.tmp 56) (.cst (.int .i64 0)), some (55, true)⟩,
  ⟨some 58, .pick (.tmp 55) (.tmp 57) (.cst (.bool false)), none⟩,
  ⟨some 59, .mov (.tmp 58), none⟩,
  ⟨some 60, .mov (.tmp 11), some (59, true)⟩,
  ⟨some 61, .mov (.tmp 0), some (59, true)⟩,
  ⟨some 62, .call .std 26 [(.tmp 60), (.tmp 61)], some (59, true)⟩,
  ⟨some 63, .pick (.tmp 59) (.tmp 62) (.cst (.bool false)), none⟩,
  ⟨some 64, .mov (.tmp 63), none⟩,
  ⟨some 65, .mov (.tmp 12), some (64, true)⟩,
  ⟨some 66, .mov (.tmp 7), some (64, true)⟩,
  ⟨some 67, .len false (.tmp 66), some (64, true)⟩,
  ⟨some 68, .arith .eql (.tmp 65) (.tmp 67), some (64, true)⟩,
  ⟨some 69, .pick (.tmp 64) (.tmp 68) (.cst (.bool false)), none⟩,
  ⟨some 70, .mov (.tmp 69), none⟩,
  ⟨some 71, .mov (.tmp 13), some (70, true)⟩,
  ⟨some 72, .arith .eql (.tmp 71) (.cst (.int .i64 0)), some (70, true)⟩,
  ⟨some 73, .pick (.tmp 70) (.tmp 72) (.cst (.bool false)), none⟩,
  ⟨some 74, .mov (.tmp 73), none⟩,
  ⟨some 75, .call .pur 27 [], some (74, true)⟩,
  ⟨some 76, .pick (.tmp 74) (.tmp 75) (.cst (.bool false)), none⟩,
  ⟨some 6, .mov (.tmp 76), none⟩]
@[simp] theorem law06_LabelBack_r6_go (T : Tbl) (K : List Kt) (fr : Fr) (S : St) : gval T (.ops law06_LabelBack_r6 :: K) fr S = gval T (.ops [
  ⟨some 52, .mov (.tmp 9), none⟩,
  ⟨some 53, .mov (.tmp 0), none⟩,
  ⟨some 54, .call .std 26 [(.tmp 52), (.tmp 53)], none⟩,
  ⟨some 55, .mov (.tmp 54), none⟩,
  ⟨some 56, .mov (.tmp 10), some (55, true)⟩,
  ⟨some 57, .arith .eql (.tmp 56) (.cst (.int .i64 0)), some (55, true)⟩,
  ⟨some 58, .pick (.tmp 55) (.tmp 57) (.cst (.bool false)), none⟩,
  ⟨some 59, .mov (.tmp 58), none⟩,
  ⟨some 60, .mov (.tmp 11), some (59, true)⟩,
  ⟨some 61, .mov (.tmp 0), some (59, true)⟩,
  ⟨some 62, .call .std 26 [(.tmp 60), (.tmp 61)], some (59, true)⟩,
  ⟨some 63, .pick (.tmp 59) (.tmp 62) (.cst (.bool false)), none⟩,
  ⟨some 64, .mov (.tmp 63), none⟩,
  ⟨some 65, .mov (.tmp 12), some (64, true)⟩,
  ⟨some 66, .mov (.tmp 7), some (64, true)⟩,
  ⟨some 67, .len false (.tmp 66), some (64, true)⟩,
  ⟨some 68, .arith .eql (.tmp 65) (.tmp 67), some (64, true)⟩,
  ⟨some 69, .pick (.tmp 64) (.tmp 68) (.cst (.bool false)), none⟩,
  ⟨some 70, .mov (.tmp 69), none⟩,
  ⟨some 71, .mov (.tmp 13), some (70, true)⟩,
  ⟨some 72, .arith .eql (.tmp 71) (.cst (.int .i64 0)), some (70, true)⟩,
  ⟨some 73, .pick (.tmp 70) (.tmp 72) (.cst (.bool false)), none⟩,
  ⟨some 74, .mov (.tmp 73), none⟩,
  ⟨some 75, .call .pur 27 [], some (74, true)⟩,
  ⟨some 76, .pick (.tmp 74) (.tmp 75) (.cst (.bool false)), none⟩,
  ⟨some 6, .mov (.tmp 76), none⟩] :: K) fr S := rfl
def law06_LabelBack : PCodeFn :=
  ⟨3, [.tmp 6],
  (.seq (.region law06_LabelBack_r0) (.seq (.clr [(14, 20)] (.region law06_LabelBack_r1)) (.seq (.seq (.clr [(20, 21)] (.region law06_LabelBack_r2)) (.cond (.tmp 21) (.seq (.clr [(22, 34)] (.region law06_LabelBack_r3)) .ret) .skip)) (.seq (.clr [(34, 40)] (.region law06_LabelBack_r4)) (.seq (.clr [(40, 52)] (.region law06_LabelBack_r5)) (.seq (.clr [(52, 77)] (.region law06_LabelBack_r6)) .ret)))))), false⟩

/-! gauge/label.Name: 121 -/
def label_Name_r0 : List POper := [
  ⟨some 2, .mov (.cst (.bool false)), none⟩]
@[simp] theorem label_Name_r0_go (T : Tbl) (K : List Kt) (fr : Fr) (S : St) : gval T (.ops label_Name_r0 :: K) fr S = gval T (.ops [
  ⟨some 2, .mov (.cst (.bool false)), none⟩] :: K) fr S := rfl
def label_Name_r1 : List POper := [
  ⟨some 5, .mov (.tmp 0), none⟩,
  ⟨some 6, .len true (.tmp 5), none⟩,
  ⟨some 7, .mov (.cst (.int .i64 0)), none⟩]
@[simp] theorem label_Name_r1_go (T : Tbl) (K : List Kt) (fr : Fr) (S : St) : gval T (.ops label_Name_r1 :: K) fr S = gval T (.ops [
  ⟨some 5, .mov (.tmp 0), none⟩,
  ⟨some 6, .len true (.tmp 5), none⟩,
  ⟨some 7, .mov (.cst (.int .i64 0)), none⟩] :: K) fr S := rfl
def label_Name_r2 : List POper := [
  ⟨some 8, .arith .lss (.tmp 7) (.tmp 6), none⟩]
@[simp] theorem label_Name_r2_go (T : Tbl) (K : List Kt) (fr : Fr) (S : St) : gval T (.ops label_Name_r2 :: K) fr S = gval T (.ops [
  ⟨some 8, .arith .lss (.tmp 7) (.tmp 6), none⟩] :: K) fr S := rfl
def label_Name_r3 : List POper := [
  ⟨some 9, .mov (.tmp 7), none⟩,
  ⟨some 3, .mov (.tmp 9), none⟩]
@[simp] theorem label_Name_r3_go (T : Tbl) (K : List Kt) (fr : Fr) (S : St) : gval T (.ops label_Name_r3 :: K) fr S = gval T (.ops [
  ⟨some 9, .mov (.tmp 7), none⟩,
  ⟨some 3, .mov (.tmp 9), none⟩] :: K) fr S := rfl
def label_Name_r4 : List POper := [
  ⟨some 10, .mov (.tmp 0), none⟩,
  ⟨some 11, .mov (.tmp 3), none⟩,
  ⟨some 12, .idxs (.tmp 10) (.tmp 11), none⟩,
  ⟨some 4, .mov (.tmp 12), none⟩]
@[simp] theorem label_Name_r4_go (T : Tbl) (K : List Kt) (fr : Fr) (S : St) : gval T (.ops label_Name_r4 :: K) fr S = gval T (.ops [
  ⟨some 10, .mov (.tmp 0), none⟩,
  ⟨some 11, .mov (.tmp 3), none⟩,
  ⟨some 12, .idxs (.tmp 10) (.tmp 11), none⟩,
  ⟨some 4, .mov (.tmp 12), none⟩] :: K) fr S := rfl
def label_Name_r6 : List POper := [
  ⟨some 14, .mov (.tmp 4), none⟩,
  ⟨some 15, .arith .geq (.tmp 14) (.cst (.int .u8 97)), none⟩,
  ⟨some 16, .mov (.tmp 15), none⟩,
  ⟨some 17, .mov (.tmp 4), some (16, true)⟩,
  ⟨some 18, .arith .leq (.tmp 17) (.cst (.int .u8 122)), some (16, true)⟩,
  ⟨some 19, .pick (.tmp 16) (.tmp 18) (.cst (.bool false)), none⟩,
  ⟨some 13, .mov (.tmp 19), none⟩]
@[simp] theorem label_Name_r6_go (T : Tbl) (K : List Kt) (fr : Fr) (S : St) : gval T (.ops label_Name_r6 :: K) fr S = gval T (.ops [
  ⟨some 14, .mov (.tmp 4), none⟩,
  ⟨some 15, .arith .geq (.tmp 14) (.cst (.int .u8 97)), none⟩,
  ⟨some 16, .mov (.tmp 15), none⟩,
  ⟨some 17, .mov (.tmp 4), some (16, true)⟩,
  ⟨some 18, .arith .leq (.tmp 17) (.cst (.int .u8 122)), some (16, true)⟩,
  ⟨some 19, .pick (.tmp 16) (.tmp 18) (.cst (.bool false)), none⟩,
  ⟨some 13, .mov (.tmp 19), none⟩] :: K) fr S := rfl
def label_Name_r7 : List POper := [
  ⟨some 20, .mov (.tmp 4), none⟩,
  ⟨some 21, .arith .geq (.tmp 20) (.cst (.int .u8 65)), none⟩,
  ⟨some 22, .mov (.tmp 21), none⟩,
  ⟨some 23, .mov (.tmp 4), some (22, true)⟩,
  ⟨some 24, .arith .leq (.tmp 23) (.cst (.int .u8 90)), some (22, true)⟩,
  ⟨some 25, .pick (.tmp 22) (.tmp 24) (.cst (.bool false)), none⟩,
  ⟨some 13, .mov (.tmp 25), none⟩]
@[simp] theorem label_Name_r7_go (T : Tbl) (K : List Kt) (fr : Fr) (S : St) : gval T (.ops label_Name_r7 :: K) fr S = gval T (.ops [
  ⟨some 20, .mov (.tmp 4), none⟩,
  ⟨some 21, .arith .geq (.tmp 20) (.cst (.int .u8 65)), none⟩,
  ⟨some 22, .mov (.tmp 21), none⟩,
  ⟨some 23, .mov (.tmp 4), some (22, true)⟩,
  ⟨some 24, .arith .leq (.tmp 23) (.cst (.int .u8 90)), some (22, true)⟩,
  ⟨some 25, .pick (.tmp 22) (.tmp 24) (.cst (.bool false)), none⟩,
  ⟨some 13, .mov (.tmp 25), none⟩] :: K) fr S := rfl
def label_Name_r8 : List POper := [
  ⟨some 26, .mov (.tmp 4), none⟩,
  ⟨some 27, .arith .eql (.tmp 26) (.cst (.int .u8 95)), none⟩,
  ⟨some 13, .mov (.tmp 27), none⟩]
@[simp] theorem label_Name_r8_go (T : Tbl) (K : List Kt) (fr : Fr) (S : St) : gval T (.ops label_Name_r8 :: K) fr S = gval T (.ops [
  ⟨some 26, .mov (.tmp 4), none⟩,
  ⟨some 27, .arith .eql (.tmp 26) (.cst (.int .u8 95)), none⟩,
  ⟨some 13, .mov (.tmp 27), none⟩] :: K) fr S := rfl
def label_Name_r9 : List POper := [
  ⟨some 29, .mov (.tmp 3), none⟩,
  ⟨some 30, .arith .gtr (.tmp 29) (.cst (.int .i64 0)), none⟩,
  ⟨some 31, .mov (.tmp 30), none⟩,
  ⟨some 32, .mov (.tmp 4), some (31, true)⟩,
  ⟨some 33, .arith .geq (.tmp 32) (.cst (.int .u8 48)), some (31, true)⟩,
  ⟨some 34, .pick (.tmp 31) (.tmp 33) (.cst (.bool false)), none⟩,
  ⟨some 35, .mov (.tmp 34), none⟩,
  ⟨some 36, .mov (.tmp 4), some (35, true)⟩,
  ⟨some 37, .arith .leq (.tmp 36) (.cst (.int .u8 57)), some (35, true)⟩,
  ⟨some 38, .pick (.tmp 35) (.tmp 37) (.cst (.bool false)), none⟩,
  ⟨some 28, .mov (.tmp 38), none⟩]
@[simp] theorem label_Name_r9_go (T : Tbl) (K : List Kt) (fr : Fr) (S : St) : gval T (.ops label_Name_r9 :: K) fr S = gval T (.ops [
  ⟨some 29, .mov (.tmp 3), none⟩,
  ⟨some 30, .arith .gtr (.tmp 29) (.cst (.int .i64 0)), none⟩,
  ⟨some 31, .mov (.tmp 30), none⟩,
  ⟨some 32, .mov (.tmp 4), some (31, true)⟩,
  ⟨some 33, .arith .geq (.tmp 32) (.cst (.int .u8 48)), some (31, true)⟩,
  ⟨some 34, .pick (.tmp 31) (.tmp 33) (.cst (.bool false)), none⟩,
  ⟨some 35, .mov (.tmp 34), none⟩,
  ⟨some 36, .mov (.tmp 4), some (35, true)⟩,
  ⟨some 37, .arith .leq (.tmp 36) (.cst (.int .u8 57)), some (35, true)⟩,
  ⟨some 38, .pick (.tmp 35) (.tmp 37) (.cst (.bool false)), none⟩,
  ⟨some 28, .mov (.tmp 38), none⟩] :: K) fr S := rfl
def label_Name_r5 : List POper := [
  ⟨some 2, .mov (.cst (.bool false)), none⟩]
@[simp] theorem label_Name_r5_go (T : Tbl) (K : List Kt) (fr : Fr) (S : St) : gval T (.ops label_Name_r5 :: K) fr S = gval T (.ops [
  ⟨some 2, .mov (.cst (.bool false)), none⟩] :: K) fr S := rfl
def label_Name_r10 : List POper := [
  ⟨some 39, .arith .add (.tmp 7) (.cst (.int .i64 1)), none⟩,
  ⟨some 7, .mov (.tmp 39), none⟩]
@[simp] theorem label_Name_r10_go (T : Tbl) (K : List Kt) (fr : Fr) (S : St) : gval T (.ops label_Name_r10 :: K) fr S = gval T (.ops [
  ⟨some 39, .arith .add (.tmp 7) (.cst (.int .i64 1)), none⟩,
  ⟨some 7, .mov (.tmp 39), none⟩] :: K) fr S := rfl
def label_Name_l0 : PCode :=
  (.seq (.region label_Name_r2) (.seq (.cond (.tmp 8) .skip (.exit 0)) (.seq (.block 1 (.seq (.clr [(9, 10)] (.region label_Name_r3)) (.seq (.clr [(10, 13)] (.region label_Name_r4)) (.block 2 (.seq (.seq (.clr [(14, 20)] (.region label_Name_r6)) (.cond (.tmp 13) .skip (.seq (.clr [(20, 26)] (.region label_Name_r7)) (.cond (.tmp 13) .skip (.clr [(26, 28)] (.region label_Name_r8)))))) (.cond (.tmp 13) .skip (.seq (.clr [(29, 39)] (.region label_Name_r9)) (.cond (.tmp 28) .skip (.seq (.region label_Name_r5) .ret))))))))) (.clr [(39, 40)] (.region label_Name_r10)))))
@[simp] theorem label_Name_l0_go (T : Tbl) (K : List Kt) (fr : Fr) (S : St) : gval T (.code label_Name_l0 :: K) fr S = gval T (.code (.seq (.region label_Name_r2) (.seq (.cond (.tmp 8) .skip (.exit 0)) (.seq (.block 1 (.seq (.clr [(9, 10)] (.region label_Name_r3)) (.seq (.clr [(10, 13)] (.region label_Name_r4)) (.block 2 (.seq (.seq (.clr [(14, 20)] (.region label_Name_r6)) (.cond (.tmp 13) .skip (.seq (.clr [(20, 26)] (.region label_Name_r7)) (.cond (.tmp 13) .skip (.clr [(26, 28)] (.region label_Name_r8)))))) (.cond (.tmp 13) .skip (.seq (.clr [(29, 39)] (.region label_Name_r9)) (.cond (.tmp 28) .skip (.seq (.region label_Name_r5) .ret))))))))) (.clr [(39, 40)] (.region label_Name_r10))))) :: K) fr S := rfl
def label_Name_r11 : List POper := [
  ⟨some 40, .mov (.tmp 0), none⟩,
  ⟨some 41, .arith .neq (.tmp 40) (.cst (.str [])), none⟩,
  ⟨some 42, .mov (.tmp 41), none⟩,
  ⟨some 43, .mov (.tmp 0), some (42, true)⟩,
  ⟨some 44, .len true (.tmp 43), some (42, true)⟩,
  ⟨some 45, .arith .leq (.tmp 44) (.cst (.int .i64 32)), some (42, true)⟩,
  ⟨some 46, .pick (.tmp 42) (.tmp 45) (.cst (.bool false)), none⟩,
  ⟨some 2, .mov (.tmp 46), none⟩]
@[simp] theorem label_Name_r11_go (T : Tbl) (K : List Kt) (fr : Fr) (S : St) : gval T (.ops label_Name_r11 :: K) fr S = gval T (.ops [
  ⟨some 40, .mov (.tmp 0), none⟩,
  ⟨some 41, .arith .neq (.tmp 40) (.cst (.str [])), none⟩,
  ⟨some 42, .mov (.tmp 41), none⟩,
  ⟨some 43, .mov (.tmp 0), some (42, true)⟩,
  ⟨some 44, .len true (.tmp 43), some (42, true)⟩,
  ⟨some 45, .arith .leq (.tmp 44) (.cst (.int .i64 32)), some (42, true)⟩,
  ⟨some 46, .pick (.tmp 42) (.tmp 45) (.cst (.bool false)), none⟩,
  ⟨some 2, .mov (.tmp 46), none⟩] :: K) fr S := rfl
def label_Name : PCodeFn :=
  ⟨1, [.tmp 2],
  (.seq (.region label_Name_r0) (.seq (.seq (.clr [(5, 6)] (.region label_Name_r1)) (.block 0 (.loop label_Name_l0))) (.seq (.clr [(40, 47)] (.region label_Name_r11)) .ret))), false⟩

/-! gauge/gaugeref06.Name: 126 -/
def ref06_Name_r0 : List POper := [
  ⟨some 2, .mov (.cst (.bool false)), none⟩]
@[simp] theorem ref06_Name_r0_go (T : Tbl) (K : List Kt) (fr : Fr) (S : St) : gval T (.ops ref06_Name_r0 :: K) fr S = gval T (.ops [
  ⟨some 2, .mov (.cst (.bool false)), none⟩] :: K) fr S := rfl
def ref06_Name_r1 : List POper := [
  ⟨some 3, .mov (.cst (.int .i64 0)), none⟩]
@[simp] theorem ref06_Name_r1_go (T : Tbl) (K : List Kt) (fr : Fr) (S : St) : gval T (.ops ref06_Name_r1 :: K) fr S = gval T (.ops [
  ⟨some 3, .mov (.cst (.int .i64 0)), none⟩] :: K) fr S := rfl
def ref06_Name_r2 : List POper := [
  ⟨some 6, .mov (.tmp 3), none⟩,
  ⟨some 7, .mov (.tmp 0), none⟩,
  ⟨some 8, .len true (.tmp 7), none⟩,
  ⟨some 9, .arith .lss (.tmp 6) (.tmp 8), none⟩]
@[simp] theorem ref06_Name_r2_go (T : Tbl) (K : List Kt) (fr : Fr) (S : St) : gval T (.ops ref06_Name_r2 :: K) fr S = gval T (.ops [
  ⟨some 6, .mov (.tmp 3), none⟩,
  ⟨some 7, .mov (.tmp 0), none⟩,
  ⟨some 8, .len true (.tmp 7), none⟩,
  ⟨some 9, .arith .lss (.tmp 6) (.tmp 8), none⟩] :: K) fr S := rfl
def ref06_Name_r4 : List POper := [
  ⟨some 12, .mov (.tmp 0), none⟩,
  ⟨some 13, .mov (.tmp 3), none⟩,
  ⟨some 14, .idxs (.tmp 12) (.tmp 13), none⟩,
  ⟨some 4, .mov (.tmp 14), none⟩]
@[simp] theorem ref06_Name_r4_go (T : Tbl) (K : List Kt) (fr : Fr) (S : St) : gval T (.ops ref06_Name_r4 :: K) fr S = gval T (.ops [
  ⟨some 12, .mov (.tmp 0), none⟩,
  ⟨some 13, .mov (.tmp 3), none⟩,
  ⟨some 14, .idxs (.tmp 12) (.tmp 13), none⟩,
  ⟨some 4, .mov (.tmp 14), none⟩] :: K) fr S := rfl
def ref06_Name_r5 : List POper := [
  ⟨some 15, .mov (.tmp 4), none⟩,
  ⟨some 16, .arith .geq (.tmp 15) (.cst (.int .u8 97)), none⟩,
  ⟨some 17, .mov (.tmp 16), none⟩,
  ⟨some 18, .mov (.tmp 4), some (17, true)⟩,
  ⟨some 19, .arith .leq (.tmp 18) (.cst (.int .u8 122)), some (17, true)⟩,
  ⟨some 20, .pick (.tmp 17) (.tmp 19) (.cst (.bool false)), none⟩,
  ⟨some 21, .mov (.tmp 20), none⟩,
  ⟨some 22, .mov (.tmp 4), some (21, false)⟩,
  ⟨some 23, .arith .geq (.tmp 22) (.cst (.int .u8 65)), some (21, false)⟩,
  ⟨some 24, .mov (.tmp 23), some (21, false)⟩,
  ⟨some 25, .mov (.tmp 4), some (24, true)⟩,
  ⟨some 26, .arith .leq (.tmp 25) (.cst (.int .u8 90)), some (24, true)⟩,
  ⟨some 27, .pick (.tmp 24) (.tmp 26) (.cst (.bool false)), some (21, false)⟩,
  ⟨some 28, .pick (.tmp 21) (.cst (.bool true)) (.tmp 27), none⟩,
  ⟨some 29, .mov (.tmp 28), none⟩,
  ⟨some 30, .mov (.tmp 4), some (29, false)⟩,
  ⟨some 31, .arith .eql (.tmp 30) (.cst (.int .u8 95)), some (29, false)⟩,
  ⟨some 32, .pick (.tmp 29) (.cst (.bool true)) (.tmp 31), none⟩,
  ⟨some 5, .mov (.tmp 32), none⟩]
@[simp] theorem ref06_Name_r5_go (T : Tbl) (K : List Kt) (fr : Fr) (S : St) : gval T (.ops ref06_Name_r5 :: K) fr S = gval T (.ops [
  ⟨some 15, .mov (.tmp 4), none⟩,
  ⟨some 16, .arith .geq (.tmp 15) (.cst (.int .u8 97)), none⟩,
  ⟨some 17, .mov (.tmp 16), none⟩,
  ⟨some 18, .mov (.tmp 4), some (17, true)⟩,
  ⟨some 19, .arith .leq (.tmp 18) (.cst (.int .u8 122)), some (17, true)⟩,
  ⟨some 20, .pick (.tmp 17) (.tmp 19) (.cst (.bool false)), none⟩,
  ⟨some 21, .mov (.tmp 20), none⟩,
  ⟨some 22, .mov (.tmp 4), some (21, false)⟩,
  ⟨some 23, .arith .geq (.tmp 22) (.cst (.int .u8 65)), some (21, false)⟩,
  ⟨some 24, .mov (.tmp 23), some (21, false)⟩,
  ⟨some 25, .mov (.tmp 4), some (24, true)⟩,
  ⟨some 26, .arith .leq (.tmp 25) (.cst (.int .u8 90)), some (24, true)⟩,
  ⟨some 27, .pick (.tmp 24) (.tmp 26) (.cst (.bool false)), some (21, false)⟩,
  ⟨some 28, .pick (.tmp 21) (.cst (.bool true)) (.tmp 27), none⟩,
  ⟨some 29, .mov (.tmp 28), none⟩,
  ⟨some 30, .mov (.tmp 4), some (29, false)⟩,
  ⟨some 31, .arith .eql (.tmp 30) (.cst (.int .u8 95)), some (29, false)⟩,
  ⟨some 32, .pick (.tmp 29) (.cst (.bool true)) (.tmp 31), none⟩,
  ⟨some 5, .mov (.tmp 32), none⟩] :: K) fr S := rfl
def ref06_Name_r6 : List POper := [
  ⟨some 33, .mov (.tmp 5), none⟩,
  ⟨some 34, .un .not (.tmp 33), none⟩,
  ⟨some 35, .mov (.tmp 34), none⟩,
  ⟨some 36, .mov (.tmp 3), some (35, true)⟩,
  ⟨some 37, .arith .eql (.tmp 36) (.cst (.int .i64 0)), some (35, true)⟩,
  ⟨some 38, .mov (.tmp 37), some (35, true)⟩,
  ⟨some 39, .mov (.tmp 4), some (38, false)⟩,
  ⟨some 40, .arith .lss (.tmp 39) (.cst (.int .u8 48)), some (38, false)⟩,
  ⟨some 41, .pick (.tmp 38) (.cst (.bool true)) (.tmp 40), some (35, true)⟩,
  ⟨some 42, .mov (.tmp 41), some (35, true)⟩,
  ⟨some 43, .mov (.tmp 4), some (42, false)⟩,
  ⟨some 44, .arith .gtr (.tmp 43) (.cst (.int .u8 57)), some (42, false)⟩,
  ⟨some 45, .pick (.tmp 42) (.cst (.bool true)) (.tmp 44), some (35, true)⟩,
  ⟨some 46, .pick (.tmp 35) (.tmp 45) (.cst (.bool false)), none⟩]
@[simp] theorem ref06_Name_r6_go (T : Tbl) (K : List Kt) (fr : Fr) (S : St) : gval T (.ops ref06_Name_r6 :: K) fr S = gval T (.ops [
  ⟨some 33, .mov (.tmp 5), none⟩,
  ⟨some 34, .un .not (.tmp 33), none⟩,
  ⟨some 35, .mov (.tmp 34), none⟩,
  ⟨some 36, .mov (.tmp 3), some (35, true)⟩,
  ⟨some 37, .arith .eql (.tmp 36) (.cst (.int .i64 0)), some (35, true)⟩,
  ⟨some 38, .mov (.tmp 37), some (35, true)⟩,
  ⟨some 39, .mov (.tmp 4), some (38, false)⟩,
  ⟨some 40, .arith .lss (.tmp 39) (.cst (.int .u8 48)), some (38, false)⟩,
  ⟨some 41, .pick (.tmp 38) (.cst (.bool true)) (.tmp 40), some (35, true)⟩,
  ⟨some 42, .mov (.tmp 41), some (35, true)⟩,
  ⟨some 43, .mov (.tmp 4), some (42, false)⟩,
  ⟨some 44, .arith .gtr (.tmp 43) (.cst (.int .u8 57)), some (42, false)⟩,
  ⟨some 45, .pick (.tmp 42) (.cst (.bool true)) (.tmp 44), some (35, true)⟩,
  ⟨some 46, .pick (.tmp 35) (.tmp 45) (.cst (.bool false)), none⟩] :: K) fr S := rfl
def ref06_Name_r7 : List POper := [
  ⟨some 2, .mov (.cst (.bool false)), none⟩]
@[simp] theorem ref06_Name_r7_go (T : Tbl) (K : List Kt) (fr : Fr) (S : St) : gval T (.ops ref06_Name_r7 :: K) fr S = gval T (.ops [
  ⟨some 2, .mov (.cst (.bool false)), none⟩] :: K) fr S := rfl
def ref06_Name_r3 : List POper := [
  ⟨some 10, .mov (.tmp 3), none⟩,
  ⟨some 11, .arith .add (.tmp 10) (.cst (.int .i64 1)), none⟩,
  ⟨some 3, .mov (.tmp 11), none⟩]
@[simp] theorem ref06_Name_r3_go (T : Tbl) (K : List Kt) (fr : Fr) (S : St) : gval T (.ops ref06_Name_r3 :: K) fr S = gval T (.ops [
  ⟨some 10, .mov (.tmp 3), none⟩,
  ⟨some 11, .arith .add (.tmp 10) (.cst (.int .i64 1)), none⟩,
  ⟨some 3, .mov (.tmp 11), none⟩] :: K) fr S := rfl
def ref06_Name_l0 : PCode :=
  (.seq (.seq (.clr [(6, 9)] (.region ref06_Name_r2)) (.cond (.tmp 9) .skip (.exit 0))) (.seq (.block 1 (.seq (.clr [(12, 15)] (.region ref06_Name_r4)) (.seq (.clr [(15, 33)] (.region ref06_Name_r5)) (.seq (.clr [(33, 46)] (.region ref06_Name_r6)) (.cond (.tmp 46) (.seq (.region ref06_Name_r7) .ret) .skip))))) (.clr [(10, 12)] (.region ref06_Name_r3))))
@[simp] theorem ref06_Name_l0_go (T : Tbl) (K : List Kt) (fr : Fr) (S : St) : gval T (.code ref06_Name_l0 :: K) fr S = gval T (.code (.seq (.seq (.clr [(6, 9)] (.region ref06_Name_r2)) (.cond (.tmp 9) .skip (.exit 0))) (.seq (.block 1 (.seq (.clr [(12, 15)] (.region ref06_Name_r4)) (.seq (.clr [(15, 33)] (.region ref06_Name_r5)) (.seq (.clr [(33, 46)] (.region ref06_Name_r6)) (.cond (.tmp 46) (.seq (.region ref06_Name_r7) .ret) .skip))))) (.clr [(10, 12)] (.region ref06_Name_r3)))) :: K) fr S := rfl
def ref06_Name_r8 : List POper := [
  ⟨some 47, .mov (.tmp 0), none⟩,
  ⟨some 48, .arith .neq (.tmp 47) (.cst (.str [])), none⟩,
  ⟨some 49, .mov (.tmp 48), none⟩,
  ⟨some 50, .mov (.tmp 0), some (49, true)⟩,
  ⟨some 51, .len true (.tmp 50), some (49, true)⟩,
  ⟨some 52, .arith .leq (.tmp 51) (.cst (.int .i64 32)), some (49, true)⟩,
  ⟨some 53, .pick (.tmp 49) (.tmp 52) (.cst (.bool false)), none⟩,
  ⟨some 2, .mov (.tmp 53), none⟩]
@[simp] theorem ref06_Name_r8_go (T : Tbl) (K : List Kt) (fr : Fr) (S : St) : gval T (.ops ref06_Name_r8 :: K) fr S = gval T (.ops [
  ⟨some 47, .mov (.tmp 0), none⟩,
  ⟨some 48, .arith .neq (.tmp 47) (.cst (.str [])), none⟩,
  ⟨some 49, .mov (.tmp 48), none⟩,
  ⟨some 50, .mov (.tmp 0), some (49, true)⟩,
  ⟨some 51, .len true (.tmp 50), some (49, true)⟩,
  ⟨some 52, .arith .leq (.tmp 51) (.cst (.int .i64 32)), some (49, true)⟩,
  ⟨some 53, .pick (.tmp 49) (.tmp 52) (.cst (.bool false)), none⟩,
  ⟨some 2, .mov (.tmp 53), none⟩] :: K) fr S := rfl
def ref06_Name : PCodeFn :=
  ⟨1, [.tmp 2],
  (.seq (.region ref06_Name_r0) (.seq (.seq (.region ref06_Name_r1) (.block 0 (.loop ref06_Name_l0))) (.seq (.clr [(47, 54)] (.region ref06_Name_r8)) .ret))), false⟩

/-! gauge/label.Check: 40 -/
def label_Check_r0 : List POper := [
  ⟨some 2, .mov (.cst (.int .i64 0)), none⟩]
@[simp] theorem label_Check_r0_go (T : Tbl) (K : List Kt) (fr : Fr) (S : St) : gval T (.ops label_Check_r0 :: K) fr S = gval T (.ops [
  ⟨some 2, .mov (.cst (.int .i64 0)), none⟩] :: K) fr S := rfl
def label_Check_r1 : List POper := [
  ⟨some 5, .mov (.tmp 0), none⟩,
  ⟨some 6, .len false (.tmp 5), none⟩,
  ⟨some 7, .arith .gtr (.tmp 6) (.cst (.int .i64 8)), none⟩]
@[simp] theorem label_Check_r1_go (T : Tbl) (K : List Kt) (fr : Fr) (S : St) : gval T (.ops label_Check_r1 :: K) fr S = gval T (.ops [
  ⟨some 5, .mov (.tmp 0), none⟩,
  ⟨some 6, .len false (.tmp 5), none⟩,
  ⟨some 7, .arith .gtr (.tmp 6) (.cst (.int .i64 8)), none⟩] :: K) fr S := rfl
def label_Check_r2 : List POper := [
  ⟨some 2, .mov (.cst (.int .i64 3)), none⟩]
@[simp] theorem label_Check_r2_go (T : Tbl) (K : List Kt) (fr : Fr) (S : St) : gval T (.ops label_Check_r2 :: K) fr S = gval T (.ops [
  ⟨some 2, .mov (.cst (.int .i64 3)), none⟩] :: K) fr S := rfl
def label_Check_r3 : List POper := [
  ⟨some 8, .mov (.tmp 0), none⟩,
  ⟨some 9, .len false (.tmp 8), none⟩,
  ⟨some 10, .mov (.cst (.int .i64 0)), none⟩]
@[simp] theorem label_Check_r3_go (T : Tbl) (K : List Kt) (fr : Fr) (S : St) : gval T (.ops label_Check_r3 :: K) fr S = gval T (.ops [
  ⟨some 8, .mov (.tmp 0), none⟩,
  ⟨some 9, .len false (.tmp 8), none⟩,
  ⟨some 10, .mov (.cst (.int .i64 0)), none⟩] :: K) fr S := rfl
def label_Check_r4 : List POper := [
  ⟨some 11, .arith .lss (.tmp 10) (.tmp 9), none⟩]
@[simp] theorem label_Check_r4_go (T : Tbl) (K : List Kt) (fr : Fr) (S : St) : gval T (.ops label_Check_r4 :: K) fr S = gval T (.ops [
  ⟨some 11, .arith .lss (.tmp 10) (.tmp 9), none⟩] :: K) fr S := rfl
def label_Check_r5 : List POper := [
  ⟨some 12, .mov (.tmp 10), none⟩,
  ⟨some 13, .iaddr 2 (.tmp 8) (.tmp 10), none⟩,
  ⟨some 14, .load true 2 false (.tmp 13), none⟩,
  ⟨some 4, .alloc false [(.str []), (.str [])], none⟩,
  ⟨some 3, .mov (.tmp 12), none⟩,
  ⟨none, .store 2 (.tmp 4) (.tmp 14), none⟩]
@[simp] theorem label_Check_r5_go (T : Tbl) (K : List Kt) (fr : Fr) (S : St) : gval T (.ops label_Check_r5 :: K) fr S = gval T (.ops [
  ⟨some 12, .mov (.tmp 10), none⟩,
  ⟨some 13, .iaddr 2 (.tmp 8) (.tmp 10), none⟩,
  ⟨some 14, .load true 2 false (.tmp 13), none⟩,
  ⟨some 4, .alloc false [(.str []), (.str [])], none⟩,
  ⟨some 3, .mov (.tmp 12), none⟩,
  ⟨none, .store 2 (.tmp 4) (.tmp 14), none⟩] :: K) fr S := rfl
def label_Check_r6 : List POper := [
  ⟨some 16, .faddr 0 (.tmp 4), none⟩,
  ⟨some 17, .load false 1 false (.tmp 16), none⟩,
  ⟨some 18, .call .pur 121 [(.tmp 17)], none⟩,
  ⟨some 19, .un .not (.tmp 18), none⟩,
  ⟨some 15, .mov (.tmp 19), none⟩]
@[simp] theorem label_Check_r6_go (T : Tbl) (K : List Kt) (fr : Fr) (S : St) : gval T (.ops label_Check_r6 :: K) fr S = gval T (.ops [
  ⟨some 16, .faddr 0 (.tmp 4), none⟩,
  ⟨some 17, .load false 1 false (.tmp 16), none⟩,
  ⟨some 18, .call .pur 121 [(.tmp 17)], none⟩,
  ⟨some 19, .un .not (.tmp 18), none⟩,
  ⟨some 15, .mov (.tmp 19), none⟩] :: K) fr S := rfl
def label_Check_r7 : List POper := [
  ⟨some 2, .mov (.cst (.int .i64 8)), none⟩]
@[simp] theorem label_Check_r7_go (T : Tbl) (K : List Kt) (fr : Fr) (S : St) : gval T (.ops label_Check_r7 :: K) fr S = gval T (.ops [
  ⟨some 2, .mov (.cst (.int .i64 8)), none⟩] :: K) fr S := rfl
def label_Check_r8 : List POper := [
  ⟨some 21, .faddr 1 (.tmp 4), none⟩,
  ⟨some 22, .load false 1 false (.tmp 21), none⟩,
  ⟨some 23, .arith .eql (.tmp 22) (.cst (.str [])), none⟩,
  ⟨some 20, .mov (.tmp 23), none⟩]
@[simp] theorem label_Check_r8_go (T : Tbl) (K : List Kt) (fr : Fr) (S : St) : gval T (.ops label_Check_r8 :: K) fr S = gval T (.ops [
  ⟨some 21, .faddr 1 (.tmp 4), none⟩,
  ⟨some 22, .load false 1 false (.tmp 21), none⟩,
  ⟨some 23, .arith .eql (.tmp 22) (.cst (.str [])), none⟩,
  ⟨some 20, .mov (.tmp 23), none⟩] :: K) fr S := rfl
def label_Check_r9 : List POper := [
  ⟨some 2, .mov (.cst (.int .i64 2)), none⟩]
@[simp] theorem label_Check_r9_go (T : Tbl) (K : List Kt) (fr : Fr) (S : St) : gval T (.ops label_Check_r9 :: K) fr S = gval T (.ops [
  ⟨some 2, .mov (.cst (.int .i64 2)), none⟩] :: K) fr S := rfl
def label_Check_r10 : List POper := [
  ⟨some 25, .faddr 1 (.tmp 4), none⟩,
  ⟨some 26, .load false 1 false (.tmp 25), none⟩,
  ⟨some 27, .len true (.tmp 26), none⟩,
  ⟨some 28, .arith .gtr (.tmp 27) (.cst (.int .i64 64)), none⟩,
  ⟨some 24, .mov (.tmp 28), none⟩]
@[simp] theorem label_Check_r10_go (T : Tbl) (K : List Kt) (fr : Fr) (S : St) : gval T (.ops label_Check_r10 :: K) fr S = gval T (.ops [
  ⟨some 25, .faddr 1 (.tmp 4), none⟩,
  ⟨some 26, .load false 1 false (.tmp 25), none⟩,
  ⟨some 27, .len true (.tmp 26), none⟩,
  ⟨some 28, .arith .gtr (.tmp 27) (.cst (.int .i64 64)), none⟩,
  ⟨some 24, .mov (.tmp 28), none⟩] :: K) fr S := rfl
def label_Check_r11 : List POper := [
  ⟨some 2, .mov (.cst (.int .i64 3)), none⟩]
@[simp] theorem label_Check_r11_go (T : Tbl) (K : List Kt) (fr : Fr) (S : St) : gval T (.ops label_Check_r11 :: K) fr S = gval T (.ops [
  ⟨some 2, .mov (.cst (.int .i64 3)), none⟩] :: K) fr S := rfl
def label_Check_r12 : List POper := [
  ⟨some 30, .mov (.tmp 3), none⟩,
  ⟨some 31, .arith .gtr (.tmp 30) (.cst (.int .i64 0)), none⟩,
  ⟨some 32, .mov (.tmp 31), none⟩,
  ⟨some 33, .faddr 0 (.tmp 4), some (32, true)⟩,
  ⟨some 34, .load false 1 false (.tmp 33), some (32, true)⟩,
  ⟨some 35, .mov (.tmp 0), some (32, true)⟩,
  ⟨some 36, .mov (.tmp 3), some (32, true)⟩,
  ⟨some 37, .arith .sub (.tmp 36) (.cst (.int .i64 1)), some (32, true)⟩,
  ⟨some 38, .iaddr 2 (.tmp 35) (.tmp 37), some (32, true)⟩,
  ⟨some 39, .faddr 0 (.tmp 38), some (32, true)⟩,
  ⟨some 40, .load false 1 true (.tmp 39), some (32, true)⟩,
  ⟨some 41, .arith .leq (.tmp 34) (.tmp 40), some (32, true)⟩,
  ⟨some 42, .pick (.tmp 32) (.tmp 41) (.cst (.bool false)), none⟩,
  ⟨some 29, .mov (.tmp 42), none⟩]
@[simp] theorem label_Check_r12_go (T : Tbl) (K : List Kt) (fr : Fr) (S : St) : gval T (.ops label_Check_r12 :: K) fr S = gval T (.ops [
  ⟨some 30, .mov (.tmp 3), none⟩,
  ⟨some 31, .arith .gtr (.tmp 30) (.cst (.int .i64 0)), none⟩,
  ⟨some 32, .mov (.tmp 31), none⟩,
  ⟨some 33, .faddr 0 (.tmp 4), some (32, true)⟩,
  ⟨some 34, .load false 1 false (.tmp 33), some (32, true)⟩,
  ⟨some 35, .mov (.tmp 0), some (32, true)⟩,
  ⟨some 36, .mov (.tmp 3), some (32, true)⟩,
  ⟨some 37, .arith .sub (.tmp 36) (.cst (.int .i64 1)), some (32, true)⟩,
  ⟨some 38, .iaddr 2 (.tmp 35) (.tmp 37), some (32, true)⟩,
  ⟨some 39, .faddr 0 (.tmp 38), some (32, true)⟩,
  ⟨some 40, .load false 1 true (.tmp 39), some (32, true)⟩,
  ⟨some 41, .arith .leq (.tmp 34) (.tmp 40), some (32, true)⟩,
  ⟨some 42, .pick (.tmp 32) (.tmp 41) (.cst (.bool false)), none⟩,
  ⟨some 29, .mov (.tmp 42), none⟩] :: K) fr S := rfl
def label_Check_r13 : List POper := [
  ⟨some 2, .mov (.cst (.int .i64 13)), none⟩]
@[simp] theorem label_Check_r13_go (T : Tbl) (K : List Kt) (fr : Fr) (S : St) : gval T (.ops label_Check_r13 :: K) fr S = gval T (.ops [
  ⟨some 2, .mov (.cst (.int .i64 13)), none⟩] :: K) fr S := rfl
def label_Check_r14 : List POper := [
  ⟨some 43, .arith .add (.tmp 10) (.cst (.int .i64 1)), none⟩,
  ⟨some 10, .mov (.tmp 43), none⟩]
@[simp] theorem label_Check_r14_go (T : Tbl) (K : List Kt) (fr : Fr) (S : St) : gval T (.ops label_Check_r14 :: K) fr S = gval T (.ops [
  ⟨some 43, .arith .add (.tmp 10) (.cst (.int .i64 1)), none⟩,
  ⟨some 10, .mov (.tmp 43), none⟩] :: K) fr S := rfl
def label_Check_l0 : PCode :=
  (.seq (.region label_Check_r4) (.seq (.cond (.tmp 11) .skip (.exit 0)) (.seq (.block 1 (.seq (.clr [(12, 15)] (.region label_Check_r5)) (.block 2 (.seq (.clr [(16, 20)] (.region label_Check_r6)) (.cond (.tmp 15) (.seq (.region label_Check_r7) .ret) (.seq (.clr [(21, 24)] (.region label_Check_r8)) (.cond (.tmp 20) (.seq (.region label_Check_r9) .ret) (.seq (.clr [(25, 29)] (.region label_Check_r10)) (.cond (.tmp 24) (.seq (.region label_Check_r11) .ret) (.seq (.clr [(30, 43)] (.region label_Check_r12)) (.cond (.tmp 29) (.seq (.region label_Check_r13) .ret) .skip))))))))))) (.clr [(43, 44)] (.region label_Check_r14)))))
@[simp] theorem label_Check_l0_go (T : Tbl) (K : List Kt) (fr : Fr) (S : St) : gval T (.code label_Check_l0 :: K) fr S = gval T (.code (.seq (.region label_Check_r4) (.seq (.cond (.tmp 11) .skip (.exit 0)) (.seq (.block 1 (.seq (.clr [(12, 15)] (.region label_Check_r5)) (.block 2 (.seq (.clr [(16, 20)] (.region label_Check_r6)) (.cond (.tmp 15) (.seq (.region label_Check_r7) .ret) (.seq (.clr [(21, 24)] (.region label_Check_r8)) (.cond (.tmp 20) (.seq (.region label_Check_r9) .ret) (.seq (.clr [(25, 29)] (.region label_Check_r10)) (.cond (.tmp 24) (.seq (.region label_Check_r11) .ret) (.seq (.clr [(30, 43)] (.region label_Check_r12)) (.cond (.tmp 29) (.seq (.region label_Check_r13) .ret) .skip))))))))))) (.clr [(43, 44)] (.region label_Check_r14))))) :: K) fr S := rfl
def label_Check_r15 : List POper := [
  ⟨some 2, .mov (.cst (.int .i64 0)), none⟩]
@[simp] theorem label_Check_r15_go (T : Tbl) (K : List Kt) (fr : Fr) (S : St) : gval T (.ops label_Check_r15 :: K) fr S = gval T (.ops [
  ⟨some 2, .mov (.cst (.int .i64 0)), none⟩] :: K) fr S := rfl
def label_Check : PCodeFn :=
  ⟨1, [.tmp 2],
  (.seq (.region label_Check_r0) (.seq (.seq (.clr [(5, 7)] (.region label_Check_r1)) (.cond (.tmp 7) (.seq (.region label_Check_r2) .ret) .skip)) (.seq (.seq (.region label_Check_r3) (.block 0 (.loop label_Check_l0))) (.seq (.region label_Check_r15) .ret)))), false⟩

/-! gauge/gaugeref06.Check: 98 -/
def ref06_Check_r0 : List POper := [
  ⟨some 2, .mov (.cst (.int .i64 0)), none⟩]
@[simp] theorem ref06_Check_r0_go (T : Tbl) (K : List Kt) (fr : Fr) (S : St) : gval T (.ops ref06_Check_r0 :: K) fr S = gval T (.ops [
  ⟨some 2, .mov (.cst (.int .i64 0)), none⟩] :: K) fr S := rfl
def ref06_Check_r1 : List POper := [
  ⟨some 4, .mov (.tmp 0), none⟩,
  ⟨some 5, .len false (.tmp 4), none⟩,
  ⟨some 6, .arith .gtr (.tmp 5) (.cst (.int .i64 8)), none⟩]
@[simp] theorem ref06_Check_r1_go (T : Tbl) (K : List Kt) (fr : Fr) (S : St) : gval T (.ops ref06_Check_r1 :: K) fr S = gval T (.ops [
  ⟨some 4, .mov (.tmp 0), none⟩,
  ⟨some 5, .len false (.tmp 4), none⟩,
  ⟨some 6, .arith .gtr (.tmp 5) (.cst (.int .i64 8)), none⟩] :: K) fr S := rfl
def ref06_Check_r2 : List POper := [
  ⟨some 2, .mov (.cst (.int .i64 3)), none⟩]
@[simp] theorem ref06_Check_r2_go (T : Tbl) (K : List Kt) (fr : Fr) (S : St) : gval T (.ops ref06_Check_r2 :: K) fr S = gval T (.ops [
  ⟨some 2, .mov (.cst (.int .i64 3)), none⟩] :: K) fr S := rfl
def ref06_Check_r3 : List POper := [
  ⟨some 3, .mov (.cst (.int .i64 0)), none⟩]
@[simp] theorem ref06_Check_r3_go (T : Tbl) (K : List Kt) (fr : Fr) (S : St) : gval T (.ops ref06_Check_r3 :: K) fr S = gval T (.ops [
  ⟨some 3, .mov (.cst (.int .i64 0)), none⟩] :: K) fr S := rfl
def ref06_Check_r4 : List POper := [
  ⟨some 7, .mov (.tmp 3), none⟩,
  ⟨some 8, .mov (.tmp 0), none⟩,
  ⟨some 9, .len false (.tmp 8), none⟩,
  ⟨some 10, .arith .lss (.tmp 7) (.tmp 9), none⟩]
@[simp] theorem ref06_Check_r4_go (T : Tbl) (K : List Kt) (fr : Fr) (S : St) : gval T (.ops ref06_Check_r4 :: K) fr S = gval T (.ops [
  ⟨some 7, .mov (.tmp 3), none⟩,
  ⟨some 8, .mov (.tmp 0), none⟩,
  ⟨some 9, .len false (.tmp 8), none⟩,
  ⟨some 10, .arith .lss (.tmp 7) (.tmp 9), none⟩] :: K) fr S := rfl
def ref06_Check_r6 : List POper := [
  ⟨some 13, .mov (.tmp 0), none⟩,
  ⟨some 14, .mov (.tmp 3), none⟩,
  ⟨some 15, .iaddr 2 (.tmp 13) (.tmp 14), none⟩,
  ⟨some 16, .faddr 0 (.tmp 15), none⟩,
  ⟨some 17, .load false 1 false (.tmp 16), none⟩,
  ⟨some 18, .call .pur 126 [(.tmp 17)], none⟩,
  ⟨some 19, .un .not (.tmp 18), none⟩]
@[simp] theorem ref06_Check_r6_go (T : Tbl) (K : List Kt) (fr : Fr) (S : St) : gval T (.ops ref06_Check_r6 :: K) fr S = gval T (.ops [
  ⟨some 13, .mov (.tmp 0), none⟩,
  ⟨some 14, .mov (.tmp 3), none⟩,
  ⟨some 15, .iaddr 2 (.tmp 13) (.tmp 14), none⟩,
  ⟨some 16, .faddr 0 (.tmp 15), none⟩,
  ⟨some 17, .load false 1 false (.tmp 16), none⟩,
  ⟨some 18, .call .pur 126 [(.tmp 17)], none⟩,
  ⟨some 19, .un .not (.tmp 18), none⟩] :: K) fr S := rfl
def ref06_Check_r7 : List POper := [
  ⟨some 2, .mov (.cst (.int .i64 8)), none⟩]
@[simp] theorem ref06_Check_r7_go (T : Tbl) (K : List Kt) (fr : Fr) (S : St) : gval T (.ops ref06_Check_r7 :: K) fr S = gval T (.ops [
  ⟨some 2, .mov (.cst (.int .i64 8)), none⟩] :: K) fr S := rfl
def ref06_Check_r8 : List POper := [
  ⟨some 20, .mov (.tmp 0), none⟩,
  ⟨some 21, .mov (.tmp 3), none⟩,
  ⟨some 22, .iaddr 2 (.tmp 20) (.tmp 21), none⟩,
  ⟨some 23, .faddr 1 (.tmp 22), none⟩,
  ⟨some 24, .load false 1 false (.tmp 23), none⟩,
  ⟨some 25, .arith .eql (.tmp 24) (.cst (.str [])), none⟩]
@[simp] theorem ref06_Check_r8_go (T : Tbl) (K : List Kt) (fr : Fr) (S : St) : gval T (.ops ref06_Check_r8 :: K) fr S = gval T (.ops [
  ⟨some 20, .mov (.tmp 0), none⟩,
  ⟨some 21, .mov (.tmp 3), none⟩,
  ⟨some 22, .iaddr 2 (.tmp 20) (.tmp 21), none⟩,
  ⟨some 23, .faddr 1 (.tmp 22), none⟩,
  ⟨some 24, .load false 1 false (.tmp 23), none⟩,
  ⟨some 25, .arith .eql (.tmp 24) (.cst (.str [])), none⟩] :: K) fr S := rfl
def ref06_Check_r9 : List POper := [
  ⟨some 2, .mov (.cst (.int .i64 2)), none⟩]
@[simp] theorem ref06_Check_r9_go (T : Tbl) (K : List Kt) (fr : Fr) (S : St) : gval T (.ops ref06_Check_r9 :: K) fr S = gval T (.ops [
  ⟨some 2, .mov (.cst (.int .i64 2)), none⟩] :: K) fr S := rfl
def ref06_Check_r10 : List POper := [
  ⟨some 26, .mov (.tmp 0), none⟩,
  ⟨some 27, .mov (.tmp 3), none⟩,
  ⟨some 28, .iaddr 2 (.tmp 26) (.tmp 27), none⟩,
  ⟨some 29, .faddr 1 (.tmp 28), none⟩,
  ⟨some 30, .load false 1 false (.tmp 29), none⟩,
  ⟨some 31, .len true (.tmp 30), none⟩,
  ⟨some 32, .arith .gtr (.tmp 31) (.cst (.int .i64 64)), none⟩]
@[simp] theorem ref06_Check_r10_go (T : Tbl) (K : List Kt) (fr : Fr) (S : St) : gval T (.ops ref06_Check_r10 :: K) fr S = gval T (.ops [
  ⟨some 26, .mov (.tmp 0), none⟩,
  ⟨some 27, .mov (.tmp 3), none⟩,
  ⟨some 28, .iaddr 2 (.tmp 26) (.tmp 27), none⟩,
  ⟨some 29, .faddr 1 (.tmp 28), none⟩,
  ⟨some 30, .load false 1 false (.tmp 29), none⟩,
  ⟨some 31, .len true (.tmp 30), none⟩,
  ⟨some 32, .arith .gtr (.tmp 31) (.cst (.int .i64 64)), none⟩] :: K) fr S := rfl
def ref06_Check_r11 : List POper := [
  ⟨some 2, .mov (.cst (.int .i64 3)), none⟩]
@[simp] theorem ref06_Check_r11_go (T : Tbl) (K : List Kt) (fr : Fr) (S : St) : gval T (.ops ref06_Check_r11 :: K) fr S = gval T (.ops [
  ⟨some 2, .mov (.cst (.int .i64 3)), none⟩] :: K) fr S := rfl
def ref06_Check_r12 : List POper := [
  ⟨some 33, .mov (.tmp 3), none⟩,
  ⟨some 34, .arith .gtr (.tmp 33) (.cst (.int .i64 0)), none⟩,
  ⟨some 35, .mov (.tmp 34), none⟩,
  ⟨some 36, .mov (.tmp 0), some (35, true)⟩,
  ⟨some 37, .mov (.tmp 3), some (35, true)⟩,
  ⟨some 38, .iaddr 2 (.tmp 36) (.tmp 37), some (35, true)⟩,
  ⟨some 39, .faddr 0 (.tmp 38), some (35, true)⟩,
  ⟨some 40, .load false 1 true (.tmp 39), some (35, true)⟩,
  ⟨some 41, .mov (.tmp 0), some (35, true)⟩,
  ⟨some 42, .mov (.tmp 3), some (35, true)⟩,
  ⟨some 43, .arith .sub (.tmp 42) (.cst (.int .i64 1)), some (35, true)⟩,
  ⟨some 44, .iaddr 2 (.tmp 41) (.tmp 43), some (35, true)⟩,
  ⟨some 45, .faddr 0 (.tmp 44), some (35, true)⟩,
  ⟨some 46, .load false 1 true (.tmp 45), some (35, true)⟩,
  ⟨some 47, .arith .leq (.tmp 40) (.tmp 46), some (35, true)⟩,
  ⟨some 48, .pick (.tmp 35) (.tmp 47) (.cst (.bool false)), none⟩]
@[simp] theorem ref06_Check_r12_go (T : Tbl) (K : List Kt) (fr : Fr) (S : St) : gval T (.ops ref06_Check_r12 :: K) fr S = gval T (.ops [
  ⟨some 33, .mov (.tmp 3), none⟩,
  ⟨some 34, .arith .gtr (.tmp 33) (.cst (.int .i64 0)), none⟩,
  ⟨some 35, .mov (.tmp 34), none⟩,
  ⟨some 36, .mov (.tmp 0), some (35, true)⟩,
  ⟨some 37, .mov (.tmp 3), some (35, true)⟩,
  ⟨some 38, .iaddr 2 (.tmp 36) (.tmp 37), some (35, true)⟩,
  ⟨some 39, .faddr 0 (.tmp 38), some (35, true)⟩,
  ⟨some 40, .load false 1 true (.tmp 39), some (35, true)⟩,
  ⟨some 41, .mov (.tmp 0), some (35, true)⟩,
  ⟨some 42, .mov (.tmp 3), some (35, true)⟩,
  ⟨some 43, .arith .sub (.tmp 42) (.cst (.int .i64 1)), some (35, true)⟩,
  ⟨some 44, .iaddr 2 (.tmp 41) (.tmp 43), some (35, true)⟩,
  ⟨some 45, .faddr 0 (.tmp 44), some (35, true)⟩,
  ⟨some 46, .load false 1 true (.tmp 45), some (35, true)⟩,
  ⟨some 47, .arith .leq (.tmp 40) (.tmp 46), some (35, true)⟩,
  ⟨some 48, .pick (.tmp 35) (.tmp 47) (.cst (.bool false)), none⟩] :: K) fr S := rfl
def ref06_Check_r13 : List POper := [
  ⟨some 2, .mov (.cst (.int .i64 13)), none⟩]
@[simp] theorem ref06_Check_r13_go (T : Tbl) (K : List Kt) (fr : Fr) (S : St) : gval T (.ops ref06_Check_r13 :: K) fr S = gval T (.ops [
  ⟨some 2, .mov (.cst (.int .i64 13)), none⟩] :: K) fr S := rfl
def ref06_Check_r5 : List POper := [
  ⟨some 11, .mov (.tmp 3), none⟩,
  ⟨some 12, .arith .add (.tmp 11) (.cst (.int .i64 1)), none⟩,
  ⟨some 3, .mov (.tmp 12), none⟩]
@[simp] theorem ref06_Check_r5_go (T : Tbl) (K : List Kt) (fr : Fr) (S : St) : gval T (.ops ref06_Check_r5 :: K) fr S = gval T (.ops [
  ⟨some 11, .mov (.tmp 3), none⟩,
  ⟨some 12, .arith .add (.tmp 11) (.cst (.int .i64 1)), none⟩,
  ⟨some 3, .mov (.tmp 12), none⟩] :: K) fr S := rfl
def ref06_Check_l0 : PCode :=
  (.seq (.seq (.clr [(7, 10)] (.region ref06_Check_r4)) (.cond (.tmp 10) .skip (.exit 0))) (.seq (.block 1 (.seq (.seq (.clr [(13, 19)] (.region ref06_Check_r6)) (.cond (.tmp 19) (.seq (.region ref06_Check_r7) .ret) .skip)) (.seq (.seq (.clr [(20, 25)] (.region ref06_Check_r8)) (.cond (.tmp 25) (.seq (.region ref06_Check_r9) .ret) .skip)) (.seq (.seq (.clr [(26, 32)] (.region ref06_Check_r10)) (.cond (.tmp 32) (.seq (.region ref06_Check_r11) .ret) .skip)) (.seq (.clr [(33, 48)] (.region ref06_Check_r12)) (.cond (.tmp 48) (.seq (.region ref06_Check_r13) .ret) .skip)))))) (.clr [(11, 13)] (.region ref06_Check_r5))))
@[simp] theorem ref06_Check_l0_go (T : Tbl) (K : List Kt) (fr : Fr) (S : St) : gval T (.code ref06_Check_l0 :: K) fr S = gval T (.code (.seq (.seq (.clr [(7, 10)] (.region ref06_Check_r4)) (.cond (.tmp 10) .skip (.exit 0))) (.seq (.block 1 (.seq (.seq (.clr [(13, 19)] (.region ref06_Check_r6)) (.cond (.tmp 19) (.seq (.region ref06_Check_r7) .ret) .skip)) (.seq (.seq (.clr [(20, 25)] (.region ref06_Check_r8)) (.cond (.tmp 25) (.seq (.region ref06_Check_r9) .ret) .skip)) (.seq (.seq (.clr [(26, 32)] (.region ref06_Check_r10)) (.cond (.tmp 32) (.seq (.region ref06_Check_r11) .ret) .skip)) (.seq (.clr [(33, 48)] (.region ref06_Check_r12)) (.cond (.tmp 48) (.seq (.region ref06_Check_r13) .ret) .skip)))))) (.clr [(11, 13)] (.region ref06_Check_r5)))) :: K) fr S := rfl
def ref06_Check_r14 : List POper := [
  ⟨some 2, .mov (.cst (.int .i64 0)), none⟩]
@[simp] theorem ref06_Check_r14_go (T : Tbl) (K : List Kt) (fr : Fr) (S : St) : gval T (.ops ref06_Check_r14 :: K) fr S = gval T (.ops [
  ⟨some 2, .mov (.cst (.int .i64 0)), none⟩] :: K) fr S := rfl
def ref06_Check : PCodeFn :=
  ⟨1, [.tmp 2],
  (.seq (.region ref06_Check_r0) (.seq (.seq (.clr [(4, 6)] (.region ref06_Check_r1)) (.cond (.tmp 6) (.seq (.region ref06_Check_r2) .ret) .skip)) (.seq (.seq (.region ref06_Check_r3) (.block 0 (.loop ref06_Check_l0))) (.seq (.region ref06_Check_r14) .ret)))), false⟩

/-! gauge/gaugelaw06.lives: 27 -/
def law06_lives_r0 : List POper := [
  ⟨some 0, .mov (.cst (.bool false)), none⟩]
@[simp] theorem law06_lives_r0_go (T : Tbl) (K : List Kt) (fr : Fr) (S : St) : gval T (.ops law06_lives_r0 :: K) fr S = gval T (.ops [
  ⟨some 0, .mov (.cst (.bool false)), none⟩] :: K) fr S := rfl
def law06_lives_r1 : List POper := [
  ⟨some 4, .build [(.str []), (.str [])] [(0, 1, (.cst (.str [97]))), (1, 1, (.cst (.str [120])))], none⟩,
  ⟨some 5, .build [(.str []), (.str [])] [(0, 1, (.cst (.str [98]))), (1, 1, (.cst (.str [34, 92])))], none⟩,
  ⟨some 6, .bsl false (.agg [(.str []), (.str [])]) 2 [(0, (.tmp 4)), (1, (.tmp 5))], none⟩,
  ⟨some 1, .mov (.tmp 6), none⟩]
@[simp] theorem law06_lives_r1_go (T : Tbl) (K : List Kt) (fr : Fr) (S : St) : gval T (.ops law06_lives_r1 :: K) fr S = gval T (.ops [
  ⟨some 4, .build [(.str []), (.str [])] [(0, 1, (.cst (.str [97]))), (1, 1, (.cst (.str [120])))], none⟩,
  ⟨some 5, .build [(.str []), (.str [])] [(0, 1, (.cst (.str [98]))), (1, 1, (.cst (.str [34, 92])))], none⟩,
  ⟨some 6, .bsl false (.agg [(.str []), (.str [])]) 2 [(0, (.tmp 4)), (1, (.tmp 5))], none⟩,
  ⟨some 1, .mov (.tmp 6), none⟩] :: K) fr S := rfl
def law06_lives_r2 : List POper := [
  ⟨some 8, .call .pur 22 [(.cst (.str [123, 125]))], none⟩,
  ⟨some 7, .mov (.tmp 8), none⟩,
  ⟨some 9, .extract 0 (.tmp 7), none⟩,
  ⟨some 10, .extract 1 (.tmp 7), none⟩,
  ⟨some 2, .mov (.tmp 9), none⟩,
  ⟨some 3, .mov (.tmp 10), none⟩]
@[simp] theorem law06_lives_r2_go (T : Tbl) (K : List Kt) (fr : Fr) (S : St) : gval T (.ops law06_lives_r2 :: K) fr S = gval T (.ops [
  ⟨some 8, .call .pur 22 [(.cst (.str [123, 125]))], none⟩,
  ⟨some 7, .mov (.tmp 8), none⟩,
  ⟨some 9, .extract 0 (.tmp 7), none⟩,
  ⟨some 10, .extract 1 (.tmp 7), none⟩,
  ⟨some 2, .mov (.tmp 9), none⟩,
  ⟨some 3, .mov (.tmp 10), none⟩] :: K) fr S := rfl
def law06_lives_r3 : List POper := [
  ⟨some 11, .mov (.tmp 1), none⟩,
  ⟨some 12, .call .std 24 [(.tmp 11)], none⟩,
  ⟨some 13, .arith .eql (.tmp 12) (.cst (.str [123, 97, 61, 34, 120, 34, 44, 32, 98, 61, 34, 92, 34, 92, 92, 34, 125])), none⟩,
  ⟨some 14, .mov (.tmp 13), none⟩,
  ⟨some 15, .mov (.tmp 2), some (14, true)⟩,
  ⟨some 16, .len false (.tmp 15), some (14, true)⟩,
  ⟨some 17, .arith .eql (.tmp 16) (.cst (.int .i64 0)), some (14, true)⟩,
  ⟨some 18, .pick (.tmp 14) (.tmp 17) (.cst (.bool false)), none⟩,
  ⟨some 19, .mov (.tmp 18), none⟩,
  ⟨some 20, .mov (.tmp 3), some (19, true)⟩,
  ⟨some 21, .arith .eql (.tmp 20) (.cst (.int .i64 0)), some (19, true)⟩,
  ⟨some 22, .pick (.tmp 19) (.tmp 21) (.cst (.bool false)), none⟩,
  ⟨some 23, .mov (.tmp 22), none⟩,
  ⟨some 24, .mov (.tmp 1), some (23, true)⟩,
  ⟨some 25, .call .std 40 [(.tmp 24)], some (23, true)⟩,
  ⟨some 26, .arith .eql (.tmp 25) (.cst (.int .i64 0)), some (23, true)⟩,
  ⟨some 27, .pick (.tmp 23) (.tmp 26) (.cst (.bool false)), none⟩,
  ⟨some 28, .mov (.tmp 27), none⟩,
  ⟨some 29, .pick (.tmp 28) (.cst (.bool true)) (.cst (.bool false)), none⟩,
  ⟨some 30, .mov (.tmp 29), none⟩,
  ⟨some 31, .pick (.tmp 30) (.cst (.bool true)) (.cst (.bool false)), none⟩,
  ⟨some 32, .mov (.tmp 31), none⟩,
  ⟨some 33, .pick (.tmp 32) (.cst (.bool true)) (.cst (.bool false)), none⟩,
  ⟨some 34, .mov (.tmp 33), none⟩,
  ⟨some 35, .pick (.tmp 34) (.cst (.bool true)) (.cst (.bool false)), none⟩,
  ⟨some 36, .mov (.tmp 35), none⟩,
  ⟨some 37, .pick (.tmp 36) (.cst (.bool true)) (.cst (.bool false)), none⟩,
  ⟨some 0, .mov (.tmp 37), none⟩]
@[simp] theorem law06_lives_r3_go (T : Tbl) (K : List Kt) (fr : Fr) (S : St) : gval T (.ops law06_lives_r3 :: K) fr S = gval T (.ops [
  ⟨some 11, .mov (.tmp 1), none⟩,
  ⟨some 12, .call .std 24 [(.tmp 11)], none⟩,
  ⟨some 13, .arith .eql (.tmp 12) (.cst (.str [123, 97, 61, 34, 120, 34, 44, 32, 98, 61, 34, 92, 34, 92, 92, 34, 125])), none⟩,
  ⟨some 14, .mov (.tmp 13), none⟩,
  ⟨some 15, .mov (.tmp 2), some (14, true)⟩,
  ⟨some 16, .len false (.tmp 15), some (14, true)⟩,
  ⟨some 17, .arith .eql (.tmp 16) (.cst (.int .i64 0)), some (14, true)⟩,
  ⟨some 18, .pick (.tmp 14) (.tmp 17) (.cst (.bool false)), none⟩,
  ⟨some 19, .mov (.tmp 18), none⟩,
  ⟨some 20, .mov (.tmp 3), some (19, true)⟩,
  ⟨some 21, .arith .eql (.tmp 20) (.cst (.int .i64 0)), some (19, true)⟩,
  ⟨some 22, .pick (.tmp 19) (.tmp 21) (.cst (.bool false)), none⟩,
  ⟨some 23, .mov (.tmp 22), none⟩,
  ⟨some 24, .mov (.tmp 1), some (23, true)⟩,
  ⟨some 25, .call .std 40 [(.tmp 24)], some (23, true)⟩,
  ⟨some 26, .arith .eql (.tmp 25) (.cst (.int .i64 0)), some (23, true)⟩,
  ⟨some 27, .pick (.tmp 23) (.tmp 26) (.cst (.bool false)), none⟩,
  ⟨some 28, .mov (.tmp 27), none⟩,
  ⟨some 29, .pick (.tmp 28) (.cst (.bool true)) (.cst (.bool false)), none⟩,
  ⟨some 30, .mov (.tmp 29), none⟩,
  ⟨some 31, .pick (.tmp 30) (.cst (.bool true)) (.cst (.bool false)), none⟩,
  ⟨some 32, .mov (.tmp 31), none⟩,
  ⟨some 33, .pick (.tmp 32) (.cst (.bool true)) (.cst (.bool false)), none⟩,
  ⟨some 34, .mov (.tmp 33), none⟩,
  ⟨some 35, .pick (.tmp 34) (.cst (.bool true)) (.cst (.bool false)), none⟩,
  ⟨some 36, .mov (.tmp 35), none⟩,
  ⟨some 37, .pick (.tmp 36) (.cst (.bool true)) (.cst (.bool false)), none⟩,
  ⟨some 0, .mov (.tmp 37), none⟩] :: K) fr S := rfl
def law06_lives : PCodeFn :=
  ⟨0, [.tmp 0],
  (.seq (.region law06_lives_r0) (.seq (.clr [(4, 7)] (.region law06_lives_r1)) (.seq (.clr [(7, 11)] (.region law06_lives_r2)) (.seq (.clr [(11, 38)] (.region law06_lives_r3)) .ret)))), false⟩

/-! gauge/label.Parse: 22 -/
def label_Parse_r0 : List POper := [
  ⟨some 2, .mov (.cst .nils), none⟩,
  ⟨some 3, .mov (.cst (.int .i64 0)), none⟩]
@[simp] theorem label_Parse_r0_go (T : Tbl) (K : List Kt) (fr : Fr) (S : St) : gval T (.ops label_Parse_r0 :: K) fr S = gval T (.ops [
  ⟨some 2, .mov (.cst .nils), none⟩,
  ⟨some 3, .mov (.cst (.int .i64 0)), none⟩] :: K) fr S := rfl
def label_Parse_r1 : List POper := [
  ⟨some 14, .mov (.tmp 0), none⟩,
  ⟨some 15, .call .pur 94 [(.tmp 14), (.cst (.str [123]))], none⟩,
  ⟨some 13, .mov (.tmp 15), none⟩,
  ⟨some 16, .extract 0 (.tmp 13), none⟩,
  ⟨some 17, .extract 1 (.tmp 13), none⟩,
  ⟨some 4, .mov (.tmp 16), none⟩,
  ⟨some 5, .mov (.tmp 17), none⟩]
@[simp] theorem label_Parse_r1_go (T : Tbl) (K : List Kt) (fr : Fr) (S : St) : gval T (.ops label_Parse_r1 :: K) fr S = gval T (.ops [
  ⟨some 14, .mov (.tmp 0), none⟩,
  ⟨some 15, .call .pur 94 [(.tmp 14), (.cst (.str [123]))], none⟩,
  ⟨some 13, .mov (.tmp 15), none⟩,
  ⟨some 16, .extract 0 (.tmp 13), none⟩,
  ⟨some 17, .extract 1 (.tmp 13), none⟩,
  ⟨some 4, .mov (.tmp 16), none⟩,
  ⟨some 5, .mov (.tmp 17), none⟩] :: K) fr S := rfl
def label_Parse_r2 : List POper := [
  ⟨some 6, .mov (.cst .nils), none⟩]
@[simp] theorem label_Parse_r2_go (T : Tbl) (K : List Kt) (fr : Fr) (S : St) : gval T (.ops label_Parse_r2 :: K) fr S = gval T (.ops [
  ⟨some 6, .mov (.cst .nils), none⟩] :: K) fr S := rfl
def label_Parse_r3 : List POper := [
  ⟨some 18, .mov (.tmp 5), none⟩,
  ⟨some 19, .mov (.tmp 18), none⟩,
  ⟨some 20, .mov (.tmp 4), some (19, true)⟩,
  ⟨some 21, .arith .neq (.tmp 20) (.cst (.str [125])), some (19, true)⟩,
  ⟨some 22, .pick (.tmp 19) (.tmp 21) (.cst (.bool false)), none⟩]
@[simp] theorem label_Parse_r3_go (T : Tbl) (K : List Kt) (fr : Fr) (S : St) : gval T (.ops label_Parse_r3 :: K) fr S = gval T (.ops [
  ⟨some 18, .mov (.tmp 5), none⟩,
  ⟨some 19, .mov (.tmp 18), none⟩,
  ⟨some 20, .mov (.tmp 4), some (19, true)⟩,
  ⟨some 21, .arith .neq (.tmp 20) (.cst (.str [125])), some (19, true)⟩,
  ⟨some 22, .pick (.tmp 19) (.tmp 21) (.cst (.bool false)), none⟩] :: K) fr S := rfl
def label_Parse_r4 : List POper := [
  ⟨some 23, .mov (.tmp 6), none⟩,
  ⟨some 24, .len false (.tmp 23), none⟩,
  ⟨some 25, .arith .gtr (.tmp 24) (.cst (.int .i64 0)), none⟩]
@[simp] theorem label_Parse_r4_go (T : Tbl) (K : List Kt) (fr : Fr) (S : St) : gval T (.ops label_Parse_r4 :: K) fr S = gval T (.ops [
  ⟨some 23, .mov (.tmp 6), none⟩,
  ⟨some 24, .len false (.tmp 23), none⟩,
  ⟨some 25, .arith .gtr (.tmp 24) (.cst (.int .i64 0)), none⟩] :: K) fr S := rfl
def label_Parse_r5 : List POper := [
  ⟨some 27, .mov (.tmp 4), none⟩,
  ⟨some 28, .call .pur 94 [(.tmp 27), (.cst (.str [44, 32]))], none⟩,
  ⟨some 26, .mov (.tmp 28), none⟩,
  ⟨some 29, .extract 0 (.tmp 26), none⟩,
  ⟨some 30, .extract 1 (.tmp 26), none⟩,
  ⟨some 4, .mov (.tmp 29), none⟩,
  ⟨some 5, .mov (.tmp 30), none⟩]
@[simp] theorem label_Parse_r5_go (T : Tbl) (K : List Kt) (fr : Fr) (S : St) : gval T (.ops label_Parse_r5 :: K) fr S = gval T (.ops [
  ⟨some 27, .mov (.tmp 4), none⟩,
  ⟨some 28, .call .pur 94 [(.tmp 27), (.cst (.str [44, 32]))], none⟩,
  ⟨some 26, .mov (.tmp 28), none⟩,
  ⟨some 29, .extract 0 (.tmp 26), none⟩,
  ⟨some 30, .extract 1 (.tmp 26), none⟩,
  ⟨some 4, .mov (.tmp 29), none⟩,
  ⟨some 5, .mov (.tmp 30), none⟩] :: K) fr S := rfl
def label_Parse_r6 : List POper := [
  ⟨some 31, .mov (.tmp 5), none⟩,
  ⟨some 32, .un .not (.tmp 31), none⟩]
@[simp] theorem label_Parse_r6_go (T : Tbl) (K : List Kt) (fr : Fr) (S : St) : gval T (.ops label_Parse_r6 :: K) fr S = gval T (.ops [
  ⟨some 31, .mov (.tmp 5), none⟩,
  ⟨some 32, .un .not (.tmp 31), none⟩] :: K) fr S := rfl
def label_Parse_r7 : List POper := [
  ⟨some 34, .mov (.tmp 4), none⟩,
  ⟨some 35, .call .pur 95 [(.tmp 34), (.cst (.str [61]))], none⟩,
  ⟨some 33, .mov (.tmp 35), none⟩,
  ⟨some 36, .extract 0 (.tmp 33), none⟩,
  ⟨some 37, .extract 1 (.tmp 33), none⟩,
  ⟨some 38, .extract 2 (.tmp 33), none⟩,
  ⟨some 7, .mov (.tmp 36), none⟩,
  ⟨some 8, .mov (.tmp 37), none⟩,
  ⟨some 9, .mov (.tmp 38), none⟩]
@[simp] theorem label_Parse_r7_go (T : Tbl) (K : List Kt) (fr : Fr) (S : St) : gval T (.ops label_Parse_r7 :: K) fr S = gval T (.ops [
  ⟨some 34, .mov (.tmp 4), none⟩,
  ⟨some 35, .call .pur 95 [(.tmp 34), (.cst (.str [61]))], none⟩,
  ⟨some 33, .mov (.tmp 35), none⟩,
  ⟨some 36, .extract 0 (.tmp 33), none⟩,
  ⟨some 37, .extract 1 (.tmp 33), none⟩,
  ⟨some 38, .extract 2 (.tmp 33), none⟩,
  ⟨some 7, .mov (.tmp 36), none⟩,
  ⟨some 8, .mov (.tmp 37), none⟩,
  ⟨some 9, .mov (.tmp 38), none⟩] :: K) fr S := rfl
def label_Parse_r8 : List POper := [
  ⟨some 40, .mov (.tmp 8), none⟩,
  ⟨some 41, .call .pur 96 [(.tmp 40)], none⟩,
  ⟨some 39, .mov (.tmp 41), none⟩,
  ⟨some 42, .extract 0 (.tmp 39), none⟩,
  ⟨some 43, .extract 1 (.tmp 39), none⟩,
  ⟨some 44, .extract 2 (.tmp 39), none⟩,
  ⟨some 10, .mov (.tmp 42), none⟩,
  ⟨some 11, .mov (.tmp 43), none⟩,
  ⟨some 12, .mov (.tmp 44), none⟩]
@[simp] theorem label_Parse_r8_go (T : Tbl) (K : List Kt) (fr : Fr) (S : St) : gval T (.ops label_Parse_r8 :: K) fr S = gval T (.ops [
  ⟨some 40, .mov (.tmp 8), none⟩,
  ⟨some 41, .call .pur 96 [(.tmp 40)], none⟩,
  ⟨some 39, .mov (.tmp 41), none⟩,
  ⟨some 42, .extract 0 (.tmp 39), none⟩,
  ⟨some 43, .extract 1 (.tmp 39), none⟩,
  ⟨some 44, .extract 2 (.tmp 39), none⟩,
  ⟨some 10, .mov (.tmp 42), none⟩,
  ⟨some 11, .mov (.tmp 43), none⟩,
  ⟨some 12, .mov (.tmp 44), none⟩] :: K) fr S := rfl
def label_Parse_r9 : List POper := [
  ⟨some 45, .mov (.tmp 9), none⟩,
  ⟨some 46, .mov (.tmp 45), none⟩,
  ⟨some 47, .mov (.tmp 12), some (46, true)⟩,
  ⟨some 48, .pick (.tmp 46) (.tmp 47) (.cst (.bool false)), none⟩,
  ⟨some 49, .mov (.tmp 48), none⟩,
  ⟨some 50, .mov (.tmp 6), some (49, true)⟩,
  ⟨some 51, .len false (.tmp 50), some (49, true)⟩,
  ⟨some 52, .arith .lss (.tmp 51) (.cst (.int .i64 8)), some (49, true)⟩,
  ⟨some 53, .pick (.tmp 49) (.tmp 52) (.cst (.bool false)), none⟩,
  ⟨some 5, .mov (.tmp 53), none⟩]
@[simp] theorem label_Parse_r9_go (T : Tbl) (K : List Kt) (fr : Fr) (S : St) : gval T (.ops label_Parse_r9 :: K) fr S = gval T (.ops [
  ⟨some 45, .mov (.tmp 9), none⟩,
  ⟨some 46, .mov (.tmp 45), none⟩,
  ⟨some 47, .mov (.tmp 12), some (46, true)⟩,
  ⟨some 48, .pick (.tmp 46) (.tmp 47) (.cst (.bool false)), none⟩,
  ⟨some 49, .mov (.tmp 48), none⟩,
  ⟨some 50, .mov (.tmp 6), some (49, true)⟩,
  ⟨some 51, .len false (.tmp 50), some (49, true)⟩,
  ⟨some 52, .arith .lss (.tmp 51) (.cst (.int .i64 8)), some (49, true)⟩,
  ⟨some 53, .pick (.tmp 49) (.tmp 52) (.cst (.bool false)), none⟩,
  ⟨some 5, .mov (.tmp 53), none⟩] :: K) fr S := rfl
def label_Parse_r10 : List POper := [
  ⟨some 54, .mov (.tmp 5), none⟩]
@[simp] theorem label_Parse_r10_go (T : Tbl) (K : List Kt) (fr : Fr) (S : St) : gval T (.ops label_Parse_r10 :: K) fr S = gval T (.ops [
  ⟨some 54, .mov (.tmp 5), none⟩] :: K) fr S := rfl
def label_Parse_r11 : List POper := [
  ⟨some 55, .mov (.tmp 6), none⟩,
  ⟨some 56, .mov (.tmp 7), none⟩,
  ⟨some 57, .mov (.tmp 10), none⟩,
  ⟨some 58, .build [(.str []), (.str [])] [(0, 1, (.tmp 56)), (1, 1, (.tmp 57))], none⟩,
  ⟨some 59, .bsl false (.agg [(.str []), (.str [])]) 1 [(0, (.tmp 58))], none⟩,
  ⟨some 60, .app 2 32 (.tmp 55) (.tmp 59), none⟩,
  ⟨some 61, .mov (.tmp 11), none⟩,
  ⟨some 6, .mov (.tmp 60), none⟩,
  ⟨some 4, .mov (.tmp 61), none⟩]
@[simp] theorem label_Parse_r11_go (T : Tbl) (K : List Kt) (fr : Fr) (S : St) : gval T (.ops label_Parse_r11 :: K) fr S = gval T (.ops [
  ⟨some 55, .mov (.tmp 6), none⟩,
  ⟨some 56, .mov (.tmp 7), none⟩,
  ⟨some 57, .mov (.tmp 10), none⟩,
  ⟨some 58, .build [(.str []), (.str [])] [(0, 1, (.tmp 56)), (1, 1, (.tmp 57))], none⟩,
  ⟨some 59, .bsl false (.agg [(.str []), (.str [])]) 1 [(0, (.tmp 58))], none⟩,
  ⟨some 60, .app 2 32 (.tmp 55) (.tmp 59), none⟩,
  ⟨some 61, .mov (.tmp 11), none⟩,
  ⟨some 6, .mov (.tmp 60), none⟩,
  ⟨some 4, .mov (.tmp 61), none⟩] :: K) fr S := rfl
def label_Parse_l0 : PCode :=
  (.seq (.seq (.clr [(18, 22)] (.region label_Parse_r3)) (.cond (.tmp 22) .skip (.exit 0))) (.block 1 (.seq (.seq (.clr [(23, 25)] (.region label_Parse_r4)) (.cond (.tmp 25) (.seq (.clr [(26, 31)] (.region label_Parse_r5)) (.seq (.clr [(31, 32)] (.region label_Parse_r6)) (.cond (.tmp 32) (.exit 0) .skip))) .skip)) (.seq (.clr [(33, 39)] (.region label_Parse_r7)) (.seq (.clr [(39, 45)] (.region label_Parse_r8)) (.seq (.clr [(45, 54)] (.region label_Parse_r9)) (.seq (.region label_Parse_r10) (.cond (.tmp 54) (.clr [(55, 62)] (.region label_Parse_r11)) .skip))))))))
@[simp] theorem label_Parse_l0_go (T : Tbl) (K : List Kt) (fr : Fr) (S : St) : gval T (.code label_Parse_l0 :: K) fr S = gval T (.code (.seq (.seq (.clr [(18, 22)] (.region label_Parse_r3)) (.cond (.tmp 22) .skip (.exit 0))) (.block 1 (.seq (.seq (.clr [(23, 25)] (.region label_Parse_r4)) (.cond (.tmp 25) (.seq (.clr [(26, 31)] (.region label_Parse_r5)) (.seq (.clr [(31, 32)] (.region label_Parse_r6)) (.cond (.tmp 32) (.exit 0) .skip))) .skip)) (.seq (.clr [(33, 39)] (.region label_Parse_r7)) (.seq (.clr [(39, 45)] (.region label_Parse_r8)) (.seq (.clr [(45, 54)] (.region label_Parse_r9)) (.seq (.region label_Parse_r10) (.cond (.tmp 54) (.clr [(55, 62)] (.region label_Parse_r11)) .skip)))))))) :: K) fr S := rfl
def label_Parse_r12 : List POper := [
  ⟨some 62, .mov (.tmp 5), none⟩,
  ⟨some 63, .un .not (.tmp 62), none⟩,
  ⟨some 64, .mov (.tmp 63), none⟩,
  ⟨some 65, .mov (.tmp 6), some (64, false)⟩,
  ⟨some 66, .call .std 40 [(.tmp 65)], some (64, false)⟩,
  ⟨some 67, .arith .neq (.tmp 66) (.cst (.int .i64 0)), some (64, false)⟩,
  ⟨some 68, .pick (.tmp 64) (.cst (.bool true)) (.tmp 67), none⟩,
  ⟨some 69, .mov (.tmp 68), none⟩,
  ⟨some 70, .mov (.tmp 6), some (69, false)⟩,
  ⟨some 71, .call .std 24 [(.tmp 70)], some (69, false)⟩,
  ⟨some 72, .mov (.tmp 0), some (69, false)⟩,
  ⟨some 73, .arith .neq (.tmp 71) (.tmp 72), some (69, false)⟩,
  ⟨some 74, .pick (.tmp 69) (.cst (.bool true)) (.tmp 73), none⟩]
@[simp] theorem label_Parse_r12_go (T : Tbl) (K : List Kt) (fr : Fr) (S : St) : gval T (.ops label_Parse_r12 :: K) fr S = gval T (.ops [
  ⟨some 62, .mov (.tmp 5), none⟩,
  ⟨some 63, .un .not (.tmp 62), none⟩,
  ⟨some 64, .mov (.tmp 63), none⟩,
  ⟨some 65, .mov (.tmp 6), some (64, false)⟩,
  ⟨some 66, .call .std 40 [(.tmp 65)], some (64, false)⟩,
  ⟨some 67, .arith .neq (.tmp 66) (.cst (.int .i64 0)), some (64, false)⟩,
  ⟨some 68, .pick (.tmp 64) (.cst (.bool true)) (.tmp 67), none⟩,
  ⟨some 69, .mov (.tmp 68), none⟩,
  ⟨some 70, .mov (.tmp 6), some (69, false)⟩,
  ⟨some 71, .call .std 24 [(.tmp 70)], some (69, false)⟩,
  ⟨some 72, .mov (.tmp 0), some (69, false)⟩,
  ⟨some 73, .arith .neq (.tmp 71) (.tmp 72), some (69, false)⟩,
  ⟨some 74, .pick (.tmp 69) (.cst (.bool true)) (.tmp 73), none⟩] :: K) fr S := rfl
def label_Parse_r13 : List POper := [
  ⟨some 2, .mov (.cst .nils), none⟩,
  ⟨some 3, .mov (.cst (.int .i64 14)), none⟩]
@[simp] theorem label_Parse_r13_go (T : Tbl) (K : List Kt) (fr : Fr) (S : St) : gval T (.ops label_Parse_r13 :: K) fr S = gval T (.ops [
  ⟨some 2, .mov (.cst .nils), none⟩,
  ⟨some 3, .mov (.cst (.int .i64 14)), none⟩] :: K) fr S := rfl
def label_Parse_r14 : List POper := [
  ⟨some 75, .mov (.tmp 6), none⟩,
  ⟨some 2, .mov (.tmp 75), none⟩,
  ⟨some 3, .mov (.cst (.int .i64 0)), none⟩]
@[simp] theorem label_Parse_r14_go (T : Tbl) (K : List Kt) (fr : Fr) (S : St) : gval T (.ops label_Parse_r14 :: K) fr S = gval T (.ops [
  ⟨some 75, .mov (.tmp 6), none⟩,
  ⟨some 2, .mov (.tmp 75), none⟩,
  ⟨some 3, .mov (.cst (.int .i64 0)), none⟩] :: K) fr S := rfl
def label_Parse : PCodeFn :=
  ⟨1, [.tmp 2, .tmp 3],
  (.seq (.region label_Parse_r0) (.seq (.clr [(13, 18)] (.region label_Parse_r1)) (.seq (.region label_Parse_r2) (.seq (.block 0 (.loop label_Parse_l0)) (.seq (.seq (.clr [(62, 74)] (.region label_Parse_r12)) (.cond (.tmp 74) (.seq (.region label_Parse_r13) .ret) .skip)) (.seq (.clr [(75, 76)] (.region label_Parse_r14)) .ret)))))), false⟩

/-! gauge/gaugeref06.Parse: 23 -/
def ref06_Parse_r0 : List POper := [
  ⟨some 2, .mov (.cst .nils), none⟩,
  ⟨some 3, .mov (.cst (.int .i64 0)), none⟩]
@[simp] theorem ref06_Parse_r0_go (T : Tbl) (K : List Kt) (fr : Fr) (S : St) : gval T (.ops ref06_Parse_r0 :: K) fr S = gval T (.ops [
  ⟨some 2, .mov (.cst .nils), none⟩,
  ⟨some 3, .mov (.cst (.int .i64 0)), none⟩] :: K) fr S := rfl
def ref06_Parse_r1 : List POper := [
  ⟨some 4, .mov (.cst .nils), none⟩]
@[simp] theorem ref06_Parse_r1_go (T : Tbl) (K : List Kt) (fr : Fr) (S : St) : gval T (.ops ref06_Parse_r1 :: K) fr S = gval T (.ops [
  ⟨some 4, .mov (.cst .nils), none⟩] :: K) fr S := rfl
def ref06_Parse_r2 : List POper := [
  ⟨some 5, .mov (.cst (.int .i64 1)), none⟩]
@[simp] theorem ref06_Parse_r2_go (T : Tbl) (K : List Kt) (fr : Fr) (S : St) : gval T (.ops ref06_Parse_r2 :: K) fr S = gval T (.ops [
  ⟨some 5, .mov (.cst (.int .i64 1)), none⟩] :: K) fr S := rfl
def ref06_Parse_r3 : List POper := [
  ⟨some 9, .mov (.tmp 5), none⟩,
  ⟨some 10, .mov (.tmp 0), none⟩,
  ⟨some 11, .len true (.tmp 10), none⟩,
  ⟨some 12, .arith .lss (.tmp 9) (.tmp 11), none⟩,
  ⟨some 13, .mov (.tmp 12), none⟩,
  ⟨some 14, .mov (.tmp 0), some (13, true)⟩,
  ⟨some 15, .mov (.tmp 5), some (13, true)⟩,
  ⟨some 16, .idxs (.tmp 14) (.tmp 15), some (13, true)⟩,
  ⟨some 17, .arith .neq (.tmp 16) (.cst (.int .u8 125)), some (13, true)⟩,
  ⟨some 18, .pick (.tmp 13) (.tmp 17) (.cst (.bool false)), none⟩,
  ⟨some 19, .mov (.tmp 18), none⟩,
  ⟨some 20, .mov (.tmp 4), some (19, true)⟩,
  ⟨some 21, .len false (.tmp 20), some (19, true)⟩,
  ⟨some 22, .arith .leq (.tmp 21) (.cst (.int .i64 8)), some (19, true)⟩,
  ⟨some 23, .pick (.tmp 19) (.tmp 22) (.cst (.bool false)), none⟩]
@[simp] theorem ref06_Parse_r3_go (T : Tbl) (K : List Kt) (fr : Fr) (S : St) : gval T (.ops ref06_Parse_r3 :: K) fr S = gval T (.ops [
  ⟨some 9, .mov (.tmp 5), none⟩,
  ⟨some 10, .mov (.tmp 0), none⟩,
  ⟨some 11, .len true (.tmp 10), none⟩,
  ⟨some 12, .arith .lss (.tmp 9) (.tmp 11), none⟩,
  ⟨some 13, .mov (.tmp 12), none⟩,
  ⟨some 14, .mov (.tmp 0), some (13, true)⟩,
  ⟨some 15, .mov (.tmp 5), some (13, true)⟩,
  ⟨some 16, .idxs (.tmp 14) (.tmp 15), some (13, true)⟩,
  ⟨some 17, .arith .neq (.tmp 16) (.cst (.int .u8 125)), some (13, true)⟩,
  ⟨some 18, .pick (.tmp 13) (.tmp 17) (.cst (.bool false)), none⟩,
  ⟨some 19, .mov (.tmp 18), none⟩,
  ⟨some 20, .mov (.tmp 4), some (19, true)⟩,
  ⟨some 21, .len false (.tmp 20), some (19, true)⟩,
  ⟨some 22, .arith .leq (.tmp 21) (.cst (.int .i64 8)), some (19, true)⟩,
  ⟨some 23, .pick (.tmp 19) (.tmp 22) (.cst (.bool false)), none⟩] :: K) fr S := rfl
def ref06_Parse_r4 : List POper := [
  ⟨some 24, .mov (.tmp 5), none⟩,
  ⟨some 6, .mov (.tmp 24), none⟩]
@[simp] theorem ref06_Parse_r4_go (T : Tbl) (K : List Kt) (fr : Fr) (S : St) : gval T (.ops ref06_Parse_r4 :: K) fr S = gval T (.ops [
  ⟨some 24, .mov (.tmp 5), none⟩,
  ⟨some 6, .mov (.tmp 24), none⟩] :: K) fr S := rfl
def ref06_Parse_r5 : List POper := [
  ⟨some 25, .mov (.tmp 5), none⟩,
  ⟨some 26, .mov (.tmp 0), none⟩,
  ⟨some 27, .len true (.tmp 26), none⟩,
  ⟨some 28, .arith .lss (.tmp 25) (.tmp 27), none⟩,
  ⟨some 29, .mov (.tmp 28), none⟩,
  ⟨some 30, .mov (.tmp 0), some (29, true)⟩,
  ⟨some 31, .mov (.tmp 5), some (29, true)⟩,
  ⟨some 32, .idxs (.tmp 30) (.tmp 31), some (29, true)⟩,
  ⟨some 33, .arith .neq (.tmp 32) (.cst (.int .u8 61)), some (29, true)⟩,
  ⟨some 34, .pick (.tmp 29) (.tmp 33) (.cst (.bool false)), none⟩]
@[simp] theorem ref06_Parse_r5_go (T : Tbl) (K : List Kt) (fr : Fr) (S : St) : gval T (.ops ref06_Parse_r5 :: K) fr S = gval T (.ops [
  ⟨some 25, .mov (.tmp 5), none⟩,
  ⟨some 26, .mov (.tmp 0), none⟩,
  ⟨some 27, .len true (.tmp 26), none⟩,
  ⟨some 28, .arith .lss (.tmp 25) (.tmp 27), none⟩,
  ⟨some 29, .mov (.tmp 28), none⟩,
  ⟨some 30, .mov (.tmp 0), some (29, true)⟩,
  ⟨some 31, .mov (.tmp 5), some (29, true)⟩,
  ⟨some 32, .idxs (.tmp 30) (.tmp 31), some (29, true)⟩,
  ⟨some 33, .arith .neq (.tmp 32) (.cst (.int .u8 61)), some (29, true)⟩,
  ⟨some 34, .pick (.tmp 29) (.tmp 33) (.cst (.bool false)), none⟩] :: K) fr S := rfl
def ref06_Parse_r6 : List POper := [
  ⟨some 35, .mov (.tmp 5), none⟩,
  ⟨some 36, .arith .add (.tmp 35) (.cst (.int .i64 1)), none⟩,
  ⟨some 5, .mov (.tmp 36), none⟩]
@[simp] theorem ref06_Parse_r6_go (T : Tbl) (K : List Kt) (fr : Fr) (S : St) : gval T (.ops ref06_Parse_r6 :: K) fr S = gval T (.ops [
  ⟨some 35, .mov (.tmp 5), none⟩,
  ⟨some 36, .arith .add (.tmp 35) (.cst (.int .i64 1)), none⟩,
  ⟨some 5, .mov (.tmp 36), none⟩] :: K) fr S := rfl
def ref06_Parse_l1 : PCode :=
  (.seq (.seq (.clr [(25, 34)] (.region ref06_Parse_r5)) (.cond (.tmp 34) .skip (.exit 2))) (.block 3 (.clr [(35, 37)] (.region ref06_Parse_r6))))
@[simp] theorem ref06_Parse_l1_go (T : Tbl) (K : List Kt) (fr : Fr) (S : St) : gval T (.code ref06_Parse_l1 :: K) fr S = gval T (.code (.seq (.seq (.clr [(25, 34)] (.region ref06_Parse_r5)) (.cond (.tmp 34) .skip (.exit 2))) (.block 3 (.clr [(35, 37)] (.region ref06_Parse_r6)))) :: K) fr S := rfl
def ref06_Parse_r7 : List POper := [
  ⟨some 37, .mov (.tmp 5), none⟩,
  ⟨some 38, .mov (.tmp 0), none⟩,
  ⟨some 39, .len true (.tmp 38), none⟩,
  ⟨some 40, .arith .geq (.tmp 37) (.tmp 39), none⟩]
@[simp] theorem ref06_Parse_r7_go (T : Tbl) (K : List Kt) (fr : Fr) (S : St) : gval T (.ops ref06_Parse_r7 :: K) fr S = gval T (.ops [
  ⟨some 37, .mov (.tmp 5), none⟩,
  ⟨some 38, .mov (.tmp 0), none⟩,
  ⟨some 39, .len true (.tmp 38), none⟩,
  ⟨some 40, .arith .geq (.tmp 37) (.tmp 39), none⟩] :: K) fr S := rfl
def ref06_Parse_r8 : List POper := [
  ⟨some 2, .mov (.cst .nils), none⟩,
  ⟨some 3, .mov (.cst (.int .i64 14)), none⟩]
@[simp] theorem ref06_Parse_r8_go (T : Tbl) (K : List Kt) (fr : Fr) (S : St) : gval T (.ops ref06_Parse_r8 :: K) fr S = gval T (.ops [
  ⟨some 2, .mov (.cst .nils), none⟩,
  ⟨some 3, .mov (.cst (.int .i64 14)), none⟩] :: K) fr S := rfl
def ref06_Parse_r9 : List POper := [
  ⟨some 42, .mov (.tmp 0), none⟩,
  ⟨some 43, .mov (.tmp 5), none⟩,
  ⟨some 44, .arith .add (.tmp 43) (.cst (.int .i64 1)), none⟩,
  ⟨some 45, .slcs (some (.tmp 44)) none (.tmp 42), none⟩,
  ⟨some 46, .call .pur 97 [(.tmp 45)], none⟩,
  ⟨some 41, .mov (.tmp 46), none⟩,
  ⟨some 47, .extract 0 (.tmp 41), none⟩,
  ⟨some 48, .extract 1 (.tmp 41), none⟩,
  ⟨some 7, .mov (.tmp 47), none⟩,
  ⟨some 8, .mov (.tmp 48), none⟩]
@[simp] theorem ref06_Parse_r9_go (T : Tbl) (K : List Kt) (fr : Fr) (S : St) : gval T (.ops ref06_Parse_r9 :: K) fr S = gval T (.ops [
  ⟨some 42, .mov (.tmp 0), none⟩,
  ⟨some 43, .mov (.tmp 5), none⟩,
  ⟨some 44, .arith .add (.tmp 43) (.cst (.int .i64 1)), none⟩,
  ⟨some 45, .slcs (some (.tmp 44)) none (.tmp 42), none⟩,
  ⟨some 46, .call .pur 97 [(.tmp 45)], none⟩,
  ⟨some 41, .mov (.tmp 46), none⟩,
  ⟨some 47, .extract 0 (.tmp 41), none⟩,
  ⟨some 48, .extract 1 (.tmp 41), none⟩,
  ⟨some 7, .mov (.tmp 47), none⟩,
  ⟨some 8, .mov (.tmp 48), none⟩] :: K) fr S := rfl
def ref06_Parse_r10 : List POper := [
  ⟨some 49, .mov (.tmp 8), none⟩,
  ⟨some 50, .arith .eql (.tmp 49) (.cst (.int .i64 0)), none⟩]
@[simp] theorem ref06_Parse_r10_go (T : Tbl) (K : List Kt) (fr : Fr) (S : St) : gval T (.ops ref06_Parse_r10 :: K) fr S = gval T (.ops [
  ⟨some 49, .mov (.tmp 8), none⟩,
  ⟨some 50, .arith .eql (.tmp 49) (.cst (.int .i64 0)), none⟩] :: K) fr S := rfl
def ref06_Parse_r11 : List POper := [
  ⟨some 2, .mov (.cst .nils), none⟩,
  ⟨some 3, .mov (.cst (.int .i64 14)), none⟩]
@[simp] theorem ref06_Parse_r11_go (T : Tbl) (K : List Kt) (fr : Fr) (S : St) : gval T (.ops ref06_Parse_r11 :: K) fr S = gval T (.ops [
  ⟨some 2, .mov (.cst .nils), none⟩,
  ⟨some 3, .mov (.cst (.int .i64 14)), none⟩] :: K) fr S := rfl
def ref06_Parse_r12 : List POper := [
  ⟨some 51, .mov (.tmp 4), none⟩,
  ⟨some 52, .mov (.tmp 0), none⟩,
  ⟨some 53, .mov (.tmp 6), none⟩,
  ⟨some 54, .mov (.tmp 5), none⟩,
  ⟨some 55, .slcs (some (.tmp 53)) (some (.tmp 54)) (.tmp 52), none⟩,
  ⟨some 56, .mov (.tmp 7), none⟩,
  ⟨some 57, .build [(.str []), (.str [])] [(0, 1, (.tmp 55)), (1, 1, (.tmp 56))], none⟩,
  ⟨some 58, .bsl false (.agg [(.str []), (.str [])]) 1 [(0, (.tmp 57))], none⟩,
  ⟨some 59, .app 2 32 (.tmp 51) (.tmp 58), none⟩,
  ⟨some 4, .mov (.tmp 59), none⟩]
@[simp] theorem ref06_Parse_r12_go (T : Tbl) (K : List Kt) (fr : Fr) (S : St) : gval T (.ops ref06_Parse_r12 :: K) fr S = gval T (.ops [
  ⟨some 51, .mov (.tmp 4), none⟩,
  ⟨some 52, .mov (.tmp 0), none⟩,
  ⟨some 53, .mov (.tmp 6), none⟩,
  ⟨some 54, .mov (.tmp 5), none⟩,
  ⟨some 55, .slcs (some (.tmp 53)) (some (.tmp 54)) (.tmp 52), none⟩,
  ⟨some 56, .mov (.tmp 7), none⟩,
  ⟨some 57, .build [(.str []), (.str [])] [(0, 1, (.tmp 55)), (1, 1, (.tmp 56))], none⟩,
  ⟨some 58, .bsl false (.agg [(.str []), (.str [])]) 1 [(0, (.tmp 57))], none⟩,
  ⟨some 59, .app 2 32 (.tmp 51) (.tmp 58), none⟩,
  ⟨some 4, .mov (.tmp 59), none⟩] :: K) fr S := rfl
def ref06_Parse_r13 : List POper := [
  ⟨some 60, .mov (.tmp 5), none⟩,
  ⟨some 61, .arith .add (.tmp 60) (.cst (.int .i64 1)), none⟩,
  ⟨some 62, .mov (.tmp 8), none⟩,
  ⟨some 63, .arith .add (.tmp 61) (.tmp 62), none⟩,
  ⟨some 5, .mov (.tmp 63), none⟩]
@[simp] theorem ref06_Parse_r13_go (T : Tbl) (K : List Kt) (fr : Fr) (S : St) : gval T (.ops ref06_Parse_r13 :: K) fr S = gval T (.ops [
  ⟨some 60, .mov (.tmp 5), none⟩,
  ⟨some 61, .arith .add (.tmp 60) (.cst (.int .i64 1)), none⟩,
  ⟨some 62, .mov (.tmp 8), none⟩,
  ⟨some 63, .arith .add (.tmp 61) (.tmp 62), none⟩,
  ⟨some 5, .mov (.tmp 63), none⟩] :: K) fr S := rfl
def ref06_Parse_r14 : List POper := [
  ⟨some 64, .mov (.tmp 5), none⟩,
  ⟨some 65, .arith .add (.tmp 64) (.cst (.int .i64 1)), none⟩,
  ⟨some 66, .mov (.tmp 0), none⟩,
  ⟨some 67, .len true (.tmp 66), none⟩,
  ⟨some 68, .arith .lss (.tmp 65) (.tmp 67), none⟩,
  ⟨some 69, .mov (.tmp 68), none⟩,
  ⟨some 70, .mov (.tmp 0), some (69, true)⟩,
  ⟨some 71, .mov (.tmp 5), some (69, true)⟩,
  ⟨some 72, .idxs (.tmp 70) (.tmp 71), some (69, true)⟩,
  ⟨some 73, .arith .eql (.tmp 72) (.cst (.int .u8 44)), some (69, true)⟩,
  ⟨some 74, .pick (.tmp 69) (.tmp 73) (.cst (.bool false)), none⟩]
@[simp] theorem ref06_Parse_r14_go (T : Tbl) (K : List Kt) (fr : Fr) (S : St) : gval T (.ops ref06_Parse_r14 :: K) fr S = gval T (.ops [
  ⟨some 64, .mov (.tmp 5), none⟩,
  ⟨some 65, .arith .add (.tmp 64) (.cst (.int .i64 1)), none⟩,
  ⟨some 66, .mov (.tmp 0), none⟩,
  ⟨some 67, .len true (.tmp 66), none⟩,
  ⟨some 68, .arith .lss (.tmp 65) (.tmp 67), none⟩,
  ⟨some 69, .mov (.tmp 68), none⟩,
  ⟨some 70, .mov (.tmp 0), some (69, true)⟩,
  ⟨some 71, .mov (.tmp 5), some (69, true)⟩,
  ⟨some 72, .idxs (.tmp 70) (.tmp 71), some (69, true)⟩,
  ⟨some 73, .arith .eql (.tmp 72) (.cst (.int .u8 44)), some (69, true)⟩,
  ⟨some 74, .pick (.tmp 69) (.tmp 73) (.cst (.bool false)), none⟩] :: K) fr S := rfl
def ref06_Parse_r15 : List POper := [
  ⟨some 75, .mov (.tmp 5), none⟩,
  ⟨some 76, .arith .add (.tmp 75) (.cst (.int .i64 2)), none⟩,
  ⟨some 5, .mov (.tmp 76), none⟩]
@[simp] theorem ref06_Parse_r15_go (T : Tbl) (K : List Kt) (fr : Fr) (S : St) : gval T (.ops ref06_Parse_r15 :: K) fr S = gval T (.ops [
  ⟨some 75, .mov (.tmp 5), none⟩,
  ⟨some 76, .arith .add (.tmp 75) (.cst (.int .i64 2)), none⟩,
  ⟨some 5, .mov (.tmp 76), none⟩] :: K) fr S := rfl
def ref06_Parse_l0 : PCode :=
  (.seq (.seq (.clr [(9, 23)] (.region ref06_Parse_r3)) (.cond (.tmp 23) .skip (.exit 0))) (.block 1 (.seq (.clr [(24, 25)] (.region ref06_Parse_r4)) (.seq (.block 2 (.loop ref06_Parse_l1)) (.seq (.seq (.clr [(37, 40)] (.region ref06_Parse_r7)) (.cond (.tmp 40) (.seq (.region ref06_Parse_r8) .ret) .skip)) (.seq (.clr [(41, 49)] (.region ref06_Parse_r9)) (.seq (.seq (.clr [(49, 50)] (.region ref06_Parse_r10)) (.cond (.tmp 50) (.seq (.region ref06_Parse_r11) .ret) .skip)) (.seq (.clr [(51, 60)] (.region ref06_Parse_r12)) (.seq (.clr [(60, 64)] (.region ref06_Parse_r13)) (.seq (.clr [(64, 74)] (.region ref06_Parse_r14)) (.cond (.tmp 74) (.clr [(75, 77)] (.region ref06_Parse_r15)) .skip)))))))))))
@[simp] theorem ref06_Parse_l0_go (T : Tbl) (K : List Kt) (fr : Fr) (S : St) : gval T (.code ref06_Parse_l0 :: K) fr S = gval T (.code (.seq (.seq (.clr [(9, 23)] (.region ref06_Parse_r3)) (.cond (.tmp 23) .skip (.exit 0))) (.block 1 (.seq (.clr [(24, 25)] (.region ref06_Parse_r4)) (.seq (.block 2 (.loop ref06_Parse_l1)) (.seq (.seq (.clr [(37, 40)] (.region ref06_Parse_r7)) (.cond (.tmp 40) (.seq (.region ref06_Parse_r8) .ret) .skip)) (.seq (.clr [(41, 49)] (.region ref06_Parse_r9)) (.seq (.seq (.clr [(49, 50)] (.region ref06_Parse_r10)) (.cond (.tmp 50) (.seq (.region ref06_Parse_r11) .ret) .skip)) (.seq (.clr [(51, 60)] (.region ref06_Parse_r12)) (.seq (.clr [(60, 64)] (.region ref06_Parse_r13)) (.seq (.clr [(64, 74)] (.region ref06_Parse_r14)) (.cond (.tmp 74) (.clr [(75, 77)] (.region ref06_Parse_r15)) .skip))))))))))) :: K) fr S := rfl
def ref06_Parse_r16 : List POper := [
  ⟨some 77, .mov (.tmp 4), none⟩,
  ⟨some 78, .call .std 98 [(.tmp 77)], none⟩,
  ⟨some 79, .arith .neq (.tmp 78) (.cst (.int .i64 0)), none⟩,
  ⟨some 80, .mov (.tmp 79), none⟩,
  ⟨some 81, .mov (.tmp 4), some (80, false)⟩,
  ⟨some 82, .call .std 25 [(.tmp 81)], some (80, false)⟩,
  ⟨some 83, .mov (.tmp 0), some (80, false)⟩,
  ⟨some 84, .arith .neq (.tmp 82) (.tmp 83), some (80, false)⟩,
  ⟨some 85, .pick (.tmp 80) (.cst (.bool true)) (.tmp 84), none⟩]
@[simp] theorem ref06_Parse_r16_go (T : Tbl) (K : List Kt) (fr : Fr) (S : St) : gval T (.ops ref06_Parse_r16 :: K) fr S = gval T (.ops [
  ⟨some 77, .mov (.tmp 4), none⟩,
  ⟨some 78, .call .std 98 [(.tmp 77)], none⟩,
  ⟨some 79, .arith .neq (.tmp 78) (.cst (.int .i64 0)), none⟩,
  ⟨some 80, .mov (.tmp 79), none⟩,
  ⟨some 81, .mov (.tmp 4), some (80, false)⟩,
  ⟨some 82, .call .std 25 [(.tmp 81)], some (80, false)⟩,
  ⟨some 83, .mov (.tmp 0), some (80, false)⟩,
  ⟨some 84, .arith .neq (.tmp 82) (.tmp 83), some (80, false)⟩,
  ⟨some 85, .pick (.tmp 80) (.cst (.bool true)) (.tmp 84), none⟩] :: K) fr S := rfl
def ref06_Parse_r17 : List POper := [
  ⟨some 2, .mov (.cst .nils), none⟩,
  ⟨some 3, .mov (.cst (.int .i64 14)), none⟩]
@[simp] theorem ref06_Parse_r17_go (T : Tbl) (K : List Kt) (fr : Fr) (S : St) : gval T (.ops ref06_Parse_r17 :: K) fr S = gval T (.ops [
  ⟨some 2, .mov (.cst .nils), none⟩,
  ⟨some 3, .mov (.cst (.int .i64 14)), none⟩] :: K) fr S := rfl
def ref06_Parse_r18 : List POper := [
  ⟨some 86, .mov (.tmp 4), none⟩,
  ⟨some 2, .mov (.tmp 86), none⟩,
  ⟨some 3, .mov (.cst (.int .i64 0)), none⟩]
@[simp] theorem ref06_Parse_r18_go (T : Tbl) (K : List Kt) (fr : Fr) (S : St) : gval T (.ops ref06_Parse_r18 :: K) fr S = gval T (.ops [
  ⟨some 86, .mov (.tmp 4), none⟩,
  ⟨some 2, .mov (.tmp 86), none⟩,
  ⟨some 3, .mov (.cst (.int .i64 0)), none⟩] :: K) fr S := rfl
def ref06_Parse : PCodeFn :=
  ⟨1, [.tmp 2, .tmp 3],
  (.seq (.region ref06_Parse_r0) (.seq (.region ref06_Parse_r1) (.seq (.region ref06_Parse_r2) (.seq (.block 0 (.loop ref06_Parse_l0)) (.seq (.seq (.clr [(77, 85)] (.region ref06_Parse_r16)) (.cond (.tmp 85) (.seq (.region ref06_Parse_r17) .ret) .skip)) (.seq (.clr [(86, 87)] (.region ref06_Parse_r18)) .ret)))))), false⟩

/-! gauge/label.Print: 24 -/
def label_Print_r0 : List POper := [
  ⟨some 2, .mov (.cst (.str [])), none⟩]
@[simp] theorem label_Print_r0_go (T : Tbl) (K : List Kt) (fr : Fr) (S : St) : gval T (.ops label_Print_r0 :: K) fr S = gval T (.ops [
  ⟨some 2, .mov (.cst (.str [])), none⟩] :: K) fr S := rfl
def label_Print_r1 : List POper := [
  ⟨some 3, .mov (.cst .nils), none⟩]
@[simp] theorem label_Print_r1_go (T : Tbl) (K : List Kt) (fr : Fr) (S : St) : gval T (.ops label_Print_r1 :: K) fr S = gval T (.ops [
  ⟨some 3, .mov (.cst .nils), none⟩] :: K) fr S := rfl
def label_Print_r2 : List POper := [
  ⟨some 6, .mov (.tmp 0), none⟩,
  ⟨some 7, .len false (.tmp 6), none⟩,
  ⟨some 8, .mov (.cst (.int .i64 0)), none⟩]
@[simp] theorem label_Print_r2_go (T : Tbl) (K : List Kt) (fr : Fr) (S : St) : gval T (.ops label_Print_r2 :: K) fr S = gval T (.ops [
  ⟨some 6, .mov (.tmp 0), none⟩,
  ⟨some 7, .len false (.tmp 6), none⟩,
  ⟨some 8, .mov (.cst (.int .i64 0)), none⟩] :: K) fr S := rfl
def label_Print_r3 : List POper := [
  ⟨some 9, .arith .lss (.tmp 8) (.tmp 7), none⟩]
@[simp] theorem label_Print_r3_go (T : Tbl) (K : List Kt) (fr : Fr) (S : St) : gval T (.ops label_Print_r3 :: K) fr S = gval T (.ops [
  ⟨some 9, .arith .lss (.tmp 8) (.tmp 7), none⟩] :: K) fr S := rfl
def label_Print_r4 : List POper := [
  ⟨some 10, .iaddr 2 (.tmp 6) (.tmp 8), none⟩,
  ⟨some 11, .load true 2 false (.tmp 10), none⟩,
  ⟨some 5, .alloc false [(.str []), (.str [])], none⟩,
  ⟨none, .store 2 (.tmp 5) (.tmp 11), none⟩]
@[simp] theorem label_Print_r4_go (T : Tbl) (K : List Kt) (fr : Fr) (S : St) : gval T (.ops label_Print_r4 :: K) fr S = gval T (.ops [
  ⟨some 10, .iaddr 2 (.tmp 6) (.tmp 8), none⟩,
  ⟨some 11, .load true 2 false (.tmp 10), none⟩,
  ⟨some 5, .alloc false [(.str []), (.str [])], none⟩,
  ⟨none, .store 2 (.tmp 5) (.tmp 11), none⟩] :: K) fr S := rfl
def label_Print_r5 : List POper := [
  ⟨some 12, .mov (.tmp 3), none⟩,
  ⟨some 13, .faddr 0 (.tmp 5), none⟩,
  ⟨some 14, .load false 1 false (.tmp 13), none⟩,
  ⟨some 15, .arith .add (.tmp 14) (.cst (.str [61])), none⟩,
  ⟨some 16, .faddr 1 (.tmp 5), none⟩,
  ⟨some 17, .load false 1 false (.tmp 16), none⟩,
  ⟨some 18, .call .pur 99 [(.tmp 17)], none⟩,
  ⟨some 19, .arith .add (.tmp 15) (.tmp 18), none⟩,
  ⟨some 20, .bsl false (.str []) 1 [(0, (.tmp 19))], none⟩,
  ⟨some 21, .app 1 16 (.tmp 12) (.tmp 20), none⟩,
  ⟨some 3, .mov (.tmp 21), none⟩]
@[simp] theorem label_Print_r5_go (T : Tbl) (K : List Kt) (fr : Fr) (S : St) : gval T (.ops label_Print_r5 :: K) fr S = gval T (.ops [
  ⟨some 12, .mov (.tmp 3), none⟩,
  ⟨some 13, .faddr 0 (.tmp 5), none⟩,
  ⟨some 14, .load false 1 false (.tmp 13), none⟩,
  ⟨some 15, .arith .add (.tmp 14) (.cst (.str [61])), none⟩,
  ⟨some 16, .faddr 1 (.tmp 5), none⟩,
  ⟨some 17, .load false 1 false (.tmp 16), none⟩,
  ⟨some 18, .call .pur 99 [(.tmp 17)], none⟩,
  ⟨some 19, .arith .add (.tmp 15) (.tmp 18), none⟩,
  ⟨some 20, .bsl false (.str []) 1 [(0, (.tmp 19))], none⟩,
  ⟨some 21, .app 1 16 (.tmp 12) (.tmp 20), none⟩,
  ⟨some 3, .mov (.tmp 21), none⟩] :: K) fr S := rfl
def label_Print_r6 : List POper := [
  ⟨some 22, .arith .add (.tmp 8) (.cst (.int .i64 1)), none⟩,
  ⟨some 8, .mov (.tmp 22), none⟩]
@[simp] theorem label_Print_r6_go (T : Tbl) (K : List Kt) (fr : Fr) (S : St) : gval T (.ops label_Print_r6 :: K) fr S = gval T (.ops [
  ⟨some 22, .arith .add (.tmp 8) (.cst (.int .i64 1)), none⟩,
  ⟨some 8, .mov (.tmp 22), none⟩] :: K) fr S := rfl
def label_Print_l0 : PCode :=
  (.seq (.region label_Print_r3) (.seq (.cond (.tmp 9) .skip (.exit 0)) (.seq (.block 1 (.seq (.clr [(10, 12)] (.region label_Print_r4)) (.clr [(12, 22)] (.region label_Print_r5)))) (.clr [(22, 23)] (.region label_Print_r6)))))
@[simp] theorem label_Print_l0_go (T : Tbl) (K : List Kt) (fr : Fr) (S : St) : gval T (.code label_Print_l0 :: K) fr S = gval T (.code (.seq (.region label_Print_r3) (.seq (.cond (.tmp 9) .skip (.exit 0)) (.seq (.block 1 (.seq (.clr [(10, 12)] (.region label_Print_r4)) (.clr [(12, 22)] (.region label_Print_r5)))) (.clr [(22, 23)] (.region label_Print_r6))))) :: K) fr S := rfl
def label_Print_r7 : List POper := [
  ⟨some 23, .mov (.tmp 3), none⟩,
  ⟨some 24, .call .std 100 [(.tmp 23), (.cst (.str [44, 32]))], none⟩,
  ⟨some 25, .arith .add (.cst (.str [123])) (.tmp 24), none⟩,
  ⟨some 26, .arith .add (.tmp 25) (.cst (.str [125])), none⟩,
  ⟨some 2, .mov (.tmp 26), none⟩]
@[simp] theorem label_Print_r7_go (T : Tbl) (K : List Kt) (fr : Fr) (S : St) : gval T (.ops label_Print_r7 :: K) fr S = gval T (.ops [
  ⟨some 23, .mov (.tmp 3), none⟩,
  ⟨some 24, .call .std 100 [(.tmp 23), (.cst (.str [44, 32]))], none⟩,
  ⟨some 25, .arith .add (.cst (.str [123])) (.tmp 24), none⟩,
  ⟨some 26, .arith .add (.tmp 25) (.cst (.str [125])), none⟩,
  ⟨some 2, .mov (.tmp 26), none⟩] :: K) fr S := rfl
def label_Print : PCodeFn :=
  ⟨1, [.tmp 2],
  (.seq (.region label_Print_r0) (.seq (.region label_Print_r1) (.seq (.seq (.region label_Print_r2) (.block 0 (.loop label_Print_l0))) (.seq (.clr [(23, 27)] (.region label_Print_r7)) .ret)))), false⟩

/-! gauge/gaugeref06.Print: 25 -/
def ref06_Print_r0 : List POper := [
  ⟨some 2, .mov (.cst (.str [])), none⟩]
@[simp] theorem ref06_Print_r0_go (T : Tbl) (K : List Kt) (fr : Fr) (S : St) : gval T (.ops ref06_Print_r0 :: K) fr S = gval T (.ops [
  ⟨some 2, .mov (.cst (.str [])), none⟩] :: K) fr S := rfl
def ref06_Print_r1 : List POper := [
  ⟨some 3, .mov (.cst (.str [123])), none⟩]
@[simp] theorem ref06_Print_r1_go (T : Tbl) (K : List Kt) (fr : Fr) (S : St) : gval T (.ops ref06_Print_r1 :: K) fr S = gval T (.ops [
  ⟨some 3, .mov (.cst (.str [123])), none⟩] :: K) fr S := rfl
def ref06_Print_r2 : List POper := [
  ⟨some 4, .mov (.cst (.int .i64 0)), none⟩]
@[simp] theorem ref06_Print_r2_go (T : Tbl) (K : List Kt) (fr : Fr) (S : St) : gval T (.ops ref06_Print_r2 :: K) fr S = gval T (.ops [
  ⟨some 4, .mov (.cst (.int .i64 0)), none⟩] :: K) fr S := rfl
def ref06_Print_r3 : List POper := [
  ⟨some 5, .mov (.tmp 4), none⟩,
  ⟨some 6, .mov (.tmp 0), none⟩,
  ⟨some 7, .len false (.tmp 6), none⟩,
  ⟨some 8, .arith .lss (.tmp 5) (.tmp 7), none⟩]
@[simp] theorem ref06_Print_r3_go (T : Tbl) (K : List Kt) (fr : Fr) (S : St) : gval T (.ops ref06_Print_r3 :: K) fr S = gval T (.ops [
  ⟨some 5, .mov (.tmp 4), none⟩,
  ⟨some 6, .mov (.tmp 0), none⟩,
  ⟨some 7, .len false (.tmp 6), none⟩,
  ⟨some 8, .arith .lss (.tmp 5) (.tmp 7), none⟩] :: K) fr S := rfl
def ref06_Print_r5 : List POper := [
  ⟨some 11, .mov (.tmp 4), none⟩,
  ⟨some 12, .arith .gtr (.tmp 11) (.cst (.int .i64 0)), none⟩]
@[simp] theorem ref06_Print_r5_go (T : Tbl) (K : List Kt) (fr : Fr) (S : St) : gval T (.ops ref06_Print_r5 :: K) fr S = gval T (.ops [
  ⟨some 11, .mov (.tmp 4), none⟩,
  ⟨some 12, .arith .gtr (.tmp 11) (.cst (.int .i64 0)), none⟩] :: K) fr S := rfl
def ref06_Print_r6 : List POper := [
  ⟨some 13, .mov (.tmp 3), none⟩,
  ⟨some 14, .arith .add (.tmp 13) (.cst (.str [44, 32])), none⟩,
  ⟨some 3, .mov (.tmp 14), none⟩]
@[simp] theorem ref06_Print_r6_go (T : Tbl) (K : List Kt) (fr : Fr) (S : St) : gval T (.ops ref06_Print_r6 :: K) fr S = gval T (.ops [
  ⟨some 13, .mov (.tmp 3), none⟩,
  ⟨some 14, .arith .add (.tmp 13) (.cst (.str [44, 32])), none⟩,
  ⟨some 3, .mov (.tmp 14), none⟩] :: K) fr S := rfl
def ref06_Print_r7 : List POper := [
  ⟨some 15, .mov (.tmp 3), none⟩,
  ⟨some 16, .mov (.tmp 0), none⟩,
  ⟨some 17, .mov (.tmp 4), none⟩,
  ⟨some 18, .iaddr 2 (.tmp 16) (.tmp 17), none⟩,
  ⟨some 19, .faddr 0 (.tmp 18), none⟩,
  ⟨some 20, .load false 1 true (.tmp 19), none⟩,
  ⟨some 21, .arith .add (.tmp 15) (.tmp 20), none⟩,
  ⟨some 22, .arith .add (.tmp 21) (.cst (.str [61])), none⟩,
  ⟨some 23, .mov (.tmp 0), none⟩,
  ⟨some 24, .mov (.tmp 4), none⟩,
  ⟨some 25, .iaddr 2 (.tmp 23) (.tmp 24), none⟩,
  ⟨some 26, .faddr 1 (.tmp 25), none⟩,
  ⟨some 27, .load false 1 true (.tmp 26), none⟩,
  ⟨some 28, .call .pur 101 [(.tmp 27)], none⟩,
  ⟨some 29, .arith .add (.tmp 22) (.tmp 28), none⟩,
  ⟨some 3, .mov (.tmp 29), none⟩]
@[simp] theorem ref06_Print_r7_go (T : Tbl) (K : List Kt) (fr : Fr) (S : St) : gval T (.ops ref06_Print_r7 :: K) fr S = gval T (.ops [
  ⟨some 15, .mov (.tmp 3), none⟩,
  ⟨some 16, .mov (.tmp 0), none⟩,
  ⟨some 17, .mov (.tmp 4), none⟩,
  ⟨some 18, .iaddr 2 (.tmp 16) (.tmp 17), none⟩,
  ⟨some 19, .faddr 0 (.tmp 18), none⟩,
  ⟨some 20, .load false 1 true (.tmp 19), none⟩,
  ⟨some 21, .arith .add (.tmp 15) (.tmp 20), none⟩,
  ⟨some 22, .arith .add (.tmp 21) (.cst (.str [61])), none⟩,
  ⟨some 23, .mov (.tmp 0), none⟩,
  ⟨some 24, .mov (.tmp 4), none⟩,
  ⟨some 25, .iaddr 2 (.tmp 23) (.tmp 24), none⟩,
  ⟨some 26, .faddr 1 (.tmp 25), none⟩,
  ⟨some 27, .load false 1 true (.tmp 26), none⟩,
  ⟨some 28, .call .pur 101 [(.tmp 27)], none⟩,
  ⟨some 29, .arith .add (.tmp 22) (.tmp 28), none⟩,
  ⟨some 3, .mov (.tmp 29), none⟩] :: K) fr S := rfl
def ref06_Print_r4 : List POper := [
  ⟨some 9, .mov (.tmp 4), none⟩,
  ⟨some 10, .arith .add (.tmp 9) (.cst (.int .i64 1)), none⟩,
  ⟨some 4, .mov (.tmp 10), none⟩]
@[simp] theorem ref06_Print_r4_go (T : Tbl) (K : List Kt) (fr : Fr) (S : St) : gval T (.ops ref06_Print_r4 :: K) fr S = gval T (.ops [
  ⟨some 9, .mov (.tmp 4), none⟩,
  ⟨some 10, .arith .add (.tmp 9) (.cst (.int .i64 1)), none⟩,
  ⟨some 4, .mov (.tmp 10), none⟩] :: K) fr S := rfl
def ref06_Print_l0 : PCode :=
  (.seq (.seq (.clr [(5, 8)] (.region ref06_Print_r3)) (.cond (.tmp 8) .skip (.exit 0))) (.seq (.block 1 (.seq (.seq (.clr [(11, 12)] (.region ref06_Print_r5)) (.cond (.tmp 12) (.clr [(13, 15)] (.region ref06_Print_r6)) .skip)) (.clr [(15, 30)] (.region ref06_Print_r7)))) (.clr [(9, 11)] (.region ref06_Print_r4))))
@[simp] theorem ref06_Print_l0_go (T : Tbl) (K : List Kt) (fr : Fr) (S : St) : gval T (.code ref06_Print_l0 :: K) fr S = gval T (.code (.seq (.seq (.clr [(5, 8)] (.region ref06_Print_r3)) (.cond (.tmp 8) .skip (.exit 0))) (.seq (.block 1 (.seq (.seq (.clr [(11, 12)] (.region ref06_Print_r5)) (.cond (.tmp 12) (.clr [(13, 15)] (.region ref06_Print_r6)) .skip)) (.clr [(15, 30)] (.region ref06_Print_r7)))) (.clr [(9, 11)] (.region ref06_Print_r4)))) :: K) fr S := rfl
def ref06_Print_r8 : List POper := [
  ⟨some 30, .mov (.tmp 3), none⟩,
  ⟨some 31, .arith .add (.tmp 30) (.cst (.str [125])), none⟩,
  ⟨some 2, .mov (.tmp 31), none⟩]
@[simp] theorem ref06_Print_r8_go (T : Tbl) (K : List Kt) (fr : Fr) (S : St) : gval T (.ops ref06_Print_r8 :: K) fr S = gval T (.ops [
  ⟨some 30, .mov (.tmp 3), none⟩,
  ⟨some 31, .arith .add (.tmp 30) (.cst (.str [125])), none⟩,
  ⟨some 2, .mov (.tmp 31), none⟩] :: K) fr S := rfl
def ref06_Print : PCodeFn :=
  ⟨1, [.tmp 2],
  (.seq (.region ref06_Print_r0) (.seq (.region ref06_Print_r1) (.seq (.seq (.region ref06_Print_r2) (.block 0 (.loop ref06_Print_l0))) (.seq (.clr [(30, 32)] (.region ref06_Print_r8)) .ret)))), false⟩

/-! gauge/gaugeref06.Same: 26 -/
def ref06_Same_r0 : List POper := [
  ⟨some 4, .mov (.cst (.bool false)), none⟩]
@[simp] theorem ref06_Same_r0_go (T : Tbl) (K : List Kt) (fr : Fr) (S : St) : gval T (.ops ref06_Same_r0 :: K) fr S = gval T (.ops [
  ⟨some 4, .mov (.cst (.bool false)), none⟩] :: K) fr S := rfl
def ref06_Same_r1 : List POper := [
  ⟨some 5, .mov (.tmp 0), none⟩,
  ⟨some 6, .mov (.tmp 1), none⟩,
  ⟨some 7, .call .std 102 [(.tmp 5), (.tmp 6)], none⟩,
  ⟨some 8, .arith .eql (.tmp 7) (.cst (.int .i64 0)), none⟩,
  ⟨some 4, .mov (.tmp 8), none⟩]
@[simp] theorem ref06_Same_r1_go (T : Tbl) (K : List Kt) (fr : Fr) (S : St) : gval T (.ops ref06_Same_r1 :: K) fr S = gval T (.ops [
  ⟨some 5, .mov (.tmp 0), none⟩,
  ⟨some 6, .mov (.tmp 1), none⟩,
  ⟨some 7, .call .std 102 [(.tmp 5), (.tmp 6)], none⟩,
  ⟨some 8, .arith .eql (.tmp 7) (.cst (.int .i64 0)), none⟩,
  ⟨some 4, .mov (.tmp 8), none⟩] :: K) fr S := rfl
def ref06_Same : PCodeFn :=
  ⟨2, [.tmp 4],
  (.seq (.region ref06_Same_r0) (.seq (.clr [(5, 9)] (.region ref06_Same_r1)) .ret)), false⟩

/-! gauge/label.Keep: 36 -/
def label_Keep_r0 : List POper := [
  ⟨some 3, .box false (.tmp 1), none⟩,
  ⟨some 4, .mov (.cst .nils), none⟩]
@[simp] theorem label_Keep_r0_go (T : Tbl) (K : List Kt) (fr : Fr) (S : St) : gval T (.ops label_Keep_r0 :: K) fr S = gval T (.ops [
  ⟨some 3, .box false (.tmp 1), none⟩,
  ⟨some 4, .mov (.cst .nils), none⟩] :: K) fr S := rfl
def label_Keep_r1 : List POper := [
  ⟨some 5, .mov (.tmp 0), none⟩,
  ⟨some 6, .mkfn 117 [(.tmp 3)], none⟩,
  ⟨some 7, .call .std 116 [(.tmp 5), (.tmp 6)], none⟩,
  ⟨some 4, .mov (.tmp 7), none⟩]
@[simp] theorem label_Keep_r1_go (T : Tbl) (K : List Kt) (fr : Fr) (S : St) : gval T (.ops label_Keep_r1 :: K) fr S = gval T (.ops [
  ⟨some 5, .mov (.tmp 0), none⟩,
  ⟨some 6, .mkfn 117 [(.tmp 3)], none⟩,
  ⟨some 7, .call .std 116 [(.tmp 5), (.tmp 6)], none⟩,
  ⟨some 4, .mov (.tmp 7), none⟩] :: K) fr S := rfl
def label_Keep : PCodeFn :=
  ⟨2, [.tmp 4],
  (.seq (.region label_Keep_r0) (.seq (.clr [(5, 8)] (.region label_Keep_r1)) .ret)), false⟩

/-! gauge/label.Drop: 38 -/
def label_Drop_r0 : List POper := [
  ⟨some 3, .box false (.tmp 1), none⟩,
  ⟨some 4, .mov (.cst .nils), none⟩]
@[simp] theorem label_Drop_r0_go (T : Tbl) (K : List Kt) (fr : Fr) (S : St) : gval T (.ops label_Drop_r0 :: K) fr S = gval T (.ops [
  ⟨some 3, .box false (.tmp 1), none⟩,
  ⟨some 4, .mov (.cst .nils), none⟩] :: K) fr S := rfl
def label_Drop_r1 : List POper := [
  ⟨some 5, .mov (.tmp 0), none⟩,
  ⟨some 6, .mkfn 120 [(.tmp 3)], none⟩,
  ⟨some 7, .call .std 116 [(.tmp 5), (.tmp 6)], none⟩,
  ⟨some 4, .mov (.tmp 7), none⟩]
@[simp] theorem label_Drop_r1_go (T : Tbl) (K : List Kt) (fr : Fr) (S : St) : gval T (.ops label_Drop_r1 :: K) fr S = gval T (.ops [
  ⟨some 5, .mov (.tmp 0), none⟩,
  ⟨some 6, .mkfn 120 [(.tmp 3)], none⟩,
  ⟨some 7, .call .std 116 [(.tmp 5), (.tmp 6)], none⟩,
  ⟨some 4, .mov (.tmp 7), none⟩] :: K) fr S := rfl
def label_Drop : PCodeFn :=
  ⟨2, [.tmp 4],
  (.seq (.region label_Drop_r0) (.seq (.clr [(5, 8)] (.region label_Drop_r1)) .ret)), false⟩

/-! gauge/label.Merge: 41 -/
def label_Merge_r0 : List POper := [
  ⟨some 4, .mov (.cst .nils), none⟩]
@[simp] theorem label_Merge_r0_go (T : Tbl) (K : List Kt) (fr : Fr) (S : St) : gval T (.ops label_Merge_r0 :: K) fr S = gval T (.ops [
  ⟨some 4, .mov (.cst .nils), none⟩] :: K) fr S := rfl
def label_Merge_r1 : List POper := [
  ⟨some 5, .mov (.cst .nils), none⟩]
@[simp] theorem label_Merge_r1_go (T : Tbl) (K : List Kt) (fr : Fr) (S : St) : gval T (.ops label_Merge_r1 :: K) fr S = gval T (.ops [
  ⟨some 5, .mov (.cst .nils), none⟩] :: K) fr S := rfl
def label_Merge_r2 : List POper := [
  ⟨some 8, .mov (.tmp 0), none⟩,
  ⟨some 9, .len false (.tmp 8), none⟩,
  ⟨some 10, .mov (.cst (.int .i64 0)), none⟩]
@[simp] theorem label_Merge_r2_go (T : Tbl) (K : List Kt) (fr : Fr) (S : St) : gval T (.ops label_Merge_r2 :: K) fr S = gval T (.ops [
  ⟨some 8, .mov (.tmp 0), none⟩,
  ⟨some 9, .len false (.tmp 8), none⟩,
  ⟨some 10, .mov (.cst (.int .i64 0)), none⟩] :: K) fr S := rfl
def label_Merge_r3 : List POper := [
  ⟨some 11, .arith .lss (.tmp 10) (.tmp 9), none⟩]
@[simp] theorem label_Merge_r3_go (T : Tbl) (K : List Kt) (fr : Fr) (S : St) : gval T (.ops label_Merge_r3 :: K) fr S = gval T (.ops [
  ⟨some 11, .arith .lss (.tmp 10) (.tmp 9), none⟩] :: K) fr S := rfl
def label_Merge_r4 : List POper := [
  ⟨some 12, .iaddr 2 (.tmp 8) (.tmp 10), none⟩,
  ⟨some 13, .load true 2 false (.tmp 12), none⟩,
  ⟨some 7, .alloc false [(.str []), (.str [])], none⟩,
  ⟨none, .store 2 (.tmp 7) (.tmp 13), none⟩]
@[simp] theorem label_Merge_r4_go (T : Tbl) (K : List Kt) (fr : Fr) (S : St) : gval T (.ops label_Merge_r4 :: K) fr S = gval T (.ops [
  ⟨some 12, .iaddr 2 (.tmp 8) (.tmp 10), none⟩,
  ⟨some 13, .load true 2 false (.tmp 12), none⟩,
  ⟨some 7, .alloc false [(.str []), (.str [])], none⟩,
  ⟨none, .store 2 (.tmp 7) (.tmp 13), none⟩] :: K) fr S := rfl
def label_Merge_r5 : List POper := [
  ⟨some 14, .mov (.tmp 1), none⟩,
  ⟨some 15, .len false (.tmp 14), none⟩,
  ⟨some 16, .arith .gtr (.tmp 15) (.cst (.int .i64 0)), none⟩,
  ⟨some 17, .mov (.tmp 16), none⟩,
  ⟨some 18, .mov (.tmp 1), some (17, true)⟩,
  ⟨some 19, .iaddr 2 (.tmp 18) (.cst (.int .i64 0)), some (17, true)⟩,
  ⟨some 20, .faddr 0 (.tmp 19), some (17, true)⟩,
  ⟨some 21, .load false 1 true (.tmp 20), some (17, true)⟩,
  ⟨some 22, .faddr 0 (.tmp 7), some (17, true)⟩,
  ⟨some 23, .load false 1 false (.tmp 22), some (17, true)⟩,
  ⟨some 24, .arith .lss (.tmp 21) (.tmp 23), some (17, true)⟩,
  ⟨some 25, .pick (.tmp 17) (.tmp 24) (.cst (.bool false)), none⟩]
@[simp] theorem label_Merge_r5_go (T : Tbl) (K : List Kt) (fr : Fr) (S : St) : gval T (.ops label_Merge_r5 :: K) fr S = gval T (.ops [
  ⟨some 14, .mov (.tmp 1), none⟩,
  ⟨some 15, .len false (.tmp 14), none⟩,
  ⟨some 16, .arith .gtr (.tmp 15) (.cst (.int .i64 0)), none⟩,
  ⟨some 17, .mov (.tmp 16), none⟩,
  ⟨some 18, .mov (.tmp 1), some (17, true)⟩,
  ⟨some 19, .iaddr 2 (.tmp 18) (.cst (.int .i64 0)), some (17, true)⟩,
  ⟨some 20, .faddr 0 (.tmp 19), some (17, true)⟩,
  ⟨some 21, .load false 1 true (.tmp 20), some (17, true)⟩,
  ⟨some 22, .faddr 0 (.tmp 7), some (17, true)⟩,
  ⟨some 23, .load false 1 false (.tmp 22), some (17, true)⟩,
  ⟨some 24, .arith .lss (.tmp 21) (.tmp 23), some (17, true)⟩,
  ⟨some 25, .pick (.tmp 17) (.tmp 24) (.cst (.bool false)), none⟩] :: K) fr S := rfl
def label_Merge_r6 : List POper := [
  ⟨some 26, .mov (.tmp 5), none⟩,
  ⟨some 27, .mov (.tmp 1), none⟩,
  ⟨some 28, .iaddr 2 (.tmp 27) (.cst (.int .i64 0)), none⟩,
  ⟨some 29, .load true 2 true (.tmp 28), none⟩,
  ⟨some 30, .bsl false (.agg [(.str []), (.str [])]) 1 [(0, (.tmp 29))], none⟩,
  ⟨some 31, .app 2 32 (.tmp 26) (.tmp 30), none⟩,
  ⟨some 32, .mov (.tmp 1), none⟩,
  ⟨some 33, .slc 2 (some (.cst (.int .i64 1))) none (.tmp 32), none⟩,
  ⟨some 5, .mov (.tmp 31), none⟩,
  ⟨some 1, .mov (.tmp 33), none⟩]
@[simp] theorem label_Merge_r6_go (T : Tbl) (K : List Kt) (fr : Fr) (S : St) : gval T (.ops label_Merge_r6 :: K) fr S = gval T (.ops [
  ⟨some 26, .mov (.tmp 5), none⟩,
  ⟨some 27, .mov (.tmp 1), none⟩,
  ⟨some 28, .iaddr 2 (.tmp 27) (.cst (.int .i64 0)), none⟩,
  ⟨some 29, .load true 2 true (.tmp 28), none⟩,
  ⟨some 30, .bsl false (.agg [(.str []), (.str [])]) 1 [(0, (.tmp 29))], none⟩,
  ⟨some 31, .app 2 32 (.tmp 26) (.tmp 30), none⟩,
  ⟨some 32, .mov (.tmp 1), none⟩,
  ⟨some 33, .slc 2 (some (.cst (.int .i64 1))) none (.tmp 32), none⟩,
  ⟨some 5, .mov (.tmp 31), none⟩,
  ⟨some 1, .mov (.tmp 33), none⟩] :: K) fr S := rfl
def label_Merge_l1 : PCode :=
  (.seq (.seq (.clr [(14, 25)] (.region label_Merge_r5)) (.cond (.tmp 25) .skip (.exit 2))) (.block 3 (.clr [(26, 34)] (.region label_Merge_r6))))
@[simp] theorem label_Merge_l1_go (T : Tbl) (K : List Kt) (fr : Fr) (S : St) : gval T (.code label_Merge_l1 :: K) fr S = gval T (.code (.seq (.seq (.clr [(14, 25)] (.region label_Merge_r5)) (.cond (.tmp 25) .skip (.exit 2))) (.block 3 (.clr [(26, 34)] (.region label_Merge_r6)))) :: K) fr S := rfl
def label_Merge_r7 : List POper := [
  ⟨some 34, .mov (.tmp 1), none⟩,
  ⟨some 35, .len false (.tmp 34), none⟩,
  ⟨some 36, .arith .gtr (.tmp 35) (.cst (.int .i64 0)), none⟩,
  ⟨some 37, .mov (.tmp 36), none⟩,
  ⟨some 38, .mov (.tmp 1), some (37, true)⟩,
  ⟨some 39, .iaddr 2 (.tmp 38) (.cst (.int .i64 0)), some (37, true)⟩,
  ⟨some 40, .faddr 0 (.tmp 39), some (37, true)⟩,
  ⟨some 41, .load false 1 true (.tmp 40), some (37, true)⟩,
  ⟨some 42, .faddr 0 (.tmp 7), some (37, true)⟩,
  ⟨some 43, .load false 1 false (.tmp 42), some (37, true)⟩,
  ⟨some 44, .arith .eql (.tmp 41) (.tmp 43), some (37, true)⟩,
  ⟨some 45, .pick (.tmp 37) (.tmp 44) (.cst (.bool false)), none⟩]
@[simp] theorem label_Merge_r7_go (T : Tbl) (K : List Kt) (fr : Fr) (S : St) : gval T (.ops label_Merge_r7 :: K) fr S = gval T (.ops [
  ⟨some 34, .mov (.tmp 1), none⟩,
  ⟨some 35, .len false (.tmp 34), none⟩,
  ⟨some 36, .arith .gtr (.tmp 35) (.cst (.int .i64 0)), none⟩,
  ⟨some 37, .mov (.tmp 36), none⟩,
  ⟨some 38, .mov (.tmp 1), some (37, true)⟩,
  ⟨some 39, .iaddr 2 (.tmp 38) (.cst (.int .i64 0)), some (37, true)⟩,
  ⟨some 40, .faddr 0 (.tmp 39), some (37, true)⟩,
  ⟨some 41, .load false 1 true (.tmp 40), some (37, true)⟩,
  ⟨some 42, .faddr 0 (.tmp 7), some (37, true)⟩,
  ⟨some 43, .load false 1 false (.tmp 42), some (37, true)⟩,
  ⟨some 44, .arith .eql (.tmp 41) (.tmp 43), some (37, true)⟩,
  ⟨some 45, .pick (.tmp 37) (.tmp 44) (.cst (.bool false)), none⟩] :: K) fr S := rfl
def label_Merge_r8 : List POper := [
  ⟨some 46, .mov (.tmp 1), none⟩,
  ⟨some 47, .slc 2 (some (.cst (.int .i64 1))) none (.tmp 46), none⟩,
  ⟨some 1, .mov (.tmp 47), none⟩]
@[simp] theorem label_Merge_r8_go (T : Tbl) (K : List Kt) (fr : Fr) (S : St) : gval T (.ops label_Merge_r8 :: K) fr S = gval T (.ops [
  ⟨some 46, .mov (.tmp 1), none⟩,
  ⟨some 47, .slc 2 (some (.cst (.int .i64 1))) none (.tmp 46), none⟩,
  ⟨some 1, .mov (.tmp 47), none⟩] :: K) fr S := rfl
def label_Merge_l2 : PCode :=
  (.seq (.seq (.clr [(34, 45)] (.region label_Merge_r7)) (.cond (.tmp 45) .skip (.exit 4))) (.block 5 (.clr [(46, 48)] (.region label_Merge_r8))))
@[simp] theorem label_Merge_l2_go (T : Tbl) (K : List Kt) (fr : Fr) (S : St) : gval T (.code label_Merge_l2 :: K) fr S = gval T (.code (.seq (.seq (.clr [(34, 45)] (.region label_Merge_r7)) (.cond (.tmp 45) .skip (.exit 4))) (.block 5 (.clr [(46, 48)] (.region label_Merge_r8)))) :: K) fr S := rfl
def label_Merge_r9 : List POper := [
  ⟨some 48, .mov (.tmp 5), none⟩,
  ⟨some 49, .load true 2 false (.tmp 7), none⟩,
  ⟨some 50, .bsl false (.agg [(.str []), (.str [])]) 1 [(0, (.tmp 49))], none⟩,
  ⟨some 51, .app 2 32 (.tmp 48) (.tmp 50), none⟩,
  ⟨some 5, .mov (.tmp 51), none⟩]
@[simp] theorem label_Merge_r9_go (T : Tbl) (K : List Kt) (fr : Fr) (S : St) : gval T (.ops label_Merge_r9 :: K) fr S = gval T (.ops [
  ⟨some 48, .mov (.tmp 5), none⟩,
  ⟨some 49, .load true 2 false (.tmp 7), none⟩,
  ⟨some 50, .bsl false (.agg [(.str []), (.str [])]) 1 [(0, (.tmp 49))], none⟩,
  ⟨some 51, .app 2 32 (.tmp 48) (.tmp 50), none⟩,
  ⟨some 5, .mov (.tmp 51), none⟩] :: K) fr S := rfl
def label_Merge_r10 : List POper := [
  ⟨some 52, .arith .add (.tmp 10) (.cst (.int .i64 1)), none⟩,
  ⟨some 10, .mov (.tmp 52), none⟩]
@[simp] theorem label_Merge_r10_go (T : Tbl) (K : List Kt) (fr : Fr) (S : St) : gval T (.ops label_Merge_r10 :: K) fr S = gval T (.ops [
  ⟨some 52, .arith .add (.tmp 10) (.cst (.int .i64 1)), none⟩,
  ⟨some 10, .mov (.tmp 52), none⟩] :: K) fr S := rfl
def label_Merge_l0 : PCode :=
  (.seq (.region label_Merge_r3) (.seq (.cond (.tmp 11) .skip (.exit 0)) (.seq (.block 1 (.seq (.clr [(12, 14)] (.region label_Merge_r4)) (.seq (.block 2 (.loop label_Merge_l1)) (.seq (.block 4 (.loop label_Merge_l2)) (.clr [(48, 52)] (.region label_Merge_r9)))))) (.clr [(52, 53)] (.region label_Merge_r10)))))
@[simp] theorem label_Merge_l0_go (T : Tbl) (K : List Kt) (fr : Fr) (S : St) : gval T (.code label_Merge_l0 :: K) fr S = gval T (.code (.seq (.region label_Merge_r3) (.seq (.cond (.tmp 11) .skip (.exit 0)) (.seq (.block 1 (.seq (.clr [(12, 14)] (.region label_Merge_r4)) (.seq (.block 2 (.loop label_Merge_l1)) (.seq (.block 4 (.loop label_Merge_l2)) (.clr [(48, 52)] (.region label_Merge_r9)))))) (.clr [(52, 53)] (.region label_Merge_r10))))) :: K) fr S := rfl
def label_Merge_r11 : List POper := [
  ⟨some 53, .mov (.tmp 5), none⟩,
  ⟨some 54, .mov (.tmp 1), none⟩,
  ⟨some 55, .app 2 32 (.tmp 53) (.tmp 54), none⟩,
  ⟨some 4, .mov (.tmp 55), none⟩]
@[simp] theorem label_Merge_r11_go (T : Tbl) (K : List Kt) (fr : Fr) (S : St) : gval T (.ops label_Merge_r11 :: K) fr S = gval T (.ops [
  ⟨some 53, .mov (.tmp 5), none⟩,
  ⟨some 54, .mov (.tmp 1), none⟩,
  ⟨some 55, .app 2 32 (.tmp 53) (.tmp 54), none⟩,
  ⟨some 4, .mov (.tmp 55), none⟩] :: K) fr S := rfl
def label_Merge : PCodeFn :=
  ⟨2, [.tmp 4],
  (.seq (.region label_Merge_r0) (.seq (.region label_Merge_r1) (.seq (.seq (.region label_Merge_r2) (.block 0 (.loop label_Merge_l0))) (.seq (.clr [(53, 56)] (.region label_Merge_r11)) .ret)))), false⟩

/-! gauge/gaugelaw06.own: 33 -/
def law06_own_r0 : List POper := [
  ⟨some 2, .mov (.cst .nils), none⟩]
@[simp] theorem law06_own_r0_go (T : Tbl) (K : List Kt) (fr : Fr) (S : St) : gval T (.ops law06_own_r0 :: K) fr S = gval T (.ops [
  ⟨some 2, .mov (.cst .nils), none⟩] :: K) fr S := rfl
def law06_own_r1 : List POper := [
  ⟨some 3, .bsl false (.agg [(.str []), (.str [])]) 0 [], none⟩,
  ⟨some 4, .mov (.tmp 0), none⟩,
  ⟨some 5, .app 2 32 (.tmp 3) (.tmp 4), none⟩,
  ⟨some 6, .build [(.str []), (.str [])] [(0, 1, (.cst (.str [98, 101, 104, 105, 110, 100])))], none⟩,
  ⟨some 7, .bsl false (.agg [(.str []), (.str [])]) 1 [(0, (.tmp 6))], none⟩,
  ⟨some 8, .app 2 32 (.tmp 5) (.tmp 7), none⟩,
  ⟨some 9, .mov (.tmp 0), none⟩,
  ⟨some 10, .len false (.tmp 9), none⟩,
  ⟨some 11, .slc 2 none (some (.tmp 10)) (.tmp 8), none⟩,
  ⟨some 2, .mov (.tmp 11), none⟩]
@[simp] theorem law06_own_r1_go (T : Tbl) (K : List Kt) (fr : Fr) (S : St) : gval T (.ops law06_own_r1 :: K) fr S = gval T (.ops [
  ⟨some 3, .bsl false (.agg [(.str []), (.str [])]) 0 [], none⟩,
  ⟨some 4, .mov (.tmp 0), none⟩,
  ⟨some 5, .app 2 32 (.tmp 3) (.tmp 4), none⟩,
  ⟨some 6, .build [(.str []), (.str [])] [(0, 1, (.cst (.str [98, 101, 104, 105, 110, 100])))], none⟩,
  ⟨some 7, .bsl false (.agg [(.str []), (.str [])]) 1 [(0, (.tmp 6))], none⟩,
  ⟨some 8, .app 2 32 (.tmp 5) (.tmp 7), none⟩,
  ⟨some 9, .mov (.tmp 0), none⟩,
  ⟨some 10, .len false (.tmp 9), none⟩,
  ⟨some 11, .slc 2 none (some (.tmp 10)) (.tmp 8), none⟩,
  ⟨some 2, .mov (.tmp 11), none⟩] :: K) fr S := rfl
def law06_own : PCodeFn :=
  ⟨1, [.tmp 2],
  (.seq (.region law06_own_r0) (.seq (.clr [(3, 12)] (.region law06_own_r1)) .ret)), false⟩

/-! gauge/label.Get: 34 -/
def label_Get_r0 : List POper := [
  ⟨some 3, .box false (.tmp 1), none⟩,
  ⟨some 4, .mov (.cst (.str [])), none⟩]
@[simp] theorem label_Get_r0_go (T : Tbl) (K : List Kt) (fr : Fr) (S : St) : gval T (.ops label_Get_r0 :: K) fr S = gval T (.ops [
  ⟨some 3, .box false (.tmp 1), none⟩,
  ⟨some 4, .mov (.cst (.str [])), none⟩] :: K) fr S := rfl
def label_Get_r1 : List POper := [
  ⟨some 6, .mov (.tmp 0), none⟩,
  ⟨some 7, .mkfn 115 [(.tmp 3)], none⟩,
  ⟨some 8, .call .std 114 [(.tmp 6), (.tmp 7)], none⟩,
  ⟨some 5, .mov (.tmp 8), none⟩]
@[simp] theorem label_Get_r1_go (T : Tbl) (K : List Kt) (fr : Fr) (S : St) : gval T (.ops label_Get_r1 :: K) fr S = gval T (.ops [
  ⟨some 6, .mov (.tmp 0), none⟩,
  ⟨some 7, .mkfn 115 [(.tmp 3)], none⟩,
  ⟨some 8, .call .std 114 [(.tmp 6), (.tmp 7)], none⟩,
  ⟨some 5, .mov (.tmp 8), none⟩] :: K) fr S := rfl
def label_Get_r2 : List POper := [
  ⟨some 9, .mov (.tmp 5), none⟩,
  ⟨some 10, .arith .geq (.tmp 9) (.cst (.int .i64 0)), none⟩]
@[simp] theorem label_Get_r2_go (T : Tbl) (K : List Kt) (fr : Fr) (S : St) : gval T (.ops label_Get_r2 :: K) fr S = gval T (.ops [
  ⟨some 9, .mov (.tmp 5), none⟩,
  ⟨some 10, .arith .geq (.tmp 9) (.cst (.int .i64 0)), none⟩] :: K) fr S := rfl
def label_Get_r3 : List POper := [
  ⟨some 11, .mov (.tmp 0), none⟩,
  ⟨some 12, .mov (.tmp 5), none⟩,
  ⟨some 13, .iaddr 2 (.tmp 11) (.tmp 12), none⟩,
  ⟨some 14, .faddr 1 (.tmp 13), none⟩,
  ⟨some 15, .load false 1 false (.tmp 14), none⟩,
  ⟨some 4, .mov (.tmp 15), none⟩]
@[simp] theorem label_Get_r3_go (T : Tbl) (K : List Kt) (fr : Fr) (S : St) : gval T (.ops label_Get_r3 :: K) fr S = gval T (.ops [
  ⟨some 11, .mov (.tmp 0), none⟩,
  ⟨some 12, .mov (.tmp 5), none⟩,
  ⟨some 13, .iaddr 2 (.tmp 11) (.tmp 12), none⟩,
  ⟨some 14, .faddr 1 (.tmp 13), none⟩,
  ⟨some 15, .load false 1 false (.tmp 14), none⟩,
  ⟨some 4, .mov (.tmp 15), none⟩] :: K) fr S := rfl
def label_Get_r4 : List POper := [
  ⟨some 4, .mov (.cst (.str [])), none⟩]
@[simp] theorem label_Get_r4_go (T : Tbl) (K : List Kt) (fr : Fr) (S : St) : gval T (.ops label_Get_r4 :: K) fr S = gval T (.ops [
  ⟨some 4, .mov (.cst (.str [])), none⟩] :: K) fr S := rfl
def label_Get : PCodeFn :=
  ⟨2, [.tmp 4],
  (.seq (.region label_Get_r0) (.seq (.seq (.clr [(6, 9)] (.region label_Get_r1)) (.seq (.clr [(9, 10)] (.region label_Get_r2)) (.cond (.tmp 10) (.seq (.clr [(11, 16)] (.region label_Get_r3)) .ret) .skip))) (.seq (.region label_Get_r4) .ret))), false⟩

end Ps
