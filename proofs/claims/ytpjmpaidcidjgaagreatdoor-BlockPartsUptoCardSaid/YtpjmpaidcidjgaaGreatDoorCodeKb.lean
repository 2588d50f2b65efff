/- The functions' code, as the pure semantics has it: printed by program. -/
import Derived.Test.YtpjmpaidcidjgaaGreatDoorCodeBKb
namespace Ps
open Go
set_option maxRecDepth 10000
set_option linter.defProp false
variable (T : aV) (K : List Kt) (fr : Fr) (S : St)
def Gn:List aA:=[FA 4 1 1,LD 5 4,Q 6 (.arith .lss (V 5) (I 0)),M 7 6,QG (some 8) (.faddr 0 (V 1)) 7 false,QG (some 9) (.load false 1 false (V 8)) 7 false,QG (some 10) (.len false (V 9)) 7 false,QG (some 11) (.faddr 1 (V 1)) 7 false,QG (some 12) (.load false 1 false (V 11)) 7 false,QG (some 13) (.arith .quo (V 12) (I 8)) 7 false,QG (some 14) (.faddr 1 (V 1)) 7 false,QG (some 15) (.load false 1 false (V 14)) 7 false,QG (some 16) (.arith .rem (V 15) (I 8)) 7 false,QG (some 17) (.arith .add (V 16) (I 7)) 7 false,QG (some 18) (.arith .quo (V 17) (I 8)) 7 false,QG (some 19) (.arith .add (V 13) (V 18)) 7 false,QG (some 20) (.arith .neq (V 10) (V 19)) 7 false,Q 21 (.pick (V 7) ck (V 20))]
def Gp:List aA:=[FA 22 1 1,LD 23 22,M 3 23]
def Gq:List aA:=[M 24 3,FA 25 0 1,LD 26 25,Q 27 (.len false (V 26)),Q 28 (.arith .mul (I 8) (V 27)),Q 29 (.arith .lss (V 24) (V 28))]
def Gr:List aA:=[Q 32 (.load true 2 false (V 1)),M 33 3,Q 34 (.call .std 412 [V 32,V 33]),Q 35 (.arith .neq (V 34) (.cst (.int .u64 0)))]
def Gs:List aA:=[M 30 3,Q 31 (.arith .add (V 30) (I 1)),M 3 31]
@[simp]def aIe:=aC Gn.eq_1<|aC Gp.eq_1<|aC Gq.eq_1<|aC Gr.eq_1<|aT Gs.eq_1
def Gt:aS:=
 (aB (aB (aD 24 29 Gq) (.cond (V 29) .skip (.exit 0))) (aB (.block 1 (aB (aD 32 35 Gr) (.cond (V 35) (aB (.region [Q 2 (.mov bR)]) .ret) .skip))) (aD 30 32 Gs)))
@[simp]def aIf:=bY Gt.eq_1
def zF:aX:=
 ⟨1,[.tmp 2],
 (aB (af se) (aB (aB (aD 4 21 Gn) (.cond (V 21) (aB (.region [Q 2 (.mov bR)]) .ret) .skip)) (aB (aB (aD 22 24 Gp) (.block 0 (.loop Gt))) (aB (.region [Q 2 (.mov ck)]) .ret)))),false⟩
def Gu:List aA:=[M 9 1,Q 10 (.arith .rem (V 9) (I 8)),Q 11 (.arith .eql (V 10) (I 0))]
def Gv:List aA:=[M 12 0,Q 13 (.bsl false (.int .u8 0) 1 [(0,(.cst (.int .u8 0)))]),Q 14 (.gapp 1 1 (V 12) (V 13)),M 0 14]
def Gw:List aA:=[M 15 8,M 16 1,Q 17 (.arith .rem (V 16) (I 8)),Q 18 (.arith .sub (I 7) (V 17)),Q 19 (.arith .lss (V 15) (V 18))]
def Gx:List aA:=[M 22 7,Q 23 (.arith .mul (V 22) (.cst (.int .u8 2))),M 7 23]
def Gy:List aA:=[M 20 8,Q 21 (.arith .add (V 20) (I 1)),M 8 21]
@[simp]def aIg:=aC Gu.eq_1<|aC Gv.eq_1<|aC Gw.eq_1<|aC Gx.eq_1<|aT Gy.eq_1
def Gz:aS:=
 (aB (aB (aD 15 19 Gw) (.cond (V 19) .skip (.exit 0))) (aB (.block 1 (aD 22 24 Gx)) (aD 20 22 Gy)))
@[simp]def aIh:=bY Gz.eq_1
def HA:List aA:=[M 24 2,Q 25 (.arith .eql (V 24) (.cst (.int .u64 1)))]
def HB:List aA:=[M 26 0,M 27 1,Q 28 (.arith .quo (V 27) (I 8)),M 29 0,M 30 1,Q 31 (.arith .quo (V 30) (I 8)),Q 32 (.iaddr 1 (V 29) (V 31)),LD 33 32,M 34 7,Q 35 (.arith .add (V 33) (V 34)),Q 36 (.iaddr 1 (V 26) (V 28)),QN (.store 1 (V 36) (V 35))]
def HC:List aA:=[M 37 0,M 6 37]
@[simp]def aIi:=aC HA.eq_1<|aC HB.eq_1<|aT HC.eq_1
def zG:aX:=
 ⟨3,[.tmp 6],
 (aB (.region [Q 6 (.mov (.cst .nils))]) (aB (aB (aD 9 11 Gu) (.cond (V 11) (aD 12 15 Gv) .skip)) (aB (.region [Q 7 (.mov (.cst (.int .u8 1)))]) (aB (aB (.region [Q 8 (.mov (I 0))]) (.block 0 (.loop Gz))) (aB (aB (aD 24 25 HA) (.cond (V 25) (aD 26 37 HB) .skip)) (aB (aD 37 38 HC) .ret)))))),true⟩
def HD:List aA:=[M 6 5,M 7 1,Q 8 (.arith .lss (V 6) (V 7))]
def HE:List aA:=[M 11 0,Q 12 (.arith .quo (V 11) (.cst (.int .u64 2))),M 0 12]
def HF:List aA:=[M 9 5,Q 10 (.arith .add (V 9) (I 1)),M 5 10]
@[simp]def aIj:=aC HD.eq_1<|aC HE.eq_1<|aT HF.eq_1
def HG:aS:=
 (aB (aB (aD 6 8 HD) (.cond (V 8) .skip (.exit 0))) (aB (.block 1 (aD 11 13 HE)) (aD 9 11 HF)))
@[simp]def aIk:=bY HG.eq_1
def HH:List aA:=[M 13 0,Q 14 (.arith .rem (V 13) (.cst (.int .u64 2))),M 4 14]
@[simp]def aIl:=aT HH.eq_1
def zH:aX:=
 ⟨2,[.tmp 4],
 (aB (.region [Q 4 (.mov (.cst (.int .u64 0)))]) (aB (aB (.region [Q 5 (.mov (I 0))]) (.block 0 (.loop HG))) (aB (aD 13 15 HH) .ret))),false⟩
def HI:List aA:=[Q 2 (.box true (V 0)),Q 4 (.mov (.cst (.int .u64 0)))]
def HJ:List aA:=[FA 7 0 2,LD 8 7,M 9 1,Q 10 (.arith .quo (V 9) (I 8)),Q 11 (.iaddr 1 (V 8) (V 10)),LD 12 11,Q 13 (.toInt .u64 (V 12)),M 5 13]
def HK:List aA:=[M 14 6,M 15 1,Q 16 (.arith .rem (V 15) (I 8)),Q 17 (.arith .sub (I 7) (V 16)),Q 18 (.arith .lss (V 14) (V 17))]
def HL:List aA:=[M 21 5,Q 22 (.arith .quo (V 21) (.cst (.int .u64 2))),M 5 22]
def HM:List aA:=[M 19 6,Q 20 (.arith .add (V 19) (I 1)),M 6 20]
@[simp]def aIm:=aC HI.eq_1<|aC HJ.eq_1<|aC HK.eq_1<|aC HL.eq_1<|aT HM.eq_1
def HN:aS:=
 (aB (aB (aD 14 18 HK) (.cond (V 18) .skip (.exit 0))) (aB (.block 1 (aD 21 23 HL)) (aD 19 21 HM)))
@[simp]def aIn:=bY HN.eq_1
def HO:List aA:=[M 23 5,Q 24 (.arith .rem (V 23) (.cst (.int .u64 2))),M 4 24]
@[simp]def aIo:=aT HO.eq_1
def zI:aX:=
 ⟨2,[.tmp 4],
 (aB (af HI) (aB (aD 7 14 HJ) (aB (aB (.region [Q 6 (.mov (I 0))]) (.block 0 (.loop HN))) (aB (aD 23 25 HO) .ret)))),false⟩
end Ps
