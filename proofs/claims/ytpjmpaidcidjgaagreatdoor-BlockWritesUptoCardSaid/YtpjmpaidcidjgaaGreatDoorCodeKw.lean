/- The functions' code, as the pure semantics has it: printed by program. -/
import Derived.Test.YtpjmpaidcidjgaaGreatDoorCodeBKw
namespace Ps
open Go
set_option maxRecDepth 10000
set_option linter.defProp false
variable (T : aQ) (K : List Kt) (fr : Fr) (S : St)
def Cu:List aB:=[M 8 7,M 9 0,Q 10 (.len false (V 9)),Q 11 (.arith .lss (V 8) (V 10))]
def Cv:List aB:=[M 14 0,M 15 7,Q 16 (.iaddr 1 (V 14) (V 15)),LD 17 16,M 18 1,Q 19 (.arith .eql (V 17) (V 18))]
def Cw:List aB:=[M 20 0,M 4 20]
def Cx:List aB:=[M 21 6,Q 22 (.un .not (V 21)),M 23 22,QG (some 24) (.mov (V 1)) 23 true,QG (some 25) (.mov (V 0)) 23 true,QG (some 26) (.mov (V 7)) 23 true,QG (some 27) (.iaddr 1 (V 25) (V 26)) 23 true,QG (some 28) (.load false 1 false (V 27)) 23 true,QG (some 29) (.arith .lss (V 24) (V 28)) 23 true,Q 30 (.pick (V 23) (V 29) bG)]
def Cy:List aB:=[M 31 5,M 32 1,Q 33 (.bsl false (.str []) 1 [(0,V 32)]),Q 34 (.app 1 16 (V 31) (V 33)),M 5 34]
def Cz:List aB:=[M 35 5,M 36 0,M 37 7,Q 38 (.iaddr 1 (V 36) (V 37)),LD 39 38,Q 40 (.bsl false (.str []) 1 [(0,V 39)]),Q 41 (.app 1 16 (V 35) (V 40)),M 5 41]
def DA:List aB:=[M 12 7,Q 13 (.arith .add (V 12) (I 1)),M 7 13]
@[simp]def aGU:=aC Cu.eq_1<|aC Cv.eq_1<|aC Cw.eq_1<|aC Cx.eq_1<|aC Cy.eq_1<|aC Cz.eq_1<|aP DA.eq_1
def pr:aL:=
 (aA (aA (aD 8 11 Cu) (.cond (V 11) .skip (.exit 0))) (aA (.block 1 (aA (aA (aD 14 19 Cv) (.cond (V 19) (aA (aD 20 21 Cw) .ret) .skip)) (aA (aA (aD 21 30 Cx) (.cond (V 30) (aA (aD 31 35 Cy) (.region [Q 6 (.mov cN)])) .skip)) (aD 35 42 Cz)))) (aD 12 14 DA)))
@[simp]def aGV:=bL pr.eq_1
def DB:List aB:=[M 42 6,Q 43 (.un .not (V 42))]
def DC:List aB:=[M 44 5,M 45 1,Q 46 (.bsl false (.str []) 1 [(0,V 45)]),Q 47 (.app 1 16 (V 44) (V 46)),M 5 47]
def DD:List aB:=[M 48 5,M 4 48]
@[simp]def aGW:=aC DB.eq_1<|aC DC.eq_1<|aP DD.eq_1
def kz:aU:=
 ⟨2,[.tmp 4],
 (aA (.region [Q 4 (.mov (.cst .nils))]) (aA (.region [Q 5 (.mov (.cst .nils))]) (aA (.region [Q 6 (.mov bG)]) (aA (aA (.region [Q 7 (.mov (I 0))]) (.block 0 (.loop pr))) (aA (aA (aD 42 43 DB) (.cond (V 43) (aD 44 48 DC) .skip)) (aA (aD 48 49 DD) .ret)))))),false⟩
def DE:List aB:=[M 4 0,Q 5 (.arith .gtr (V 4) (.cst (.int .u64 0)))]
def DF:List aB:=[M 6 3,Q 7 (.arith .add (V 6) (I 1)),M 3 7]
def DG:List aB:=[M 8 0,Q 9 (.arith .quo (V 8) (.cst (.int .u64 2))),M 0 9]
@[simp]def aGX:=aC DE.eq_1<|aC DF.eq_1<|aP DG.eq_1
def wZ:aL:=
 (aA (aA (aD 4 5 DE) (.cond (V 5) .skip (.exit 0))) (.block 1 (aA (aD 6 8 DF) (aD 8 10 DG))))
@[simp]def aGY:=bL wZ.eq_1
def DH:List aB:=[M 10 3,M 2 10]
@[simp]def aGZ:=aP DH.eq_1
def z32:aU:=
 ⟨1,[.tmp 2],
 (aA (.region [Q 2 (.mov (I 0))]) (aA (.region [Q 3 (.mov (I 0))]) (aA (.block 0 (.loop wZ)) (aA (aD 10 11 DH) .ret)))),false⟩
def DI:List aB:=[Q 3 (.box true (V 0)),Q 6 (.alloc false [.nils,(.int .i64 0)]),Q 7 (.mov (I 0))]
def DJ:List aB:=[Q 10 (.load true 2 false (V 3)),Q 11 (.call .std 401 [V 10]),Q 12 (.un .not (V 11)),M 13 12,QG (some 14) (.mov (V 2)) 13 false,QG (some 15) (.arith .lss (V 14) (I 0)) 13 false,Q 16 (.pick (V 13) cN (V 15)),M 17 16,QG (some 18) (.mov (V 2)) 17 false,QG (some 19) (.arith .gtr (V 18) (I 64)) 17 false,Q 20 (.pick (V 17) cN (V 19))]
def DK:List aB:=[Q 21 (.build [.nils,(.int .i64 0)] []),QN (.store 2 (V 6) (V 21)),Q 7 (.mov (I 2))]
def DL:List aB:=[M 22 1,Q 23 (.call .pur 375 [V 22]),M 24 2,Q 25 (.arith .gtr (V 23) (V 24))]
def DM:List aB:=[Q 26 (.build [.nils,(.int .i64 0)] []),QN (.store 2 (V 6) (V 26)),Q 7 (.mov (I 3))]
def DN:List aB:=[Q 27 (.emp0),FA 28 0 3,LD 29 28,Q 30 (.gapp 1 1 (V 27) (V 29)),M 8 30]
def DO:List aB:=[M 31 9,M 32 2,Q 33 (.arith .lss (V 31) (V 32))]
def DP:List aB:=[M 36 8,FA 37 1 3,Q 38 (.load false 1 true (V 37)),M 39 9,Q 40 (.arith .add (V 38) (V 39)),M 41 1,M 42 2,Q 43 (.arith .sub (V 42) (I 1)),M 44 9,Q 45 (.arith .sub (V 43) (V 44)),Q 46 (.call .pur 403 [V 41,V 45]),Q 47 (.call .std 402 [V 36,V 40,V 46]),M 8 47]
def DQ:List aB:=[M 34 9,Q 35 (.arith .add (V 34) (I 1)),M 9 35]
@[simp]def aG0:=aC DI.eq_1<|aC DJ.eq_1<|aC DK.eq_1<|aC DL.eq_1<|aC DM.eq_1<|aC DN.eq_1<|aC DO.eq_1<|aC DP.eq_1<|aP DQ.eq_1
def wa:aL:=
 (aA (aA (aD 31 33 DO) (.cond (V 33) .skip (.exit 0))) (aA (.block 1 (aD 36 48 DP)) (aD 34 36 DQ)))
@[simp]def aG1:=bL wa.eq_1
def DR:List aB:=[M 48 8,FA 49 1 3,LD 50 49,M 51 2,Q 52 (.arith .add (V 50) (V 51)),Q 53 (.build [.nils,(.int .i64 0)] [(0,1,V 48),(1,1,V 52)]),QN (.store 2 (V 6) (V 53)),Q 7 (.mov (I 0))]
@[simp]def aG2:=aP DR.eq_1
def pt:aU:=
 ⟨3,[.cell 6 true 2,.tmp 7],
 (aA (ai DI) (aA (aA (aD 10 20 DJ) (.cond (V 20) (aA (aD 21 22 DK) .ret) .skip)) (aA (aA (aD 22 25 DL) (.cond (V 25) (aA (aD 26 27 DM) .ret) .skip)) (aA (aD 27 31 DN) (aA (aA (.region [Q 9 (.mov (I 0))]) (.block 0 (.loop wa))) (aA (aD 48 54 DR) .ret)))))),false⟩
def DS:List aB:=[Q 3 (.box true (V 0)),Q 6 (.mov (.cst (.int .u64 0))),Q 7 (.mov (I 0))]
def DT:List aB:=[Q 10 (.load true 2 false (V 3)),Q 11 (.call .std 404 [V 10]),Q 12 (.un .not (V 11)),M 13 12,QG (some 14) (.mov (V 2)) 13 false,QG (some 15) (.arith .lss (V 14) (I 0)) 13 false,Q 16 (.pick (V 13) cN (V 15)),M 17 16,QG (some 18) (.mov (V 2)) 17 false,QG (some 19) (.arith .gtr (V 18) (I 64)) 17 false,Q 20 (.pick (V 17) cN (V 19)),M 21 20,QG (some 22) (.mov (V 1)) 21 false,QG (some 23) (.arith .lss (V 22) (I 0)) 21 false,Q 24 (.pick (V 21) cN (V 23)),M 25 24,QG (some 26) (.mov (V 1)) 25 false,QG (some 27) (.faddr 1 (V 3)) 25 false,QG (some 28) (.load false 1 false (V 27)) 25 false,QG (some 29) (.arith .gtr (V 26) (V 28)) 25 false,Q 30 (.pick (V 25) cN (V 29))]
def DU:List aB:=[Q 6 (.mov (.cst (.int .u64 0))),Q 7 (.mov (I 2))]
def DV:List aB:=[M 31 2,FA 32 1 3,LD 33 32,M 34 1,Q 35 (.arith .sub (V 33) (V 34)),Q 36 (.arith .gtr (V 31) (V 35))]
def DW:List aB:=[Q 6 (.mov (.cst (.int .u64 0))),Q 7 (.mov (I 4))]
def DX:List aB:=[M 37 2,Q 38 (.mov (I 0))]
def DY:List aB:=[M 40 38,M 9 40]
def DZ:List aB:=[M 41 8,Q 42 (.arith .shl (V 41) (.cst (.int .u64 1))),FA 43 0 3,LD 44 43,M 45 1,M 46 9,Q 47 (.arith .add (V 45) (V 46)),Q 48 (.arith .quo (V 47) (I 8)),Q 49 (.iaddr 1 (V 44) (V 48)),LD 50 49,M 51 1,M 52 9,Q 53 (.arith .add (V 51) (V 52)),Q 54 (.arith .rem (V 53) (I 8)),Q 55 (.arith .sub (I 7) (V 54)),Q 56 (.arith .shr (V 50) (V 55)),Q 57 (.arith .and (V 56) (.cst (.int .u8 1))),Q 58 (.toInt .u64 (V 57)),Q 59 (.arith .or (V 42) (V 58)),M 8 59]
def Da:List aB:=[Q 60 (.arith .add (V 38) (I 1)),M 38 60]
@[simp]def aG3:=aC DS.eq_1<|aC DT.eq_1<|aC DU.eq_1<|aC DV.eq_1<|aC DW.eq_1<|aC DX.eq_1<|aC DY.eq_1<|aC DZ.eq_1<|aP Da.eq_1
def Db:aL:=
 (aA (ai wq) (aA (.cond (V 39) .skip (.exit 0)) (aA (.block 1 (aA (aD 40 41 DY) (aD 41 60 DZ))) (aD 60 61 Da))))
@[simp]def aG4:=bL Db.eq_1
def Dc:List aB:=[M 61 8,M 6 61,Q 7 (.mov (I 0))]
@[simp]def aG5:=aP Dc.eq_1
def wb:aU:=
 ⟨3,[.tmp 6,.tmp 7],
 (aA (ai DS) (aA (aA (aD 10 30 DT) (.cond (V 30) (aA (ai DU) .ret) .skip)) (aA (aA (aD 31 36 DV) (.cond (V 36) (aA (ai DW) .ret) .skip)) (aA (.region [Q 8 (.mov (.cst (.int .u64 0)))]) (aA (aA (ai DX) (.block 0 (.loop Db))) (aA (aD 61 62 Dc) .ret)))))),false⟩
def Dd:List aB:=[M 3 0,Q 4 (.arith .rem (V 3) (I 8)),Q 5 (.arith .eql (V 4) (I 0))]
def De:List aB:=[M 6 0,Q 7 (.arith .quo (V 6) (I 8)),M 2 7]
def Df:List aB:=[M 8 0,Q 9 (.arith .quo (V 8) (I 8)),Q 10 (.arith .add (V 9) (I 1)),M 2 10]
@[simp]def aG6:=aC Dd.eq_1<|aC De.eq_1<|aP Df.eq_1
def pu:aU:=
 ⟨1,[.tmp 2],
 (aA (.region [Q 2 (.mov (I 0))]) (aA (aA (aD 3 5 Dd) (.cond (V 5) (aA (aD 6 8 De) .ret) .skip)) (aA (aD 8 11 Df) .ret))),false⟩
def Dg:List aB:=[M 6 1,Q 7 (.mov (I 0))]
def Dh:List aB:=[M 9 7,M 5 9]
def Di:List aB:=[FA 10 1 2,LD 11 10,Q 12 (.arith .rem (V 11) (I 8)),Q 13 (.arith .eql (V 12) (I 0))]
def Dj:List aB:=[FA 14 0 2,LD 15 14,Q 16 (.bsl false (.int .u8 0) 1 [(0,(.cst (.int .u8 0)))]),Q 17 (.gapp 1 1 (V 15) (V 16)),FA 18 0 2,QN (.store 1 (V 18) (V 17))]
def we:List aB:=[M 19 0,M 20 1,Q 21 (.arith .sub (V 20) (I 1)),M 22 5,Q 23 (.arith .sub (V 21) (V 22)),Q 24 (.arith .shr (V 19) (V 23)),Q 25 (.arith .and (V 24) (.cst (.int .u64 1))),Q 26 (.arith .eql (V 25) (.cst (.int .u64 1)))]
@[simp]def Xr:=aP we.eq_1
def wg:List aB:=[FA 27 0 2,LD 28 27,FA 29 1 2,LD 30 29,Q 31 (.arith .quo (V 30) (I 8)),Q 32 (.iaddr 1 (V 28) (V 31)),LD 33 32,FA 34 1 2,LD 35 34,Q 36 (.arith .rem (V 35) (I 8)),Q 37 (.arith .shr (.cst (.int .u8 128)) (V 36)),Q 38 (.arith .or (V 33) (V 37)),Q 39 (.iaddr 1 (V 28) (V 31)),QN (.store 1 (V 39) (V 38))]
def wh:List aB:=[FA 40 1 2,LD 41 40,Q 42 (.arith .add (V 41) (I 1)),FA 43 1 2,QN (.store 1 (V 43) (V 42))]
def wi:List aB:=[Q 44 (.arith .add (V 7) (I 1)),M 7 44]
@[simp]def aG7:=aC Dg.eq_1<|aC Dh.eq_1<|aC Di.eq_1<|aC Dj.eq_1<|aC wg.eq_1<|aC wh.eq_1<|aP wi.eq_1
def ny:aL:=
 (aA (.region [Q 8 (.arith .lss (V 7) (V 6))]) (aA (.cond (V 8) .skip (.exit 0)) (aA (.block 1 (aA (aD 9 10 Dh) (aA (aA (aD 10 13 Di) (.cond (V 13) (aD 14 19 Dj) .skip)) (aA (aA (aD 19 26 we) (.cond (V 26) (aD 27 40 wg) .skip)) (aD 40 44 wh))))) (aD 44 45 wi))))
@[simp]def aG8:=bL ny.eq_1
def z28:aU:=
 ⟨3,[],
 (aA (ai Dg) (.block 0 (.loop ny))),false⟩
def Dk:List aB:=[Q 1 (.alloc false [.nils,(.int .i64 0)])]
def Dl:List aB:=[Q 2 (.load true 2 false (V 0)),QN (.store 2 (V 1) (V 2))]
@[simp]def aG9:=aC Dk.eq_1<|aP Dl.eq_1
def px:aU:=
 ⟨1,[.cell 1 true 2],
 (aA (ai Dk) (aA (aD 2 3 Dl) .ret)),false⟩
def Dm:List aB:=[FA 4 1 1,LD 5 4,Q 6 (.arith .lss (V 5) (I 0)),M 7 6,QG (some 8) (.faddr 0 (V 1)) 7 false,QG (some 9) (.load false 1 false (V 8)) 7 false,QG (some 10) (.len false (V 9)) 7 false,QG (some 11) (.faddr 1 (V 1)) 7 false,QG (some 12) (.load false 1 false (V 11)) 7 false,QG (some 13) (.arith .quo (V 12) (I 8)) 7 false,QG (some 14) (.faddr 1 (V 1)) 7 false,QG (some 15) (.load false 1 false (V 14)) 7 false,QG (some 16) (.arith .rem (V 15) (I 8)) 7 false,QG (some 17) (.arith .add (V 16) (I 7)) 7 false,QG (some 18) (.arith .quo (V 17) (I 8)) 7 false,QG (some 19) (.arith .add (V 13) (V 18)) 7 false,QG (some 20) (.arith .neq (V 10) (V 19)) 7 false,Q 21 (.pick (V 7) cN (V 20))]
def Do:List aB:=[FA 22 1 1,LD 23 22,M 3 23]
def Dp:List aB:=[M 24 3,FA 25 0 1,LD 26 25,Q 27 (.len false (V 26)),Q 28 (.arith .mul (I 8) (V 27)),Q 29 (.arith .lss (V 24) (V 28))]
def Dq:List aB:=[Q 32 (.load true 2 false (V 1)),M 33 3,Q 34 (.call .std 412 [V 32,V 33]),Q 35 (.arith .neq (V 34) (.cst (.int .u64 0)))]
def Dr:List aB:=[M 30 3,Q 31 (.arith .add (V 30) (I 1)),M 3 31]
@[simp]def aHa:=aC Dm.eq_1<|aC Do.eq_1<|aC Dp.eq_1<|aC Dq.eq_1<|aP Dr.eq_1
def Ds:aL:=
 (aA (aA (aD 24 29 Dp) (.cond (V 29) .skip (.exit 0))) (aA (.block 1 (aA (aD 32 35 Dq) (.cond (V 35) (aA (.region [Q 2 (.mov bG)]) .ret) .skip))) (aD 30 32 Dr)))
@[simp]def aHb:=bL Ds.eq_1
def py:aU:=
 ⟨1,[.tmp 2],
 (aA (ai qR) (aA (aA (aD 4 21 Dm) (.cond (V 21) (aA (.region [Q 2 (.mov bG)]) .ret) .skip)) (aA (aA (aD 22 24 Do) (.block 0 (.loop Ds))) (aA (.region [Q 2 (.mov cN)]) .ret)))),false⟩
def wj:List aB:=[M 9 1,Q 10 (.arith .rem (V 9) (I 8)),Q 11 (.arith .eql (V 10) (I 0))]
@[simp]def Dt:=aP wj.eq_1
def wk:List aB:=[M 12 0,Q 13 (.bsl false (.int .u8 0) 1 [(0,(.cst (.int .u8 0)))]),Q 14 (.gapp 1 1 (V 12) (V 13)),M 0 14]
def Du:List aB:=[M 15 8,M 16 1,Q 17 (.arith .rem (V 16) (I 8)),Q 18 (.arith .sub (I 7) (V 17)),Q 19 (.arith .lss (V 15) (V 18))]
def Dv:List aB:=[M 22 7,Q 23 (.arith .mul (V 22) (.cst (.int .u8 2))),M 7 23]
def Dw:List aB:=[M 20 8,Q 21 (.arith .add (V 20) (I 1)),M 8 21]
@[simp]def aHc:=aC wk.eq_1<|aC Du.eq_1<|aC Dv.eq_1<|aP Dw.eq_1
def wl:aL:=
 (aA (aA (aD 15 19 Du) (.cond (V 19) .skip (.exit 0))) (aA (.block 1 (aD 22 24 Dv)) (aD 20 22 Dw)))
@[simp]def aHd:=bL wl.eq_1
def Dx:List aB:=[M 24 2,Q 25 (.arith .eql (V 24) (.cst (.int .u64 1)))]
def Dy:List aB:=[M 26 0,M 27 1,Q 28 (.arith .quo (V 27) (I 8)),M 29 0,M 30 1,Q 31 (.arith .quo (V 30) (I 8)),Q 32 (.iaddr 1 (V 29) (V 31)),LD 33 32,M 34 7,Q 35 (.arith .add (V 33) (V 34)),Q 36 (.iaddr 1 (V 26) (V 28)),QN (.store 1 (V 36) (V 35))]
def Dz:List aB:=[M 37 0,M 6 37]
@[simp]def aHe:=aC Dx.eq_1<|aC Dy.eq_1<|aP Dz.eq_1
def nz:aU:=
 ⟨3,[.tmp 6],
 (aA (.region [Q 6 (.mov (.cst .nils))]) (aA (aA (aD 9 11 wj) (.cond (V 11) (aD 12 15 wk) .skip)) (aA (.region [Q 7 (.mov (.cst (.int .u8 1)))]) (aA (aA (.region [Q 8 (.mov (I 0))]) (.block 0 (.loop wl))) (aA (aA (aD 24 25 Dx) (.cond (V 25) (aD 26 37 Dy) .skip)) (aA (aD 37 38 Dz) .ret)))))),true⟩
def EA:List aB:=[M 6 5,M 7 1,Q 8 (.arith .lss (V 6) (V 7))]
def EC:List aB:=[M 11 0,Q 12 (.arith .quo (V 11) (.cst (.int .u64 2))),M 0 12]
def ED:List aB:=[M 9 5,Q 10 (.arith .add (V 9) (I 1)),M 5 10]
@[simp]def aHf:=aC EA.eq_1<|aC EC.eq_1<|aP ED.eq_1
def EE:aL:=
 (aA (aA (aD 6 8 EA) (.cond (V 8) .skip (.exit 0))) (aA (.block 1 (aD 11 13 EC)) (aD 9 11 ED)))
@[simp]def aHg:=bL EE.eq_1
def EF:List aB:=[M 13 0,Q 14 (.arith .rem (V 13) (.cst (.int .u64 2))),M 4 14]
@[simp]def aHh:=aP EF.eq_1
def pz:aU:=
 ⟨2,[.tmp 4],
 (aA (.region [Q 4 (.mov (.cst (.int .u64 0)))]) (aA (aA (.region [Q 5 (.mov (I 0))]) (.block 0 (.loop EE))) (aA (aD 13 15 EF) .ret))),false⟩
def EG:List aB:=[Q 2 (.box true (V 0)),Q 4 (.mov (.cst (.int .u64 0)))]
def EH:List aB:=[FA 7 0 2,LD 8 7,M 9 1,Q 10 (.arith .quo (V 9) (I 8)),Q 11 (.iaddr 1 (V 8) (V 10)),LD 12 11,Q 13 (.toInt .u64 (V 12)),M 5 13]
def EI:List aB:=[M 14 6,M 15 1,Q 16 (.arith .rem (V 15) (I 8)),Q 17 (.arith .sub (I 7) (V 16)),Q 18 (.arith .lss (V 14) (V 17))]
def EJ:List aB:=[M 21 5,Q 22 (.arith .quo (V 21) (.cst (.int .u64 2))),M 5 22]
def EK:List aB:=[M 19 6,Q 20 (.arith .add (V 19) (I 1)),M 6 20]
@[simp]def aHi:=aC EG.eq_1<|aC EH.eq_1<|aC EI.eq_1<|aC EJ.eq_1<|aP EK.eq_1
def EL:aL:=
 (aA (aA (aD 14 18 EI) (.cond (V 18) .skip (.exit 0))) (aA (.block 1 (aD 21 23 EJ)) (aD 19 21 EK)))
@[simp]def aHj:=bL EL.eq_1
def EM:List aB:=[M 23 5,Q 24 (.arith .rem (V 23) (.cst (.int .u64 2))),M 4 24]
@[simp]def aHk:=aP EM.eq_1
def qB:aU:=
 ⟨2,[.tmp 4],
 (aA (ai EG) (aA (aD 7 14 EH) (aA (aA (.region [Q 6 (.mov (I 0))]) (.block 0 (.loop EL))) (aA (aD 23 25 EM) .ret)))),false⟩
end Ps
