/- The functions' code, as the pure semantics has it: printed by program. -/
import Derived.Test.YtpjmpaidcidjgaaGreatDoorCodeAKt
namespace Ps
open Go
set_option maxRecDepth 10000
set_option linter.defProp false
variable (T : aM) (K : List Kt) (fr : Fr) (S : St)
def BM:List aA:=[Q 3 (.alloc false [(.int .u32 0)]),QN (.store 1 (V 3) (.cst (.int .u32 4294967295)))]
def BN:List aA:=[Q 7 (.mkfn 342 [V 3]),M 4 7]
def BO:List aA:=[Q 12 (.iaddr 1 (V 8) (V 10)),LD 13 12,M 6 13]
def BP:List aA:=[LD 14 3,M 15 6,Q 16 (.toInt .u32 (V 15)),Q 17 (.arith .xor (V 14) (V 16)),QN (.store 1 (V 3) (V 17))]
def BQ:List aA:=[Q 18 (.mov (I 0))]
@[simp]def Ur:=aP BQ.eq_1
def BR:List aA:=[M 20 4,Q 21 (.callv .std (V 20) [])]
def BS:List aA:=[Q 22 (.arith .add (V 18) (I 1)),M 18 22]
@[simp]def aDj:=aC BM.eq_1<|aC BN.eq_1<|aC BO.eq_1<|aC BP.eq_1<|aC BR.eq_1<|aP BS.eq_1
def rK:aN:=
 (aB (.region [Q 19 (.arith .lss (V 18) (I 8))]) (aB (.cond (V 19) .skip (.exit 2)) (aB (.block 3 (aD 20 22 BR)) (aD 22 23 BS))))
@[simp]def aDk:=bG rK.eq_1
def BT:List aA:=[Q 23 (.arith .add (V 10) (I 1)),M 10 23]
@[simp]def aDl:=aP BT.eq_1
def rL:aN:=
 (aB (.region [Q 11 (.arith .lss (V 10) (V 9))]) (aB (.cond (V 11) .skip (.exit 0)) (aB (.block 1 (aB (aD 12 14 BO) (aB (aD 14 18 BP) (aB (aZ BQ) (.block 2 (.loop rK)))))) (aD 23 24 BT))))
@[simp]def aDm:=bG rL.eq_1
def BU:List aA:=[LD 24 3,Q 25 (.un .xor (V 24)),M 2 25]
@[simp]def aDn:=aP BU.eq_1
def ol:aT:=
 ⟨1,[.tmp 2],
 (aB (.region [Q 2 (.mov (.cst (.int .u32 0)))]) (aB (aZ BM) (aB (aD 7 8 BN) (aB (aB (aZ wi) (.block 0 (.loop rL))) (aB (aD 24 26 BU) .ret))))),false⟩
def BV:List aA:=[M 8 0,Q 9 (.call .std 235 [V 8]),M 3 9]
def BW:List aA:=[M 10 3,Q 11 (.len false (V 10)),Q 12 (.call .std 219 [V 11]),M 4 12]
def BX:List aA:=[M 13 5,M 14 3,Q 15 (.len false (V 14)),Q 16 (.arith .lss (V 13) (V 15))]
def BY:List aA:=[M 19 4,M 20 3,M 21 5,Q 22 (.iaddr 1 (V 20) (V 21)),LD 23 22,Q 24 (.call .pur 220 [V 23]),Q 25 (.app 1 1 (V 19) (V 24)),M 4 25]
def BZ:List aA:=[M 17 5,Q 18 (.arith .add (V 17) (I 1)),M 5 18]
@[simp]def aDo:=aC BV.eq_1<|aC BW.eq_1<|aC BX.eq_1<|aC BY.eq_1<|aP BZ.eq_1
def Ba:aN:=
 (aB (aB (aD 13 16 BX) (.cond (V 16) .skip (.exit 0))) (aB (.block 1 (aD 19 26 BY)) (aD 17 19 BZ)))
@[simp]def aDp:=bG Ba.eq_1
def Bb:List aA:=[M 26 4,M 27 0,Q 28 (.len false (V 27)),Q 29 (.call .std 219 [V 28]),Q 30 (.app 1 1 (V 26) (V 29)),M 4 30]
def Bc:List aA:=[M 31 6,M 32 0,Q 33 (.len false (V 32)),Q 34 (.arith .lss (V 31) (V 33))]
def Bd:List aA:=[M 37 4,M 38 0,M 39 6,Q 40 (.iaddr 1 (V 38) (V 39)),LD 41 40,Q 42 (.len false (V 41)),Q 43 (.call .std 219 [V 42]),Q 44 (.app 1 1 (V 37) (V 43)),M 4 44]
def Be:List aA:=[M 45 7,M 46 0,M 47 6,Q 48 (.iaddr 1 (V 46) (V 47)),LD 49 48,Q 50 (.len false (V 49)),Q 51 (.arith .lss (V 45) (V 50))]
def Bf:List aA:=[M 54 4,M 55 3,M 56 0,M 57 6,Q 58 (.iaddr 1 (V 56) (V 57)),Q 59 (.load false 1 true (V 58)),M 60 7,Q 61 (.iaddr 2 (V 59) (V 60)),FA 62 0 61,Q 63 (.load false 1 true (V 62)),Q 64 (.call .std 236 [V 55,V 63]),Q 65 (.call .std 219 [V 64]),Q 66 (.app 1 1 (V 54) (V 65)),M 67 3,M 68 0,M 69 6,Q 70 (.iaddr 1 (V 68) (V 69)),Q 71 (.load false 1 true (V 70)),M 72 7,Q 73 (.iaddr 2 (V 71) (V 72)),FA 74 1 73,Q 75 (.load false 1 true (V 74)),Q 76 (.call .std 236 [V 67,V 75]),Q 77 (.call .std 219 [V 76]),Q 78 (.app 1 1 (V 66) (V 77)),M 4 78]
def Bg:List aA:=[M 52 7,Q 53 (.arith .add (V 52) (I 1)),M 7 53]
@[simp]def aDq:=aC Bb.eq_1<|aC Bc.eq_1<|aC Bd.eq_1<|aC Be.eq_1<|aC Bf.eq_1<|aP Bg.eq_1
def Bh:aN:=
 (aB (aB (aD 45 51 Be) (.cond (V 51) .skip (.exit 4))) (aB (.block 5 (aD 54 79 Bf)) (aD 52 54 Bg)))
@[simp]def aDr:=bG Bh.eq_1
def Bi:List aA:=[M 35 6,Q 36 (.arith .add (V 35) (I 1)),M 6 36]
@[simp]def aDs:=aP Bi.eq_1
def Bj:aN:=
 (aB (aB (aD 31 34 Bc) (.cond (V 34) .skip (.exit 2))) (aB (.block 3 (aB (aD 37 45 Bd) (aB (.region [Q 7 (.mov (I 0))]) (.block 4 (.loop Bh))))) (aD 35 37 Bi)))
@[simp]def aDt:=bG Bj.eq_1
def Bk:List aA:=[M 79 4,M 2 79]
@[simp]def aDu:=aP Bk.eq_1
def z44:aT:=
 ⟨1,[.tmp 2],
 (aB (.region [Q 2 (.mov (.cst .nils))]) (aB (aD 8 10 BV) (aB (aD 10 13 BW) (aB (aB (.region [Q 5 (.mov (I 0))]) (.block 0 (.loop Ba))) (aB (aD 26 31 Bb) (aB (aB (.region [Q 6 (.mov (I 0))]) (.block 2 (.loop Bj))) (aB (aD 79 80 Bk) .ret))))))),false⟩
def Bl:List aA:=[M 4 0,Q 5 (.arith .gtr (V 4) (I 127))]
def Bm:List aA:=[M 6 3,M 7 0,Q 8 (.arith .rem (V 7) (I 128)),Q 9 (.arith .add (V 8) (I 128)),Q 10 (.toInt .u8 (V 9)),Q 11 (.bsl false (.int .u8 0) 1 [(0,V 10)]),Q 12 (.app 1 1 (V 6) (V 11)),M 3 12]
def Bn:List aA:=[M 13 0,Q 14 (.arith .quo (V 13) (I 128)),M 0 14]
@[simp]def aDv:=aC Bl.eq_1<|aC Bm.eq_1<|aP Bn.eq_1
def Bo:aN:=
 (aB (aB (aD 4 5 Bl) (.cond (V 5) .skip (.exit 0))) (.block 1 (aB (aD 6 13 Bm) (aD 13 15 Bn))))
@[simp]def aDw:=bG Bo.eq_1
def Bp:List aA:=[M 15 3,M 16 0,Q 17 (.toInt .u8 (V 16)),Q 18 (.bsl false (.int .u8 0) 1 [(0,V 17)]),Q 19 (.app 1 1 (V 15) (V 18)),M 2 19]
@[simp]def aDx:=aP Bp.eq_1
def uw:aT:=
 ⟨1,[.tmp 2],
 (aB (.region [Q 2 (.mov (.cst .nils))]) (aB (.region [Q 3 (.mov (.cst .nils))]) (aB (.block 0 (.loop Bo)) (aB (aD 15 20 Bp) .ret)))),true⟩
def Bq:List aA:=[M 10 0,Q 11 (.call .std 330 [V 10]),M 4 11]
def Br:List aA:=[M 15 0,Q 16 (.len false (V 15)),Q 17 (.toInt .u64 (V 16)),M 18 0,Q 19 (.iaddr 2 (V 18) (I 0)),FA 20 0 19,Q 21 (.load false 1 true (V 20)),Q 22 (.toInt .u64 (V 21)),M 23 0,Q 24 (.iaddr 2 (V 23) (I 0)),FA 25 1 24,Q 26 (.load false 1 true (V 25)),Q 27 (.call .pur 331 [V 26]),Q 28 (.bsl false (.int .u64 0) 3 [(0,V 17),(1,V 22),(2,V 27)]),M 5 28]
def Bs:List aA:=[M 29 6,M 30 0,Q 31 (.len false (V 30)),Q 32 (.arith .lss (V 29) (V 31))]
def Bt:List aA:=[M 35 0,M 36 6,Q 37 (.iaddr 2 (V 35) (V 36)),FA 38 0 37,Q 39 (.load false 1 true (V 38)),M 40 0,M 41 6,Q 42 (.arith .sub (V 41) (I 1)),Q 43 (.iaddr 2 (V 40) (V 42)),FA 44 0 43,Q 45 (.load false 1 true (V 44)),Q 46 (.arith .sub (V 39) (V 45)),M 7 46]
def Bu:List aA:=[M 47 6,Q 48 (.arith .eql (V 47) (I 1))]
def Bv:List aA:=[M 49 5,M 50 7,Q 51 (.toInt .u64 (V 50)),Q 52 (.bsl false (.int .u64 0) 1 [(0,V 51)]),Q 53 (.app 1 8 (V 49) (V 52)),M 5 53]
def Bw:List aA:=[M 54 5,M 55 7,M 56 0,M 57 6,Q 58 (.arith .sub (V 57) (I 1)),Q 59 (.iaddr 2 (V 56) (V 58)),FA 60 0 59,Q 61 (.load false 1 true (V 60)),M 62 0,M 63 6,Q 64 (.arith .sub (V 63) (I 2)),Q 65 (.iaddr 2 (V 62) (V 64)),FA 66 0 65,Q 67 (.load false 1 true (V 66)),Q 68 (.arith .sub (V 61) (V 67)),Q 69 (.arith .sub (V 55) (V 68)),Q 70 (.call .pur 331 [V 69]),Q 71 (.bsl false (.int .u64 0) 1 [(0,V 70)]),Q 72 (.app 1 8 (V 54) (V 71)),M 5 72]
def Bx:List aA:=[M 73 5,M 74 0,M 75 6,Q 76 (.iaddr 2 (V 74) (V 75)),FA 77 1 76,Q 78 (.load false 1 true (V 77)),M 79 0,M 80 6,Q 81 (.arith .sub (V 80) (I 1)),Q 82 (.iaddr 2 (V 79) (V 81)),FA 83 1 82,Q 84 (.load false 1 true (V 83)),Q 85 (.arith .sub (V 78) (V 84)),Q 86 (.call .pur 331 [V 85]),Q 87 (.bsl false (.int .u64 0) 1 [(0,V 86)]),Q 88 (.app 1 8 (V 73) (V 87)),M 5 88]
def By:List aA:=[M 33 6,Q 34 (.arith .add (V 33) (I 1)),M 6 34]
@[simp]def aDy:=aC Bq.eq_1<|aC Br.eq_1<|aC Bs.eq_1<|aC Bt.eq_1<|aC Bu.eq_1<|aC Bv.eq_1<|aC Bw.eq_1<|aC Bx.eq_1<|aP By.eq_1
def Bz:aN:=
 (aB (aB (aD 29 32 Bs) (.cond (V 32) .skip (.exit 0))) (aB (.block 1 (aB (aD 35 47 Bt) (aB (aB (aD 47 48 Bu) (.cond (V 48) (aD 49 54 Bv) (aD 54 73 Bw))) (aD 73 89 Bx)))) (aD 33 35 By)))
@[simp]def aDz:=bG Bz.eq_1
def CA:List aA:=[Q 89 (.build [.nils,(.int .i64 0)] []),Q 8 (.alloc false [.nils,(.int .i64 0)]),QN (.store 2 (V 8) (V 89))]
def CB:List aA:=[M 90 9,M 91 5,Q 92 (.len false (V 91)),Q 93 (.arith .lss (V 90) (V 92))]
def CC:List aA:=[Q 97 (.load true 2 false (V 8)),M 98 5,M 99 9,Q 100 (.iaddr 1 (V 98) (V 99)),Q 101 (.load false 1 true (V 100)),Q 102 (.call .std 332 [V 97,V 101]),M 96 102,EX 103 0 96,EX 104 1 96,QN (.store 2 (V 8) (V 103))]
def CD:List aA:=[M 94 9,Q 95 (.arith .add (V 94) (I 1)),M 9 95]
@[simp]def aDA:=aC CA.eq_1<|aC CB.eq_1<|aC CC.eq_1<|aP CD.eq_1
def CE:aN:=
 (aB (aB (aD 90 93 CB) (.cond (V 93) .skip (.exit 2))) (aB (.block 3 (aD 96 105 CC)) (aD 94 96 CD)))
@[simp]def aDB:=bG CE.eq_1
def CF:List aA:=[FA 105 0 8,LD 106 105,M 2 106,Q 3 (.mov (I 0))]
@[simp]def aDC:=aP CF.eq_1
def z32:aT:=
 ⟨1,[.tmp 2,.tmp 3],
 (aB (aZ rR) (aB (aB (aD 10 12 Bq) (aB (aD 12 13 wV) (.cond (V 13) (aB (aD 14 15 wW) .ret) .skip))) (aB (aD 15 29 Br) (aB (aB (.region [Q 6 (.mov (I 1))]) (.block 0 (.loop Bz))) (aB (aD 89 90 CA) (aB (aB (.region [Q 9 (.mov (I 0))]) (.block 2 (.loop CE))) (aB (aD 105 107 CF) .ret))))))),false⟩
def CG:List aA:=[Q 3 (.mov (.cst (.int .u32 4294967295)))]
def uy:List aA:=[M 6 4,M 7 0,Q 8 (.len false (V 7)),Q 9 (.arith .lss (V 6) (V 8))]
def CH:List aA:=[M 12 3,M 13 0,M 14 4,Q 15 (.iaddr 1 (V 13) (V 14)),LD 16 15,Q 17 (.toInt .u32 (V 16)),Q 18 (.arith .xor (V 12) (V 17)),M 3 18]
def CI:List aA:=[M 19 5,Q 20 (.arith .lss (V 19) (I 8))]
def CJ:List aA:=[M 23 3,Q 24 (.arith .rem (V 23) (.cst (.int .u32 2))),Q 25 (.arith .eql (V 24) (.cst (.int .u32 1)))]
def CK:List aA:=[M 26 3,Q 27 (.arith .quo (V 26) (.cst (.int .u32 2))),Q 28 (.arith .xor (V 27) (.cst (.int .u32 2197175160))),M 3 28]
def CL:List aA:=[M 29 3,Q 30 (.arith .quo (V 29) (.cst (.int .u32 2))),M 3 30]
def uz:List aA:=[M 21 5,Q 22 (.arith .add (V 21) (I 1)),M 5 22]
@[simp]def aDD:=aC CG.eq_1<|aC uy.eq_1<|aC CH.eq_1<|aC CI.eq_1<|aC CJ.eq_1<|aC CK.eq_1<|aC CL.eq_1<|aP uz.eq_1
def CN:aN:=
 (aB (aB (aD 19 20 CI) (.cond (V 20) .skip (.exit 2))) (aB (.block 3 (aB (aD 23 25 CJ) (.cond (V 25) (aD 26 29 CK) (aD 29 31 CL)))) (aD 21 23 uz)))
@[simp]def aDE:=bG CN.eq_1
def vA:List aA:=[M 10 4,Q 11 (.arith .add (V 10) (I 1)),M 4 11]
@[simp]def aDF:=aP vA.eq_1
def CO:aN:=
 (aB (aB (aD 6 9 uy) (.cond (V 9) .skip (.exit 0))) (aB (.block 1 (aB (aD 12 19 CH) (aB (.region [Q 5 (.mov (I 0))]) (.block 2 (.loop CN))))) (aD 10 12 vA)))
@[simp]def aDG:=bG CO.eq_1
def CP:List aA:=[M 31 3,Q 32 (.arith .sub (.cst (.int .u32 4294967295)) (V 31)),M 2 32]
@[simp]def aDH:=aP CP.eq_1
def vB:aT:=
 ⟨1,[.tmp 2],
 (aB (.region [Q 2 (.mov (.cst (.int .u32 0)))]) (aB (aZ CG) (aB (aB (.region [Q 4 (.mov (I 0))]) (.block 0 (.loop CO))) (aB (aD 31 33 CP) .ret)))),false⟩
def oo:List aA:=[Q 1 (.box true (V 0)),Q 2 (.mov bO)]
def CQ:List aA:=[FA 3 0 1,LD 4 3,Q 5 (.arith .leq (I 0) (V 4)),M 6 5,QG (some 7) (.faddr 0 (V 1)) 6 true,QG (some 8) (.load false 1 false (V 7)) 6 true,QG (some 9) (.arith .leq (V 8) (I 1099511627776)) 6 true,Q 10 (.pick (V 6) (V 9) bO),M 11 10,QG (some 12) (.faddr 1 (V 1)) 11 true,QG (some 13) (.load false 1 false (V 12)) 11 true,QG (some 14) (.arith .leq (I (-1152921504606846976)) (V 13)) 11 true,Q 15 (.pick (V 11) (V 14) bO),M 16 15,QG (some 17) (.faddr 1 (V 1)) 16 true,QG (some 18) (.load false 1 false (V 17)) 16 true,QG (some 19) (.arith .leq (V 18) (I 1152921504606846976)) 16 true,Q 20 (.pick (V 16) (V 19) bO),M 2 20]
@[simp]def aDI:=aC oo.eq_1<|aP CQ.eq_1
def oq:aT:=
 ⟨1,[.tmp 2],
 (aB (aZ oo) (aB (aD 3 21 CQ) .ret)),false⟩
def CR:List aA:=[FA 3 0 1,LD 4 3,Q 5 (.arith .geq (V 4) (I 0)),M 6 5,QG (some 7) (.faddr 0 (V 1)) 6 true,QG (some 8) (.load false 1 false (V 7)) 6 true,QG (some 9) (.arith .leq (V 8) (I 1099511627776)) 6 true,Q 10 (.pick (V 6) (V 9) bO),M 11 10,QG (some 12) (.faddr 1 (V 1)) 11 true,QG (some 13) (.load false 1 false (V 12)) 11 true,QG (some 14) (.arith .geq (V 13) (I (-1152921504606846976))) 11 true,Q 15 (.pick (V 11) (V 14) bO),M 16 15,QG (some 17) (.faddr 1 (V 1)) 16 true,QG (some 18) (.load false 1 false (V 17)) 16 true,QG (some 19) (.arith .leq (V 18) (I 1152921504606846976)) 16 true,Q 20 (.pick (V 16) (V 19) bO),M 2 20]
@[simp]def aDJ:=aP CR.eq_1
def z64:aT:=
 ⟨1,[.tmp 2],
 (aB (aZ oo) (aB (aD 3 21 CR) .ret)),false⟩
def CS:List aA:=[M 8 0,bL 9 8,FA 10 2 9,LD 11 10]
def CT:List aA:=[M 13 0,bL 14 13,FA 15 0 14,LD 16 15,M 17 0,bL 18 17,FA 19 1 18,LD 20 19,Q 21 (.call .std 110 [V 16,V 20]),M 12 21,EX 22 0 12,EX 23 1 12,EX 24 2 12,M 5 22,M 6 23,M 7 24]
def CU:List aA:=[M 25 0,M 26 7,Q 27 (.arith .neq (V 26) (I 0)),M 28 27,QG (some 29) (.mov (V 5)) 28 false,QG (some 30) (.mov (V 1)) 28 false,QG (some 31) (.arith .gtr (V 29) (V 30)) 28 false,Q 32 (.pick (V 28) cN (V 31)),bL 33 25,FA 34 2 33,QN (.store 1 (V 34) (V 32))]
def CV:List aA:=[M 35 0,bL 36 35,FA 37 2 36,LD 38 37]
def CW:List aA:=[M 39 0,M 40 6,bL 41 39,FA 42 1 41,QN (.store 1 (V 42) (V 40))]
def CX:List aA:=[M 43 5,M 4 43]
@[simp]def aDK:=aC CS.eq_1<|aC CT.eq_1<|aC CU.eq_1<|aC CV.eq_1<|aC CW.eq_1<|aP CX.eq_1
def vC:aT:=
 ⟨2,[.tmp 4],
 (aB (.region [Q 4 (.mov (I 0))]) (aB (aB (aD 8 11 CS) (.cond (V 11) (aB (.region [Q 4 (.mov (I 0))]) .ret) .skip)) (aB (aD 12 25 CT) (aB (aB (aD 25 35 CU) (aB (aD 35 38 CV) (.cond (V 38) (aB (.region [Q 4 (.mov (I 0))]) .ret) .skip))) (aB (aD 39 43 CW) (aB (aD 43 44 CX) .ret)))))),false⟩
def rM:List aA:=[Q 2 (.mov (.cst (.str [])))]
def CY:List aA:=[M 6 0,bL 7 6,FA 8 2 7,LD 9 8]
def CZ:List aA:=[M 11 0,bL 12 11,FA 13 0 12,LD 14 13,M 15 0,bL 16 15,FA 17 1 16,LD 18 17,Q 19 (.call .std 111 [V 14,V 18]),M 10 19,EX 20 0 10,EX 21 1 10,EX 22 2 10,M 3 20,M 4 21,M 5 22]
def Ca:List aA:=[M 23 0,M 24 5,Q 25 (.arith .neq (V 24) (I 0)),M 26 25,QG (some 27) (.mov (V 3)) 26 false,QG (some 28) (.len true (V 27)) 26 false,QG (some 29) (.arith .gtr (V 28) (I 64)) 26 false,Q 30 (.pick (V 26) cN (V 29)),bL 31 23,FA 32 2 31,QN (.store 1 (V 32) (V 30))]
def Cb:List aA:=[M 33 0,bL 34 33,FA 35 2 34,LD 36 35]
def Cc:List aA:=[M 37 0,M 38 4,bL 39 37,FA 40 1 39,QN (.store 1 (V 40) (V 38))]
def Cd:List aA:=[M 41 3,M 2 41]
@[simp]def aDL:=aC rM.eq_1<|aC CY.eq_1<|aC CZ.eq_1<|aC Ca.eq_1<|aC Cb.eq_1<|aC Cc.eq_1<|aP Cd.eq_1
def z9:aT:=
 ⟨1,[.tmp 2],
 (aB (aZ rM) (aB (aB (aD 6 9 CY) (.cond (V 9) (aB (aZ rM) .ret) .skip)) (aB (aD 10 23 CZ) (aB (aB (aD 23 33 Ca) (aB (aD 33 36 Cb) (.cond (V 36) (aB (aZ rM) .ret) .skip))) (aB (aD 37 41 Cc) (aB (aD 41 42 Cd) .ret)))))),false⟩
def Ce:List aA:=[Q 2 (.mov (I 0))]
def Cf:List aA:=[M 7 0,bL 8 7,FA 9 0 8,LD 10 9,M 11 0,bL 12 11,FA 13 1 12,LD 14 13,Q 15 (.call .std 110 [V 10,V 14]),M 6 15,EX 16 0 6,EX 17 1 6,EX 18 2 6,M 3 16,M 4 17,M 5 18]
def Cg:List aA:=[M 23 0,M 24 4,bL 25 23,FA 26 1 25,QN (.store 1 (V 26) (V 24))]
def Ch:List aA:=[M 27 3,M 2 27]
def Ci:List aA:=[Q 5 (.emp0),M 6 0,Q 7 (.gapp 1 1 (V 5) (V 6)),M 2 7]
@[simp]def aDM:=aC Ce.eq_1<|aC Cf.eq_1<|aC Cg.eq_1<|aC Ch.eq_1<|aP Ci.eq_1
def z8:aT:=
 ⟨1,[.tmp 2],
 (aB (.region [Q 2 (.mov (.cst .nils))]) (aB (aB (aD 3 4 wj) (.cond (V 4) (aB (.region [Q 2 (.mov (.cst .nils))]) .ret) .skip)) (aB (aD 5 8 Ci) .ret))),false⟩
def Cj:List aA:=[Q 2 (.mov (I 0)),Q 3 (.mov (I 0)),Q 4 (.mov (I 0)),Q 5 (.mov (I 0))]
def Ck:List aA:=[M 9 0,Q 10 (.call .std 265 [V 9]),M 8 10,EX 11 0 8,EX 12 1 8,M 6 11,M 7 12]
def Cl:List aA:=[M 13 7,Q 14 (.arith .neq (V 13) (I 0))]
def Cm:List aA:=[M 15 7,Q 2 (.mov (I 0)),Q 3 (.mov (I 0)),Q 4 (.mov (I 0)),M 5 15]
def Cn:List aA:=[M 16 6,Q 17 (.len false (V 16)),M 18 6,Q 19 (.iaddr 2 (V 18) (I 0)),FA 20 0 19,Q 21 (.load false 1 true (V 20)),M 22 6,M 23 6,Q 24 (.len false (V 23)),Q 25 (.arith .sub (V 24) (I 1)),Q 26 (.iaddr 2 (V 22) (V 25)),FA 27 0 26,Q 28 (.load false 1 true (V 27)),M 2 17,M 3 21,M 4 28,Q 5 (.mov (I 0))]
@[simp]def aDN:=aC Cj.eq_1<|aC Ck.eq_1<|aC Cl.eq_1<|aC Cm.eq_1<|aP Cn.eq_1
def vD:aT:=
 ⟨1,[.tmp 2,.tmp 3,.tmp 4,.tmp 5],
 (aB (aZ Cj) (aB (aD 8 13 Ck) (aB (aB (aD 13 14 Cl) (.cond (V 14) (aB (aD 15 16 Cm) .ret) .skip)) (aB (aD 16 29 Cn) .ret)))),false⟩
def Co:List aA:=[M 7 0,Q 8 (.eqn false .p (V 7)),M 6 8]
def Cp:List aA:=[M 10 1,Q 11 (.arith .lss (V 10) (I 0)),M 12 11,QG (some 13) (.mov (V 1)) 12 false,QG (some 14) (.mov (V 0)) 12 false,QG (some 15) (.nilck (V 14)) 12 false,QG (some 16) (.faddr 0 (V 15)) 12 false,QG (some 17) (.load false 1 false (V 16)) 12 false,QG (some 18) (.len false (V 17)) 12 false,QG (some 19) (.arith .geq (V 13) (V 18)) 12 false,Q 20 (.pick (V 12) cN (V 19)),M 9 20]
def Cq:List aA:=[Q 4 (.mov (.cst .nils)),Q 5 (.mov (I 9))]
def Cr:List aA:=[M 21 0,bL 22 21,FA 23 0 22,LD 24 23,M 25 1,Q 26 (.iaddr 1 (V 24) (V 25)),LD 27 26,Q 28 (.call .std 130 [V 27]),M 4 28,Q 5 (.mov (I 0))]
@[simp]def aDO:=aC Co.eq_1<|aC Cp.eq_1<|aC Cq.eq_1<|aP Cr.eq_1
def z7:aT:=
 ⟨2,[.tmp 4,.tmp 5],
 (aB (aZ pH) (aB (.block 0 (aB (aD 7 9 Co) (.cond (V 6) (aB (aZ wh) .ret) (aB (aD 10 21 Cp) (.cond (V 9) (aB (aZ Cq) .ret) .skip))))) (aB (aD 21 29 Cr) .ret))),false⟩
def Cs:List aA:=[Q 2 (.mov (I 0))]
def Ct:List aA:=[M 6 3,Q 7 (.arith .gtr (V 6) (.cst (.int .u64 1099511627776)))]
def Cu:List aA:=[M 10 3,Q 11 (.toInt .i64 (V 10)),M 2 11]
def Cv:List aA:=[Q 4 (.mov (I 0))]
def Cw:List aA:=[M 9 5,M 10 1,Q 11 (.un .neg (V 10)),Q 12 (.arith .lss (V 9) (V 11)),M 13 12,QG (some 14) (.mov (V 5)) 13 false,QG (some 15) (.mov (V 1)) 13 false,QG (some 16) (.arith .gtr (V 14) (V 15)) 13 false,Q 17 (.pick (V 13) cN (V 16))]
def Cx:List aA:=[M 20 5,M 4 20]
def Cy:List aA:=[Q 2 (.mov (.cst (.int .u64 0)))]
def Cz:List aA:=[M 7 0,bL 8 7,FA 9 0 8,Q 10 (.load true 2 false (V 9)),M 11 0,bL 12 11,FA 13 2 12,LD 14 13,Q 15 (.call .std 380 [V 10,V 14]),M 6 15,EX 16 0 6,EX 17 1 6,EX 18 2 6,M 3 16,M 4 17,M 5 18]
def DA:List aA:=[M 19 5,Q 20 (.arith .neq (V 19) (I 0))]
def DB:List aA:=[M 23 0,M 24 4,bL 25 23,FA 26 2 25,QN (.store 1 (V 26) (V 24))]
def DC:List aA:=[M 27 3,M 2 27]
def DD:List aA:=[M 5 0,Q 6 (.len true (V 5)),Q 7 (.mov (I 0))]
def DE:List aA:=[M 9 7,M 3 9]
def DF:List aA:=[M 10 0,M 11 3,Q 12 (.idxs (V 10) (V 11)),M 4 12]
def DG:List aA:=[M 14 4,Q 15 (.arith .geq (V 14) (.cst (.int .u8 97))),M 16 15,QG (some 17) (.mov (V 4)) 16 true,QG (some 18) (.arith .leq (V 17) (.cst (.int .u8 122))) 16 true,Q 19 (.pick (V 16) (V 18) bO),M 13 19]
def DH:List aA:=[M 20 4,Q 21 (.arith .geq (V 20) (.cst (.int .u8 65))),M 22 21,QG (some 23) (.mov (V 4)) 22 true,QG (some 24) (.arith .leq (V 23) (.cst (.int .u8 90))) 22 true,Q 25 (.pick (V 22) (V 24) bO),M 13 25]
def DI:List aA:=[M 26 4,Q 27 (.arith .eql (V 26) (.cst (.int .u8 95))),M 13 27]
def DJ:List aA:=[M 29 3,Q 30 (.arith .gtr (V 29) (I 0)),M 31 30,QG (some 32) (.mov (V 4)) 31 true,QG (some 33) (.arith .geq (V 32) (.cst (.int .u8 48))) 31 true,Q 34 (.pick (V 31) (V 33) bO),M 35 34,QG (some 36) (.mov (V 4)) 35 true,QG (some 37) (.arith .leq (V 36) (.cst (.int .u8 57))) 35 true,Q 38 (.pick (V 35) (V 37) bO),M 28 38]
def DK:List aA:=[Q 39 (.arith .add (V 7) (I 1)),M 7 39]
@[simp]def aDP:=aC Cs.eq_1<|aC Ct.eq_1<|aC Cu.eq_1<|aC Cv.eq_1<|aC Cw.eq_1<|aC Cx.eq_1<|aC Cy.eq_1<|aC Cz.eq_1<|aC DA.eq_1<|aC DB.eq_1<|aC DC.eq_1<|aC DD.eq_1<|aC DE.eq_1<|aC DF.eq_1<|aC DG.eq_1<|aC DH.eq_1<|aC DI.eq_1<|aC DJ.eq_1<|aP DK.eq_1
def rN:aN:=
 (aB (.region [Q 8 (.arith .lss (V 7) (V 6))]) (aB (.cond (V 8) .skip (.exit 0)) (aB (.block 1 (aB (aD 9 10 DE) (aB (aD 10 13 DF) (.block 2 (aB (aB (aD 14 20 DG) (.cond (V 13) .skip (aB (aD 20 26 DH) (.cond (V 13) .skip (aD 26 28 DI))))) (.cond (V 13) .skip (aB (aD 29 39 DJ) (.cond (V 28) .skip (aB (.region [Q 2 (.mov bO)]) .ret))))))))) (aD 39 40 DK))))
@[simp]def aDQ:=bG rN.eq_1
def DL:List aA:=[M 40 0,Q 41 (.arith .neq (V 40) (.cst (.str []))),M 42 41,QG (some 43) (.mov (V 0)) 42 true,QG (some 44) (.len true (V 43)) 42 true,QG (some 45) (.arith .leq (V 44) (I 32)) 42 true,Q 46 (.pick (V 42) (V 45) bO),M 2 46]
@[simp]def aDR:=aP DL.eq_1
def ot:aT:=
 ⟨1,[.tmp 2],
 (aB (.region [Q 2 (.mov bO)]) (aB (aB (aD 5 6 DD) (.block 0 (.loop rN))) (aB (aD 40 47 DL) .ret))),false⟩
def DM:List aA:=[M 11 0,Q 12 (.len false (V 11)),Q 13 (.mov (I 0))]
def DN:List aA:=[Q 14 (.arith .lss (V 13) (V 12))]
def DO:List aA:=[M 15 13,Q 16 (.iaddr 2 (V 11) (V 13)),Q 17 (.load true 2 false (V 16)),Q 8 (.alloc false [(.str []),(.str [])]),M 7 15,QN (.store 2 (V 8) (V 17))]
def DP:List aA:=[M 18 7,M 19 1,Q 20 (.len false (V 19)),Q 21 (.arith .geq (V 18) (V 20))]
def DQ:List aA:=[M 22 1,M 23 7,Q 24 (.iaddr 2 (V 22) (V 23)),Q 25 (.load true 2 false (V 24)),Q 9 (.alloc false [(.str []),(.str [])]),QN (.store 2 (V 9) (V 25))]
def DR:List aA:=[M 26 2,Q 27 (.load true 2 false (V 8)),Q 28 (.load true 2 false (V 9)),Q 29 (.callv .std (V 26) [V 27,V 28]),M 10 29]
def DS:List aA:=[M 30 10,Q 31 (.arith .neq (V 30) (I 0))]
def DT:List aA:=[M 32 10,M 6 32]
def DU:List aA:=[Q 33 (.arith .add (V 13) (I 1)),M 13 33]
@[simp]def aDS:=aC DM.eq_1<|aC DN.eq_1<|aC DO.eq_1<|aC DP.eq_1<|aC DQ.eq_1<|aC DR.eq_1<|aC DS.eq_1<|aC DT.eq_1<|aP DU.eq_1
def vE:aN:=
 (aB (aZ DN) (aB (.cond (V 14) .skip (.exit 0)) (aB (.block 1 (aB (aD 15 18 DO) (aB (aB (aD 18 21 DP) (.cond (V 21) (aB (.region [Q 6 (.mov (I 1))]) .ret) .skip)) (aB (aD 22 26 DQ) (aB (aD 26 30 DR) (aB (aD 30 31 DS) (.cond (V 31) (aB (aD 32 33 DT) .ret) .skip))))))) (aD 33 34 DU))))
@[simp]def aDT:=bG vE.eq_1
def DV:List aA:=[M 34 0,Q 35 (.len false (V 34)),M 36 1,Q 37 (.len false (V 36)),Q 38 (.arith .lss (V 35) (V 37))]
@[simp]def aDU:=aP DV.eq_1
def z0:aT:=
 ⟨3,[.tmp 6],
 (aB (.region [Q 6 (.mov (I 0))]) (aB (aB (aZ DM) (.block 0 (.loop vE))) (aB (aB (aD 34 38 DV) (.cond (V 38) (aB (.region [Q 6 (.mov (I (-1)))]) .ret) .skip)) (aB (.region [Q 6 (.mov (I 0))]) .ret)))),false⟩
def DW:List aA:=[Q 2 (.box true (V 0)),Q 3 (.box true (V 1)),Q 4 (.mov (I 0))]
def DX:List aA:=[FA 5 0 2,Q 6 (.load false 1 true (V 5)),FA 7 0 3,Q 8 (.load false 1 true (V 7)),Q 9 (.call .pur 106 [V 6,V 8]),FA 10 1 2,Q 11 (.load false 1 true (V 10)),FA 12 1 3,Q 13 (.load false 1 true (V 12)),Q 14 (.call .pur 106 [V 11,V 13]),Q 15 (.bsl false (.int .i64 0) 2 [(0,V 9),(1,V 14)]),Q 16 (.call .std 105 [V 15]),M 4 16]
@[simp]def aDV:=aC DW.eq_1<|aP DX.eq_1
def ou:aT:=
 ⟨2,[.tmp 4],
 (aB (aZ DW) (aB (aD 5 17 DX) .ret)),false⟩
def DY:List aA:=[Q 10 (.iaddr 1 (V 6) (V 8)),LD 11 10,M 5 11]
def DZ:List aA:=[M 12 5,M 13 3,Q 14 (.arith .neq (V 12) (V 13))]
def Da:List aA:=[M 15 5,M 2 15]
def Db:List aA:=[Q 16 (.arith .add (V 8) (I 1)),M 8 16]
@[simp]def aDW:=aC DY.eq_1<|aC DZ.eq_1<|aC Da.eq_1<|aP Db.eq_1
def Dc:aN:=
 (aB (.region [Q 9 (.arith .lss (V 8) (V 7))]) (aB (.cond (V 9) .skip (.exit 0)) (aB (.block 1 (aB (aD 10 12 DY) (aB (aD 12 14 DZ) (.cond (V 14) (aB (aD 15 16 Da) .ret) .skip)))) (aD 16 17 Db))))
@[simp]def aDX:=bG Dc.eq_1
def Dd:List aA:=[M 17 3,M 2 17]
@[simp]def aDY:=aP Dd.eq_1
def z57:aT:=
 ⟨1,[.tmp 2],
 (aB (.region [Q 2 (.mov (I 0))]) (aB (.region [Q 3 (.mov (I 0))]) (aB (aB (aZ wI) (.block 0 (.loop Dc))) (aB (aD 17 18 Dd) .ret)))),false⟩
def De:List aA:=[M 7 0,Q 8 (.call .pur 217 [V 7]),M 5 8]
def Df:List aA:=[M 9 1,Q 10 (.call .pur 217 [V 9]),M 6 10]
def Dg:List aA:=[M 14 0,M 15 1,Q 16 (.arith .lss (V 14) (V 15))]
def Dh:List aA:=[M 17 0,M 18 1,Q 19 (.arith .gtr (V 17) (V 18))]
@[simp]def aDZ:=aC De.eq_1<|aC Df.eq_1<|aC Dg.eq_1<|aP Dh.eq_1
def z4:aT:=
 ⟨2,[.tmp 4],
 (aB (.region [Q 4 (.mov (I 0))]) (aB (aD 7 9 De) (aB (aD 9 11 Df) (aB (aB (.region [M 11 5]) (.cond (V 11) (aB (aB (.region [M 12 6]) (.cond (V 12) (aB (.region [Q 4 (.mov (I 0))]) .ret) .skip)) (aB (.region [Q 4 (.mov (I (-1)))]) .ret)) .skip)) (aB (aB (.region [M 13 6]) (.cond (V 13) (aB (.region [Q 4 (.mov (I 1))]) .ret) .skip)) (aB (aB (aD 14 16 Dg) (.cond (V 16) (aB (.region [Q 4 (.mov (I (-1)))]) .ret) .skip)) (aB (aB (aD 17 19 Dh) (.cond (V 19) (aB (.region [Q 4 (.mov (I 1))]) .ret) .skip)) (aB (.region [Q 4 (.mov (I 0))]) .ret)))))))),false⟩
def Di:List aA:=[Q 1 (.box false (V 0)),Q 2 (.mov (.cst .nilf))]
def Dj:List aA:=[Q 3 (.mkfn 362 [V 1]),M 2 3]
@[simp]def aD0:=aC Di.eq_1<|aP Dj.eq_1
def ov:aT:=
 ⟨1,[.tmp 2],
 (aB (aZ Di) (aB (aD 3 4 Dj) .ret)),false⟩
def vF:List aA:=[Q 2 (.box true (V 0)),Q 4 (.alloc false [.nils,(.int .i64 0)]),Q 5 (.mov (I 0))]
def Dk:List aA:=[Q 9 (.load true 2 false (V 2)),Q 10 (.call .std 404 [V 9]),Q 11 (.un .not (V 10))]
def Dl:List aA:=[Q 12 (.build [.nils,(.int .i64 0)] []),QN (.store 2 (V 4) (V 12)),Q 5 (.mov (I 2))]
def Dm:List aA:=[Q 14 (.load true 2 false (V 2)),Q 15 (.call .std 405 [V 14]),M 13 15,EX 16 0 13,EX 17 1 13,M 6 16,M 7 17]
def Do:List aA:=[M 18 1,Q 19 (.call .pur 373 [V 18]),M 8 19]
def Dp:List aA:=[M 20 6,M 21 8,Q 22 (.toInt .u64 (V 21)),Q 23 (.callv .std (V 20) [V 22,(I 7)])]
def Dq:List aA:=[M 24 6,M 25 1,M 26 8,Q 27 (.callv .std (V 24) [V 25,V 26])]
def Dr:List aA:=[M 28 7,Q 29 (.callv .std (V 28) []),QN (.store 2 (V 4) (V 29)),Q 5 (.mov (I 0))]
@[simp]def aD1:=aC vF.eq_1<|aC Dk.eq_1<|aC Dl.eq_1<|aC Dm.eq_1<|aC Do.eq_1<|aC Dp.eq_1<|aC Dq.eq_1<|aP Dr.eq_1
def ow:aT:=
 ⟨2,[.cell 4 true 2,.tmp 5],
 (aB (aZ vF) (aB (aB (aD 9 11 Dk) (.cond (V 11) (aB (aD 12 13 Dl) .ret) .skip)) (aB (aD 13 18 Dm) (aB (aD 18 20 Do) (aB (aD 20 24 Dp) (aB (aD 24 28 Dq) (aB (aD 28 30 Dr) .ret))))))),false⟩
def Ds:List aA:=[M 3 0,Q 4 (.arith .shl (V 3) (.cst (.int .u64 1))),Q 5 (.toInt .u64 (V 4)),M 6 0,Q 7 (.arith .shr (V 6) (.cst (.int .u64 63))),Q 8 (.toInt .u64 (V 7)),Q 9 (.arith .xor (V 5) (V 8)),M 2 9]
@[simp]def aD2:=aP Ds.eq_1
def oy:aT:=
 ⟨1,[.tmp 2],
 (aB (.region [Q 2 (.mov (.cst (.int .u64 0)))]) (aB (aD 3 10 Ds) .ret)),false⟩
def Dt:List aA:=[LD 2 0,Q 3 (.arith .and (V 2) (.cst (.int .u32 1))),M 1 3]
def Du:List aA:=[LD 4 0,Q 5 (.arith .shr (V 4) (.cst (.int .u64 1))),M 6 1,Q 7 (.un .neg (V 6)),Q 8 (.arith .and (.cst (.int .u32 2197175160)) (V 7)),Q 9 (.arith .xor (V 5) (V 8)),QN (.store 1 (V 0) (V 9))]
@[simp]def aD3:=aC Dt.eq_1<|aP Du.eq_1
def z35:aT:=
 ⟨1,[],
 (aB (aD 2 4 Dt) (aD 4 10 Du)),false⟩
def Dv:List aA:=[M 6 0,Q 7 (.call .std 139 [V 6]),M 3 7]
def Dw:List aA:=[M 8 4,M 9 0,Q 10 (.len false (V 9)),Q 11 (.arith .lss (V 8) (V 10))]
def Dx:List aA:=[M 14 5,M 15 0,M 16 4,Q 17 (.iaddr 1 (V 15) (V 16)),LD 18 17,Q 19 (.len false (V 18)),Q 20 (.arith .lss (V 14) (V 19))]
def Dy:List aA:=[M 23 3,M 24 0,M 25 4,Q 26 (.iaddr 1 (V 24) (V 25)),LD 27 26,M 28 5,Q 29 (.iaddr 2 (V 27) (V 28)),FA 30 1 29,LD 31 30,Q 32 (.call .std 238 [V 23,V 31]),M 3 32]
@[simp]def aD4:=aC Dv.eq_1<|aC Dw.eq_1<|aC Dx.eq_1<|aP Dy.eq_1
def Dz:aN:=
 (aB (aB (aD 14 20 Dx) (.cond (V 20) .skip (.exit 2))) (aB (.block 3 (aD 23 33 Dy)) (aD 21 23 uz)))
@[simp]def aD5:=bG Dz.eq_1
def EA:List aA:=[M 12 4,Q 13 (.arith .add (V 12) (I 1)),M 4 13]
@[simp]def aD6:=aP EA.eq_1
def EB:aN:=
 (aB (aB (aD 8 11 Dw) (.cond (V 11) .skip (.exit 0))) (aB (.block 1 (aB (.region [Q 5 (.mov (I 0))]) (.block 2 (.loop Dz)))) (aD 12 14 EA)))
@[simp]def aD7:=bG EB.eq_1
def EC:List aA:=[M 33 3,M 2 33]
@[simp]def aD8:=aP EC.eq_1
def vG:aT:=
 ⟨1,[.tmp 2],
 (aB (.region [Q 2 (.mov (.cst .nils))]) (aB (aD 6 8 Dv) (aB (aB (.region [Q 4 (.mov (I 0))]) (.block 0 (.loop EB))) (aB (aD 33 34 EC) .ret)))),false⟩
def ED:List aA:=[M 3 0,Q 4 (.len true (V 3)),Q 5 (.call .std 219 [V 4]),M 6 0,Q 7 (.app 1 1 (V 5) (V 6)),M 2 7]
@[simp]def aD9:=aP ED.eq_1
def vH:aT:=
 ⟨1,[.tmp 2],
 (aB (.region [Q 2 (.mov (.cst .nils))]) (aB (aD 3 8 ED) .ret)),false⟩
def EE:List aA:=[M 6 5,M 7 0,Q 8 (.len false (V 7)),Q 9 (.arith .lss (V 6) (V 8))]
def EF:List aA:=[M 12 0,M 13 5,Q 14 (.iaddr 1 (V 12) (V 13)),LD 15 14,M 16 1,Q 17 (.arith .eql (V 15) (V 16))]
def EG:List aA:=[M 18 5,M 4 18]
def EH:List aA:=[M 10 5,Q 11 (.arith .add (V 10) (I 1)),M 5 11]
@[simp]def aEa:=aC EE.eq_1<|aC EF.eq_1<|aC EG.eq_1<|aP EH.eq_1
def EI:aN:=
 (aB (aB (aD 6 9 EE) (.cond (V 9) .skip (.exit 0))) (aB (.block 1 (aB (aD 12 17 EF) (.cond (V 17) (aB (aD 18 19 EG) .ret) .skip))) (aD 10 12 EH)))
@[simp]def aEb:=bG EI.eq_1
def vI:aT:=
 ⟨2,[.tmp 4],
 (aB (.region [Q 4 (.mov (I 0))]) (aB (aB (.region [Q 5 (.mov (I 0))]) (.block 0 (.loop EI))) (aB (.region [Q 4 (.mov (I 0))]) .ret))),false⟩
def EJ:List aA:=[M 3 0,Q 4 (.len false (V 3)),Q 5 (.arith .eql (V 4) (I 0)),M 6 5,QG (some 7) (.mov (V 0)) 6 false,QG (some 8) (.len false (V 7)) 6 false,QG (some 9) (.arith .gtr (V 8) (I 120)) 6 false,Q 10 (.pick (V 6) cN (V 9))]
def EK:List aA:=[M 11 0,Q 12 (.call .std 257 [V 11]),M 2 12]
@[simp]def aEc:=aC EJ.eq_1<|aP EK.eq_1
def z36:aT:=
 ⟨1,[.tmp 2],
 (aB (.region [Q 2 (.mov (I 0))]) (aB (aB (aD 3 10 EJ) (.cond (V 10) (aB (.region [Q 2 (.mov (I 2))]) .ret) .skip)) (aB (aD 11 13 EK) .ret))),false⟩
def EL:List aA:=[M 3 0,Q 4 (.arith .geq (V 3) (I 0))]
def EM:List aA:=[M 5 0,Q 6 (.toInt .u64 (V 5)),Q 7 (.arith .mul (.cst (.int .u64 2)) (V 6)),M 2 7]
def EN:List aA:=[M 8 0,Q 9 (.arith .add (V 8) (I 1)),Q 10 (.un .neg (V 9)),Q 11 (.toInt .u64 (V 10)),Q 12 (.arith .mul (.cst (.int .u64 2)) (V 11)),Q 13 (.arith .add (V 12) (.cst (.int .u64 1))),M 2 13]
@[simp]def aEd:=aC EL.eq_1<|aC EM.eq_1<|aP EN.eq_1
def vJ:aT:=
 ⟨1,[.tmp 2],
 (aB (.region [Q 2 (.mov (.cst (.int .u64 0)))]) (aB (aB (aD 3 4 EL) (.cond (V 4) (aB (aD 5 8 EM) .ret) .skip)) (aB (aD 8 14 EN) .ret))),false⟩
def EO:List aA:=[M 9 1,Q 10 (.call .pur 375 [V 9]),M 6 10]
def EP:List aA:=[Q 12 (.load true 2 false (V 2)),M 13 6,Q 14 (.toInt .u64 (V 13)),Q 15 (.call .std 376 [V 12,V 14,(I 7)]),M 11 15,EX 16 0 11,EX 17 1 11,Q 7 (.alloc false [.nils,(.int .i64 0)]),QN (.store 2 (V 7) (V 16)),M 8 17]
def EQ:List aA:=[M 18 8,Q 19 (.arith .neq (V 18) (I 0))]
def ER:List aA:=[Q 20 (.build [.nils,(.int .i64 0)] []),M 21 8,QN (.store 2 (V 4) (V 20)),M 5 21]
def ES:List aA:=[Q 22 (.load true 2 false (V 7)),M 23 1,M 24 6,Q 25 (.call .std 376 [V 22,V 23,V 24]),EX 26 0 25,EX 27 1 25,QN (.store 2 (V 4) (V 26)),M 5 27]
@[simp]def aEe:=aC EO.eq_1<|aC EP.eq_1<|aC EQ.eq_1<|aC ER.eq_1<|aP ES.eq_1
def vK:aT:=
 ⟨2,[.cell 4 true 2,.tmp 5],
 (aB (aZ vF) (aB (aD 9 11 EO) (aB (aD 11 18 EP) (aB (aB (aD 18 19 EQ) (.cond (V 19) (aB (aD 20 22 ER) .ret) .skip)) (aB (aD 22 28 ES) .ret))))),false⟩
def ET:List aA:=[Q 4 (.mov (I 0)),Q 5 (.mov (I 0)),Q 6 (.mov (I 0))]
def EU:List aA:=[M 10 1,Q 11 (.arith .lss (V 10) (I 0)),M 12 11,QG (some 13) (.mov (V 1)) 12 false,QG (some 14) (.mov (V 0)) 12 false,QG (some 15) (.len false (V 14)) 12 false,QG (some 16) (.arith .gtr (V 13) (V 15)) 12 false,Q 17 (.pick (V 12) cN (V 16))]
def EV:List aA:=[Q 4 (.mov (I 0)),Q 5 (.mov (I 0)),Q 6 (.mov (I 2))]
def EW:List aA:=[M 18 0,M 19 1,Q 20 (.slc 1 (some (V 19)) none (V 18)),Q 21 (.len false (V 20)),Q 22 (.mov (I 0))]
def EY:List aA:=[Q 23 (.arith .lss (V 22) (V 21))]
def EZ:List aA:=[M 24 22,Q 25 (.iaddr 1 (V 20) (V 22)),LD 26 25,M 8 24,M 9 26]
def Ea:List aA:=[M 27 8,Q 28 (.arith .eql (V 27) (I 8)),M 29 28,QG (some 30) (.mov (V 9)) 29 true,QG (some 31) (.arith .gtr (V 30) (.cst (.int .u8 127))) 29 true,Q 32 (.pick (V 29) (V 31) bO),M 33 32,QG (some 34) (.mov (V 8)) 33 false,QG (some 35) (.arith .gtr (V 34) (I 0)) 33 false,QG (some 36) (.mov (V 35)) 33 false,QG (some 37) (.mov (V 9)) 36 true,QG (some 38) (.arith .eql (V 37) (.cst (.int .u8 0))) 36 true,QG (some 39) (.pick (V 36) (V 38) bO) 33 false,Q 40 (.pick (V 33) cN (V 39))]
def Eb:List aA:=[Q 4 (.mov (I 0)),Q 5 (.mov (I 0)),Q 6 (.mov (I 5))]
def Ec:List aA:=[M 41 7,M 42 9,Q 43 (.arith .and (V 42) (.cst (.int .u8 127))),Q 44 (.toInt .u64 (V 43)),M 45 8,Q 46 (.arith .mul (I 7) (V 45)),Q 47 (.arith .shl (V 44) (V 46)),Q 48 (.arith .or (V 41) (V 47)),M 7 48]
def Ed:List aA:=[M 49 9,Q 50 (.arith .lss (V 49) (.cst (.int .u8 128)))]
def Ee:List aA:=[M 51 7,Q 52 (.toInt .i64 (V 51)),M 53 1,M 54 8,Q 55 (.arith .add (V 53) (V 54)),Q 56 (.arith .add (V 55) (I 1)),M 4 52,M 5 56,Q 6 (.mov (I 0))]
def Ef:List aA:=[Q 57 (.arith .add (V 22) (I 1)),M 22 57]
@[simp]def aEf:=aC ET.eq_1<|aC EU.eq_1<|aC EV.eq_1<|aC EW.eq_1<|aC EY.eq_1<|aC EZ.eq_1<|aC Ea.eq_1<|aC Eb.eq_1<|aC Ec.eq_1<|aC Ed.eq_1<|aC Ee.eq_1<|aP Ef.eq_1
def Eg:aN:=
 (aB (aZ EY) (aB (.cond (V 23) .skip (.exit 0)) (aB (.block 1 (aB (aD 24 27 EZ) (aB (aB (aD 27 40 Ea) (.cond (V 40) (aB (aZ Eb) .ret) .skip)) (aB (aD 41 49 Ec) (aB (aD 49 50 Ed) (.cond (V 50) (aB (aD 51 57 Ee) .ret) .skip)))))) (aD 57 58 Ef))))
@[simp]def aEg:=bG Eg.eq_1
def Eh:List aA:=[Q 4 (.mov (I 0)),Q 5 (.mov (I 0)),Q 6 (.mov (I 4))]
@[simp]def aEh:=aP Eh.eq_1
def vM:aT:=
 ⟨2,[.tmp 4,.tmp 5,.tmp 6],
 (aB (aZ ET) (aB (aB (aD 10 17 EU) (.cond (V 17) (aB (aZ EV) .ret) .skip)) (aB (.region [Q 7 (.mov (.cst (.int .u64 0)))]) (aB (aB (aD 18 20 EW) (.block 0 (.loop Eg))) (aB (aZ Eh) .ret))))),false⟩
def Ei:List aA:=[Q 4 (.mov (.cst (.str []))),Q 5 (.mov (I 0)),Q 6 (.mov (I 0))]
def Ej:List aA:=[M 11 0,M 12 1,Q 13 (.call .std 110 [V 11,V 12]),M 10 13,EX 14 0 10,EX 15 1 10,EX 16 2 10,M 7 14,M 8 15,M 9 16]
def Ek:List aA:=[M 18 9,Q 19 (.arith .neq (V 18) (I 0)),M 17 19]
def El:List aA:=[M 20 9,Q 4 (.mov (.cst (.str []))),Q 5 (.mov (I 0)),M 6 20]
def Em:List aA:=[M 22 7,Q 23 (.arith .gtr (V 22) (I 65535)),M 21 23]
def En:List aA:=[Q 4 (.mov (.cst (.str []))),Q 5 (.mov (I 0)),Q 6 (.mov (I 3))]
def Eo:List aA:=[M 25 7,M 26 0,Q 27 (.len false (V 26)),M 28 8,Q 29 (.arith .sub (V 27) (V 28)),Q 30 (.arith .gtr (V 25) (V 29)),M 24 30]
def Ep:List aA:=[Q 4 (.mov (.cst (.str []))),Q 5 (.mov (I 0)),Q 6 (.mov (I 4))]
def Eq:List aA:=[M 31 0,M 32 8,M 33 8,M 34 7,Q 35 (.arith .add (V 33) (V 34)),Q 36 (.slc 1 (some (V 32)) (some (V 35)) (V 31)),Q 37 (.toStr (V 36)),M 38 8,M 39 7,Q 40 (.arith .add (V 38) (V 39)),M 4 37,M 5 40,Q 6 (.mov (I 0))]
@[simp]def aEi:=aC Ei.eq_1<|aC Ej.eq_1<|aC Ek.eq_1<|aC El.eq_1<|aC Em.eq_1<|aC En.eq_1<|aC Eo.eq_1<|aC Ep.eq_1<|aP Eq.eq_1
def vN:aT:=
 ⟨2,[.tmp 4,.tmp 5,.tmp 6],
 (aB (aZ Ei) (aB (aD 10 17 Ej) (aB (.block 0 (aB (aD 18 20 Ek) (.cond (V 17) (aB (aD 20 21 El) .ret) (aB (aD 22 24 Em) (.cond (V 21) (aB (aZ En) .ret) (aB (aD 25 31 Eo) (.cond (V 24) (aB (aZ Ep) .ret) .skip))))))) (aB (aD 31 41 Eq) .ret)))),false⟩
def Er:List aA:=[M 3 0,Q 4 (.arith .shr (V 3) (.cst (.int .u64 1))),Q 5 (.toInt .i64 (V 4)),M 6 0,Q 7 (.arith .and (V 6) (.cst (.int .u64 1))),Q 8 (.toInt .i64 (V 7)),Q 9 (.un .neg (V 8)),Q 10 (.arith .xor (V 5) (V 9)),M 2 10]
@[simp]def aEj:=aP Er.eq_1
def vO:aT:=
 ⟨1,[.tmp 2],
 (aB (.region [Q 2 (.mov (I 0))]) (aB (aD 3 11 Er) .ret)),false⟩
def Es:List aA:=[Q 2 (.box true (V 0)),Q 4 (.mov (.cst (.int .u64 0))),Q 5 (.mov (I 0)),Q 6 (.mov (I 0))]
def Et:List aA:=[Q 11 (.load true 2 false (V 2)),M 12 1,Q 13 (.call .std 406 [V 11,V 12,(I 7)]),M 10 13,EX 14 0 10,EX 15 1 10,M 7 14,M 8 15]
def Eu:List aA:=[M 17 8,Q 18 (.arith .neq (V 17) (I 0)),M 16 18]
def Ev:List aA:=[M 19 8,Q 4 (.mov (.cst (.int .u64 0))),Q 5 (.mov (I 0)),M 6 19]
def Ew:List aA:=[M 21 7,Q 22 (.arith .gtr (V 21) (.cst (.int .u64 64))),M 20 22]
def vP:List aA:=[Q 4 (.mov (.cst (.int .u64 0))),Q 5 (.mov (I 0)),Q 6 (.mov (I 5))]
def Ey:List aA:=[Q 24 (.load true 2 false (V 2)),M 25 1,Q 26 (.arith .add (V 25) (I 7)),M 27 7,Q 28 (.toInt .i64 (V 27)),Q 29 (.call .std 406 [V 24,V 26,V 28]),M 23 29,EX 30 0 23,EX 31 1 23,M 9 30,M 8 31]
def Ez:List aA:=[M 33 8,Q 34 (.arith .neq (V 33) (I 0)),M 32 34]
def FB:List aA:=[M 35 8,Q 4 (.mov (.cst (.int .u64 0))),Q 5 (.mov (I 0)),M 6 35]
def FC:List aA:=[M 37 9,Q 38 (.call .pur 373 [V 37]),M 39 7,Q 40 (.toInt .i64 (V 39)),Q 41 (.arith .neq (V 38) (V 40)),M 36 41]
def FD:List aA:=[M 42 9,M 43 1,Q 44 (.arith .add (V 43) (I 7)),M 45 7,Q 46 (.toInt .i64 (V 45)),Q 47 (.arith .add (V 44) (V 46)),M 4 42,M 5 47,Q 6 (.mov (I 0))]
@[simp]def aEk:=aC Es.eq_1<|aC Et.eq_1<|aC Eu.eq_1<|aC Ev.eq_1<|aC Ew.eq_1<|aC vP.eq_1<|aC Ey.eq_1<|aC Ez.eq_1<|aC FB.eq_1<|aC FC.eq_1<|aP FD.eq_1
def z41:aT:=
 ⟨2,[.tmp 4,.tmp 5,.tmp 6],
 (aB (aZ Es) (aB (aD 10 16 Et) (aB (.block 0 (aB (aD 17 19 Eu) (.cond (V 16) (aB (aD 19 20 Ev) .ret) (aB (aD 21 23 Ew) (.cond (V 20) (aB (aZ vP) .ret) .skip))))) (aB (aD 23 32 Ey) (aB (.block 1 (aB (aD 33 35 Ez) (.cond (V 32) (aB (aD 35 36 FB) .ret) (aB (aD 37 42 FC) (.cond (V 36) (aB (aZ vP) .ret) .skip))))) (aB (aD 42 48 FD) .ret)))))),false⟩
def FE:List aA:=[M 3 0,M 4 0,Q 5 (.arith .neq (V 3) (V 4)),M 2 5]
@[simp]def aEl:=aP FE.eq_1
def oz:aT:=
 ⟨1,[.tmp 2],
 (aB (.region [Q 2 (.mov bO)]) (aB (aD 3 6 FE) .ret)),false⟩
def FF:List aA:=[FA 3 1 1,Q 4 (.load false 1 true (V 3)),Q 5 (.arith .lss (V 4) (I 0)),M 6 5,QG (some 7) (.faddr 0 (V 1)) 6 false,QG (some 8) (.load false 1 true (V 7)) 6 false,QG (some 9) (.len false (V 8)) 6 false,QG (some 10) (.faddr 1 (V 1)) 6 false,QG (some 11) (.load false 1 true (V 10)) 6 false,QG (some 12) (.call .pur 413 [V 11]) 6 false,QG (some 13) (.arith .neq (V 9) (V 12)) 6 false,Q 14 (.pick (V 6) cN (V 13))]
def FG:List aA:=[FA 15 1 1,Q 16 (.load false 1 true (V 15)),Q 17 (.arith .rem (V 16) (I 8)),Q 18 (.arith .eql (V 17) (I 0)),M 19 18,QG (some 20) (.faddr 0 (V 1)) 19 false,QG (some 21) (.load false 1 true (V 20)) 19 false,QG (some 22) (.faddr 0 (V 1)) 19 false,QG (some 23) (.load false 1 true (V 22)) 19 false,QG (some 24) (.len false (V 23)) 19 false,QG (some 25) (.arith .sub (V 24) (I 1)) 19 false,QG (some 26) (.iaddr 1 (V 21) (V 25)) 19 false,QG (some 27) (.load false 1 true (V 26)) 19 false,QG (some 28) (.faddr 1 (V 1)) 19 false,QG (some 29) (.load false 1 true (V 28)) 19 false,QG (some 30) (.arith .rem (V 29) (I 8)) 19 false,QG (some 31) (.arith .shl (V 27) (V 30)) 19 false,QG (some 32) (.arith .eql (V 31) (.cst (.int .u8 0))) 19 false,Q 33 (.pick (V 19) cN (V 32)),M 2 33]
@[simp]def aEm:=aC FF.eq_1<|aP FG.eq_1
def nH:aT:=
 ⟨1,[.tmp 2],
 (aB (aZ oo) (aB (aB (aD 3 14 FF) (.cond (V 14) (aB (.region [Q 2 (.mov bO)]) .ret) .skip)) (aB (aD 15 34 FG) .ret))),false⟩
def FH:List aA:=[Q 1 (.box true (V 0)),Q 2 (.mov (.cst .nilf)),Q 3 (.mov (.cst .nilf))]
def FI:List aA:=[FA 5 0 1,Q 6 (.load false 1 true (V 5)),Q 7 (.len false (V 6)),Q 8 (.arith .add (V 7) (I 17)),Q 9 (.mko 1 1 [(.int .u8 0)] (V 8)),FA 10 0 1,Q 11 (.load false 1 true (V 10)),Q 12 (.gapp 1 1 (V 9) (V 11)),FA 13 1 1,Q 14 (.load false 1 true (V 13)),Q 15 (.build [.nils,(.int .i64 0)] [(0,1,V 12),(1,1,V 14)]),Q 4 (.mov (.cst .und)),Q 4 (.nst 2 (V 15))]
def FJ:List aA:=[Q 16 (.mkfn 414 [V 4]),M 2 16]
def FK:List aA:=[M 17 2,Q 18 (.mkfn 415 [V 4]),M 2 17,M 3 18]
@[simp]def aEn:=aC FH.eq_1<|aC FI.eq_1<|aC FJ.eq_1<|aP FK.eq_1
def pA:aT:=
 ⟨1,[.tmp 2,.tmp 3],
 (aB (aZ FH) (aB (aD 5 16 FI) (aB (aD 16 17 FJ) (aB (aD 17 19 FK) .ret)))),true⟩
def FL:List aA:=[M 3 0,Q 4 (.arith .geq (V 3) (.cst (.int .u64 4294967296)))]
def FM:List aA:=[M 5 0,Q 6 (.arith .shr (V 5) (.cst (.int .u64 32))),M 0 6]
def FN:List aA:=[M 7 0,Q 8 (.arith .geq (V 7) (.cst (.int .u64 65536)))]
def FO:List aA:=[M 9 0,Q 10 (.arith .shr (V 9) (.cst (.int .u64 16))),M 0 10]
def FP:List aA:=[M 11 2,Q 12 (.arith .add (V 11) (I 16)),M 2 12]
def FQ:List aA:=[M 13 0,Q 14 (.arith .geq (V 13) (.cst (.int .u64 256)))]
def FS:List aA:=[M 15 0,Q 16 (.arith .shr (V 15) (.cst (.int .u64 8))),M 0 16]
def FT:List aA:=[M 17 2,Q 18 (.arith .add (V 17) (I 8)),M 2 18]
def rO:List aA:=[M 19 2,M 20 0,Q 21 (.toInt .u8 (V 20)),Q 22 (.idxs (.cst (.str [0,1,2,2,3,3,3,3,4,4,4,4,4,4,4,4,5,5,5,5,5,5,5,5,5,5,5,5,5,5,5,5,6,6,6,6,6,6,6,6,6,6,6,6,6,6,6,6,6,6,6,6,6,6,6,6,6,6,6,6,6,6,6,6,7,7,7,7,7,7,7,7,7,7,7,7,7,7,7,7,7,7,7,7,7,7,7,7,7,7,7,7,7,7,7,7,7,7,7,7,7,7,7,7,7,7,7,7,7,7,7,7,7,7,7,7,7,7,7,7,7,7,7,7,7,7,7,7,8,8,8,8,8,8,8,8,8,8,8,8,8,8,8,8,8,8,8,8,8,8,8,8,8,8,8,8,8,8,8,8,8,8,8,8,8,8,8,8,8,8,8,8,8,8,8,8,8,8,8,8,8,8,8,8,8,8,8,8,8,8,8,8,8,8,8,8,8,8,8,8,8,8,8,8,8,8,8,8,8,8,8,8,8,8,8,8,8,8,8,8,8,8,8,8,8,8,8,8,8,8,8,8,8,8,8,8,8,8,8,8,8,8,8,8,8,8,8,8,8,8,8,8,8,8,8,8])) (V 21)),Q 23 (.toInt .i64 (V 22)),Q 24 (.arith .add (V 19) (V 23)),M 2 24]
@[simp]def Us:=aP rO.eq_1
@[simp]def aEo:=aC FL.eq_1<|aC FM.eq_1<|aC FN.eq_1<|aC FO.eq_1<|aC FP.eq_1<|aC FQ.eq_1<|aC FS.eq_1<|aP FT.eq_1
def pB:aT:=
 ⟨1,[.tmp 2],
 (aB (.region [Q 2 (.mov (I 0))]) (aB (aB (aD 3 4 FL) (.cond (V 4) (aB (aD 5 7 FM) (.region [Q 2 (.mov (I 32))])) .skip)) (aB (aB (aD 7 8 FN) (.cond (V 8) (aB (aD 9 11 FO) (aD 11 13 FP)) .skip)) (aB (aB (aD 13 14 FQ) (.cond (V 14) (aB (aD 15 17 FS) (aD 17 19 FT)) .skip)) (aB (aD 19 25 rO) .ret))))),false⟩
def FU:List aA:=[M 12 5,M 13 0,M 14 4,Q 15 (.iaddr 1 (V 13) (V 14)),LD 16 15,Q 17 (.len false (V 16)),Q 18 (.arith .lss (V 12) (V 17))]
def FV:List aA:=[M 21 3,M 22 0,M 23 4,Q 24 (.iaddr 1 (V 22) (V 23)),LD 25 24,M 26 5,Q 27 (.iaddr 2 (V 25) (V 26)),FA 28 0 27,LD 29 28,Q 30 (.call .std 238 [V 21,V 29]),M 3 30]
def FW:List aA:=[M 19 5,Q 20 (.arith .add (V 19) (I 1)),M 5 20]
@[simp]def aEp:=aC FU.eq_1<|aC FV.eq_1<|aP FW.eq_1
def FX:aN:=
 (aB (aB (aD 12 18 FU) (.cond (V 18) .skip (.exit 2))) (aB (.block 3 (aD 21 31 FV)) (aD 19 21 FW)))
@[simp]def aEq:=bG FX.eq_1
def FY:aN:=
 (aB (aB (aD 6 9 uy) (.cond (V 9) .skip (.exit 0))) (aB (.block 1 (aB (.region [Q 5 (.mov (I 0))]) (.block 2 (.loop FX)))) (aD 10 12 vA)))
@[simp]def aEr:=bG FY.eq_1
def vQ:aT:=
 ⟨1,[.tmp 2],
 (aB (.region [Q 2 (.mov (.cst .nils))]) (aB (.region [Q 3 (.mov (.cst .nils))]) (aB (aB (.region [Q 4 (.mov (I 0))]) (.block 0 (.loop FY))) (aB (aD 31 32 we) .ret)))),false⟩
def FZ:List aA:=[M 8 7,M 9 0,Q 10 (.len false (V 9)),Q 11 (.arith .lss (V 8) (V 10))]
def Fa:List aA:=[M 14 0,M 15 7,Q 16 (.iaddr 1 (V 14) (V 15)),LD 17 16,M 18 1,Q 19 (.arith .eql (V 17) (V 18))]
def Fb:List aA:=[M 20 0,M 4 20]
def Fc:List aA:=[M 21 6,Q 22 (.un .not (V 21)),M 23 22,QG (some 24) (.mov (V 1)) 23 true,QG (some 25) (.mov (V 0)) 23 true,QG (some 26) (.mov (V 7)) 23 true,QG (some 27) (.iaddr 1 (V 25) (V 26)) 23 true,QG (some 28) (.load false 1 false (V 27)) 23 true,QG (some 29) (.arith .lss (V 24) (V 28)) 23 true,Q 30 (.pick (V 23) (V 29) bO)]
def Fd:List aA:=[M 31 5,M 32 1,Q 33 (.bsl false (.str []) 1 [(0,V 32)]),Q 34 (.app 1 16 (V 31) (V 33)),M 5 34]
def Fe:List aA:=[M 35 5,M 36 0,M 37 7,Q 38 (.iaddr 1 (V 36) (V 37)),LD 39 38,Q 40 (.bsl false (.str []) 1 [(0,V 39)]),Q 41 (.app 1 16 (V 35) (V 40)),M 5 41]
def Ff:List aA:=[M 12 7,Q 13 (.arith .add (V 12) (I 1)),M 7 13]
@[simp]def aEs:=aC FZ.eq_1<|aC Fa.eq_1<|aC Fb.eq_1<|aC Fc.eq_1<|aC Fd.eq_1<|aC Fe.eq_1<|aP Ff.eq_1
def Fg:aN:=
 (aB (aB (aD 8 11 FZ) (.cond (V 11) .skip (.exit 0))) (aB (.block 1 (aB (aB (aD 14 19 Fa) (.cond (V 19) (aB (aD 20 21 Fb) .ret) .skip)) (aB (aB (aD 21 30 Fc) (.cond (V 30) (aB (aD 31 35 Fd) (.region [Q 6 (.mov cN)])) .skip)) (aD 35 42 Fe)))) (aD 12 14 Ff)))
@[simp]def aEt:=bG Fg.eq_1
def Fh:List aA:=[M 42 6,Q 43 (.un .not (V 42))]
def Fi:List aA:=[M 44 5,M 45 1,Q 46 (.bsl false (.str []) 1 [(0,V 45)]),Q 47 (.app 1 16 (V 44) (V 46)),M 5 47]
def Fj:List aA:=[M 48 5,M 4 48]
@[simp]def aEu:=aC Fh.eq_1<|aC Fi.eq_1<|aP Fj.eq_1
def vR:aT:=
 ⟨2,[.tmp 4],
 (aB (.region [Q 4 (.mov (.cst .nils))]) (aB (.region [Q 5 (.mov (.cst .nils))]) (aB (.region [Q 6 (.mov bO)]) (aB (aB (.region [Q 7 (.mov (I 0))]) (.block 0 (.loop Fg))) (aB (aB (aD 42 43 Fh) (.cond (V 43) (aD 44 48 Fi) .skip)) (aB (aD 48 49 Fj) .ret)))))),false⟩
def Fk:List aA:=[M 4 0,Q 5 (.arith .gtr (V 4) (.cst (.int .u64 0)))]
def Fl:List aA:=[M 6 3,Q 7 (.arith .add (V 6) (I 1)),M 3 7]
def Fm:List aA:=[M 8 0,Q 9 (.arith .quo (V 8) (.cst (.int .u64 2))),M 0 9]
@[simp]def aEv:=aC Fk.eq_1<|aC Fl.eq_1<|aP Fm.eq_1
def Fn:aN:=
 (aB (aB (aD 4 5 Fk) (.cond (V 5) .skip (.exit 0))) (.block 1 (aB (aD 6 8 Fl) (aD 8 10 Fm))))
@[simp]def aEw:=bG Fn.eq_1
def Fo:List aA:=[M 10 3,M 2 10]
@[simp]def aEx:=aP Fo.eq_1
def z28:aT:=
 ⟨1,[.tmp 2],
 (aB (.region [Q 2 (.mov (I 0))]) (aB (.region [Q 3 (.mov (I 0))]) (aB (.block 0 (.loop Fn)) (aB (aD 10 11 Fo) .ret)))),false⟩
def Fp:List aA:=[Q 3 (.box true (V 0)),Q 6 (.alloc false [.nils,(.int .i64 0)]),Q 7 (.mov (I 0))]
def Fq:List aA:=[Q 10 (.load true 2 false (V 3)),Q 11 (.call .std 401 [V 10]),Q 12 (.un .not (V 11)),M 13 12,QG (some 14) (.mov (V 2)) 13 false,QG (some 15) (.arith .lss (V 14) (I 0)) 13 false,Q 16 (.pick (V 13) cN (V 15)),M 17 16,QG (some 18) (.mov (V 2)) 17 false,QG (some 19) (.arith .gtr (V 18) (I 64)) 17 false,Q 20 (.pick (V 17) cN (V 19))]
def Fs:List aA:=[Q 21 (.build [.nils,(.int .i64 0)] []),QN (.store 2 (V 6) (V 21)),Q 7 (.mov (I 2))]
def Ft:List aA:=[M 22 1,Q 23 (.call .pur 375 [V 22]),M 24 2,Q 25 (.arith .gtr (V 23) (V 24))]
def Fu:List aA:=[Q 26 (.build [.nils,(.int .i64 0)] []),QN (.store 2 (V 6) (V 26)),Q 7 (.mov (I 3))]
def Fv:List aA:=[Q 27 (.emp0),FA 28 0 3,LD 29 28,Q 30 (.gapp 1 1 (V 27) (V 29)),M 8 30]
def Fw:List aA:=[M 31 9,M 32 2,Q 33 (.arith .lss (V 31) (V 32))]
def Fx:List aA:=[M 36 8,FA 37 1 3,Q 38 (.load false 1 true (V 37)),M 39 9,Q 40 (.arith .add (V 38) (V 39)),M 41 1,M 42 2,Q 43 (.arith .sub (V 42) (I 1)),M 44 9,Q 45 (.arith .sub (V 43) (V 44)),Q 46 (.call .pur 403 [V 41,V 45]),Q 47 (.call .std 402 [V 36,V 40,V 46]),M 8 47]
def Fy:List aA:=[M 34 9,Q 35 (.arith .add (V 34) (I 1)),M 9 35]
@[simp]def aEy:=aC Fp.eq_1<|aC Fq.eq_1<|aC Fs.eq_1<|aC Ft.eq_1<|aC Fu.eq_1<|aC Fv.eq_1<|aC Fw.eq_1<|aC Fx.eq_1<|aP Fy.eq_1
def Fz:aN:=
 (aB (aB (aD 31 33 Fw) (.cond (V 33) .skip (.exit 0))) (aB (.block 1 (aD 36 48 Fx)) (aD 34 36 Fy)))
@[simp]def aEz:=bG Fz.eq_1
def GA:List aA:=[M 48 8,FA 49 1 3,LD 50 49,M 51 2,Q 52 (.arith .add (V 50) (V 51)),Q 53 (.build [.nils,(.int .i64 0)] [(0,1,V 48),(1,1,V 52)]),QN (.store 2 (V 6) (V 53)),Q 7 (.mov (I 0))]
@[simp]def aEA:=aP GA.eq_1
def z63:aT:=
 ⟨3,[.cell 6 true 2,.tmp 7],
 (aB (aZ Fp) (aB (aB (aD 10 20 Fq) (.cond (V 20) (aB (aD 21 22 Fs) .ret) .skip)) (aB (aB (aD 22 25 Ft) (.cond (V 25) (aB (aD 26 27 Fu) .ret) .skip)) (aB (aD 27 31 Fv) (aB (aB (.region [Q 9 (.mov (I 0))]) (.block 0 (.loop Fz))) (aB (aD 48 54 GA) .ret)))))),false⟩
def GB:List aA:=[Q 3 (.box true (V 0)),Q 6 (.mov (.cst (.int .u64 0))),Q 7 (.mov (I 0))]
def GC:List aA:=[Q 10 (.load true 2 false (V 3)),Q 11 (.call .std 404 [V 10]),Q 12 (.un .not (V 11)),M 13 12,QG (some 14) (.mov (V 2)) 13 false,QG (some 15) (.arith .lss (V 14) (I 0)) 13 false,Q 16 (.pick (V 13) cN (V 15)),M 17 16,QG (some 18) (.mov (V 2)) 17 false,QG (some 19) (.arith .gtr (V 18) (I 64)) 17 false,Q 20 (.pick (V 17) cN (V 19)),M 21 20,QG (some 22) (.mov (V 1)) 21 false,QG (some 23) (.arith .lss (V 22) (I 0)) 21 false,Q 24 (.pick (V 21) cN (V 23)),M 25 24,QG (some 26) (.mov (V 1)) 25 false,QG (some 27) (.faddr 1 (V 3)) 25 false,QG (some 28) (.load false 1 false (V 27)) 25 false,QG (some 29) (.arith .gtr (V 26) (V 28)) 25 false,Q 30 (.pick (V 25) cN (V 29))]
def GD:List aA:=[Q 6 (.mov (.cst (.int .u64 0))),Q 7 (.mov (I 2))]
def GE:List aA:=[M 31 2,FA 32 1 3,LD 33 32,M 34 1,Q 35 (.arith .sub (V 33) (V 34)),Q 36 (.arith .gtr (V 31) (V 35))]
def GF:List aA:=[Q 6 (.mov (.cst (.int .u64 0))),Q 7 (.mov (I 4))]
def GG:List aA:=[M 37 2,Q 38 (.mov (I 0))]
def GH:List aA:=[M 40 38,M 9 40]
def GI:List aA:=[M 41 8,Q 42 (.arith .shl (V 41) (.cst (.int .u64 1))),FA 43 0 3,LD 44 43,M 45 1,M 46 9,Q 47 (.arith .add (V 45) (V 46)),Q 48 (.arith .quo (V 47) (I 8)),Q 49 (.iaddr 1 (V 44) (V 48)),LD 50 49,M 51 1,M 52 9,Q 53 (.arith .add (V 51) (V 52)),Q 54 (.arith .rem (V 53) (I 8)),Q 55 (.arith .sub (I 7) (V 54)),Q 56 (.arith .shr (V 50) (V 55)),Q 57 (.arith .and (V 56) (.cst (.int .u8 1))),Q 58 (.toInt .u64 (V 57)),Q 59 (.arith .or (V 42) (V 58)),M 8 59]
def GJ:List aA:=[Q 60 (.arith .add (V 38) (I 1)),M 38 60]
@[simp]def aEB:=aC GB.eq_1<|aC GC.eq_1<|aC GD.eq_1<|aC GE.eq_1<|aC GF.eq_1<|aC GG.eq_1<|aC GH.eq_1<|aC GI.eq_1<|aP GJ.eq_1
def GK:aN:=
 (aB (aZ vl) (aB (.cond (V 39) .skip (.exit 0)) (aB (.block 1 (aB (aD 40 41 GH) (aD 41 60 GI))) (aD 60 61 GJ))))
@[simp]def aEC:=bG GK.eq_1
def GL:List aA:=[M 61 8,M 6 61,Q 7 (.mov (I 0))]
@[simp]def aED:=aP GL.eq_1
def vT:aT:=
 ⟨3,[.tmp 6,.tmp 7],
 (aB (aZ GB) (aB (aB (aD 10 30 GC) (.cond (V 30) (aB (aZ GD) .ret) .skip)) (aB (aB (aD 31 36 GE) (.cond (V 36) (aB (aZ GF) .ret) .skip)) (aB (.region [Q 8 (.mov (.cst (.int .u64 0)))]) (aB (aB (aZ GG) (.block 0 (.loop GK))) (aB (aD 61 62 GL) .ret)))))),false⟩
def GM:List aA:=[M 3 0,Q 4 (.arith .rem (V 3) (I 8)),Q 5 (.arith .eql (V 4) (I 0))]
def GN:List aA:=[M 6 0,Q 7 (.arith .quo (V 6) (I 8)),M 2 7]
def GO:List aA:=[M 8 0,Q 9 (.arith .quo (V 8) (I 8)),Q 10 (.arith .add (V 9) (I 1)),M 2 10]
@[simp]def aEE:=aC GM.eq_1<|aC GN.eq_1<|aP GO.eq_1
def pC:aT:=
 ⟨1,[.tmp 2],
 (aB (.region [Q 2 (.mov (I 0))]) (aB (aB (aD 3 5 GM) (.cond (V 5) (aB (aD 6 8 GN) .ret) .skip)) (aB (aD 8 11 GO) .ret))),false⟩
def GP:List aA:=[M 6 1,Q 7 (.mov (I 0))]
def GQ:List aA:=[M 9 7,M 5 9]
def GR:List aA:=[FA 10 1 2,LD 11 10,Q 12 (.arith .rem (V 11) (I 8)),Q 13 (.arith .eql (V 12) (I 0))]
def GS:List aA:=[FA 14 0 2,LD 15 14,Q 16 (.bsl false (.int .u8 0) 1 [(0,(.cst (.int .u8 0)))]),Q 17 (.gapp 1 1 (V 15) (V 16)),FA 18 0 2,QN (.store 1 (V 18) (V 17))]
def vU:List aA:=[M 19 0,M 20 1,Q 21 (.arith .sub (V 20) (I 1)),M 22 5,Q 23 (.arith .sub (V 21) (V 22)),Q 24 (.arith .shr (V 19) (V 23)),Q 25 (.arith .and (V 24) (.cst (.int .u64 1))),Q 26 (.arith .eql (V 25) (.cst (.int .u64 1)))]
@[simp]def Ut:=aP vU.eq_1
def vV:List aA:=[FA 27 0 2,LD 28 27,FA 29 1 2,LD 30 29,Q 31 (.arith .quo (V 30) (I 8)),Q 32 (.iaddr 1 (V 28) (V 31)),LD 33 32,FA 34 1 2,LD 35 34,Q 36 (.arith .rem (V 35) (I 8)),Q 37 (.arith .shr (.cst (.int .u8 128)) (V 36)),Q 38 (.arith .or (V 33) (V 37)),Q 39 (.iaddr 1 (V 28) (V 31)),QN (.store 1 (V 39) (V 38))]
def vW:List aA:=[FA 40 1 2,LD 41 40,Q 42 (.arith .add (V 41) (I 1)),FA 43 1 2,QN (.store 1 (V 43) (V 42))]
def vX:List aA:=[Q 44 (.arith .add (V 7) (I 1)),M 7 44]
@[simp]def aEF:=aC GP.eq_1<|aC GQ.eq_1<|aC GR.eq_1<|aC GS.eq_1<|aC vV.eq_1<|aC vW.eq_1<|aP vX.eq_1
def nI:aN:=
 (aB (.region [Q 8 (.arith .lss (V 7) (V 6))]) (aB (.cond (V 8) .skip (.exit 0)) (aB (.block 1 (aB (aD 9 10 GQ) (aB (aB (aD 10 13 GR) (.cond (V 13) (aD 14 19 GS) .skip)) (aB (aB (aD 19 26 vU) (.cond (V 26) (aD 27 40 vV) .skip)) (aD 40 44 vW))))) (aD 44 45 vX))))
@[simp]def aEG:=bG nI.eq_1
def lf:aT:=
 ⟨3,[],
 (aB (aZ GP) (.block 0 (.loop nI))),false⟩
def GT:List aA:=[Q 1 (.alloc false [.nils,(.int .i64 0)])]
def GU:List aA:=[Q 2 (.load true 2 false (V 0)),QN (.store 2 (V 1) (V 2))]
@[simp]def aEH:=aC GT.eq_1<|aP GU.eq_1
def z27:aT:=
 ⟨1,[.cell 1 true 2],
 (aB (aZ GT) (aB (aD 2 3 GU) .ret)),false⟩
def GV:List aA:=[FA 4 1 1,LD 5 4,Q 6 (.arith .lss (V 5) (I 0)),M 7 6,QG (some 8) (.faddr 0 (V 1)) 7 false,QG (some 9) (.load false 1 false (V 8)) 7 false,QG (some 10) (.len false (V 9)) 7 false,QG (some 11) (.faddr 1 (V 1)) 7 false,QG (some 12) (.load false 1 false (V 11)) 7 false,QG (some 13) (.arith .quo (V 12) (I 8)) 7 false,QG (some 14) (.faddr 1 (V 1)) 7 false,QG (some 15) (.load false 1 false (V 14)) 7 false,QG (some 16) (.arith .rem (V 15) (I 8)) 7 false,QG (some 17) (.arith .add (V 16) (I 7)) 7 false,QG (some 18) (.arith .quo (V 17) (I 8)) 7 false,QG (some 19) (.arith .add (V 13) (V 18)) 7 false,QG (some 20) (.arith .neq (V 10) (V 19)) 7 false,Q 21 (.pick (V 7) cN (V 20))]
def GW:List aA:=[FA 22 1 1,LD 23 22,M 3 23]
def GX:List aA:=[M 24 3,FA 25 0 1,LD 26 25,Q 27 (.len false (V 26)),Q 28 (.arith .mul (I 8) (V 27)),Q 29 (.arith .lss (V 24) (V 28))]
def GY:List aA:=[Q 32 (.load true 2 false (V 1)),M 33 3,Q 34 (.call .std 412 [V 32,V 33]),Q 35 (.arith .neq (V 34) (.cst (.int .u64 0)))]
def GZ:List aA:=[M 30 3,Q 31 (.arith .add (V 30) (I 1)),M 3 31]
@[simp]def aEI:=aC GV.eq_1<|aC GW.eq_1<|aC GX.eq_1<|aC GY.eq_1<|aP GZ.eq_1
def Ga:aN:=
 (aB (aB (aD 24 29 GX) (.cond (V 29) .skip (.exit 0))) (aB (.block 1 (aB (aD 32 35 GY) (.cond (V 35) (aB (.region [Q 2 (.mov bO)]) .ret) .skip))) (aD 30 32 GZ)))
@[simp]def aEJ:=bG Ga.eq_1
def vY:aT:=
 ⟨1,[.tmp 2],
 (aB (aZ oo) (aB (aB (aD 4 21 GV) (.cond (V 21) (aB (.region [Q 2 (.mov bO)]) .ret) .skip)) (aB (aB (aD 22 24 GW) (.block 0 (.loop Ga))) (aB (.region [Q 2 (.mov cN)]) .ret)))),false⟩
def Gb:List aA:=[M 9 1,Q 10 (.arith .rem (V 9) (I 8)),Q 11 (.arith .eql (V 10) (I 0))]
def Gc:List aA:=[M 12 0,Q 13 (.bsl false (.int .u8 0) 1 [(0,(.cst (.int .u8 0)))]),Q 14 (.gapp 1 1 (V 12) (V 13)),M 0 14]
def Gd:List aA:=[M 15 8,M 16 1,Q 17 (.arith .rem (V 16) (I 8)),Q 18 (.arith .sub (I 7) (V 17)),Q 19 (.arith .lss (V 15) (V 18))]
def Ge:List aA:=[M 22 7,Q 23 (.arith .mul (V 22) (.cst (.int .u8 2))),M 7 23]
def Gf:List aA:=[M 20 8,Q 21 (.arith .add (V 20) (I 1)),M 8 21]
@[simp]def aEK:=aC Gb.eq_1<|aC Gc.eq_1<|aC Gd.eq_1<|aC Ge.eq_1<|aP Gf.eq_1
def Gg:aN:=
 (aB (aB (aD 15 19 Gd) (.cond (V 19) .skip (.exit 0))) (aB (.block 1 (aD 22 24 Ge)) (aD 20 22 Gf)))
@[simp]def aEL:=bG Gg.eq_1
def Gi:List aA:=[M 24 2,Q 25 (.arith .eql (V 24) (.cst (.int .u64 1)))]
def Gj:List aA:=[M 26 0,M 27 1,Q 28 (.arith .quo (V 27) (I 8)),M 29 0,M 30 1,Q 31 (.arith .quo (V 30) (I 8)),Q 32 (.iaddr 1 (V 29) (V 31)),LD 33 32,M 34 7,Q 35 (.arith .add (V 33) (V 34)),Q 36 (.iaddr 1 (V 26) (V 28)),QN (.store 1 (V 36) (V 35))]
def Gk:List aA:=[M 37 0,M 6 37]
@[simp]def aEM:=aC Gi.eq_1<|aC Gj.eq_1<|aP Gk.eq_1
def vZ:aT:=
 ⟨3,[.tmp 6],
 (aB (.region [Q 6 (.mov (.cst .nils))]) (aB (aB (aD 9 11 Gb) (.cond (V 11) (aD 12 15 Gc) .skip)) (aB (.region [Q 7 (.mov (.cst (.int .u8 1)))]) (aB (aB (.region [Q 8 (.mov (I 0))]) (.block 0 (.loop Gg))) (aB (aB (aD 24 25 Gi) (.cond (V 25) (aD 26 37 Gj) .skip)) (aB (aD 37 38 Gk) .ret)))))),true⟩
def Gl:List aA:=[M 6 5,M 7 1,Q 8 (.arith .lss (V 6) (V 7))]
def Gm:List aA:=[M 11 0,Q 12 (.arith .quo (V 11) (.cst (.int .u64 2))),M 0 12]
def Gn:List aA:=[M 9 5,Q 10 (.arith .add (V 9) (I 1)),M 5 10]
@[simp]def aEN:=aC Gl.eq_1<|aC Gm.eq_1<|aP Gn.eq_1
def Gp:aN:=
 (aB (aB (aD 6 8 Gl) (.cond (V 8) .skip (.exit 0))) (aB (.block 1 (aD 11 13 Gm)) (aD 9 11 Gn)))
@[simp]def aEO:=bG Gp.eq_1
def Gq:List aA:=[M 13 0,Q 14 (.arith .rem (V 13) (.cst (.int .u64 2))),M 4 14]
@[simp]def aEP:=aP Gq.eq_1
def va:aT:=
 ⟨2,[.tmp 4],
 (aB (.region [Q 4 (.mov (.cst (.int .u64 0)))]) (aB (aB (.region [Q 5 (.mov (I 0))]) (.block 0 (.loop Gp))) (aB (aD 13 15 Gq) .ret))),false⟩
def Gr:List aA:=[Q 2 (.box true (V 0)),Q 4 (.mov (.cst (.int .u64 0)))]
def Gs:List aA:=[FA 7 0 2,LD 8 7,M 9 1,Q 10 (.arith .quo (V 9) (I 8)),Q 11 (.iaddr 1 (V 8) (V 10)),LD 12 11,Q 13 (.toInt .u64 (V 12)),M 5 13]
def Gt:List aA:=[M 14 6,M 15 1,Q 16 (.arith .rem (V 15) (I 8)),Q 17 (.arith .sub (I 7) (V 16)),Q 18 (.arith .lss (V 14) (V 17))]
def Gu:List aA:=[M 21 5,Q 22 (.arith .quo (V 21) (.cst (.int .u64 2))),M 5 22]
def Gv:List aA:=[M 19 6,Q 20 (.arith .add (V 19) (I 1)),M 6 20]
@[simp]def aEQ:=aC Gr.eq_1<|aC Gs.eq_1<|aC Gt.eq_1<|aC Gu.eq_1<|aP Gv.eq_1
def Gw:aN:=
 (aB (aB (aD 14 18 Gt) (.cond (V 18) .skip (.exit 0))) (aB (.block 1 (aD 21 23 Gu)) (aD 19 21 Gv)))
@[simp]def aER:=bG Gw.eq_1
def Gx:List aA:=[M 23 5,Q 24 (.arith .rem (V 23) (.cst (.int .u64 2))),M 4 24]
@[simp]def aES:=aP Gx.eq_1
def vb:aT:=
 ⟨2,[.tmp 4],
 (aB (aZ Gr) (aB (aD 7 14 Gs) (aB (aB (.region [Q 6 (.mov (I 0))]) (.block 0 (.loop Gw))) (aB (aD 23 25 Gx) .ret)))),false⟩
end Ps
