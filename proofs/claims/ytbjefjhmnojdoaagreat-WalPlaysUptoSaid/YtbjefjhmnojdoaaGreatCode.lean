/- The functions' code, as the pure semantics has it: printed by program. -/
import Derived.Test.YtbjefjhmnojdoaaGreatCodeB
namespace Ps
open Go
set_option maxRecDepth 10000
set_option linter.defProp false
variable (T : bH) (K : List Kt) (fr : Fr) (S : St)
def GZ:List aF:=[M 5 0,Q 6 (.len false (V 5)),Q 7 (.call .std 219 [V 6]),M 3 7]
def Ga:List aF:=[M 8 4,M 9 0,Q 10 (.len false (V 9)),Q 11 (.arith .lss (V 8) (V 10))]
def Gb:List aF:=[M 14 3,M 15 0,M 16 4,Q 17 (.iaddr 2 (V 15) (V 16)),FA 18 0 17,Q 19 (.load false 1 true (V 18)),Q 20 (.call .pur 220 [V 19]),Q 21 (.app 1 1 (V 14) (V 20)),M 22 0,M 23 4,Q 24 (.iaddr 2 (V 22) (V 23)),FA 25 1 24,Q 26 (.load false 1 true (V 25)),Q 27 (.call .pur 220 [V 26]),Q 28 (.app 1 1 (V 21) (V 27)),M 3 28]
def Gc:List aF:=[M 12 4,Q 13 (.arith .add (V 12) (I 1)),M 4 13]
@[simp]def aMO:=aH GZ.eq_1<|aH Ga.eq_1<|aH Gb.eq_1<|aT Gc.eq_1
def Ao:az:=
 (aE (aE (aG 8 11 Ga) (.cond (V 11) .skip (.exit 0))) (aE (.block 1 (aG 14 29 Gb)) (aG 12 14 Gc)))
@[simp]def aMP:=cL Ao.eq_1
def Gd:List aF:=[M 29 3,M 2 29]
@[simp]def aMQ:=aT Gd.eq_1
def qW:ai:=
 ⟨1,[.tmp 2],
 (aE (.region [Q 2 (.mov (.cst .nils))]) (aE (aG 5 8 GZ) (aE (aE (.region [Q 4 (.mov (I 0))]) (.block 0 (.loop Ao))) (aE (aG 29 30 Gd) .ret)))),false⟩
def qX:ai:=
 ⟨1,[.tmp 2],
 (aE (.region [Q 2 (.mov (I 0))]) (aE (aE (aG 3 4 Bg) (.cond (V 4) (aE (aG 5 8 Bh) .ret) .skip)) (aE (aG 8 10 Bi) .ret))),false⟩
def Ge:List aF:=[M 6 0,Q 7 (.len false (V 6)),Q 8 (.call .std 219 [V 7]),M 3 8]
def Gf:List aF:=[M 9 5,M 10 0,Q 11 (.len false (V 10)),Q 12 (.arith .lss (V 9) (V 11))]
def Gg:List aF:=[M 15 3,M 16 0,M 17 5,Q 18 (.iaddr 1 (V 16) (V 17)),LD 19 18,M 20 4,Q 21 (.arith .sub (V 19) (V 20)),Q 22 (.call .std 219 [V 21]),Q 23 (.app 1 1 (V 15) (V 22)),M 3 23]
def Gi:List aF:=[M 24 0,M 25 5,Q 26 (.iaddr 1 (V 24) (V 25)),LD 27 26,M 4 27]
def Gj:List aF:=[M 13 5,Q 14 (.arith .add (V 13) (I 1)),M 5 14]
@[simp]def aMR:=aH Ge.eq_1<|aH Gf.eq_1<|aH Gg.eq_1<|aH Gi.eq_1<|aT Gj.eq_1
def Ap:az:=
 (aE (aE (aG 9 12 Gf) (.cond (V 12) .skip (.exit 0))) (aE (.block 1 (aE (aG 15 24 Gg) (aG 24 28 Gi))) (aG 13 15 Gj)))
@[simp]def aMS:=cL Ap.eq_1
def Gk:List aF:=[M 28 3,M 2 28]
@[simp]def aMT:=aT Gk.eq_1
def qY:ai:=
 ⟨1,[.tmp 2],
 (aE (.region [Q 2 (.mov (.cst .nils))]) (aE (aG 6 9 Ge) (aE (.region [Q 4 (.mov (I 0))]) (aE (aE (.region [Q 5 (.mov (I 0))]) (.block 0 (.loop Ap))) (aE (aG 28 29 Gk) .ret))))),false⟩
def Gl:List aF:=[Q 3 (.mov (.cst (.int .u32 4294967295)))]
def Gm:List aF:=[M 6 4,M 7 0,Q 8 (.len false (V 7)),Q 9 (.arith .lss (V 6) (V 8))]
def Gn:List aF:=[M 12 3,M 13 0,M 14 4,Q 15 (.iaddr 1 (V 13) (V 14)),LD 16 15,Q 17 (.toInt .u32 (V 16)),Q 18 (.arith .xor (V 12) (V 17)),M 3 18]
def Gp:List aF:=[M 19 5,Q 20 (.arith .lss (V 19) (I 8))]
@[simp]def Zn:=aT Gp.eq_1
def Gq:List aF:=[M 23 3,Q 24 (.arith .rem (V 23) (.cst (.int .u32 2))),Q 25 (.arith .eql (V 24) (.cst (.int .u32 1)))]
def Gr:List aF:=[M 26 3,Q 27 (.arith .quo (V 26) (.cst (.int .u32 2))),Q 28 (.arith .xor (V 27) (.cst (.int .u32 2197175160))),M 3 28]
def Gs:List aF:=[M 29 3,Q 30 (.arith .quo (V 29) (.cst (.int .u32 2))),M 3 30]
def Gt:List aF:=[M 21 5,Q 22 (.arith .add (V 21) (I 1)),M 5 22]
@[simp]def aMU:=aH Gl.eq_1<|aH Gm.eq_1<|aH Gn.eq_1<|aH Gq.eq_1<|aH Gr.eq_1<|aH Gs.eq_1<|aT Gt.eq_1
def wL:az:=
 (aE (aE (aG 19 20 Gp) (.cond (V 20) .skip (.exit 2))) (aE (.block 3 (aE (aG 23 25 Gq) (.cond (V 25) (aG 26 29 Gr) (aG 29 31 Gs)))) (aG 21 23 Gt)))
@[simp]def aMV:=cL wL.eq_1
def Gu:List aF:=[M 10 4,Q 11 (.arith .add (V 10) (I 1)),M 4 11]
@[simp]def aMW:=aT Gu.eq_1
def wM:az:=
 (aE (aE (aG 6 9 Gm) (.cond (V 9) .skip (.exit 0))) (aE (.block 1 (aE (aG 12 19 Gn) (aE (.region [Q 5 (.mov (I 0))]) (.block 2 (.loop wL))))) (aG 10 12 Gu)))
@[simp]def aMX:=cL wM.eq_1
def Gv:List aF:=[M 31 3,Q 32 (.arith .sub (.cst (.int .u32 4294967295)) (V 31)),M 2 32]
@[simp]def aMY:=aT Gv.eq_1
def tA:ai:=
 ⟨1,[.tmp 2],
 (aE (.region [Q 2 (.mov (.cst (.int .u32 0)))]) (aE (ad Gl) (aE (aE (.region [Q 4 (.mov (I 0))]) (.block 0 (.loop wM))) (aE (aG 31 33 Gv) .ret)))),false⟩
def Gw:List aF:=[M 7 1,Q 8 (.call .std 270 [V 7]),M 5 8]
def Gx:List aF:=[M 11 9,M 6 11]
def Gy:List aF:=[M 12 0,M 13 5,M 14 6,Q 15 (.arith .mul (I 8) (V 14)),Q 16 (.arith .shr (V 13) (V 15)),Q 17 (.toInt .u8 (V 16)),Q 18 (.bsl false (.int .u8 0) 1 [(0,V 17)]),Q 19 (.app 1 1 (V 12) (V 18)),M 0 19]
def Gz:List aF:=[Q 20 (.arith .add (V 9) (I 1)),M 9 20]
@[simp]def aMZ:=aH Gw.eq_1<|aH Gx.eq_1<|aH Gy.eq_1<|aT Gz.eq_1
def wN:az:=
 (aE (.region [Q 10 (.arith .lss (V 9) (I 4))]) (aE (.cond (V 10) .skip (.exit 0)) (aE (.block 1 (aE (aG 11 12 Gx) (aG 12 20 Gy))) (aG 20 21 Gz))))
@[simp]def aM0:=cL wN.eq_1
def HA:List aF:=[M 21 0,M 4 21]
@[simp]def aM1:=aT HA.eq_1
def qZ:ai:=
 ⟨2,[.tmp 4],
 (aE (.region [Q 4 (.mov (.cst .nils))]) (aE (aG 7 9 Gw) (aE (aE (.region [Q 9 (.mov (I 0))]) (.block 0 (.loop wN))) (aE (aG 21 22 HA) .ret)))),false⟩
def HB:List aF:=[M 14 4,Q 15 (.arith .geq (V 14) (.cst (.int .u8 97))),M 16 15,QG (some 17) (.mov (V 4)) 16 true,QG (some 18) (.arith .leq (V 17) (.cst (.int .u8 122))) 16 true,Q 19 (.pick (V 16) (V 18) au),M 13 19]
def HC:List aF:=[M 20 4,Q 21 (.arith .geq (V 20) (.cst (.int .u8 65))),M 22 21,QG (some 23) (.mov (V 4)) 22 true,QG (some 24) (.arith .leq (V 23) (.cst (.int .u8 90))) 22 true,Q 25 (.pick (V 22) (V 24) au),M 13 25]
def HD:List aF:=[M 26 4,Q 27 (.arith .eql (V 26) (.cst (.int .u8 95))),M 13 27]
def HE:List aF:=[M 29 3,Q 30 (.arith .gtr (V 29) (I 0)),M 31 30,QG (some 32) (.mov (V 4)) 31 true,QG (some 33) (.arith .geq (V 32) (.cst (.int .u8 48))) 31 true,Q 34 (.pick (V 31) (V 33) au),M 35 34,QG (some 36) (.mov (V 4)) 35 true,QG (some 37) (.arith .leq (V 36) (.cst (.int .u8 57))) 35 true,Q 38 (.pick (V 35) (V 37) au),M 28 38]
def HF:List aF:=[Q 39 (.arith .add (V 7) (I 1)),M 7 39]
@[simp]def aM2:=aH HB.eq_1<|aH HC.eq_1<|aH HD.eq_1<|aH HE.eq_1<|aT HF.eq_1
def wO:az:=
 (aE (.region [Q 8 (.arith .lss (V 7) (V 6))]) (aE (.cond (V 8) .skip (.exit 0)) (aE (.block 1 (aE (aG 9 10 CW) (aE (aG 10 13 CX) (.block 2 (aE (aE (aG 14 20 HB) (.cond (V 13) .skip (aE (aG 20 26 HC) (.cond (V 13) .skip (aG 26 28 HD))))) (.cond (V 13) .skip (aE (aG 29 39 HE) (.cond (V 28) .skip (aE (.region [Q 2 (.mov au)]) .ret))))))))) (aG 39 40 HF))))
@[simp]def aM3:=cL wO.eq_1
def HG:List aF:=[M 40 0,Q 41 (.arith .neq (V 40) (.cst (.str []))),M 42 41,QG (some 43) (.mov (V 0)) 42 true,QG (some 44) (.len true (V 43)) 42 true,QG (some 45) (.arith .leq (V 44) (I 32)) 42 true,Q 46 (.pick (V 42) (V 45) au),M 2 46]
@[simp]def aM4:=aT HG.eq_1
def tB:ai:=
 ⟨1,[.tmp 2],
 (aE (.region [Q 2 (.mov au)]) (aE (aE (aG 5 6 CV) (.block 0 (.loop wO))) (aE (aG 40 47 HG) .ret))),false⟩
def HH:List aF:=[M 5 0,Q 6 (.len false (V 5)),Q 7 (.arith .eql (V 6) (I 0)),M 8 7,QG (some 9) (.mov (V 0)) 8 false,QG (some 10) (.len false (V 9)) 8 false,QG (some 11) (.arith .gtr (V 10) (I 120)) 8 false,Q 12 (.pick (V 8) bh (V 11))]
def HI:List aF:=[M 17 15,Q 18 (.iaddr 2 (V 13) (V 15)),Q 19 (.load true 2 false (V 18)),Q 4 (.alloc false [(.int .i64 0),(.int .i64 0)]),M 3 17,QN (.store 2 (V 4) (V 19))]
def HJ:List aF:=[Q 21 (.load true 2 false (V 4)),Q 22 (.call .std 260 [V 21]),Q 23 (.un .not (V 22)),M 20 23]
def HK:List aF:=[M 25 3,Q 26 (.arith .gtr (V 25) (I 0)),M 27 26,QG (some 28) (.faddr 0 (V 4)) 27 true,QG (some 29) (.load false 1 false (V 28)) 27 true,QG (some 30) (.mov (V 0)) 27 true,QG (some 31) (.mov (V 3)) 27 true,QG (some 32) (.arith .sub (V 31) (I 1)) 27 true,QG (some 33) (.iaddr 2 (V 30) (V 32)) 27 true,QG (some 34) (.faddr 0 (V 33)) 27 true,QG (some 35) (.load false 1 true (V 34)) 27 true,QG (some 36) (.arith .leq (V 29) (V 35)) 27 true,Q 37 (.pick (V 27) (V 36) au),M 24 37]
def HL:List aF:=[Q 38 (.arith .add (V 15) (I 1)),M 15 38]
@[simp]def aM5:=aH HH.eq_1<|aH HI.eq_1<|aH HJ.eq_1<|aH HK.eq_1<|aT HL.eq_1
def HM:az:=
 (aE (ad CF) (aE (.cond (V 16) .skip (.exit 0)) (aE (.block 1 (aE (aG 17 20 HI) (.block 2 (aE (aG 21 24 HJ) (.cond (V 20) (aE (.region [Q 2 (.mov (I 11))]) .ret) (aE (aG 25 38 HK) (.cond (V 24) (aE (.region [Q 2 (.mov (I 13))]) .ret) .skip))))))) (aG 38 39 HL))))
@[simp]def aM6:=cL HM.eq_1
def z57:ai:=
 ⟨1,[.tmp 2],
 (aE (.region [Q 2 (.mov (I 0))]) (aE (aE (aG 5 12 HH) (.cond (V 12) (aE (.region [Q 2 (.mov (I 2))]) .ret) .skip)) (aE (aE (ad CE) (.block 0 (.loop HM))) (aE (.region [Q 2 (.mov (I 0))]) .ret)))),false⟩
def HN:List aF:=[M 10 8,M 5 10]
def HO:List aF:=[M 11 1,M 12 0,M 13 5,Q 14 (.iaddr 1 (V 12) (V 13)),LD 15 14,Q 16 (.arith .eql (V 11) (V 15))]
def HP:List aF:=[M 17 5,M 4 17]
def HQ:List aF:=[Q 18 (.arith .add (V 8) (I 1)),M 8 18]
@[simp]def aM7:=aH HN.eq_1<|aH HO.eq_1<|aH HP.eq_1<|aT HQ.eq_1
def wP:az:=
 (aE (.region [Q 9 (.arith .lss (V 8) (V 7))]) (aE (.cond (V 9) .skip (.exit 0)) (aE (.block 1 (aE (aG 10 11 HN) (aE (aG 11 16 HO) (.cond (V 16) (aE (aG 17 18 HP) .ret) .skip)))) (aG 18 19 HQ))))
@[simp]def aM8:=cL wP.eq_1
def z2:ai:=
 ⟨2,[.tmp 4],
 (aE (.region [Q 4 (.mov (I 0))]) (aE (aE (aG 6 7 Bo) (.block 0 (.loop wP))) (aE (.region [Q 4 (.mov (I (-1)))]) .ret))),false⟩
def Aq:List aF:=[Q 2 (.alloc false [(.int .i64 0),.nils,.nils,.nils,(.int .i64 0),(.int .i64 0)]),Q 3 (.mov au)]
def Ar:List aF:=[M 25 0,Q 26 (.call .std 399 [V 25,(I 0),(I 1)]),M 24 26,EX 27 0 24,EX 28 1 24,EX 29 2 24,M 4 27,M 5 28,M 6 29]
def Au:List aF:=[M 30 6,Q 31 (.un .not (V 30))]
def Av:List aF:=[Q 32 (.build [(.int .i64 0),.nils,.nils,.nils,(.int .i64 0),(.int .i64 0)] []),QN (.store 6 (V 2) (V 32)),Q 3 (.mov au)]
def Aw:List aF:=[M 33 4,Q 34 (.iaddr 1 (V 33) (I 0)),LD 35 34,Q 36 (.build [(.int .i64 0),.nils,.nils,.nils,(.int .i64 0),(.int .i64 0)] [(0,1,V 35)]),Q 7 (.alloc false [(.int .i64 0),.nils,.nils,.nils,(.int .i64 0),(.int .i64 0)]),QN (.store 6 (V 7) (V 36))]
def wQ:List aF:=[FA 37 0 7,LD 38 37]
def wR:List aF:=[Q 40 (.arith .eql (V 38) (I 1)),M 39 40]
def wS:List aF:=[M 42 0,M 43 5,Q 44 (.call .std 32 [V 42,V 43]),M 41 44,EX 45 0 41,EX 46 1 41,EX 47 2 41,M 8 45,M 9 46,M 10 47]
def wT:List aF:=[M 48 8,FA 49 1 7,QN (.store 1 (V 49) (V 48))]
def wU:List aF:=[Q 50 (.load true 6 false (V 7)),M 51 10,Q 52 (.arith .eql (V 51) (I 0)),QN (.store 6 (V 2) (V 50)),M 3 52]
def wV:List aF:=[Q 54 (.arith .eql (V 38) (I 2)),M 53 54]
def wW:List aF:=[M 56 0,M 57 5,Q 58 (.call .std 399 [V 56,V 57,(I 1)]),M 55 58,EX 59 0 55,EX 60 1 55,EX 61 2 55,M 11 59,M 12 60,M 13 61]
def wX:List aF:=[M 62 13,Q 63 (.un .not (V 62)),M 64 63,QG (some 65) (.mov (V 11)) 64 false,QG (some 66) (.iaddr 1 (V 65) (I 0)) 64 false,QG (some 67) (.load false 1 false (V 66)) 64 false,QG (some 68) (.arith .gtr (V 67) (I 64)) 64 false,Q 69 (.pick (V 64) bh (V 68))]
def wY:List aF:=[Q 70 (.build [(.int .i64 0),.nils,.nils,.nils,(.int .i64 0),(.int .i64 0)] []),QN (.store 6 (V 2) (V 70)),Q 3 (.mov au)]
def wZ:List aF:=[M 72 0,M 73 12,M 74 11,Q 75 (.iaddr 1 (V 74) (I 0)),LD 76 75,Q 77 (.arith .mul (I 3) (V 76)),Q 78 (.call .std 399 [V 72,V 73,V 77]),M 71 78,EX 79 0 71,EX 80 1 71,EX 81 2 71,M 14 79,M 15 80,M 13 81]
def wa:List aF:=[Q 16 (.mov (I 0))]
def HR:List aF:=[M 82 16,Q 83 (.arith .add (V 82) (I 2)),M 84 14,Q 85 (.len false (V 84)),Q 86 (.arith .lss (V 83) (V 85))]
def HS:List aF:=[M 89 14,M 90 16,Q 91 (.arith .add (V 90) (I 2)),Q 92 (.iaddr 1 (V 89) (V 91)),LD 93 92,Q 94 (.arith .quo (V 93) (I 2)),M 17 94]
def HT:List aF:=[M 95 14,M 96 16,Q 97 (.arith .add (V 96) (I 2)),Q 98 (.iaddr 1 (V 95) (V 97)),LD 99 98,Q 100 (.arith .rem (V 99) (I 2)),Q 101 (.arith .eql (V 100) (I 1))]
def HU:List aF:=[M 102 17,Q 103 (.un .neg (V 102)),Q 104 (.arith .sub (V 103) (I 1)),M 17 104]
def HV:List aF:=[FA 105 2 7,LD 106 105,M 107 14,M 108 16,Q 109 (.iaddr 1 (V 107) (V 108)),Q 110 (.load false 1 true (V 109)),M 111 14,M 112 16,Q 113 (.arith .add (V 112) (I 1)),Q 114 (.iaddr 1 (V 111) (V 113)),Q 115 (.load false 1 true (V 114)),M 116 17,Q 117 (.build [(.int .i64 0),(.int .i64 0)] [(0,1,V 115),(1,1,V 116)]),Q 118 (.build [(.int .i64 0),(.int .i64 0),(.int .i64 0)] [(0,1,V 110),(1,2,V 117)]),Q 119 (.bsl false (.agg [(.int .i64 0),(.int .i64 0),(.int .i64 0)]) 1 [(0,V 118)]),Q 120 (.app 3 24 (V 106) (V 119)),FA 121 2 7,QN (.store 1 (V 121) (V 120))]
def HW:List aF:=[M 87 16,Q 88 (.arith .add (V 87) (I 3)),M 16 88]
@[simp]def aM9:=aH Aq.eq_1<|aH Ar.eq_1<|aH Au.eq_1<|aH Av.eq_1<|aH Aw.eq_1<|aH wQ.eq_1<|aH wR.eq_1<|aH wS.eq_1<|aH wT.eq_1<|aH wU.eq_1<|aH wV.eq_1<|aH wW.eq_1<|aH wX.eq_1<|aH wY.eq_1<|aH wZ.eq_1<|aH wa.eq_1<|aH HR.eq_1<|aH HS.eq_1<|aH HT.eq_1<|aH HU.eq_1<|aH HV.eq_1<|aT HW.eq_1
def qe:az:=
 (aE (aE (aG 82 86 HR) (.cond (V 86) .skip (.exit 1))) (aE (.block 2 (aE (aG 89 95 HS) (aE (aE (aG 95 101 HT) (.cond (V 101) (aG 102 105 HU) .skip)) (aG 105 122 HV)))) (aG 87 89 HW)))
@[simp]def aNa:=cL qe.eq_1
def wb:List aF:=[Q 122 (.load true 6 false (V 7)),M 123 13,QN (.store 6 (V 2) (V 122)),M 3 123]
def wd:List aF:=[Q 125 (.arith .eql (V 38) (I 3)),M 124 125]
def we:List aF:=[M 127 0,M 128 5,Q 129 (.call .std 400 [V 127,V 128]),M 126 129,EX 130 0 126,EX 131 1 126,EX 132 2 126,M 18 130,M 19 131,M 20 132]
def wg:List aF:=[M 134 0,M 135 19,Q 136 (.call .std 399 [V 134,V 135,(I 2)]),M 133 136,EX 137 0 133,EX 138 1 133,EX 139 2 133,M 21 137,M 22 138,M 23 139]
def wh:List aF:=[M 140 20,Q 141 (.arith .neq (V 140) (I 0)),M 142 141,QG (some 143) (.mov (V 23)) 142 false,QG (some 144) (.un .not (V 143)) 142 false,Q 145 (.pick (V 142) bh (V 144))]
def wj:List aF:=[Q 146 (.build [(.int .i64 0),.nils,.nils,.nils,(.int .i64 0),(.int .i64 0)] []),QN (.store 6 (V 2) (V 146)),Q 3 (.mov au)]
def wk:List aF:=[M 147 18,M 148 21,Q 149 (.iaddr 1 (V 148) (I 0)),Q 150 (.load false 1 true (V 149)),M 151 21,Q 152 (.iaddr 1 (V 151) (I 1)),Q 153 (.load false 1 true (V 152)),FA 154 3 7,QN (.store 1 (V 154) (V 147)),FA 155 4 7,QN (.store 1 (V 155) (V 150)),FA 156 5 7,QN (.store 1 (V 156) (V 153))]
def wm:List aF:=[Q 157 (.load true 6 false (V 7)),QN (.store 6 (V 2) (V 157)),Q 3 (.mov bh)]
def wo:List aF:=[Q 158 (.build [(.int .i64 0),.nils,.nils,.nils,(.int .i64 0),(.int .i64 0)] []),QN (.store 6 (V 2) (V 158)),Q 3 (.mov au)]
@[simp]def aNb:=aH wb.eq_1<|aH wd.eq_1<|aH we.eq_1<|aH wg.eq_1<|aH wh.eq_1<|aH wj.eq_1<|aH wk.eq_1<|aH wm.eq_1<|aT wo.eq_1
def qf:ai:=
 ⟨1,[.cell 2 true 6,.tmp 3],
 (aE (ad Aq) (aE (aG 24 30 Ar) (aE (aE (aG 30 31 Au) (.cond (V 31) (aE (aG 32 33 Av) .ret) .skip)) (aE (aG 33 37 Aw) (aE (aE (aG 37 38 wQ) (.block 0 (aE (aG 40 41 wR) (.cond (V 39) (aE (.clr [(9,10),(41,48)] (ad wS)) (aE (aG 48 50 wT) (aE (aG 50 53 wU) .ret))) (aE (aG 54 55 wV) (.cond (V 53) (aE (aG 55 62 wW) (aE (aE (aG 62 69 wX) (.cond (V 69) (aE (aG 70 71 wY) .ret) .skip)) (aE (.clr [(15,16),(71,82)] (ad wZ)) (aE (aE (ad wa) (.block 1 (.loop qe))) (aE (aG 122 124 wb) .ret))))) (aE (aG 125 126 wd) (.cond (V 124) (aE (aG 126 133 we) (aE (.clr [(22,23),(133,140)] (ad wg)) (aE (aE (aG 140 145 wh) (.cond (V 145) (aE (aG 146 147 wj) .ret) .skip)) (aE (aG 147 157 wk) (aE (aG 157 158 wm) .ret))))) .skip)))))))) (aE (aG 158 159 wo) .ret)))))),false⟩
def HX:List aF:=[M 8 5,M 9 0,Q 10 (.len false (V 9)),Q 11 (.arith .lss (V 8) (V 10)),M 12 11,QG (some 13) (.mov (V 5)) 12 true,QG (some 14) (.mov (V 1)) 12 true,QG (some 15) (.len false (V 14)) 12 true,QG (some 16) (.arith .lss (V 13) (V 15)) 12 true,Q 17 (.pick (V 12) (V 16) au)]
def HY:List aF:=[M 20 0,M 21 5,Q 22 (.iaddr 2 (V 20) (V 21)),FA 23 0 22,Q 24 (.load false 1 true (V 23)),M 25 1,M 26 5,Q 27 (.iaddr 2 (V 25) (V 26)),FA 28 0 27,Q 29 (.load false 1 true (V 28)),Q 30 (.call .pur 216 [V 24,V 29]),M 6 30]
def HZ:List aF:=[M 31 6,Q 32 (.arith .neq (V 31) (I 0))]
def Ha:List aF:=[M 33 6,M 4 33]
def Hb:List aF:=[M 34 0,M 35 5,Q 36 (.iaddr 2 (V 34) (V 35)),FA 37 1 36,Q 38 (.load false 1 true (V 37)),M 39 1,M 40 5,Q 41 (.iaddr 2 (V 39) (V 40)),FA 42 1 41,Q 43 (.load false 1 true (V 42)),Q 44 (.call .pur 216 [V 38,V 43]),M 7 44]
def Hc:List aF:=[M 45 7,Q 46 (.arith .neq (V 45) (I 0))]
def Hd:List aF:=[M 47 7,M 4 47]
def He:List aF:=[M 18 5,Q 19 (.arith .add (V 18) (I 1)),M 5 19]
@[simp]def aNc:=aH HX.eq_1<|aH HY.eq_1<|aH HZ.eq_1<|aH Ha.eq_1<|aH Hb.eq_1<|aH Hc.eq_1<|aH Hd.eq_1<|aT He.eq_1
def Ax:az:=
 (aE (aE (aG 8 17 HX) (.cond (V 17) .skip (.exit 0))) (aE (.block 1 (aE (aE (aG 20 31 HY) (aE (aG 31 32 HZ) (.cond (V 32) (aE (aG 33 34 Ha) .ret) .skip))) (aE (aG 34 45 Hb) (aE (aG 45 46 Hc) (.cond (V 46) (aE (aG 47 48 Hd) .ret) .skip))))) (aG 18 20 He)))
@[simp]def aNd:=cL Ax.eq_1
def Hf:List aF:=[M 48 0,Q 49 (.len false (V 48)),M 50 1,Q 51 (.len false (V 50)),Q 52 (.arith .lss (V 49) (V 51))]
def Hg:List aF:=[M 53 0,Q 54 (.len false (V 53)),M 55 1,Q 56 (.len false (V 55)),Q 57 (.arith .gtr (V 54) (V 56))]
@[simp]def aNe:=aH Hf.eq_1<|aT Hg.eq_1
def tC:ai:=
 ⟨2,[.tmp 4],
 (aE (.region [Q 4 (.mov (I 0))]) (aE (aE (.region [Q 5 (.mov (I 0))]) (.block 0 (.loop Ax))) (aE (aE (aG 48 52 Hf) (.cond (V 52) (aE (.region [Q 4 (.mov (I (-1)))]) .ret) .skip)) (aE (aE (aG 53 57 Hg) (.cond (V 57) (aE (.region [Q 4 (.mov (I 1))]) .ret) .skip)) (aE (.region [Q 4 (.mov (I 0))]) .ret))))),false⟩
def Hh:List aF:=[M 4 0,Q 5 (.len false (V 4)),Q 6 (.arith .gtr (V 5) (I 8))]
def Ay:List aF:=[M 7 3,M 8 0,Q 9 (.len false (V 8)),Q 10 (.arith .lss (V 7) (V 9))]
def Hi:List aF:=[M 13 0,M 14 3,Q 15 (.iaddr 2 (V 13) (V 14)),FA 16 0 15,LD 17 16,Q 18 (.call .pur 126 [V 17]),Q 19 (.un .not (V 18))]
def Hj:List aF:=[M 20 0,M 21 3,Q 22 (.iaddr 2 (V 20) (V 21)),FA 23 1 22,LD 24 23,Q 25 (.arith .eql (V 24) (.cst (.str [])))]
def Hk:List aF:=[M 26 0,M 27 3,Q 28 (.iaddr 2 (V 26) (V 27)),FA 29 1 28,LD 30 29,Q 31 (.len true (V 30)),Q 32 (.arith .gtr (V 31) (I 64))]
def Hl:List aF:=[M 33 3,Q 34 (.arith .gtr (V 33) (I 0)),M 35 34,QG (some 36) (.mov (V 0)) 35 true,QG (some 37) (.mov (V 3)) 35 true,QG (some 38) (.iaddr 2 (V 36) (V 37)) 35 true,QG (some 39) (.faddr 0 (V 38)) 35 true,QG (some 40) (.load false 1 true (V 39)) 35 true,QG (some 41) (.mov (V 0)) 35 true,QG (some 42) (.mov (V 3)) 35 true,QG (some 43) (.arith .sub (V 42) (I 1)) 35 true,QG (some 44) (.iaddr 2 (V 41) (V 43)) 35 true,QG (some 45) (.faddr 0 (V 44)) 35 true,QG (some 46) (.load false 1 true (V 45)) 35 true,QG (some 47) (.arith .leq (V 40) (V 46)) 35 true,Q 48 (.pick (V 35) (V 47) au)]
def Az:List aF:=[M 11 3,Q 12 (.arith .add (V 11) (I 1)),M 3 12]
@[simp]def aNf:=aH Hh.eq_1<|aH Ay.eq_1<|aH Hi.eq_1<|aH Hj.eq_1<|aH Hk.eq_1<|aH Hl.eq_1<|aT Az.eq_1
def wq:az:=
 (aE (aE (aG 7 10 Ay) (.cond (V 10) .skip (.exit 0))) (aE (.block 1 (aE (aE (aG 13 19 Hi) (.cond (V 19) (aE (.region [Q 2 (.mov (I 8))]) .ret) .skip)) (aE (aE (aG 20 25 Hj) (.cond (V 25) (aE (.region [Q 2 (.mov (I 2))]) .ret) .skip)) (aE (aE (aG 26 32 Hk) (.cond (V 32) (aE (.region [Q 2 (.mov (I 3))]) .ret) .skip)) (aE (aG 33 48 Hl) (.cond (V 48) (aE (.region [Q 2 (.mov (I 13))]) .ret) .skip)))))) (aG 11 13 Az)))
@[simp]def aNg:=cL wq.eq_1
def z53:ai:=
 ⟨1,[.tmp 2],
 (aE (.region [Q 2 (.mov (I 0))]) (aE (aE (aG 4 6 Hh) (.cond (V 6) (aE (.region [Q 2 (.mov (I 3))]) .ret) .skip)) (aE (aE (.region [Q 3 (.mov (I 0))]) (.block 0 (.loop wq))) (aE (.region [Q 2 (.mov (I 0))]) .ret)))),false⟩
def Hm:List aF:=[M 4 0,Q 5 (.len false (V 4)),Q 6 (.arith .eql (V 5) (I 0)),M 7 6,QG (some 8) (.mov (V 0)) 7 false,QG (some 9) (.len false (V 8)) 7 false,QG (some 10) (.arith .gtr (V 9) (I 64)) 7 false,Q 11 (.pick (V 7) bh (V 10))]
def Hn:List aF:=[M 12 3,M 13 0,Q 14 (.len false (V 13)),Q 15 (.arith .lss (V 12) (V 14))]
def Ho:List aF:=[M 18 0,M 19 3,Q 20 (.iaddr 3 (V 18) (V 19)),FA 21 0 20,LD 22 21,Q 23 (.arith .lss (V 22) (I 0)),M 24 23,QG (some 25) (.mov (V 0)) 24 false,QG (some 26) (.mov (V 3)) 24 false,QG (some 27) (.iaddr 3 (V 25) (V 26)) 24 false,QG (some 28) (.faddr 0 (V 27)) 24 false,QG (some 29) (.load false 1 false (V 28)) 24 false,QG (some 30) (.arith .gtr (V 29) (I 1099511627776)) 24 false,Q 31 (.pick (V 24) bh (V 30))]
def Hp:List aF:=[M 32 0,M 33 3,Q 34 (.iaddr 3 (V 32) (V 33)),FA 35 1 34,Q 36 (.load true 2 false (V 35)),Q 37 (.call .std 329 [V 36]),Q 38 (.un .not (V 37))]
def Hq:List aF:=[M 16 3,Q 17 (.arith .add (V 16) (I 1)),M 3 17]
@[simp]def aNh:=aH Hm.eq_1<|aH Hn.eq_1<|aH Ho.eq_1<|aH Hp.eq_1<|aT Hq.eq_1
def BA:az:=
 (aE (aE (aG 12 15 Hn) (.cond (V 15) .skip (.exit 0))) (aE (.block 1 (aE (aE (aG 18 31 Ho) (.cond (V 31) (aE (.region [Q 2 (.mov (I 2))]) .ret) .skip)) (aE (aG 32 38 Hp) (.cond (V 38) (aE (.region [Q 2 (.mov (I 11))]) .ret) .skip)))) (aG 16 18 Hq)))
@[simp]def aNi:=cL BA.eq_1
def ox:ai:=
 ⟨1,[.tmp 2],
 (aE (.region [Q 2 (.mov (I 0))]) (aE (aE (aG 4 11 Hm) (.cond (V 11) (aE (.region [Q 2 (.mov (I 2))]) .ret) .skip)) (aE (aE (.region [Q 3 (.mov (I 0))]) (.block 0 (.loop BA))) (aE (.region [Q 2 (.mov (I 0))]) .ret)))),false⟩
def Hr:List aF:=[M 4 0,Q 5 (.len false (V 4)),Q 6 (.arith .gtr (V 5) (I 1024))]
def Hs:List aF:=[M 13 0,M 14 3,Q 15 (.iaddr 1 (V 13) (V 14)),LD 16 15,Q 17 (.arith .lss (V 16) (I 0)),M 18 17,QG (some 19) (.mov (V 0)) 18 false,QG (some 20) (.mov (V 3)) 18 false,QG (some 21) (.iaddr 1 (V 19) (V 20)) 18 false,QG (some 22) (.load false 1 false (V 21)) 18 false,QG (some 23) (.arith .gtr (V 22) (I 1099511627776)) 18 false,Q 24 (.pick (V 18) bh (V 23))]
def Ht:List aF:=[M 25 3,Q 26 (.arith .gtr (V 25) (I 0)),M 27 26,QG (some 28) (.mov (V 0)) 27 true,QG (some 29) (.mov (V 3)) 27 true,QG (some 30) (.iaddr 1 (V 28) (V 29)) 27 true,QG (some 31) (.load false 1 true (V 30)) 27 true,QG (some 32) (.mov (V 0)) 27 true,QG (some 33) (.mov (V 3)) 27 true,QG (some 34) (.arith .sub (V 33) (I 1)) 27 true,QG (some 35) (.iaddr 1 (V 32) (V 34)) 27 true,QG (some 36) (.load false 1 true (V 35)) 27 true,QG (some 37) (.arith .leq (V 31) (V 36)) 27 true,Q 38 (.pick (V 27) (V 37) au)]
@[simp]def aNj:=aH Hr.eq_1<|aH Hs.eq_1<|aT Ht.eq_1
def wt:az:=
 (aE (aE (aG 7 10 Ay) (.cond (V 10) .skip (.exit 0))) (aE (.block 1 (aE (aE (aG 13 24 Hs) (.cond (V 24) (aE (.region [Q 2 (.mov (I 2))]) .ret) .skip)) (aE (aG 25 38 Ht) (.cond (V 38) (aE (.region [Q 2 (.mov (I 13))]) .ret) .skip)))) (aG 11 13 Az)))
@[simp]def aNk:=cL wt.eq_1
def qh:ai:=
 ⟨1,[.tmp 2],
 (aE (.region [Q 2 (.mov (I 0))]) (aE (aE (aG 4 6 Hr) (.cond (V 6) (aE (.region [Q 2 (.mov (I 3))]) .ret) .skip)) (aE (aE (.region [Q 3 (.mov (I 0))]) (.block 0 (.loop wt))) (aE (.region [Q 2 (.mov (I 0))]) .ret)))),false⟩
def Hu:List aF:=[M 3 0,Q 4 (.len true (V 3)),Q 5 (.call .std 219 [V 4]),M 6 0,Q 7 (.app 1 1 (V 5) (V 6)),M 2 7]
@[simp]def aNl:=aT Hu.eq_1
def tE:ai:=
 ⟨1,[.tmp 2],
 (aE (.region [Q 2 (.mov (.cst .nils))]) (aE (aG 3 8 Hu) .ret)),false⟩
def Hv:List aF:=[Q 3 (.alloc false [(.int .u32 0)]),QN (.store 1 (V 3) (.cst (.int .u32 4294967295)))]
def Hw:List aF:=[Q 7 (.mkfn 342 [V 3]),M 4 7]
def Hx:List aF:=[Q 12 (.iaddr 1 (V 8) (V 10)),LD 13 12,M 6 13]
def Hy:List aF:=[LD 14 3,M 15 6,Q 16 (.toInt .u32 (V 15)),Q 17 (.arith .xor (V 14) (V 16)),QN (.store 1 (V 3) (V 17))]
def Hz:List aF:=[Q 18 (.mov (I 0))]
@[simp]def Zo:=aT Hz.eq_1
def IA:List aF:=[M 20 4,Q 21 (.callv .std (V 20) [])]
def IB:List aF:=[Q 22 (.arith .add (V 18) (I 1)),M 18 22]
@[simp]def aNm:=aH Hv.eq_1<|aH Hw.eq_1<|aH Hx.eq_1<|aH Hy.eq_1<|aH IA.eq_1<|aT IB.eq_1
def wu:az:=
 (aE (.region [Q 19 (.arith .lss (V 18) (I 8))]) (aE (.cond (V 19) .skip (.exit 2)) (aE (.block 3 (aG 20 22 IA)) (aG 22 23 IB))))
@[simp]def aNn:=cL wu.eq_1
def IC:List aF:=[Q 23 (.arith .add (V 10) (I 1)),M 10 23]
@[simp]def aNo:=aT IC.eq_1
def ww:az:=
 (aE (.region [Q 11 (.arith .lss (V 10) (V 9))]) (aE (.cond (V 11) .skip (.exit 0)) (aE (.block 1 (aE (aG 12 14 Hx) (aE (aG 14 18 Hy) (aE (ad Hz) (.block 2 (.loop wu)))))) (aG 23 24 IC))))
@[simp]def aNp:=cL ww.eq_1
def ID:List aF:=[LD 24 3,Q 25 (.un .xor (V 24)),M 2 25]
@[simp]def aNq:=aT ID.eq_1
def tG:ai:=
 ⟨1,[.tmp 2],
 (aE (.region [Q 2 (.mov (.cst (.int .u32 0)))]) (aE (ad Hv) (aE (aG 7 8 Hw) (aE (aE (ad xw) (.block 0 (.loop ww))) (aE (aG 24 26 ID) .ret))))),false⟩
def BB:List aF:=[Q 1 (.box true (V 0)),Q 2 (.mov au)]
def IE:List aF:=[FA 3 0 1,LD 4 3,Q 5 (.arith .leq (I 0) (V 4)),M 6 5,QG (some 7) (.faddr 0 (V 1)) 6 true,QG (some 8) (.load false 1 false (V 7)) 6 true,QG (some 9) (.arith .leq (V 8) (I 1099511627776)) 6 true,Q 10 (.pick (V 6) (V 9) au),M 11 10,QG (some 12) (.faddr 1 (V 1)) 11 true,QG (some 13) (.load false 1 false (V 12)) 11 true,QG (some 14) (.arith .leq (I (-1152921504606846976)) (V 13)) 11 true,Q 15 (.pick (V 11) (V 14) au),M 16 15,QG (some 17) (.faddr 1 (V 1)) 16 true,QG (some 18) (.load false 1 false (V 17)) 16 true,QG (some 19) (.arith .leq (V 18) (I 1152921504606846976)) 16 true,Q 20 (.pick (V 16) (V 19) au),M 2 20]
@[simp]def aNr:=aH BB.eq_1<|aT IE.eq_1
def tH:ai:=
 ⟨1,[.tmp 2],
 (aE (ad BB) (aE (aG 3 21 IE) .ret)),false⟩
def BC:List aF:=[Q 6 (.mov (.cst .nils)),Q 7 (.mov (I 0)),Q 8 (.mov au)]
def IF:List aF:=[M 14 10,M 15 2,Q 16 (.arith .lss (V 14) (V 15))]
def IG:List aF:=[M 20 0,M 21 1,Q 22 (.call .std 112 [V 20,V 21]),M 19 22,EX 23 0 19,EX 24 1 19,EX 25 2 19,M 11 23,M 12 24,M 13 25]
def IH:List aF:=[M 26 13,Q 27 (.arith .neq (V 26) (I 0))]
def II:List aF:=[M 28 9,M 29 11,Q 30 (.bsl false (.int .i64 0) 1 [(0,V 29)]),Q 31 (.app 1 8 (V 28) (V 30)),M 9 31]
def IJ:List aF:=[M 32 12,M 1 32]
def IK:List aF:=[M 17 10,Q 18 (.arith .add (V 17) (I 1)),M 10 18]
@[simp]def aNs:=aH BC.eq_1<|aH IF.eq_1<|aH IG.eq_1<|aH IH.eq_1<|aH II.eq_1<|aH IJ.eq_1<|aT IK.eq_1
def BD:az:=
 (aE (aE (aG 14 16 IF) (.cond (V 16) .skip (.exit 0))) (aE (.block 1 (aE (aG 19 26 IG) (aE (aE (aG 26 27 IH) (.cond (V 27) (aE (ad BC) .ret) .skip)) (aE (aG 28 32 II) (aG 32 33 IJ))))) (aG 17 19 IK)))
@[simp]def aNt:=cL BD.eq_1
def IL:List aF:=[M 33 9,M 34 1,M 6 33,M 7 34,Q 8 (.mov bh)]
@[simp]def aNu:=aT IL.eq_1
def z32:ai:=
 ⟨3,[.tmp 6,.tmp 7,.tmp 8],
 (aE (ad BC) (aE (.region [Q 9 (.mov (.cst .nils))]) (aE (aE (.region [Q 10 (.mov (I 0))]) (.block 0 (.loop BD))) (aE (aG 33 35 IL) .ret)))),false⟩
def IM:List aF:=[M 17 0,M 18 1,Q 19 (.call .std 112 [V 17,V 18]),M 16 19,EX 20 0 16,EX 21 1 16,EX 22 2 16,M 7 20,M 1 21,M 8 22]
def IO:List aF:=[M 23 8,Q 24 (.arith .neq (V 23) (I 0))]
def IP:List aF:=[M 25 8,Q 4 (.mov (.cst .nils)),Q 5 (.mov (I 0)),M 6 25]
def IQ:List aF:=[M 26 7,Q 27 (.arith .gtr (V 26) (I 8))]
def BE:List aF:=[Q 4 (.mov (.cst .nils)),Q 5 (.mov (I 0)),Q 6 (.mov (I 3))]
def IR:List aF:=[M 28 10,M 29 7,Q 30 (.arith .lss (V 28) (V 29))]
def IS:List aF:=[M 34 0,M 35 1,Q 36 (.call .std 113 [V 34,V 35]),M 33 36,EX 37 0 33,EX 38 1 33,EX 39 2 33,M 11 37,M 12 38,M 13 39]
def IT:List aF:=[M 40 13,Q 41 (.arith .neq (V 40) (I 0))]
def IU:List aF:=[M 42 13,Q 4 (.mov (.cst .nils)),Q 5 (.mov (I 0)),M 6 42]
def IV:List aF:=[M 44 0,M 45 12,Q 46 (.call .std 113 [V 44,V 45]),M 43 46,EX 47 0 43,EX 48 1 43,EX 49 2 43,M 14 47,M 15 48,M 13 49]
def IW:List aF:=[M 50 13,Q 51 (.arith .neq (V 50) (I 0))]
def IX:List aF:=[M 52 13,Q 4 (.mov (.cst .nils)),Q 5 (.mov (I 0)),M 6 52]
def IY:List aF:=[M 53 9,M 54 11,M 55 14,Q 56 (.build [(.str []),(.str [])] [(0,1,V 54),(1,1,V 55)]),Q 57 (.bsl false (.agg [(.str []),(.str [])]) 1 [(0,V 56)]),Q 58 (.app 2 32 (V 53) (V 57)),M 9 58]
def IZ:List aF:=[M 59 15,M 1 59]
def Ia:List aF:=[M 31 10,Q 32 (.arith .add (V 31) (I 1)),M 10 32]
@[simp]def aNv:=aH IM.eq_1<|aH IO.eq_1<|aH IP.eq_1<|aH IQ.eq_1<|aH BE.eq_1<|aH IR.eq_1<|aH IS.eq_1<|aH IT.eq_1<|aH IU.eq_1<|aH IV.eq_1<|aH IW.eq_1<|aH IX.eq_1<|aH IY.eq_1<|aH IZ.eq_1<|aT Ia.eq_1
def BF:az:=
 (aE (aE (aG 28 30 IR) (.cond (V 30) .skip (.exit 0))) (aE (.block 1 (aE (aG 33 40 IS) (aE (aE (aG 40 41 IT) (.cond (V 41) (aE (aG 42 43 IU) .ret) .skip)) (aE (aG 43 50 IV) (aE (aE (aG 50 51 IW) (.cond (V 51) (aE (aG 52 53 IX) .ret) .skip)) (aE (aG 53 59 IY) (aG 59 60 IZ))))))) (aG 31 33 Ia)))
@[simp]def aNw:=cL BF.eq_1
def Ib:List aF:=[M 60 9,Q 61 (.call .std 98 [V 60]),Q 62 (.arith .neq (V 61) (I 0))]
def Ic:List aF:=[M 63 9,M 64 1,M 4 63,M 5 64,Q 6 (.mov (I 0))]
@[simp]def aNx:=aH Ib.eq_1<|aT Ic.eq_1
def qi:ai:=
 ⟨2,[.tmp 4,.tmp 5,.tmp 6],
 (aE (ad pF) (aE (aG 16 23 IM) (aE (aE (aG 23 24 IO) (.cond (V 24) (aE (aG 25 26 IP) .ret) .skip)) (aE (aE (aG 26 27 IQ) (.cond (V 27) (aE (ad BE) .ret) .skip)) (aE (.region [Q 9 (.mov (.cst .nils))]) (aE (aE (.region [Q 10 (.mov (I 0))]) (.block 0 (.loop BF))) (aE (aE (aG 60 62 Ib) (.cond (V 62) (aE (ad tn) .ret) .skip)) (aE (aG 63 65 Ic) .ret)))))))),false⟩
def Id:List aF:=[M 16 0,M 17 1,Q 18 (.call .std 112 [V 16,V 17]),M 15 18,EX 19 0 15,EX 20 1 15,EX 21 2 15,M 7 19,M 1 20,M 8 21]
def Ie:List aF:=[M 22 8,Q 23 (.arith .neq (V 22) (I 0))]
def If:List aF:=[M 24 8,Q 4 (.mov (.cst .nils)),Q 5 (.mov (I 0)),M 6 24]
def Ig:List aF:=[M 25 7,Q 26 (.arith .gtr (V 25) (I 1024))]
def Ih:List aF:=[M 27 11,M 28 7,Q 29 (.arith .lss (V 27) (V 28))]
def Ii:List aF:=[M 33 0,M 34 1,Q 35 (.call .std 112 [V 33,V 34]),M 32 35,EX 36 0 32,EX 37 1 32,EX 38 2 32,M 12 36,M 13 37,M 14 38]
def Ij:List aF:=[M 39 14,Q 40 (.arith .neq (V 39) (I 0))]
def Ik:List aF:=[M 41 14,Q 4 (.mov (.cst .nils)),Q 5 (.mov (I 0)),M 6 41]
def Il:List aF:=[M 42 12,M 43 10,Q 44 (.arith .sub (I 1099511627776) (V 43)),Q 45 (.arith .gtr (V 42) (V 44)),M 46 45,QG (some 47) (.mov (V 11)) 46 false,QG (some 48) (.arith .gtr (V 47) (I 0)) 46 false,QG (some 49) (.mov (V 48)) 46 false,QG (some 50) (.mov (V 12)) 49 true,QG (some 51) (.arith .eql (V 50) (I 0)) 49 true,QG (some 52) (.pick (V 49) (V 51) au) 46 false,Q 53 (.pick (V 46) bh (V 52))]
def Im:List aF:=[M 54 10,M 55 12,Q 56 (.arith .add (V 54) (V 55)),M 10 56]
def In:List aF:=[M 57 9,M 58 10,Q 59 (.bsl false (.int .i64 0) 1 [(0,V 58)]),Q 60 (.app 1 8 (V 57) (V 59)),M 9 60]
def Io:List aF:=[M 61 13,M 1 61]
def Ip:List aF:=[M 30 11,Q 31 (.arith .add (V 30) (I 1)),M 11 31]
@[simp]def aNy:=aH Id.eq_1<|aH Ie.eq_1<|aH If.eq_1<|aH Ig.eq_1<|aH Ih.eq_1<|aH Ii.eq_1<|aH Ij.eq_1<|aH Ik.eq_1<|aH Il.eq_1<|aH Im.eq_1<|aH In.eq_1<|aH Io.eq_1<|aT Ip.eq_1
def BG:az:=
 (aE (aE (aG 27 29 Ih) (.cond (V 29) .skip (.exit 0))) (aE (.block 1 (aE (aG 32 39 Ii) (aE (aE (aG 39 40 Ij) (.cond (V 40) (aE (aG 41 42 Ik) .ret) .skip)) (aE (aE (aG 42 53 Il) (.cond (V 53) (aE (ad tn) .ret) .skip)) (aE (aG 54 57 Im) (aE (aG 57 61 In) (aG 61 62 Io))))))) (aG 30 32 Ip)))
@[simp]def aNz:=cL BG.eq_1
def Iq:List aF:=[M 62 9,M 63 1,M 4 62,M 5 63,Q 6 (.mov (I 0))]
@[simp]def aNA:=aT Iq.eq_1
def nH:ai:=
 ⟨2,[.tmp 4,.tmp 5,.tmp 6],
 (aE (ad pF) (aE (aG 15 22 Id) (aE (aE (aG 22 23 Ie) (.cond (V 23) (aE (aG 24 25 If) .ret) .skip)) (aE (aE (aG 25 26 Ig) (.cond (V 26) (aE (ad BE) .ret) .skip)) (aE (.region [Q 9 (.mov (.cst .nils))]) (aE (.region [Q 10 (.mov (I 0))]) (aE (aE (.region [Q 11 (.mov (I 0))]) (.block 0 (.loop BG))) (aE (aG 62 64 Iq) .ret)))))))),false⟩
def Ir:List aF:=[M 5 0,M 6 1,Q 7 (.arith .lss (V 5) (V 6))]
def Is:List aF:=[M 8 0,M 9 1,Q 10 (.arith .gtr (V 8) (V 9))]
@[simp]def aNB:=aH Ir.eq_1<|aT Is.eq_1
def tI:ai:=
 ⟨2,[.tmp 4],
 (aE (.region [Q 4 (.mov (I 0))]) (aE (aE (aG 5 7 Ir) (.cond (V 7) (aE (.region [Q 4 (.mov (I (-1)))]) .ret) .skip)) (aE (aE (aG 8 10 Is) (.cond (V 10) (aE (.region [Q 4 (.mov (I 1))]) .ret) .skip)) (aE (.region [Q 4 (.mov (I 0))]) .ret)))),false⟩
def Iu:List aF:=[M 6 3,M 7 0,Q 8 (.len true (V 7)),Q 9 (.arith .lss (V 6) (V 8))]
def Iv:List aF:=[M 12 0,M 13 3,Q 14 (.idxs (V 12) (V 13)),M 4 14]
def Iw:List aF:=[M 15 4,Q 16 (.arith .geq (V 15) (.cst (.int .u8 97))),M 17 16,QG (some 18) (.mov (V 4)) 17 true,QG (some 19) (.arith .leq (V 18) (.cst (.int .u8 122))) 17 true,Q 20 (.pick (V 17) (V 19) au),M 21 20,QG (some 22) (.mov (V 4)) 21 false,QG (some 23) (.arith .geq (V 22) (.cst (.int .u8 65))) 21 false,QG (some 24) (.mov (V 23)) 21 false,QG (some 25) (.mov (V 4)) 24 true,QG (some 26) (.arith .leq (V 25) (.cst (.int .u8 90))) 24 true,QG (some 27) (.pick (V 24) (V 26) au) 21 false,Q 28 (.pick (V 21) bh (V 27)),M 29 28,QG (some 30) (.mov (V 4)) 29 false,QG (some 31) (.arith .eql (V 30) (.cst (.int .u8 95))) 29 false,Q 32 (.pick (V 29) bh (V 31)),M 5 32]
def Ix:List aF:=[M 33 5,Q 34 (.un .not (V 33)),M 35 34,QG (some 36) (.mov (V 3)) 35 true,QG (some 37) (.arith .eql (V 36) (I 0)) 35 true,QG (some 38) (.mov (V 37)) 35 true,QG (some 39) (.mov (V 4)) 38 false,QG (some 40) (.arith .lss (V 39) (.cst (.int .u8 48))) 38 false,QG (some 41) (.pick (V 38) bh (V 40)) 35 true,QG (some 42) (.mov (V 41)) 35 true,QG (some 43) (.mov (V 4)) 42 false,QG (some 44) (.arith .gtr (V 43) (.cst (.int .u8 57))) 42 false,QG (some 45) (.pick (V 42) bh (V 44)) 35 true,Q 46 (.pick (V 35) (V 45) au)]
def Iy:List aF:=[M 10 3,Q 11 (.arith .add (V 10) (I 1)),M 3 11]
@[simp]def aNC:=aH Iu.eq_1<|aH Iv.eq_1<|aH Iw.eq_1<|aH Ix.eq_1<|aT Iy.eq_1
def wx:az:=
 (aE (aE (aG 6 9 Iu) (.cond (V 9) .skip (.exit 0))) (aE (.block 1 (aE (aG 12 15 Iv) (aE (aG 15 33 Iw) (aE (aG 33 46 Ix) (.cond (V 46) (aE (.region [Q 2 (.mov au)]) .ret) .skip))))) (aG 10 12 Iy)))
@[simp]def aND:=cL wx.eq_1
def Iz:List aF:=[M 47 0,Q 48 (.arith .neq (V 47) (.cst (.str []))),M 49 48,QG (some 50) (.mov (V 0)) 49 true,QG (some 51) (.len true (V 50)) 49 true,QG (some 52) (.arith .leq (V 51) (I 32)) 49 true,Q 53 (.pick (V 49) (V 52) au),M 2 53]
@[simp]def aNE:=aT Iz.eq_1
def tJ:ai:=
 ⟨1,[.tmp 2],
 (aE (.region [Q 2 (.mov au)]) (aE (aE (.region [Q 3 (.mov (I 0))]) (.block 0 (.loop wx))) (aE (aG 47 54 Iz) .ret))),false⟩
def JA:List aF:=[FA 3 0 1,LD 4 3,Q 5 (.arith .geq (V 4) (I 0)),M 6 5,QG (some 7) (.faddr 0 (V 1)) 6 true,QG (some 8) (.load false 1 false (V 7)) 6 true,QG (some 9) (.arith .leq (V 8) (I 1099511627776)) 6 true,Q 10 (.pick (V 6) (V 9) au),M 11 10,QG (some 12) (.faddr 1 (V 1)) 11 true,QG (some 13) (.load false 1 false (V 12)) 11 true,QG (some 14) (.arith .geq (V 13) (I (-1152921504606846976))) 11 true,Q 15 (.pick (V 11) (V 14) au),M 16 15,QG (some 17) (.faddr 1 (V 1)) 16 true,QG (some 18) (.load false 1 false (V 17)) 16 true,QG (some 19) (.arith .leq (V 18) (I 1152921504606846976)) 16 true,Q 20 (.pick (V 16) (V 19) au),M 2 20]
@[simp]def aNF:=aT JA.eq_1
def tK:ai:=
 ⟨1,[.tmp 2],
 (aE (ad BB) (aE (aG 3 21 JA) .ret)),false⟩
def JB:List aF:=[LD 2 0,Q 3 (.arith .and (V 2) (.cst (.int .u32 1))),M 1 3]
def JC:List aF:=[LD 4 0,Q 5 (.arith .shr (V 4) (.cst (.int .u64 1))),M 6 1,Q 7 (.un .neg (V 6)),Q 8 (.arith .and (.cst (.int .u32 2197175160)) (V 7)),Q 9 (.arith .xor (V 5) (V 8)),QN (.store 1 (V 0) (V 9))]
@[simp]def aNG:=aH JB.eq_1<|aT JC.eq_1
def tL:ai:=
 ⟨1,[],
 (aE (aG 2 4 JB) (aG 4 10 JC)),false⟩
def JD:List aF:=[M 11 1,Q 12 (.arith .lss (V 11) (I 0)),M 13 12,QG (some 14) (.mov (V 1)) 13 false,QG (some 15) (.mov (V 0)) 13 false,QG (some 16) (.len false (V 15)) 13 false,QG (some 17) (.arith .gtr (V 14) (V 16)) 13 false,Q 18 (.pick (V 13) bh (V 17))]
def JE:List aF:=[Q 7 (.mov (I 0)),Q 8 (.mov (I 1))]
def JF:List aF:=[M 19 9,Q 20 (.arith .lss (V 19) (I 9))]
def JG:List aF:=[M 23 1,M 24 9,Q 25 (.arith .add (V 23) (V 24)),M 26 0,Q 27 (.len false (V 26)),Q 28 (.arith .geq (V 25) (V 27))]
def JH:List aF:=[M 29 0,M 30 1,M 31 9,Q 32 (.arith .add (V 30) (V 31)),Q 33 (.iaddr 1 (V 29) (V 32)),LD 34 33,Q 35 (.toInt .i64 (V 34)),M 10 35]
def JI:List aF:=[M 36 7,M 37 10,Q 38 (.arith .rem (V 37) (I 128)),M 39 8,Q 40 (.arith .mul (V 38) (V 39)),Q 41 (.arith .add (V 36) (V 40)),M 7 41]
def JJ:List aF:=[M 42 10,Q 43 (.arith .lss (V 42) (I 128))]
def JK:List aF:=[M 44 10,Q 45 (.arith .eql (V 44) (I 0)),M 46 45,QG (some 47) (.mov (V 9)) 46 true,QG (some 48) (.arith .gtr (V 47) (I 0)) 46 true,Q 49 (.pick (V 46) (V 48) au)]
def JL:List aF:=[M 50 7,M 51 1,M 52 9,Q 53 (.arith .add (V 51) (V 52)),Q 54 (.arith .add (V 53) (I 1)),M 4 50,M 5 54,Q 6 (.mov (I 0))]
def JM:List aF:=[M 55 9,Q 56 (.arith .lss (V 55) (I 8))]
def JN:List aF:=[M 57 8,Q 58 (.arith .mul (V 57) (I 128)),M 8 58]
def JO:List aF:=[M 21 9,Q 22 (.arith .add (V 21) (I 1)),M 9 22]
@[simp]def aNH:=aH JD.eq_1<|aH JE.eq_1<|aH JF.eq_1<|aH JG.eq_1<|aH JH.eq_1<|aH JI.eq_1<|aH JJ.eq_1<|aH JK.eq_1<|aH JL.eq_1<|aH JM.eq_1<|aH JN.eq_1<|aT JO.eq_1
def BH:az:=
 (aE (aE (aG 19 20 JF) (.cond (V 20) .skip (.exit 0))) (aE (.block 1 (aE (aE (aG 23 28 JG) (.cond (V 28) (aE (ad CK) .ret) .skip)) (aE (aG 29 36 JH) (aE (aG 36 42 JI) (aE (aE (aG 42 43 JJ) (.cond (V 43) (aE (aE (aG 44 49 JK) (.cond (V 49) (aE (ad xz) .ret) .skip)) (aE (aG 50 55 JL) .ret)) .skip)) (aE (aG 55 56 JM) (.cond (V 56) (aG 57 59 JN) .skip))))))) (aG 21 23 JO)))
@[simp]def aNI:=cL BH.eq_1
def z27:ai:=
 ⟨2,[.tmp 4,.tmp 5,.tmp 6],
 (aE (ad CH) (aE (aE (aG 11 18 JD) (.cond (V 18) (aE (ad CI) .ret) .skip)) (aE (ad JE) (aE (aE (.region [Q 9 (.mov (I 0))]) (.block 0 (.loop BH))) (aE (ad xz) .ret))))),false⟩
def JP:List aF:=[M 11 0,M 12 1,Q 13 (.call .std 112 [V 11,V 12]),M 10 13,EX 14 0 10,EX 15 1 10,EX 16 2 10,M 7 14,M 8 15,M 9 16]
def JQ:List aF:=[M 17 9,Q 18 (.arith .neq (V 17) (I 0))]
def JR:List aF:=[M 19 9,Q 4 (.mov (.cst (.str []))),Q 5 (.mov (I 0)),M 6 19]
def JS:List aF:=[M 20 7,Q 21 (.arith .gtr (V 20) (I 65535))]
def JT:List aF:=[M 22 7,M 23 0,Q 24 (.len false (V 23)),M 25 8,Q 26 (.arith .sub (V 24) (V 25)),Q 27 (.arith .gtr (V 22) (V 26))]
def JU:List aF:=[M 28 0,M 29 8,M 30 8,M 31 7,Q 32 (.arith .add (V 30) (V 31)),Q 33 (.slc 1 (some (V 29)) (some (V 32)) (V 28)),Q 34 (.toStr (V 33)),M 35 8,M 36 7,Q 37 (.arith .add (V 35) (V 36)),M 4 34,M 5 37,Q 6 (.mov (I 0))]
@[simp]def aNJ:=aH JP.eq_1<|aH JQ.eq_1<|aH JR.eq_1<|aH JS.eq_1<|aH JT.eq_1<|aT JU.eq_1
def tM:ai:=
 ⟨2,[.tmp 4,.tmp 5,.tmp 6],
 (aE (ad CL) (aE (aG 10 17 JP) (aE (aE (aG 17 18 JQ) (.cond (V 18) (aE (aG 19 20 JR) .ret) .skip)) (aE (aE (aG 20 21 JS) (.cond (V 21) (aE (ad CN) .ret) .skip)) (aE (aE (aG 22 27 JT) (.cond (V 27) (aE (ad CO) .ret) .skip)) (aE (aG 28 38 JU) .ret)))))),false⟩
end Ps
