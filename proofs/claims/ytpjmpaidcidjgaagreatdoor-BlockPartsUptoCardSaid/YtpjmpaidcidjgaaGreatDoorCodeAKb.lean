/- The functions' code, as the pure semantics has it: printed by program. -/
import Derived.Test.YtpjmpaidcidjgaaGreatDoorWalkKb
namespace Ps
open Go
set_option maxRecDepth 10000
set_option linter.defProp false
variable (T : aV) (K : List Kt) (fr : Fr) (S : St)
def HP:List aA:=[Q 6 (.mov (.cst .nili)),M 2 6]
def vP:List aA:=[M 7 2,Q 8 (.eqn false .i (V 7))]
def zJ:List aA:=[Q 3 (.alloc false [(.int .i64 0)])]
def zK:List aA:=[M 10 2,Q 11 (.asrI [3,2] (V 10)),M 9 11,EX 12 0 9,EX 13 1 9,M 4 12,M 5 13]
def zL:List aA:=[M 14 5,M 15 14,QG (some 16) (.mov (V 4)) 15 true,QG (some 17) (.mkif 2 (V 3)) 15 true,QG (some 18) (.call .std 159 [V 16,V 17]) 15 true,Q 19 (.pick (V 15) (V 18) bR)]
def zM:List aA:=[QN (.store 1 (V 0) (.cst .nilp)),QN (.store 1 (V 1) (I 5))]
def HQ:List aA:=[M 20 2,QN (.bad)]
def HR:List aA:=[Q 5 (.mov (.cst .nili)),M 2 5]
def vQ:List aA:=[M 6 2,Q 7 (.eqn true .i (V 6))]
def zN:List aA:=[M 9 2,Q 10 (.assert 11 true (.agg []) (V 9)),M 8 10,EX 11 0 8,EX 12 1 8,Q 3 (.alloc false []),QN (.store 0 (V 3) (V 11)),M 4 12]
def zO:List aA:=[M 13 4,Q 14 (.un .not (V 13))]
def HS:List aA:=[M 15 2,QN (.bad)]
def zP:List aA:=[QN (.store 1 (V 0) (.cst .nils)),QN (.store 1 (V 1) (I 5))]
def zQ:List aA:=[Q 4 (.mov bR)]
def vR:List aA:=[M 18 6,Q 19 (.arith .eql (V 18) (I 0))]
def zR:List aA:=[M 21 5,Q 22 (.call .std 171 [V 21]),Q 23 (.call .std 155 [V 22]),M 20 23,EX 24 0 20,EX 25 1 20,M 7 24,M 8 25]
def zS:List aA:=[M 26 8,Q 27 (.arith .neq (V 26) (I 0)),M 28 27,QG (some 29) (.mov (V 7)) 28 false,QG (some 30) (.toStr (V 29)) 28 false,QG (some 31) (.mov (V 1)) 28 false,QG (some 32) (.toStr (V 31)) 28 false,QG (some 33) (.arith .neq (V 30) (V 32)) 28 false,Q 34 (.pick (V 28) ck (V 33))]
def HT:List aA:=[Q 4 (.mov bR)]
def sI:List aA:=[M 36 0,Q 37 (.call .std 155 [V 36]),M 35 37,EX 38 0 35,EX 39 1 35,M 9 38,M 10 39]
def sJ:List aA:=[M 40 10,Q 41 (.arith .neq (V 40) (I 0))]
def vT:List aA:=[Q 10 (.mov bR)]
def sK:List aA:=[M 23 0,Q 24 (.call .std 155 [V 23]),M 22 24,EX 25 0 22,EX 26 1 22,M 11 25,M 12 26]
def mr:List aA:=[M 27 12,Q 28 (.arith .neq (V 27) (I 0)),M 29 28,QG (some 30) (.mov (V 0)) 29 false,QG (some 31) (.len false (V 30)) 29 false,QG (some 32) (.arith .eql (V 31) (I 0)) 29 false,Q 33 (.pick (V 29) ck (V 32)),M 34 33,QG (some 35) (.mov (V 2)) 34 false,QG (some 36) (.mov (V 3)) 34 false,QG (some 37) (.arith .gtr (V 35) (V 36)) 34 false,Q 38 (.pick (V 34) ck (V 37)),M 39 38,QG (some 40) (.mov (V 3)) 39 false,QG (some 41) (.mov (V 4)) 39 false,QG (some 42) (.arith .geq (V 40) (V 41)) 39 false,Q 43 (.pick (V 39) ck (V 42))]
def HU:List aA:=[Q 44 (.call .pur 65 []),M 10 44]
@[simp]def aIp:=aC HP.eq_1<|aC vP.eq_1<|aC zJ.eq_1<|aC zK.eq_1<|aC zL.eq_1<|aC zM.eq_1<|aC HQ.eq_1<|aC HR.eq_1<|aC vQ.eq_1<|aC zN.eq_1<|aC zO.eq_1<|aC HS.eq_1<|aC zP.eq_1<|aC zQ.eq_1<|aC vR.eq_1<|aC zR.eq_1<|aC zS.eq_1<|aC HT.eq_1<|aC sI.eq_1<|aC sJ.eq_1<|aC vT.eq_1<|aC sK.eq_1<|aC mr.eq_1<|aT HU.eq_1
def HV:List aA:=[M 46 11,Q 47 (.call .std 66 [V 46]),M 45 47,EX 48 0 45,EX 49 1 45,M 13 48,M 14 49]
def vU:List aA:=[M 50 14,Q 51 (.arith .neq (V 50) (I 0)),M 52 51,QG (some 53) (.mov (V 13)) 52 false,QG (some 54) (.eqn false .p (V 53)) 52 false,Q 55 (.pick (V 52) ck (V 54))]
def zT:List aA:=[Q 10 (.mov bR)]
def vV:List aA:=[M 56 1,Q 57 (.toInt .u64 (V 56)),M 58 0,Q 59 (.len false (V 58)),Q 60 (.toInt .u64 (V 59)),Q 61 (.arith .rem (V 57) (V 60)),Q 62 (.toInt .i64 (V 61)),M 15 62]
def vW:List aA:=[M 64 13,M 65 15,M 66 2,M 67 3,Q 68 (.call .std 157 [V 64,V 65,V 66,V 67]),M 63 68,EX 69 0 63,EX 70 1 63,M 16 69,M 17 70]
def vX:List aA:=[M 72 13,M 73 15,M 74 3,Q 75 (.arith .add (V 74) (I 1)),M 76 4,Q 77 (.call .std 157 [V 72,V 73,V 75,V 76]),M 71 77,EX 78 0 71,EX 79 1 71,M 18 78,M 19 79]
def vY:List aA:=[M 81 13,M 82 15,M 83 2,M 84 4,Q 85 (.call .std 157 [V 81,V 82,V 83,V 84]),M 80 85,EX 86 0 80,EX 87 1 80,M 20 86,M 21 87]
def HW:List aA:=[M 88 17,Q 89 (.arith .eql (V 88) (I 0)),M 90 89,QG (some 91) (.mov (V 19)) 90 true,QG (some 92) (.arith .eql (V 91) (I 0)) 90 true,Q 93 (.pick (V 90) (V 92) bR),M 94 93,QG (some 95) (.mov (V 21)) 94 true,QG (some 96) (.arith .eql (V 95) (I 0)) 94 true,Q 97 (.pick (V 94) (V 96) bR),M 98 97,QG (some 99) (.bsl false (.agg [(.int .i64 0),(.int .i64 0)]) 0 []) 98 true,QG (some 100) (.mov (V 16)) 98 true,QG (some 101) (.app 2 16 (V 99) (V 100)) 98 true,QG (some 102) (.mov (V 18)) 98 true,QG (some 103) (.app 2 16 (V 101) (V 102)) 98 true,QG (some 104) (.mov (V 20)) 98 true,QG (some 105) (.call .std 177 [V 103,V 104]) 98 true,Q 106 (.pick (V 98) (V 105) bR),M 107 106,QG (some 108) (.call .pur 65 []) 107 true,Q 109 (.pick (V 107) (V 108) bR),M 10 109]
@[simp]def aIq:=aC HV.eq_1<|aC vU.eq_1<|aC zT.eq_1<|aC vV.eq_1<|aC vW.eq_1<|aC vX.eq_1<|aC vY.eq_1<|aT HW.eq_1
def zU:aX:=
 ⟨5,[.tmp 10],
 (aB (af vT) (aB (aD 22 27 sK) (aB (aB (aD 27 43 mr) (.cond (V 43) (aB (aD 44 45 HU) .ret) .skip)) (aB (aD 45 50 HV) (aB (aB (aD 50 55 vU) (.cond (V 55) (aB (af zT) .ret) .skip)) (aB (aD 56 63 vV) (aB (aD 63 71 vW) (aB (aD 71 80 vX) (aB (aD 80 88 vY) (aB (aD 88 110 HW) .ret)))))))))),false⟩
def vZ:List aA:=[Q 2 (.mov (.cst .nils)),Q 3 (.mov (I 0))]
def HX:List aA:=[M 17 0,Q 18 (.call .std 64 [V 17]),M 4 18]
def HY:List aA:=[M 19 4,Q 20 (.arith .neq (V 19) (I 0))]
def HZ:List aA:=[M 21 4,Q 2 (.mov (.cst .nils)),M 3 21]
def Ha:List aA:=[M 23 0,Q 24 (.call .std 153 [V 23]),Q 25 (.call .std 51 [V 24]),M 22 25,EX 26 0 22,EX 27 1 22,M 5 26,M 6 27]
def Hb:List aA:=[Q 28 (.mov (.cst .und)),Q 29 (.bsl false (.int .u8 0) 4 [(0,(.cst (.int .u8 71))),(1,(.cst (.int .u8 66))),(2,(.cst (.int .u8 75))),(3,(.cst (.int .u8 49)))]),Q 7 (.alloc false [.nils]),QN (.store 1 (V 7) (V 29))]
def Hc:List aA:=[Q 30 (.mkfn 261 [V 7]),Q 8 (.alloc false [.nilf]),QN (.store 1 (V 8) (V 30))]
def Hd:List aA:=[Q 31 (.mkfn 262 [V 8,V 7]),M 9 31]
def He:List aA:=[M 32 9,M 33 5,Q 34 (.call .std 134 [V 33]),Q 35 (.callv .std (V 32) [V 34])]
def Hf:List aA:=[M 36 0,Q 37 (.len false (V 36)),Q 38 (.mov (I 0))]
def zV:List aA:=[Q 39 (.arith .lss (V 38) (V 37))]
def Hg:List aA:=[Q 40 (.iaddr 2 (V 36) (V 38)),Q 41 (.load true 2 false (V 40)),Q 11 (.alloc false [.nils,.nils]),QN (.store 2 (V 11) (V 41))]
def Hh:List aA:=[FA 42 1 11,LD 43 42,Q 44 (.call .std 263 [V 43]),M 12 44]
def Hi:List aA:=[LD 45 8,M 46 12,Q 47 (.len false (V 46)),Q 48 (.callv .std (V 45) [V 47])]
def Hj:List aA:=[M 49 12,Q 50 (.len false (V 49)),Q 51 (.mov (I 0))]
def zW:List aA:=[Q 52 (.arith .lss (V 51) (V 50))]
def Hk:List aA:=[Q 53 (.iaddr 1 (V 49) (V 51)),LD 54 53,M 14 54]
def Hl:List aA:=[M 56 14,Q 57 (.call .std 264 [V 56]),M 55 57,EX 58 0 55,EX 59 1 55,M 15 58,M 16 59]
def Hm:List aA:=[M 60 9,M 61 15,Q 62 (.callv .std (V 60) [V 61])]
def Hn:List aA:=[Q 63 (.arith .add (V 51) (I 1)),M 51 63]
@[simp]def aIr:=aC vZ.eq_1<|aC HX.eq_1<|aC HY.eq_1<|aC HZ.eq_1<|aC Ha.eq_1<|aC Hb.eq_1<|aC Hc.eq_1<|aC Hd.eq_1<|aC He.eq_1<|aC Hf.eq_1<|aC zV.eq_1<|aC Hg.eq_1<|aC Hh.eq_1<|aC Hi.eq_1<|aC Hj.eq_1<|aC zW.eq_1<|aC Hk.eq_1<|aC Hl.eq_1<|aC Hm.eq_1<|aT Hn.eq_1
def zX:aS:=
 (aB (af zW) (aB (.cond (V 52) .skip (.exit 2)) (aB (.block 3 (aB (aD 53 55 Hk) (aB (.clr [(16,17),(55,60)] (af Hl)) (aD 60 63 Hm)))) (aD 63 64 Hn))))
@[simp]def aIs:=bY zX.eq_1
def Ho:List aA:=[Q 64 (.arith .add (V 38) (I 1)),M 38 64]
@[simp]def aIt:=aT Ho.eq_1
def zY:aS:=
 (aB (af zV) (aB (.cond (V 39) .skip (.exit 0)) (aB (.block 1 (aB (aD 40 42 Hg) (aB (aD 42 45 Hh) (aB (aD 45 49 Hi) (aB (af Hj) (.block 2 (.loop zX))))))) (aD 64 65 Ho))))
@[simp]def aIu:=bY zY.eq_1
def Hp:List aA:=[LD 65 7,LD 66 7,Q 67 (.call .keep 161 [V 66]),Q 68 (.app 1 1 (V 65) (V 67)),M 2 68,Q 3 (.mov (I 0))]
@[simp]def aIv:=aT Hp.eq_1
def z35:aX:=
 ⟨1,[.tmp 2,.tmp 3],
 (aB (af vZ) (aB (aB (aD 17 19 HX) (aB (aD 19 20 HY) (.cond (V 20) (aB (aD 21 22 HZ) .ret) .skip))) (aB (.clr [(6,7),(22,28)] (af Ha)) (aB (aD 28 30 Hb) (aB (aD 30 31 Hc) (aB (aD 31 32 Hd) (aB (aD 32 36 He) (aB (aB (af Hf) (.block 0 (.loop zY))) (aB (aD 65 69 Hp) .ret))))))))),false⟩
def Hq:List aA:=[M 12 0,Q 13 (.len false (V 12)),Q 14 (.arith .gtr (V 13) (I 256))]
def Hr:List aA:=[M 15 0,Q 16 (.len false (V 15)),Q 17 (.mov (I 0))]
def zZ:List aA:=[Q 18 (.arith .lss (V 17) (V 16))]
def Hs:List aA:=[Q 19 (.iaddr 2 (V 15) (V 17)),Q 20 (.load true 2 false (V 19)),Q 5 (.alloc false [.nils,.nils]),QN (.store 2 (V 5) (V 20))]
def Ht:List aA:=[M 21 3,FA 22 1 5,LD 23 22,Q 24 (.len false (V 23)),Q 25 (.arith .add (V 21) (V 24)),M 3 25]
def Hu:List aA:=[M 26 3,Q 27 (.arith .gtr (V 26) (I 65536))]
def za:List aA:=[Q 28 (.arith .add (V 17) (I 1)),M 17 28]
@[simp]def aIw:=aC Hq.eq_1<|aC Hr.eq_1<|aC zZ.eq_1<|aC Hs.eq_1<|aC Ht.eq_1<|aC Hu.eq_1<|aT za.eq_1
def zb:aS:=
 (aB (af zZ) (aB (.cond (V 18) .skip (.exit 0)) (aB (.block 1 (aB (aD 19 21 Hs) (aB (aD 21 26 Ht) (aB (aD 26 27 Hu) (.cond (V 27) (aB (.region [Q 2 (.mov (I 3))]) .ret) .skip))))) (aD 28 29 za))))
@[simp]def aIx:=bY zb.eq_1
def Hv:List aA:=[M 30 0,Q 31 (.call .std 153 [V 30]),Q 32 (.call .std 51 [V 31]),M 29 32,EX 33 0 29,EX 34 1 29,M 6 33,M 7 34]
def Hw:List aA:=[M 35 7,Q 36 (.arith .neq (V 35) (I 0))]
def Hx:List aA:=[M 37 7,M 2 37]
def Hy:List aA:=[M 38 0,Q 39 (.len false (V 38)),Q 40 (.mov (I 0))]
def zc:List aA:=[Q 41 (.arith .lss (V 40) (V 39))]
def Hz:List aA:=[Q 42 (.iaddr 2 (V 38) (V 40)),Q 43 (.load true 2 false (V 42)),Q 9 (.alloc false [.nils,.nils]),QN (.store 2 (V 9) (V 43))]
def IA:List aA:=[FA 44 1 9,LD 45 44,Q 46 (.len false (V 45)),Q 47 (.arith .eql (V 46) (I 0))]
def IB:List aA:=[FA 48 1 9,LD 49 48,Q 50 (.len false (V 49)),Q 51 (.mov (I 0))]
def IC:List aA:=[M 53 51,M 10 53]
def ID:List aA:=[FA 54 1 9,LD 55 54,M 56 10,Q 57 (.arith .sub (V 56) (I 1)),Q 58 (.mnmx true (I 0) (V 57)),M 59 10,Q 60 (.arith .add (V 59) (I 1)),Q 61 (.slc 2 (some (V 58)) (some (V 60)) (V 55)),Q 62 (.call .std 154 [V 61]),M 11 62]
def IE:List aA:=[M 63 11,Q 64 (.arith .neq (V 63) (I 0))]
def IF:List aA:=[M 65 11,M 2 65]
def IG:List aA:=[Q 66 (.arith .add (V 51) (I 1)),M 51 66]
@[simp]def aIy:=aC Hv.eq_1<|aC Hw.eq_1<|aC Hx.eq_1<|aC Hy.eq_1<|aC zc.eq_1<|aC Hz.eq_1<|aC IA.eq_1<|aC IB.eq_1<|aC IC.eq_1<|aC ID.eq_1<|aC IE.eq_1<|aC IF.eq_1<|aT IG.eq_1
def zd:aS:=
 (aB (af zW) (aB (.cond (V 52) .skip (.exit 4)) (aB (.block 5 (aB (aD 53 54 IC) (aB (aD 54 63 ID) (aB (aD 63 64 IE) (.cond (V 64) (aB (aD 65 66 IF) .ret) .skip))))) (aD 66 67 IG))))
@[simp]def aIz:=bY zd.eq_1
def IH:List aA:=[Q 67 (.arith .add (V 40) (I 1)),M 40 67]
@[simp]def aIA:=aT IH.eq_1
def zf:aS:=
 (aB (af zc) (aB (.cond (V 41) .skip (.exit 2)) (aB (.block 3 (aB (aD 42 44 Hz) (aB (aB (aD 44 47 IA) (.cond (V 47) (aB (.region [Q 2 (.mov (I 2))]) .ret) .skip)) (aB (aD 48 50 IB) (.block 4 (.loop zd)))))) (aD 67 68 IH))))
@[simp]def aIB:=bY zf.eq_1
def qB:aX:=
 ⟨1,[.tmp 2],
 (aB (.region [Q 2 (.mov (I 0))]) (aB (aB (aD 12 14 Hq) (.cond (V 14) (aB (.region [Q 2 (.mov (I 3))]) .ret) .skip)) (aB (.region [Q 3 (.mov (I 0))]) (aB (aB (af Hr) (.block 0 (.loop zb))) (aB (aB (.clr [(6,7),(29,35)] (af Hv)) (aB (aD 35 36 Hw) (.cond (V 36) (aB (aD 37 38 Hx) .ret) .skip))) (aB (aB (af Hy) (.block 2 (.loop zf))) (aB (.region [Q 2 (.mov (I 0))]) .ret))))))),false⟩
def zg:List aA:=[M 6 0,Q 7 (.len false (V 6)),M 8 1,Q 9 (.len false (V 8)),Q 10 (.arith .neq (V 7) (V 9))]
def zh:List aA:=[M 11 5,M 12 0,Q 13 (.len false (V 12)),Q 14 (.arith .lss (V 11) (V 13))]
def II:List aA:=[M 17 0,M 18 5,Q 19 (.iaddr 2 (V 17) (V 18)),FA 20 0 19,Q 21 (.load false 1 true (V 20)),M 22 1,M 23 5,Q 24 (.iaddr 2 (V 22) (V 23)),FA 25 0 24,Q 26 (.load false 1 true (V 25)),Q 27 (.call .std 26 [V 21,V 26]),Q 28 (.un .not (V 27)),M 29 28,QG (some 30) (.mov (V 0)) 29 false,QG (some 31) (.mov (V 5)) 29 false,QG (some 32) (.iaddr 2 (V 30) (V 31)) 29 false,QG (some 33) (.faddr 1 (V 32)) 29 false,QG (some 34) (.load false 1 true (V 33)) 29 false,QG (some 35) (.mov (V 1)) 29 false,QG (some 36) (.mov (V 5)) 29 false,QG (some 37) (.iaddr 2 (V 35) (V 36)) 29 false,QG (some 38) (.faddr 1 (V 37)) 29 false,QG (some 39) (.load false 1 true (V 38)) 29 false,QG (some 40) (.call .std 177 [V 34,V 39]) 29 false,QG (some 41) (.un .not (V 40)) 29 false,Q 42 (.pick (V 29) ck (V 41))]
def zi:List aA:=[M 15 5,Q 16 (.arith .add (V 15) (I 1)),M 5 16]
@[simp]def aIC:=aC zg.eq_1<|aC zh.eq_1<|aC II.eq_1<|aT zi.eq_1
def IJ:aS:=
 (aB (aB (aD 11 14 zh) (.cond (V 14) .skip (.exit 0))) (aB (.block 1 (aB (aD 17 42 II) (.cond (V 42) (aB (.region [Q 4 (.mov bR)]) .ret) .skip))) (aD 15 17 zi)))
@[simp]def aID:=bY IJ.eq_1
def sL:aX:=
 ⟨2,[.tmp 4],
 (aB (.region [Q 4 (.mov bR)]) (aB (aB (aD 6 10 zg) (.cond (V 10) (aB (.region [Q 4 (.mov bR)]) .ret) .skip)) (aB (aB (.region [Q 5 (.mov (I 0))]) (.block 0 (.loop IJ))) (aB (.region [Q 4 (.mov ck)]) .ret)))),false⟩
def zj:List aA:=[Q 0 (.mov bR)]
def zk:List aA:=[Q 10 (.call .pur 156 []),Q 11 (.call .std 155 [V 10]),M 9 11,EX 12 0 9,EX 13 1 9,M 1 12,M 2 13]
def zl:List aA:=[M 23 2,Q 24 (.arith .neq (V 23) (I 0)),M 25 24,QG (some 26) (.mov (V 4)) 25 false,QG (some 27) (.arith .neq (V 26) (I 0)) 25 false,Q 28 (.pick (V 25) ck (V 27)),M 29 28,QG (some 30) (.mov (V 3)) 29 false,QG (some 31) (.eqn false .p (V 30)) 29 false,Q 32 (.pick (V 29) ck (V 31)),M 33 32,QG (some 34) (.mov (V 6)) 33 false,QG (some 35) (.arith .neq (V 34) (I 5)) 33 false,Q 36 (.pick (V 33) ck (V 35))]
def IK:List aA:=[Q 0 (.mov bR)]
def zm:List aA:=[M 38 3,Q 39 (.call .std 157 [V 38,(I 0),(I 10),(I 10)]),M 37 39,EX 40 0 37,EX 41 1 37,M 7 40,M 8 41]
def zn:List aA:=[Q 2 (.alloc false [.nilp]),Q 3 (.alloc false [(.int .i64 0)])]
def zo:List aA:=[M 8 0,Q 9 (.build [.nils,(.int .i64 0)] [(0,1,V 8)]),Q 10 (.box false (V 9)),M 4 10]
def zp:List aA:=[M 38 4,M 39 4,M 40 0,M 41 0,Q 42 (.len false (V 41)),Q 43 (.arith .sub (V 42) (I 4)),Q 44 (.slc 1 none (some (V 43)) (V 40)),bj 45 38,FA 46 0 45,QN (.store 1 (V 46) (V 44)),bj 47 39,FA 48 1 47,QN (.store 1 (V 48) (I 4))]
def zq:List aA:=[M 59 5,Q 60 (.build [.nilp,.nils] [(0,1,V 59)]),Q 61 (.box false (V 60)),QN (.store 1 (V 2) (V 61))]
def zr:List aA:=[M 62 5,Q 63 (.call .std 136 [V 62]),Q 64 (.mov (I 0))]
def va:List aA:=[Q 65 (.arith .lss (V 64) (V 63))]
def zs:List aA:=[Q 77 (.arith .add (V 64) (I 1)),M 64 77]
def zt:List aA:=[LD 100 2,QN (.store 1 (V 2) (V 100)),QN (.store 1 (V 3) (I 0))]
def IL:List aA:=[M 9 0,Q 10 (.eqn false .p (V 9))]
def IM:List aA:=[M 11 0,bj 12 11,FA 13 1 12,LD 14 13,Q 15 (.len false (V 14)),Q 16 (.mov (I 0))]
def IO:List aA:=[Q 17 (.arith .lss (V 16) (V 15))]
def IP:List aA:=[M 18 16,M 4 18]
def IQ:List aA:=[M 20 0,M 21 4,Q 22 (.call .std 176 [V 20,V 21]),M 19 22,EX 23 0 19,EX 24 1 19,M 5 23,M 6 24]
def IR:List aA:=[M 26 0,M 27 4,Q 28 (.call .std 157 [V 26,V 27,(I 0),(I 1099511627776)]),M 25 28,EX 29 0 25,EX 30 1 25,M 7 29,M 8 30]
def IS:List aA:=[M 31 3,M 32 5,M 33 7,Q 34 (.build [.nils,.nils] [(0,1,V 32),(1,1,V 33)]),Q 35 (.bsl false (.agg [.nils,.nils]) 1 [(0,V 34)]),Q 36 (.app 2 48 (V 31) (V 35)),M 3 36]
def IT:List aA:=[Q 37 (.arith .add (V 16) (I 1)),M 16 37]
@[simp]def aIE:=aC zj.eq_1<|aC zk.eq_1<|aC zl.eq_1<|aC IK.eq_1<|aC zm.eq_1<|aC zn.eq_1<|aC zo.eq_1<|aC zp.eq_1<|aC zq.eq_1<|aC zr.eq_1<|aC va.eq_1<|aC zs.eq_1<|aC zt.eq_1<|aC IL.eq_1<|aC IM.eq_1<|aC IO.eq_1<|aC IP.eq_1<|aC IQ.eq_1<|aC IR.eq_1<|aC IS.eq_1<|aT IT.eq_1
def IU:aS:=
 (aB (af IO) (aB (.cond (V 17) .skip (.exit 0)) (aB (.block 1 (aB (aD 18 19 IP) (aB (.clr [(6,7),(19,25)] (af IQ)) (aB (.clr [(8,9),(25,31)] (af IR)) (aD 31 37 IS))))) (aD 37 38 IT))))
@[simp]def aIF:=bY IU.eq_1
def IV:List aA:=[M 38 3,M 2 38]
@[simp]def aIG:=aT IV.eq_1
def qC:aX:=
 ⟨1,[.tmp 2],
 (aB (.region [Q 2 (.mov (.cst .nils))]) (aB (aB (aD 9 10 IL) (.cond (V 10) (aB (.region [Q 2 (.mov (.cst .nils))]) .ret) .skip)) (aB (.region [Q 3 (.mov (.cst .nils))]) (aB (aB (aD 11 15 IM) (.block 0 (.loop IU))) (aB (aD 38 39 IV) .ret))))),false⟩
def IW:List aA:=[Q 8 (.mov (.cst .nils)),Q 9 (.mov (I 0))]
def IX:List aA:=[M 18 0,Q 19 (.eqn false .p (V 18)),M 17 19]
def IY:List aA:=[Q 8 (.mov (.cst .nils)),Q 9 (.mov (I 1))]
def IZ:List aA:=[M 21 1,Q 22 (.arith .lss (V 21) (I 0)),M 23 22,QG (some 24) (.mov (V 1)) 23 false,QG (some 25) (.mov (V 0)) 23 false,QG (some 26) (.nilck (V 25)) 23 false,QG (some 27) (.faddr 1 (V 26)) 23 false,QG (some 28) (.load false 1 false (V 27)) 23 false,QG (some 29) (.len false (V 28)) 23 false,QG (some 30) (.arith .geq (V 24) (V 29)) 23 false,Q 31 (.pick (V 23) ck (V 30)),M 20 31]
def Ia:List aA:=[Q 8 (.mov (.cst .nils)),Q 9 (.mov (I 9))]
def Ib:List aA:=[M 32 0,bj 33 32,FA 34 1 33,LD 35 34,M 36 1,Q 37 (.iaddr 1 (V 35) (V 36)),LD 38 37,Q 39 (.len false (V 38)),Q 40 (.mov (I 0))]
def Ic:List aA:=[Q 42 (.iaddr 4 (V 38) (V 40)),Q 43 (.load true 4 false (V 42)),Q 12 (.alloc false [.nils,(.int .i64 0),(.int .i64 0),(.int .i64 0)]),QN (.store 4 (V 12) (V 43))]
def Id:List aA:=[FA 44 3 12,LD 45 44,M 46 2,Q 47 (.arith .lss (V 45) (V 46)),M 48 47,QG (some 49) (.faddr 2 (V 12)) 48 false,QG (some 50) (.load false 1 false (V 49)) 48 false,QG (some 51) (.mov (V 3)) 48 false,QG (some 52) (.arith .gtr (V 50) (V 51)) 48 false,Q 53 (.pick (V 48) ck (V 52))]
def Ie:List aA:=[FA 55 0 12,LD 56 55,Q 57 (.call .std 265 [V 56]),M 54 57,EX 58 0 54,EX 59 1 54,M 13 58,M 14 59]
def If:List aA:=[M 60 13,Q 61 (.len false (V 60)),Q 62 (.mov (I 0))]
def Ig:List aA:=[Q 63 (.arith .lss (V 62) (V 61))]
def Ih:List aA:=[Q 64 (.iaddr 2 (V 60) (V 62)),Q 65 (.load true 2 false (V 64)),Q 16 (.alloc false [(.int .i64 0),(.int .i64 0)]),QN (.store 2 (V 16) (V 65))]
def Ii:List aA:=[FA 66 0 16,LD 67 66,M 68 2,Q 69 (.arith .geq (V 67) (V 68)),M 70 69,QG (some 71) (.faddr 0 (V 16)) 70 true,QG (some 72) (.load false 1 false (V 71)) 70 true,QG (some 73) (.mov (V 3)) 70 true,QG (some 74) (.arith .leq (V 72) (V 73)) 70 true,Q 75 (.pick (V 70) (V 74) bR)]
def Ij:List aA:=[M 76 10,Q 77 (.load true 2 false (V 16)),Q 78 (.bsl false (.agg [(.int .i64 0),(.int .i64 0)]) 1 [(0,V 77)]),Q 79 (.app 2 16 (V 76) (V 78)),M 10 79]
def Ik:List aA:=[Q 80 (.arith .add (V 62) (I 1)),M 62 80]
@[simp]def aIH:=aC IW.eq_1<|aC IX.eq_1<|aC IY.eq_1<|aC IZ.eq_1<|aC Ia.eq_1<|aC Ib.eq_1<|aC Ic.eq_1<|aC Id.eq_1<|aC Ie.eq_1<|aC If.eq_1<|aC Ig.eq_1<|aC Ih.eq_1<|aC Ii.eq_1<|aC Ij.eq_1<|aT Ik.eq_1
def zw:aS:=
 (aB (af Ig) (aB (.cond (V 63) .skip (.exit 3)) (aB (.block 4 (aB (aD 64 66 Ih) (aB (aD 66 75 Ii) (.cond (V 75) (aD 76 80 Ij) .skip)))) (aD 80 81 Ik))))
@[simp]def aII:=bY zw.eq_1
def Il:List aA:=[Q 81 (.arith .add (V 40) (I 1)),M 40 81]
@[simp]def aIJ:=aT Il.eq_1
def zx:aS:=
 (aB (af zc) (aB (.cond (V 41) .skip (.exit 1)) (aB (.block 2 (aB (aD 42 44 Ic) (aB (aB (aD 44 53 Id) (.cond (V 53) (.exit 2) .skip)) (aB (.clr [(14,15),(54,60)] (af Ie)) (aB (af If) (.block 3 (.loop zw))))))) (aD 81 82 Il))))
@[simp]def aIK:=bY zx.eq_1
def Im:List aA:=[M 82 10,M 8 82,Q 9 (.mov (I 0))]
@[simp]def aIL:=aT Im.eq_1
def z4:aX:=
 ⟨4,[.tmp 8,.tmp 9],
 (aB (af IW) (aB (.block 0 (aB (aD 18 20 IX) (.cond (V 17) (aB (af IY) .ret) (aB (aD 21 32 IZ) (.cond (V 20) (aB (af Ia) .ret) .skip))))) (aB (.region [Q 10 (.mov (.cst .nils))]) (aB (aB (aD 32 38 Ib) (.block 1 (.loop zx))) (aB (aD 82 83 Im) .ret))))),false⟩
def In:List aA:=[M 17 0,M 18 5,Q 19 (.iaddr 2 (V 17) (V 18)),Q 20 (.load true 2 true (V 19)),M 21 1,M 22 5,Q 23 (.iaddr 2 (V 21) (V 22)),Q 24 (.load true 2 true (V 23)),Q 25 (.eqs true 2 (V 20) (V 24))]
@[simp]def aIM:=aT In.eq_1
def Io:aS:=
 (aB (aB (aD 11 14 zh) (.cond (V 14) .skip (.exit 0))) (aB (.block 1 (aB (aD 17 25 In) (.cond (V 25) (aB (.region [Q 4 (.mov bR)]) .ret) .skip))) (aD 15 17 zi)))
@[simp]def aIN:=bY Io.eq_1
def z63:aX:=
 ⟨2,[.tmp 4],
 (aB (.region [Q 4 (.mov bR)]) (aB (aB (aD 6 10 zg) (.cond (V 10) (aB (.region [Q 4 (.mov bR)]) .ret) .skip)) (aB (aB (.region [Q 5 (.mov (I 0))]) (.block 0 (.loop Io))) (aB (.region [Q 4 (.mov ck)]) .ret)))),false⟩
def zy:List aA:=[Q 2 (.mov (.cst .nilp)),Q 3 (.mov (I 0))]
def Ip:List aA:=[M 11 0,Q 12 (.len false (V 11)),Q 13 (.arith .gtr (V 12) (I 256))]
def Iq:List aA:=[Q 2 (.mov (.cst .nilp)),Q 3 (.mov (I 3))]
def Ir:List aA:=[Q 14 (.mkm),Q 15 (.build [.nils,.nilm] [(1,1,V 14)]),Q 16 (.box false (V 15)),M 4 16]
def Is:List aA:=[M 17 0,Q 18 (.len false (V 17)),Q 19 (.mov (I 0))]
def Iu:List aA:=[Q 20 (.arith .lss (V 19) (V 18))]
def Iv:List aA:=[M 21 19,Q 22 (.iaddr 1 (V 17) (V 19)),LD 23 22,M 5 21,M 6 23]
def Iw:List aA:=[M 24 6,Q 25 (.call .std 40 [V 24]),M 7 25]
def Ix:List aA:=[M 26 7,Q 27 (.arith .neq (V 26) (I 0))]
def Iy:List aA:=[M 28 7,Q 2 (.mov (.cst .nilp)),M 3 28]
def Iz:List aA:=[M 29 5,Q 30 (.arith .gtr (V 29) (I 0)),M 31 30,QG (some 32) (.mov (V 0)) 31 true,QG (some 33) (.mov (V 5)) 31 true,QG (some 34) (.arith .sub (V 33) (I 1)) 31 true,QG (some 35) (.iaddr 1 (V 32) (V 34)) 31 true,QG (some 36) (.load false 1 false (V 35)) 31 true,QG (some 37) (.mov (V 6)) 31 true,QG (some 38) (.call .std 28 [V 36,V 37]) 31 true,QG (some 39) (.arith .geq (V 38) (I 0)) 31 true,Q 40 (.pick (V 31) (V 39) bR)]
def JA:List aA:=[Q 2 (.mov (.cst .nilp)),Q 3 (.mov (I 13))]
def AA:List aA:=[M 41 4,M 42 4,bj 43 42,FA 44 0 43,LD 45 44,M 46 6,Q 47 (.call .keep 130 [V 46]),Q 48 (.bsl false .nils 1 [(0,V 47)]),Q 49 (.app 1 24 (V 45) (V 48)),bj 50 41,FA 51 0 50,QN (.store 1 (V 51) (V 49))]
@[simp]def JB:=aT AA.eq_1
def AB:List aA:=[M 52 6,Q 53 (.len false (V 52)),Q 54 (.mov (I 0))]
def AC:List aA:=[Q 55 (.arith .lss (V 54) (V 53))]
def JC:List aA:=[Q 56 (.iaddr 2 (V 52) (V 54)),Q 57 (.load true 2 false (V 56)),Q 9 (.alloc false [(.str []),(.str [])]),QN (.store 2 (V 9) (V 57))]
def JD:List aA:=[FA 58 0 9,LD 59 58,FA 60 1 9,LD 61 60,Q 62 (.build [(.str []),(.str [])] [(0,1,V 59),(1,1,V 61)]),Q 10 (.alloc false [(.str []),(.str [])]),QN (.store 2 (V 10) (V 62))]
def JE:List aA:=[M 63 4,bj 64 63,FA 65 1 64,LD 66 65,Q 67 (.load true 2 false (V 10)),M 69 5,Q 70 (.bsl false (.int .i64 0) 1 [(0,V 69)]),Q 71 (.men .nils (V 66) (V 67)),EX 68 0 71,Q 72 (.app 1 8 (V 68) (V 70)),EX 73 1 71,QN (.est (V 66) (V 67) (V 72))]
def JF:List aA:=[Q 74 (.arith .add (V 54) (I 1)),M 54 74]
@[simp]def aIO:=aC zy.eq_1<|aC Ip.eq_1<|aC Iq.eq_1<|aC Ir.eq_1<|aC Is.eq_1<|aC Iu.eq_1<|aC Iv.eq_1<|aC Iw.eq_1<|aC Ix.eq_1<|aC Iy.eq_1<|aC Iz.eq_1<|aC JA.eq_1<|aC AB.eq_1<|aC AC.eq_1<|aC JC.eq_1<|aC JD.eq_1<|aC JE.eq_1<|aT JF.eq_1
def vb:aS:=
 (aB (af AC) (aB (.cond (V 55) .skip (.exit 2)) (aB (.block 3 (aB (aD 56 58 JC) (aB (aD 58 63 JD) (aD 63 74 JE)))) (aD 74 75 JF))))
@[simp]def aIP:=bY vb.eq_1
def AD:List aA:=[Q 75 (.arith .add (V 19) (I 1)),M 19 75]
@[simp]def aIQ:=aT AD.eq_1
def vc:aS:=
 (aB (af Iu) (aB (.cond (V 20) .skip (.exit 0)) (aB (.block 1 (aB (aD 21 24 Iv) (aB (aB (aD 24 26 Iw) (aB (aD 26 27 Ix) (.cond (V 27) (aB (aD 28 29 Iy) .ret) .skip))) (aB (aB (aD 29 40 Iz) (.cond (V 40) (aB (af JA) .ret) .skip)) (aB (aD 41 52 AA) (aB (af AB) (.block 2 (.loop vb)))))))) (aD 75 76 AD))))
@[simp]def aIR:=bY vc.eq_1
def JG:List aA:=[M 76 4,M 2 76,Q 3 (.mov (I 0))]
@[simp]def aIS:=aT JG.eq_1
def oM:aX:=
 ⟨1,[.tmp 2,.tmp 3],
 (aB (af zy) (aB (aB (aD 11 13 Ip) (.cond (V 13) (aB (af Iq) .ret) .skip)) (aB (aD 14 17 Ir) (aB (aB (af Is) (.block 0 (.loop vc))) (aB (aD 76 77 JG) .ret))))),false⟩
def AE:List aA:=[M 6 0,Q 7 (.len false (V 6)),Q 8 (.mov (I 0))]
def JH:List aA:=[Q 10 (.iaddr 2 (V 6) (V 8)),Q 11 (.load true 2 false (V 10)),Q 5 (.alloc false [.nils,.nils]),QN (.store 2 (V 5) (V 11))]
def JI:List aA:=[M 12 3,FA 13 0 5,LD 14 13,Q 15 (.bsl false .nils 1 [(0,V 14)]),Q 16 (.app 1 24 (V 12) (V 15)),M 3 16]
def JJ:List aA:=[Q 17 (.arith .add (V 8) (I 1)),M 8 17]
@[simp]def aIT:=aC AE.eq_1<|aC JH.eq_1<|aC JI.eq_1<|aT JJ.eq_1
def JK:aS:=
 (aB (.region [Q 9 (.arith .lss (V 8) (V 7))]) (aB (.cond (V 9) .skip (.exit 0)) (aB (.block 1 (aB (aD 10 12 JH) (aD 12 17 JI))) (aD 17 18 JJ))))
@[simp]def aIU:=bY JK.eq_1
def JL:List aA:=[M 18 3,M 2 18]
@[simp]def aIV:=aT JL.eq_1
def qD:aX:=
 ⟨1,[.tmp 2],
 (aB (.region [Q 2 (.mov (.cst .nils))]) (aB (.region [Q 3 (.mov (.cst .nils))]) (aB (aB (af AE) (.block 0 (.loop JK))) (aB (aD 18 19 JL) .ret)))),false⟩
def JM:List aA:=[M 6 0,Q 7 (.call .std 107 [(.cst .nils),V 6]),M 5 7,EX 8 0 5,EX 9 1 5,M 3 8,M 4 9]
def JN:List aA:=[LD 10 1,M 11 3,Q 12 (.app 1 1 (V 10) (V 11)),QN (.store 1 (V 1) (V 12))]
@[simp]def aIW:=aC JM.eq_1<|aT JN.eq_1
def z23:aX:=
 ⟨2,[],
 (aB (aD 4 10 JM) (aD 10 13 JN)),false⟩
def sM:List aA:=[Q 4 (.mov (.cst .nils)),Q 5 (.mov (I 0))]
def JO:List aA:=[M 7 1,Q 8 (.arith .lss (V 7) (I 0))]
def JP:List aA:=[Q 4 (.mov (.cst .nils)),Q 5 (.mov (I 2))]
def JQ:List aA:=[M 9 0,Q 10 (.call .std 218 [V 9,(I 9)]),M 6 10]
def JR:List aA:=[M 11 1,Q 12 (.arith .geq (V 11) (I 128))]
def JS:List aA:=[M 15 6,M 16 1,Q 17 (.toInt .u8 (V 16)),Q 18 (.arith .or (V 17) (.cst (.int .u8 128))),Q 19 (.bsl false (.int .u8 0) 1 [(0,V 18)]),Q 20 (.app 1 1 (V 15) (V 19)),M 6 20]
def JT:List aA:=[M 13 1,Q 14 (.arith .shr (V 13) (.cst (.int .u64 7))),M 1 14]
@[simp]def aIX:=aC sM.eq_1<|aC JO.eq_1<|aC JP.eq_1<|aC JQ.eq_1<|aC JR.eq_1<|aC JS.eq_1<|aT JT.eq_1
def AF:aS:=
 (aB (aB (aD 11 12 JR) (.cond (V 12) .skip (.exit 0))) (aB (.block 1 (aD 15 21 JS)) (aD 13 15 JT)))
@[simp]def aIY:=bY AF.eq_1
def JU:List aA:=[M 21 6,M 22 1,Q 23 (.toInt .u8 (V 22)),Q 24 (.bsl false (.int .u8 0) 1 [(0,V 23)]),Q 25 (.app 1 1 (V 21) (V 24)),M 4 25,Q 5 (.mov (I 0))]
@[simp]def aIZ:=aT JU.eq_1
def z29:aX:=
 ⟨2,[.tmp 4,.tmp 5],
 (aB (af sM) (aB (aB (aD 7 8 JO) (.cond (V 8) (aB (af JP) .ret) .skip)) (aB (aD 9 11 JQ) (aB (.block 0 (.loop AF)) (aB (aD 21 26 JU) .ret))))),true⟩
def JV:List aA:=[LD 4 1,M 5 0,Q 6 (.len false (V 5)),Q 7 (.callv .std (V 4) [V 6])]
def JW:List aA:=[LD 8 2,M 9 0,Q 10 (.app 1 1 (V 8) (V 9)),QN (.store 1 (V 2) (V 10))]
@[simp]def aI0:=aC JV.eq_1<|aT JW.eq_1
def sN:aX:=
 ⟨3,[],
 (aB (aD 4 8 JV) (aD 8 11 JW)),false⟩
def AG:List aA:=[Q 2 (.mov (.cst .nils))]
def AH:List aA:=[M 13 0,Q 14 (.eqn false .p (V 13))]
def JX:List aA:=[Q 2 (.mov (.cst .nils))]
def AI:List aA:=[M 21 3,Q 22 (.len false (V 21)),Q 23 (.call .std 107 [(.cst .nils),V 22]),M 20 23,EX 24 0 20,EX 25 1 20,M 5 24,M 6 25]
def AJ:List aA:=[M 26 3,Q 27 (.len false (V 26)),Q 28 (.mov (I 0))]
def JY:List aA:=[Q 29 (.arith .lss (V 28) (V 27))]
def JZ:List aA:=[Q 30 (.iaddr 1 (V 26) (V 28)),LD 31 30,M 8 31]
def Ja:List aA:=[M 33 5,M 34 8,Q 35 (.call .std 108 [V 33,V 34]),M 32 35,EX 36 0 32,EX 37 1 32,M 5 36]
def Jb:List aA:=[Q 38 (.arith .add (V 28) (I 1)),M 28 38]
@[simp]def aI1:=aC AG.eq_1<|aC AH.eq_1<|aC JX.eq_1<|aC AI.eq_1<|aC AJ.eq_1<|aC JY.eq_1<|aC JZ.eq_1<|aC Ja.eq_1<|aT Jb.eq_1
def AK:aS:=
 (aB (af JY) (aB (.cond (V 29) .skip (.exit 0)) (aB (.block 1 (aB (aD 30 32 JZ) (aD 32 38 Ja))) (aD 38 39 Jb))))
@[simp]def aI2:=bY AK.eq_1
def AL:List aA:=[M 40 5,M 41 0,bj 42 41,FA 43 0 42,LD 44 43,Q 45 (.len false (V 44)),Q 46 (.call .std 107 [V 40,V 45]),M 39 46,EX 47 0 39,EX 48 1 39,M 5 47]
def AM:List aA:=[M 49 0,bj 50 49,FA 51 0 50,LD 52 51,Q 53 (.len false (V 52)),Q 54 (.mov (I 0))]
def Jc:List aA:=[Q 56 (.iaddr 1 (V 52) (V 54)),LD 57 56,M 10 57]
def Jd:List aA:=[M 59 5,M 60 10,Q 61 (.len false (V 60)),Q 62 (.call .std 107 [V 59,V 61]),M 58 62,EX 63 0 58,EX 64 1 58,M 5 63]
def Je:List aA:=[M 65 10,Q 66 (.len false (V 65)),Q 67 (.mov (I 0))]
def Jf:List aA:=[Q 68 (.arith .lss (V 67) (V 66))]
def Jg:List aA:=[Q 69 (.iaddr 2 (V 65) (V 67)),Q 70 (.load true 2 false (V 69)),Q 12 (.alloc false [(.str []),(.str [])]),QN (.store 2 (V 12) (V 70))]
def Jh:List aA:=[M 72 5,M 73 4,FA 74 0 12,LD 75 74,Q 76 (.mlk true false (.int .i64 0) (V 73) (V 75)),Q 77 (.call .std 107 [V 72,V 76]),M 71 77,EX 78 0 71,EX 79 1 71,M 5 78]
def Ji:List aA:=[M 81 5,M 82 4,FA 83 1 12,LD 84 83,Q 85 (.mlk true false (.int .i64 0) (V 82) (V 84)),Q 86 (.call .std 107 [V 81,V 85]),M 80 86,EX 87 0 80,EX 88 1 80,M 5 87]
def Jj:List aA:=[Q 89 (.arith .add (V 67) (I 1)),M 67 89]
@[simp]def aI3:=aC AL.eq_1<|aC AM.eq_1<|aC Jc.eq_1<|aC Jd.eq_1<|aC Je.eq_1<|aC Jf.eq_1<|aC Jg.eq_1<|aC Jh.eq_1<|aC Ji.eq_1<|aT Jj.eq_1
def AN:aS:=
 (aB (af Jf) (aB (.cond (V 68) .skip (.exit 4)) (aB (.block 5 (aB (aD 69 71 Jg) (aB (aD 71 80 Jh) (aD 80 89 Ji)))) (aD 89 90 Jj))))
@[simp]def aI4:=bY AN.eq_1
def Jk:List aA:=[Q 90 (.arith .add (V 54) (I 1)),M 54 90]
@[simp]def aI5:=aT Jk.eq_1
def AO:aS:=
 (aB (af AC) (aB (.cond (V 55) .skip (.exit 2)) (aB (.block 3 (aB (aD 56 58 Jc) (aB (aD 58 65 Jd) (aB (af Je) (.block 4 (.loop AN)))))) (aD 90 91 Jk))))
@[simp]def aI6:=bY AO.eq_1
def AP:List aA:=[M 91 5,M 2 91]
def Jl:List aA:=[M 5 0,Q 6 (.len false (V 5)),Q 7 (.arith .gtr (V 6) (I 0))]
def Jm:List aA:=[M 8 0,Q 9 (.len false (V 8)),Q 10 (.mnmx false (V 9) (I 120)),M 4 10]
def Jn:List aA:=[M 11 3,M 12 0,M 13 4,Q 14 (.slc 2 none (some (V 13)) (V 12)),Q 15 (.app 2 16 (.cst .nils) (V 14)),Q 16 (.bsl false .nils 1 [(0,V 15)]),Q 17 (.app 1 24 (V 11) (V 16)),M 3 17]
def Jo:List aA:=[M 18 0,M 19 4,Q 20 (.slc 2 (some (V 19)) none (V 18)),M 0 20]
@[simp]def aI7:=aC AP.eq_1<|aC Jl.eq_1<|aC Jm.eq_1<|aC Jn.eq_1<|aT Jo.eq_1
def AQ:aS:=
 (aB (aB (aD 5 7 Jl) (.cond (V 7) .skip (.exit 0))) (.block 1 (aB (aD 8 11 Jm) (aB (aD 11 18 Jn) (aD 18 21 Jo)))))
@[simp]def aI8:=bY AQ.eq_1
def Jp:List aA:=[M 21 3,M 2 21]
@[simp]def aI9:=aT Jp.eq_1
def mt:aX:=
 ⟨1,[.tmp 2],
 (aB (.region [Q 2 (.mov (.cst .nils))]) (aB (.region [Q 3 (.mov (.cst .nils))]) (aB (.block 0 (.loop AQ)) (aB (aD 21 22 Jp) .ret)))),false⟩
def Jq:List aA:=[M 10 0,Q 11 (.call .std 154 [V 10]),M 4 11]
def AR:List aA:=[M 12 4,Q 13 (.arith .neq (V 12) (I 0))]
def AS:List aA:=[M 14 4,Q 2 (.mov (.cst .nils)),M 3 14]
def Jr:List aA:=[Q 15 (.build [.nils,(.int .i64 0)] []),Q 16 (.box false (V 15)),M 5 16]
def Js:List aA:=[M 17 5,Q 18 (.mkbfn 333 [V 17]),M 19 5,Q 20 (.mkbfn 334 [V 19]),M 6 18,M 7 20]
def Jt:List aA:=[M 21 6,M 22 0,Q 23 (.len false (V 22)),Q 24 (.toInt .u64 (V 23)),Q 25 (.callv .std (V 21) [V 24])]
def Ju:List aA:=[M 26 6,M 27 0,Q 28 (.iaddr 2 (V 27) (I 0)),FA 29 0 28,LD 30 29,Q 31 (.toInt .u64 (V 30)),Q 32 (.callv .std (V 26) [V 31])]
def Jv:List aA:=[M 33 7,M 34 0,Q 35 (.iaddr 2 (V 34) (I 0)),FA 36 1 35,LD 37 36,Q 38 (.callv .std (V 33) [V 37])]
def Jw:List aA:=[M 39 8,M 40 0,Q 41 (.len false (V 40)),Q 42 (.arith .lss (V 39) (V 41))]
def Jx:List aA:=[M 45 0,M 46 8,Q 47 (.iaddr 2 (V 45) (V 46)),FA 48 0 47,Q 49 (.load false 1 true (V 48)),M 50 0,M 51 8,Q 52 (.arith .sub (V 51) (I 1)),Q 53 (.iaddr 2 (V 50) (V 52)),FA 54 0 53,Q 55 (.load false 1 true (V 54)),Q 56 (.arith .sub (V 49) (V 55)),M 9 56]
def Jy:List aA:=[M 57 8,Q 58 (.arith .eql (V 57) (I 1))]
def Jz:List aA:=[M 59 6,M 60 9,Q 61 (.toInt .u64 (V 60)),Q 62 (.callv .std (V 59) [V 61])]
def KA:List aA:=[M 63 7,M 64 9,M 65 0,M 66 8,Q 67 (.arith .sub (V 66) (I 1)),Q 68 (.iaddr 2 (V 65) (V 67)),FA 69 0 68,Q 70 (.load false 1 true (V 69)),M 71 0,M 72 8,Q 73 (.arith .sub (V 72) (I 2)),Q 74 (.iaddr 2 (V 71) (V 73)),FA 75 0 74,Q 76 (.load false 1 true (V 75)),Q 77 (.arith .sub (V 70) (V 76)),Q 78 (.arith .sub (V 64) (V 77)),Q 79 (.callv .std (V 63) [V 78])]
def KB:List aA:=[M 80 7,M 81 0,M 82 8,Q 83 (.iaddr 2 (V 81) (V 82)),FA 84 1 83,Q 85 (.load false 1 true (V 84)),M 86 0,M 87 8,Q 88 (.arith .sub (V 87) (I 1)),Q 89 (.iaddr 2 (V 86) (V 88)),FA 90 1 89,Q 91 (.load false 1 true (V 90)),Q 92 (.arith .sub (V 85) (V 91)),Q 93 (.callv .std (V 80) [V 92])]
def KC:List aA:=[M 43 8,Q 44 (.arith .add (V 43) (I 1)),M 8 44]
@[simp]def aJa:=aC Jq.eq_1<|aC AR.eq_1<|aC AS.eq_1<|aC Jr.eq_1<|aC Js.eq_1<|aC Jt.eq_1<|aC Ju.eq_1<|aC Jv.eq_1<|aC Jw.eq_1<|aC Jx.eq_1<|aC Jy.eq_1<|aC Jz.eq_1<|aC KA.eq_1<|aC KB.eq_1<|aT KC.eq_1
def ve:aS:=
 (aB (aB (aD 39 42 Jw) (.cond (V 42) .skip (.exit 0))) (aB (.block 1 (aB (aD 45 57 Jx) (aB (aB (aD 57 58 Jy) (.cond (V 58) (aD 59 63 Jz) (aD 63 80 KA))) (aD 80 94 KB)))) (aD 43 45 KC)))
@[simp]def aJb:=bY ve.eq_1
def KD:List aA:=[M 94 5,bj 95 94,FA 96 0 95,FA 97 0 96,LD 98 97,M 2 98,Q 3 (.mov (I 0))]
@[simp]def aJc:=aT KD.eq_1
def z32:aX:=
 ⟨1,[.tmp 2,.tmp 3],
 (aB (af vZ) (aB (aB (aD 10 12 Jq) (aB (aD 12 13 AR) (.cond (V 13) (aB (aD 14 15 AS) .ret) .skip))) (aB (aD 15 17 Jr) (aB (aD 17 21 Js) (aB (aD 21 26 Jt) (aB (aD 26 33 Ju) (aB (aD 33 39 Jv) (aB (aB (.region [Q 8 (.mov (I 1))]) (.block 0 (.loop ve))) (aB (aD 94 99 KD) .ret))))))))),false⟩
def KE:List aA:=[M 4 0,Q 5 (.call .std 270 [V 4]),M 3 5]
def KF:List aA:=[M 6 3,Q 7 (.toInt .u8 (V 6)),M 8 3,Q 9 (.arith .shr (V 8) (.cst (.int .u64 8))),Q 10 (.toInt .u8 (V 9)),M 11 3,Q 12 (.arith .shr (V 11) (.cst (.int .u64 16))),Q 13 (.toInt .u8 (V 12)),M 14 3,Q 15 (.arith .shr (V 14) (.cst (.int .u64 24))),Q 16 (.toInt .u8 (V 15)),Q 17 (.bsl false (.int .u8 0) 4 [(0,V 7),(1,V 10),(2,V 13),(3,V 16)]),M 2 17]
@[simp]def aJd:=aC KE.eq_1<|aT KF.eq_1
def sO:aX:=
 ⟨1,[.tmp 2],
 (aB (.region [Q 2 (.mov (.cst .nils))]) (aB (aD 4 6 KE) (aB (aD 6 18 KF) .ret))),false⟩
def KG:List aA:=[M 11 0,Q 12 (.call .std 174 [V 11]),Q 13 (.call .std 135 [V 12]),M 3 13]
def KH:List aA:=[Q 14 (.mov (.cst .und)),Q 15 (.bsl false (.int .u8 0) 4 [(0,(.cst (.int .u8 71))),(1,(.cst (.int .u8 66))),(2,(.cst (.int .u8 75))),(3,(.cst (.int .u8 49)))]),M 16 3,Q 17 (.len false (V 16)),Q 18 (.call .std 219 [V 17]),Q 19 (.app 1 1 (V 15) (V 18)),M 4 19]
def KI:List aA:=[M 20 4,M 21 3,Q 22 (.app 1 1 (V 20) (V 21)),M 4 22]
def KJ:List aA:=[M 23 5,M 24 0,Q 25 (.len false (V 24)),Q 26 (.arith .lss (V 23) (V 25))]
def KK:List aA:=[M 29 0,M 30 5,Q 31 (.iaddr 2 (V 29) (V 30)),FA 32 1 31,LD 33 32,M 6 33]
def KL:List aA:=[M 34 4,M 35 6,Q 36 (.len false (V 35)),Q 37 (.arith .add (V 36) (I 120)),Q 38 (.arith .sub (V 37) (I 1)),Q 39 (.arith .quo (V 38) (I 120)),Q 40 (.call .std 219 [V 39]),Q 41 (.app 1 1 (V 34) (V 40)),M 4 41]
def KM:List aA:=[M 42 6,Q 43 (.len false (V 42)),Q 44 (.arith .gtr (V 43) (I 0))]
def KN:List aA:=[M 45 6,Q 46 (.len false (V 45)),Q 47 (.mnmx false (I 120) (V 46)),M 7 47]
def KO:List aA:=[M 49 6,M 50 7,Q 51 (.slc 2 none (some (V 50)) (V 49)),Q 52 (.call .std 258 [V 51]),M 48 52,EX 53 0 48,EX 54 1 48,M 8 53,M 9 54]
def KP:List aA:=[M 55 4,M 56 8,Q 57 (.len false (V 56)),Q 58 (.call .std 219 [V 57]),Q 59 (.app 1 1 (V 55) (V 58)),M 60 8,Q 61 (.app 1 1 (V 59) (V 60)),M 4 61]
def KQ:List aA:=[M 62 6,M 63 7,Q 64 (.slc 2 (some (V 63)) none (V 62)),M 6 64]
@[simp]def aJe:=aC KG.eq_1<|aC KH.eq_1<|aC KI.eq_1<|aC KJ.eq_1<|aC KK.eq_1<|aC KL.eq_1<|aC KM.eq_1<|aC KN.eq_1<|aC KO.eq_1<|aC KP.eq_1<|aT KQ.eq_1
def KR:aS:=
 (aB (aB (aD 42 44 KM) (.cond (V 44) .skip (.exit 2))) (.block 3 (aB (aD 45 48 KN) (aB (.clr [(9,10),(48,55)] (af KO)) (aB (aD 55 62 KP) (aD 62 65 KQ))))))
@[simp]def aJf:=bY KR.eq_1
def KS:List aA:=[M 27 5,Q 28 (.arith .add (V 27) (I 1)),M 5 28]
@[simp]def aJg:=aT KS.eq_1
def KT:aS:=
 (aB (aB (aD 23 26 KJ) (.cond (V 26) .skip (.exit 0))) (aB (.block 1 (aB (aD 29 34 KK) (aB (aD 34 42 KL) (.block 2 (.loop KR))))) (aD 27 29 KS)))
@[simp]def aJh:=bY KT.eq_1
def KU:List aA:=[M 65 4,Q 66 (.call .std 259 [V 65]),M 10 66]
def KV:List aA:=[M 67 4,M 68 10,Q 69 (.toInt .u8 (V 68)),M 70 10,Q 71 (.arith .shr (V 70) (.cst (.int .u64 8))),Q 72 (.toInt .u8 (V 71)),M 73 10,Q 74 (.arith .shr (V 73) (.cst (.int .u64 16))),Q 75 (.toInt .u8 (V 74)),M 76 10,Q 77 (.arith .shr (V 76) (.cst (.int .u64 24))),Q 78 (.toInt .u8 (V 77)),Q 79 (.bsl false (.int .u8 0) 4 [(0,V 69),(1,V 72),(2,V 75),(3,V 78)]),Q 80 (.app 1 1 (V 67) (V 79)),M 2 80]
@[simp]def aJi:=aC KU.eq_1<|aT KV.eq_1
def AU:aX:=
 ⟨1,[.tmp 2],
 (aB (.region [Q 2 (.mov (.cst .nils))]) (aB (aD 11 14 KG) (aB (aD 14 20 KH) (aB (aD 20 23 KI) (aB (aB (.region [Q 5 (.mov (I 0))]) (.block 0 (.loop KT))) (aB (aD 65 67 KU) (aB (aD 67 81 KV) .ret))))))),false⟩
def KW:List aA:=[M 5 0,Q 6 (.len false (V 5)),Q 7 (.arith .eql (V 6) (I 0)),M 8 7,QG (some 9) (.mov (V 0)) 8 false,QG (some 10) (.len false (V 9)) 8 false,QG (some 11) (.arith .gtr (V 10) (I 120)) 8 false,Q 12 (.pick (V 8) ck (V 11))]
def KX:List aA:=[M 13 0,Q 14 (.len false (V 13)),Q 15 (.mov (I 0))]
def AV:List aA:=[Q 16 (.arith .lss (V 15) (V 14))]
def KY:List aA:=[M 17 15,Q 18 (.iaddr 2 (V 13) (V 15)),Q 19 (.load true 2 false (V 18)),Q 4 (.alloc false [(.int .i64 0),(.int .i64 0)]),M 3 17,QN (.store 2 (V 4) (V 19))]
def KZ:List aA:=[Q 21 (.load true 2 false (V 4)),Q 22 (.call .std 260 [V 21]),Q 23 (.un .not (V 22)),M 20 23]
def Ka:List aA:=[M 25 3,Q 26 (.arith .gtr (V 25) (I 0)),M 27 26,QG (some 28) (.faddr 0 (V 4)) 27 true,QG (some 29) (.load false 1 false (V 28)) 27 true,QG (some 30) (.mov (V 0)) 27 true,QG (some 31) (.mov (V 3)) 27 true,QG (some 32) (.arith .sub (V 31) (I 1)) 27 true,QG (some 33) (.iaddr 2 (V 30) (V 32)) 27 true,QG (some 34) (.faddr 0 (V 33)) 27 true,QG (some 35) (.load false 1 true (V 34)) 27 true,QG (some 36) (.arith .leq (V 29) (V 35)) 27 true,Q 37 (.pick (V 27) (V 36) bR),M 24 37]
def Kb:List aA:=[Q 38 (.arith .add (V 15) (I 1)),M 15 38]
@[simp]def aJj:=aC KW.eq_1<|aC KX.eq_1<|aC AV.eq_1<|aC KY.eq_1<|aC KZ.eq_1<|aC Ka.eq_1<|aT Kb.eq_1
def vf:aS:=
 (aB (af AV) (aB (.cond (V 16) .skip (.exit 0)) (aB (.block 1 (aB (aD 17 20 KY) (.block 2 (aB (aD 21 24 KZ) (.cond (V 20) (aB (.region [Q 2 (.mov (I 11))]) .ret) (aB (aD 25 38 Ka) (.cond (V 24) (aB (.region [Q 2 (.mov (I 13))]) .ret) .skip))))))) (aD 38 39 Kb))))
@[simp]def aJk:=bY vf.eq_1
def sP:aX:=
 ⟨1,[.tmp 2],
 (aB (.region [Q 2 (.mov (I 0))]) (aB (aB (aD 5 12 KW) (.cond (V 12) (aB (.region [Q 2 (.mov (I 2))]) .ret) .skip)) (aB (aB (af KX) (.block 0 (.loop vf))) (aB (.region [Q 2 (.mov (I 0))]) .ret)))),false⟩
def Kc:List aA:=[M 5 4,M 6 0,Q 7 (.len false (V 6)),Q 8 (.arith .lss (V 5) (V 7))]
def Kd:List aA:=[M 11 3,M 12 0,M 13 4,Q 14 (.iaddr 2 (V 12) (V 13)),FA 15 0 14,LD 16 15,Q 17 (.bsl false .nils 1 [(0,V 16)]),Q 18 (.app 1 24 (V 11) (V 17)),M 3 18]
def Ke:List aA:=[M 9 4,Q 10 (.arith .add (V 9) (I 1)),M 4 10]
@[simp]def aJl:=aC Kc.eq_1<|aC Kd.eq_1<|aT Ke.eq_1
def Kf:aS:=
 (aB (aB (aD 5 8 Kc) (.cond (V 8) .skip (.exit 0))) (aB (.block 1 (aD 11 19 Kd)) (aD 9 11 Ke)))
@[simp]def aJm:=bY Kf.eq_1
def Kg:List aA:=[M 19 3,M 2 19]
@[simp]def aJn:=aT Kg.eq_1
def AW:aX:=
 ⟨1,[.tmp 2],
 (aB (.region [Q 2 (.mov (.cst .nils))]) (aB (.region [Q 3 (.mov (.cst .nils))]) (aB (aB (.region [Q 4 (.mov (I 0))]) (.block 0 (.loop Kf))) (aB (aD 19 20 Kg) .ret)))),false⟩
def Kh:List aA:=[M 4 3,M 5 0,Q 6 (.len false (V 5)),Q 7 (.arith .lss (V 4) (V 6))]
def Ki:List aA:=[M 10 0,M 11 3,Q 12 (.iaddr 2 (V 10) (V 11)),Q 13 (.load true 2 false (V 12)),Q 14 (.call .std 329 [V 13]),Q 15 (.un .not (V 14))]
def Kj:List aA:=[M 16 3,Q 17 (.arith .gtr (V 16) (I 0)),M 18 17,QG (some 19) (.mov (V 0)) 18 true,QG (some 20) (.mov (V 3)) 18 true,QG (some 21) (.iaddr 2 (V 19) (V 20)) 18 true,QG (some 22) (.faddr 0 (V 21)) 18 true,QG (some 23) (.load false 1 true (V 22)) 18 true,QG (some 24) (.mov (V 0)) 18 true,QG (some 25) (.mov (V 3)) 18 true,QG (some 26) (.arith .sub (V 25) (I 1)) 18 true,QG (some 27) (.iaddr 2 (V 24) (V 26)) 18 true,QG (some 28) (.faddr 0 (V 27)) 18 true,QG (some 29) (.load false 1 true (V 28)) 18 true,QG (some 30) (.arith .leq (V 23) (V 29)) 18 true,Q 31 (.pick (V 18) (V 30) bR)]
def Kk:List aA:=[M 8 3,Q 9 (.arith .add (V 8) (I 1)),M 3 9]
@[simp]def aJo:=aC Kh.eq_1<|aC Ki.eq_1<|aC Kj.eq_1<|aT Kk.eq_1
def Kl:aS:=
 (aB (aB (aD 4 7 Kh) (.cond (V 7) .skip (.exit 0))) (aB (.block 1 (aB (aB (aD 10 15 Ki) (.cond (V 15) (aB (.region [Q 2 (.mov (I 11))]) .ret) .skip)) (aB (aD 16 31 Kj) (.cond (V 31) (aB (.region [Q 2 (.mov (I 13))]) .ret) .skip)))) (aD 8 10 Kk)))
@[simp]def aJp:=bY Kl.eq_1
def AX:aX:=
 ⟨1,[.tmp 2],
 (aB (.region [Q 2 (.mov (I 0))]) (aB (aB (.region [Q 3 (.mov (I 0))]) (.block 0 (.loop Kl))) (aB (.region [Q 2 (.mov (I 0))]) .ret))),false⟩
def Km:List aA:=[M 5 0,M 6 1,Q 7 (.call .std 102 [V 5,V 6]),Q 8 (.arith .eql (V 7) (I 0)),M 4 8]
@[simp]def aJq:=aT Km.eq_1
def sQ:aX:=
 ⟨2,[.tmp 4],
 (aB (.region [Q 4 (.mov bR)]) (aB (aD 5 9 Km) .ret)),false⟩
def Kn:List aA:=[Q 1 (.build [(.str []),(.str [])] [(0,1,(.cst (.str [97]))),(1,1,(.cst (.str [120])))]),Q 2 (.bsl false (.agg [(.str []),(.str [])]) 1 [(0,V 1)]),Q 3 (.build [(.int .i64 0),(.int .i64 0)] [(0,1,(I 10)),(1,1,(I 5))]),Q 4 (.bsl false (.agg [(.int .i64 0),(.int .i64 0)]) 1 [(0,V 3)]),Q 5 (.build [.nils,.nils] [(0,1,V 2),(1,1,V 4)]),Q 6 (.bsl false (.agg [.nils,.nils]) 1 [(0,V 5)]),M 0 6]
@[simp]def aJr:=aT Kn.eq_1
def AY:aX:=
 ⟨0,[.tmp 0],
 (aB (.region [Q 0 (.mov (.cst .nils))]) (aB (aD 1 7 Kn) .ret)),false⟩
def vg:List aA:=[M 4 1,Q 5 (.un .not (V 4))]
def Ko:List aA:=[M 12 0,Q 13 (.build [.nils,(.int .i64 0),(.bool false)] [(0,1,V 12)]),Q 14 (.box false (V 13)),M 4 14]
def Kp:List aA:=[M 15 4,Q 16 (.call .std 232 [V 15,(I 4096)]),Q 17 (.mov (I 0))]
def Kq:List aA:=[M 19 5,M 20 4,Q 21 (.call .std 233 [V 20]),Q 22 (.bsl false (.str []) 1 [(0,V 21)]),Q 23 (.app 1 16 (V 19) (V 22)),M 5 23]
def Kr:List aA:=[M 24 4,bj 25 24,FA 26 2 25,LD 27 26]
def AZ:List aA:=[Q 2 (.mov (.cst .nilp)),Q 3 (.mov (I 5))]
@[simp]def aJs:=aC vg.eq_1<|aC Ko.eq_1<|aC Kp.eq_1<|aC Kq.eq_1<|aC Kr.eq_1<|aT AZ.eq_1
def Aa:aS:=
 (aB (af zZ) (aB (.cond (V 18) .skip (.exit 0)) (aB (.block 1 (aB (aD 19 24 Kq) (aB (aD 24 27 Kr) (.cond (V 27) (aB (af AZ) .ret) .skip)))) (aD 28 29 za))))
@[simp]def aJt:=bY Aa.eq_1
def Ks:List aA:=[M 29 4,Q 30 (.call .std 232 [V 29,(I 256)]),Q 31 (.mov (I 0))]
def Ku:List aA:=[Q 32 (.arith .lss (V 31) (V 30))]
def Kv:List aA:=[M 33 4,Q 34 (.call .std 232 [V 33,(I 8)]),Q 35 (.mov (I 0))]
def Kw:List aA:=[Q 36 (.arith .lss (V 35) (V 34))]
def Kx:List aA:=[M 37 4,M 38 5,Q 39 (.len false (V 38)),Q 40 (.arith .sub (V 39) (I 1)),Q 41 (.call .std 232 [V 37,V 40]),M 42 4,M 43 5,Q 44 (.len false (V 43)),Q 45 (.arith .sub (V 44) (I 1)),Q 46 (.call .std 232 [V 42,V 45]),M 8 41,M 9 46]
def Ky:List aA:=[M 47 4,bj 48 47,FA 49 2 48,LD 50 49]
def Kz:List aA:=[M 51 7,M 52 5,M 53 8,Q 54 (.iaddr 1 (V 52) (V 53)),Q 55 (.load false 1 true (V 54)),M 56 5,M 57 9,Q 58 (.iaddr 1 (V 56) (V 57)),Q 59 (.load false 1 true (V 58)),Q 60 (.build [(.str []),(.str [])] [(0,1,V 55),(1,1,V 59)]),Q 61 (.bsl false (.agg [(.str []),(.str [])]) 1 [(0,V 60)]),Q 62 (.app 2 32 (V 51) (V 61)),M 7 62]
def LA:List aA:=[Q 63 (.arith .add (V 35) (I 1)),M 35 63]
@[simp]def aJu:=aC Ks.eq_1<|aC Ku.eq_1<|aC Kv.eq_1<|aC Kw.eq_1<|aC Kx.eq_1<|aC Ky.eq_1<|aC Kz.eq_1<|aT LA.eq_1
def Ab:aS:=
 (aB (af Kw) (aB (.cond (V 36) .skip (.exit 4)) (aB (.block 5 (aB (aD 37 47 Kx) (aB (aB (aD 47 50 Ky) (.cond (V 50) (aB (af AZ) .ret) .skip)) (aD 51 63 Kz)))) (aD 63 64 LA))))
@[simp]def aJv:=bY Ab.eq_1
def LB:List aA:=[M 64 6,M 65 7,Q 66 (.bsl false .nils 1 [(0,V 65)]),Q 67 (.app 1 24 (V 64) (V 66)),M 6 67]
def LC:List aA:=[Q 68 (.arith .add (V 31) (I 1)),M 31 68]
@[simp]def aJw:=aC LB.eq_1<|aT LC.eq_1
def vh:aS:=
 (aB (af Ku) (aB (.cond (V 32) .skip (.exit 2)) (aB (.block 3 (aB (.region [Q 7 (.mov (.cst .nils))]) (aB (aB (aD 33 34 Kv) (.block 4 (.loop Ab))) (aD 64 68 LB)))) (aD 68 69 LC))))
@[simp]def aJx:=bY vh.eq_1
def Ac:List aA:=[M 70 6,Q 71 (.call .std 51 [V 70]),M 69 71,EX 72 0 69,EX 73 1 69,M 10 72,M 11 73]
def Ad:List aA:=[M 74 4,bj 75 74,FA 76 2 75,LD 77 76,M 78 77,QG (some 79) (.mov (V 11)) 78 false,QG (some 80) (.arith .neq (V 79) (I 0)) 78 false,Q 81 (.pick (V 78) ck (V 80)),M 82 81,QG (some 83) (.mov (V 10)) 82 false,QG (some 84) (.call .std 134 [V 83]) 82 false,QG (some 85) (.toStr (V 84)) 82 false,QG (some 86) (.mov (V 0)) 82 false,QG (some 87) (.toStr (V 86)) 82 false,QG (some 88) (.arith .neq (V 85) (V 87)) 82 false,Q 89 (.pick (V 82) ck (V 88))]
def Ae:List aA:=[Q 2 (.mov (.cst .nilp)),Q 3 (.mov (I 5))]
def Af:List aA:=[M 90 10,M 2 90,Q 3 (.mov (I 0))]
@[simp]def aJy:=aC Ac.eq_1<|aC Ad.eq_1<|aC Ae.eq_1<|aT Af.eq_1
def oN:aX:=
 ⟨1,[.tmp 2,.tmp 3],
 (aB (af zy) (aB (aD 12 15 Ko) (aB (.region [Q 5 (.mov (.cst .nils))]) (aB (aB (aD 15 16 Kp) (.block 0 (.loop Aa))) (aB (.region [Q 6 (.mov (.cst .nils))]) (aB (aB (aD 29 30 Ks) (.block 2 (.loop vh))) (aB (aD 69 74 Ac) (aB (aB (aD 74 89 Ad) (.cond (V 89) (aB (af Ae) .ret) .skip)) (aB (aD 90 91 Af) .ret))))))))),false⟩
def Ag:List aA:=[Q 2 (.mov (.cst .nils))]
def Ah:List aA:=[M 20 0,bj 21 20,FA 22 1 21,LD 23 22,M 24 3,Q 25 (.arith .add (V 23) (V 24)),bj 26 20,FA 27 1 26,QN (.store 1 (V 27) (V 25))]
def Ai:List aA:=[M 28 0,bj 29 28,FA 30 0 29,LD 31 30,M 32 0,bj 33 32,FA 34 1 33,LD 35 34,M 36 3,Q 37 (.arith .sub (V 35) (V 36)),M 38 0,bj 39 38,FA 40 1 39,LD 41 40,Q 42 (.slc 1 (some (V 37)) (some (V 41)) (V 31)),M 2 42]
def LE:List aA:=[M 3 0,Q 4 (.eqn false .p (V 3))]
def LF:List aA:=[M 5 0,bj 6 5,FA 7 0 6,LD 8 7,Q 9 (.len false (V 8)),M 2 9]
@[simp]def aJz:=aC Ag.eq_1<|aC Ah.eq_1<|aC Ai.eq_1<|aC LE.eq_1<|aT LF.eq_1
def sR:aX:=
 ⟨1,[.tmp 2],
 (aB (.region [Q 2 (.mov (I 0))]) (aB (aB (aD 3 4 LE) (.cond (V 4) (aB (.region [Q 2 (.mov (I 0))]) .ret) .skip)) (aB (aD 5 10 LF) .ret))),false⟩
def Aj:List aA:=[Q 2 (.mov (.cst .nils))]
def Ak:List aA:=[Q 4 (.mov (.cst .nils))]
def Al:List aA:=[Q 5 (.mov (I (-1)))]
def Am:List aA:=[M 19 3,Q 20 (.mov (I 0))]
def vi:List aA:=[Q 21 (.arith .lss (V 20) (V 19))]
def Ao:List aA:=[M 22 20,M 6 22]
def Ap:List aA:=[Q 8 (.mov (I 0))]
def Aq:List aA:=[FA 28 0 7,LD 29 28,Q 30 (.call .std 272 [V 29]),M 27 30,EX 31 0 27,EX 32 1 27,EX 33 2 27,EX 34 3 27,FA 35 1 7,QN (.store 1 (V 35) (V 31)),FA 36 2 7,QN (.store 1 (V 36) (V 32)),FA 37 3 7,QN (.store 1 (V 37) (V 33)),M 8 34]
def vj:List aA:=[FA 59 3 7,LD 60 59,M 5 60]
def vk:List aA:=[M 61 4,Q 62 (.load true 4 false (V 7)),Q 63 (.bsl false (.agg [.nils,(.int .i64 0),(.int .i64 0),(.int .i64 0)]) 1 [(0,V 62)]),Q 64 (.app 4 48 (V 61) (V 63)),M 4 64]
def sS:List aA:=[Q 65 (.arith .add (V 20) (I 1)),M 20 65]
def Ar:List aA:=[M 66 4,M 2 66]
def LG:List aA:=[M 8 0,Q 9 (.eqn true .p (V 8))]
def LH:List aA:=[M 10 0,bj 11 10,FA 12 1 11,LD 13 12,Q 14 (.len false (V 13)),Q 15 (.mov (I 0))]
def LI:List aA:=[Q 17 (.iaddr 1 (V 13) (V 15)),LD 18 17,M 5 18]
def LJ:List aA:=[M 19 5,Q 20 (.len false (V 19)),Q 21 (.mov (I 0))]
def LK:List aA:=[Q 22 (.arith .lss (V 21) (V 20))]
def LL:List aA:=[Q 23 (.iaddr 4 (V 19) (V 21)),Q 24 (.load true 4 false (V 23)),Q 7 (.alloc false [.nils,(.int .i64 0),(.int .i64 0),(.int .i64 0)]),QN (.store 4 (V 7) (V 24))]
def LM:List aA:=[M 25 3,FA 26 1 7,LD 27 26,Q 28 (.arith .add (V 25) (V 27)),M 3 28]
def LN:List aA:=[Q 29 (.arith .add (V 21) (I 1)),M 21 29]
@[simp]def aJA:=aC Aj.eq_1<|aC Ak.eq_1<|aC Al.eq_1<|aC Am.eq_1<|aC vi.eq_1<|aC Ao.eq_1<|aC Ap.eq_1<|aC Aq.eq_1<|aC vj.eq_1<|aC vk.eq_1<|aC sS.eq_1<|aC Ar.eq_1<|aC LG.eq_1<|aC LH.eq_1<|aC LI.eq_1<|aC LJ.eq_1<|aC LK.eq_1<|aC LL.eq_1<|aC LM.eq_1<|aT LN.eq_1
def At:aS:=
 (aB (af LK) (aB (.cond (V 22) .skip (.exit 2)) (aB (.block 3 (aB (aD 23 25 LL) (aD 25 29 LM))) (aD 29 30 LN))))
@[simp]def aJB:=bY At.eq_1
def LO:List aA:=[Q 30 (.arith .add (V 15) (I 1)),M 15 30]
@[simp]def aJC:=aT LO.eq_1
def Au:aS:=
 (aB (af AV) (aB (.cond (V 16) .skip (.exit 0)) (aB (.block 1 (aB (aD 17 19 LI) (aB (af LJ) (.block 2 (.loop At))))) (aD 30 31 LO))))
@[simp]def aJD:=bY Au.eq_1
def Av:List aA:=[M 31 3,M 2 31]
@[simp]def aJE:=aT Av.eq_1
def z9:aX:=
 ⟨1,[.tmp 2],
 (aB (.region [Q 2 (.mov (I 0))]) (aB (.region [Q 3 (.mov (I 0))]) (aB (aB (aD 8 9 LG) (.cond (V 9) (aB (aD 10 13 LH) (.block 0 (.loop Au))) .skip)) (aB (aD 31 32 Av) .ret)))),false⟩
def LP:List aA:=[M 8 1,Q 9 (.call .std 171 [V 8]),Q 10 (.call .std 155 [V 9]),M 7 10,EX 11 0 7,EX 12 1 7,M 5 11,M 6 12]
def LQ:List aA:=[M 13 6,Q 14 (.arith .eql (V 13) (I 0)),M 15 14,QG (some 16) (.mov (V 5)) 15 true,QG (some 17) (.mov (V 5)) 15 true,QG (some 18) (.len false (V 17)) 15 true,QG (some 19) (.arith .sub (V 18) (I 4)) 15 true,QG (some 20) (.slc 1 none (some (V 19)) (V 16)) 15 true,QG (some 21) (.toStr (V 20)) 15 true,QG (some 22) (.mov (V 0)) 15 true,QG (some 23) (.nilck (V 22)) 15 true,QG (some 24) (.faddr 0 (V 23)) 15 true,QG (some 25) (.load false 1 false (V 24)) 15 true,QG (some 26) (.toStr (V 25)) 15 true,QG (some 27) (.arith .eql (V 21) (V 26)) 15 true,Q 28 (.pick (V 15) (V 27) bR),M 4 28]
@[simp]def aJF:=aC LP.eq_1<|aT LQ.eq_1
def z1:aX:=
 ⟨2,[.tmp 4],
 (aB (.region [Q 4 (.mov bR)]) (aB (aD 7 13 LP) (aB (aD 13 29 LQ) .ret))),false⟩
def LR:List aA:=[M 6 0,Q 7 (.eqn false .p (V 6))]
def Aw:List aA:=[Q 4 (.mov (.cst .nils)),Q 5 (.mov (I 1))]
def LS:List aA:=[M 8 0,bj 9 8,FA 10 0 9,LD 11 10,M 12 1,Q 13 (.call .std 55 [V 11,V 12]),EX 14 0 13,EX 15 1 13,M 4 14,M 5 15]
@[simp]def aJG:=aC LR.eq_1<|aC Aw.eq_1<|aT LS.eq_1
def z3:aX:=
 ⟨2,[.tmp 4,.tmp 5],
 (aB (af sM) (aB (aB (aD 6 7 LR) (.cond (V 7) (aB (af Aw) .ret) .skip)) (aB (aD 8 16 LS) .ret))),false⟩
def Ax:List aA:=[Q 2 (.alloc false [.nils]),Q 3 (.alloc false [(.int .i64 0)])]
def Ay:List aA:=[M 13 0,M 14 0,Q 15 (.len false (V 14)),Q 16 (.arith .mul (I 8) (V 15)),Q 17 (.build [.nils,(.int .i64 0)] [(0,1,V 13),(1,1,V 16)]),Q 18 (.build [.nils,(.int .i64 0),(.int .i64 0)] [(0,2,V 17)]),Q 19 (.box false (V 18)),M 4 19]
def Az:List aA:=[M 20 4,Q 21 (.mkbfn 336 [V 20]),M 22 4,Q 23 (.mkbfn 337 [V 22]),M 5 21,M 6 23]
def sT:List aA:=[M 26 7,Q 27 (.arith .lss (V 26) (.cst (.int .u64 1))),M 28 27,QG (some 29) (.mov (V 7)) 28 false,QG (some 30) (.arith .gtr (V 29) (.cst (.int .u64 120))) 28 false,Q 31 (.pick (V 28) ck (V 30))]
def sU:List aA:=[QN (.store 1 (V 2) (.cst .nils)),QN (.store 1 (V 3) (I 5))]
def BA:List aA:=[Q 8 (.mov (I 0))]
def BB:List aA:=[M 32 7,Q 33 (.toInt .i64 (V 32)),Q 34 (.mov (I 0))]
def vl:List aA:=[Q 35 (.arith .lss (V 34) (V 33))]
def BC:List aA:=[M 36 34,M 9 36]
def BD:List aA:=[Q 10 (.alloc false [(.int .i64 0),(.int .i64 0)])]
def BE:List aA:=[M 37 9]
def sV:List aA:=[Q 52 (.arith .eql (V 37) (I 0)),M 51 52]
def sW:List aA:=[Q 57 (.arith .eql (V 37) (I 1)),M 56 57]
def vm:List aA:=[LD 60 2,Q 61 (.iaddr 2 (V 60) (I 0)),FA 62 0 61,LD 63 62,M 64 8,Q 65 (.arith .add (V 63) (V 64)),FA 66 0 10,QN (.store 1 (V 66) (V 65))]
def vn:List aA:=[LD 42 2,M 43 9,Q 44 (.arith .sub (V 43) (I 1)),Q 45 (.iaddr 2 (V 42) (V 44)),FA 46 0 45,LD 47 46,M 48 8,Q 49 (.arith .add (V 47) (V 48)),FA 50 0 10,QN (.store 1 (V 50) (V 49))]
def sX:List aA:=[M 70 9,Q 71 (.arith .gtr (V 70) (I 0))]
def vp:List aA:=[FA 72 1 10,LD 73 72,LD 74 2,M 75 9,Q 76 (.arith .sub (V 75) (I 1)),Q 77 (.iaddr 2 (V 74) (V 76)),FA 78 1 77,Q 79 (.load false 1 true (V 78)),Q 80 (.arith .add (V 73) (V 79)),FA 81 1 10,QN (.store 1 (V 81) (V 80))]
def BF:List aA:=[Q 82 (.load true 2 false (V 10)),Q 83 (.call .std 260 [V 82]),Q 84 (.un .not (V 83)),M 85 84,QG (some 86) (.mov (V 9)) 85 false,QG (some 87) (.arith .gtr (V 86) (I 0)) 85 false,QG (some 88) (.mov (V 87)) 85 false,QG (some 89) (.mov (V 8)) 88 true,QG (some 90) (.arith .lss (V 89) (I 1)) 88 true,QG (some 91) (.pick (V 88) (V 90) bR) 85 false,Q 92 (.pick (V 85) ck (V 91))]
def BG:List aA:=[QN (.store 1 (V 2) (.cst .nils)),QN (.store 1 (V 3) (I 5))]
def BH:List aA:=[LD 93 2,Q 94 (.load true 2 false (V 10)),Q 95 (.bsl false (.agg [(.int .i64 0),(.int .i64 0)]) 1 [(0,V 94)]),Q 96 (.app 2 16 (V 93) (V 95)),QN (.store 1 (V 2) (V 96))]
def BI:List aA:=[Q 97 (.arith .add (V 34) (I 1)),M 34 97]
def BJ:List aA:=[M 98 4,bj 99 98,FA 100 0 99,FA 101 1 100,LD 102 101,M 103 4,bj 104 103,FA 105 2 104,LD 106 105,Q 107 (.arith .sub (V 102) (V 106)),M 11 107]
def qE:List aA:=[M 108 11,Q 109 (.arith .gtr (V 108) (I 7)),M 110 109,QG (some 111) (.mov (V 11)) 110 false,QG (some 112) (.arith .gtr (V 111) (I 0)) 110 false,QG (some 113) (.mov (V 112)) 110 false,QG (some 114) (.mov (V 0)) 113 true,QG (some 115) (.mov (V 0)) 113 true,QG (some 116) (.len false (V 115)) 113 true,QG (some 117) (.arith .sub (V 116) (I 1)) 113 true,QG (some 118) (.iaddr 1 (V 114) (V 117)) 113 true,QG (some 119) (.load false 1 false (V 118)) 113 true,QG (some 120) (.mov (V 11)) 113 true,QG (some 121) (.arith .sub (I 8) (V 120)) 113 true,QG (some 122) (.arith .shl (V 119) (V 121)) 113 true,QG (some 123) (.arith .neq (V 122) (.cst (.int .u8 0))) 113 true,QG (some 124) (.pick (V 113) (V 123) bR) 110 false,Q 125 (.pick (V 110) ck (V 124))]
def vr:List aA:=[QN (.store 1 (V 2) (.cst .nils)),QN (.store 1 (V 3) (I 5))]
@[simp]def aJH:=aC Ax.eq_1<|aC Ay.eq_1<|aC Az.eq_1<|aC sT.eq_1<|aC sU.eq_1<|aC BA.eq_1<|aC BB.eq_1<|aC vl.eq_1<|aC BC.eq_1<|aC BD.eq_1<|aC BE.eq_1<|aC sV.eq_1<|aC sW.eq_1<|aC vm.eq_1<|aC vn.eq_1<|aC sX.eq_1<|aC vp.eq_1<|aC BF.eq_1<|aC BG.eq_1<|aC BH.eq_1<|aC BI.eq_1<|aC BJ.eq_1<|aC qE.eq_1<|aT vr.eq_1
def vt:List aA:=[LD 126 2,QN (.store 1 (V 2) (V 126)),QN (.store 1 (V 3) (I 0))]
@[simp]def aJI:=aT vt.eq_1
end Ps
