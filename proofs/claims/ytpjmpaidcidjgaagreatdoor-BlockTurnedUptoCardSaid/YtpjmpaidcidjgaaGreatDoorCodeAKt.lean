/- The functions' code, as the pure semantics has it: printed by program. -/
import Derived.Test.YtpjmpaidcidjgaaGreatDoorWalkKt
namespace Ps
open Go
set_option maxRecDepth 10000
set_option linter.defProp false
variable (T : aM) (K : List Kt) (fr : Fr) (S : St)
def Gy:List aA:=[Q 6 (.mov (.cst .nili)),M 2 6]
def vc:List aA:=[M 7 2,Q 8 (.eqn false .i (V 7))]
def vd:List aA:=[Q 3 (.alloc false [(.int .i64 0)])]
def ve:List aA:=[M 10 2,Q 11 (.asrI [3,2] (V 10)),M 9 11,EX 12 0 9,EX 13 1 9,M 4 12,M 5 13]
def vf:List aA:=[M 14 5,M 15 14,QG (some 16) (.mov (V 4)) 15 true,QG (some 17) (.mkif 2 (V 3)) 15 true,QG (some 18) (.call .std 159 [V 16,V 17]) 15 true,Q 19 (.pick (V 15) (V 18) bO)]
def vg:List aA:=[QN (.store 1 (V 0) (.cst .nilp)),QN (.store 1 (V 1) (I 5))]
def Gz:List aA:=[M 20 2,QN (.bad)]
def HA:List aA:=[Q 5 (.mov (.cst .nili)),M 2 5]
def HB:List aA:=[M 6 2,Q 7 (.eqn true .i (V 6))]
def HC:List aA:=[M 9 2,Q 10 (.assert 11 true (.agg []) (V 9)),M 8 10,EX 11 0 8,EX 12 1 8,Q 3 (.alloc false []),QN (.store 0 (V 3) (V 11)),M 4 12]
def HD:List aA:=[M 13 4,Q 14 (.un .not (V 13))]
def HE:List aA:=[M 15 2,QN (.bad)]
def HF:List aA:=[QN (.store 1 (V 0) (.cst .nils)),QN (.store 1 (V 1) (I 5))]
def pD:List aA:=[Q 6 (.mov bO)]
def pE:List aA:=[M 14 0,Q 15 (.call .std 155 [V 14]),M 13 15,EX 16 0 13,EX 17 1 13,M 7 16,M 8 17]
def pF:List aA:=[M 18 8,Q 19 (.arith .neq (V 18) (I 0)),M 20 19,QG (some 21) (.mov (V 7)) 20 false,QG (some 22) (.len false (V 21)) 20 false,QG (some 23) (.arith .lss (V 22) (I 9)) 20 false,Q 24 (.pick (V 20) cN (V 23)),M 25 24,QG (some 26) (.mov (V 2)) 25 false,QG (some 27) (.arith .eql (V 26) (.cst (.int .u32 0))) 25 false,Q 28 (.pick (V 25) cN (V 27))]
def rP:List aA:=[M 29 0,Q 30 (.call .std 64 [V 29]),M 31 8,Q 32 (.arith .eql (V 30) (V 31)),M 33 32,QG (some 34) (.mov (V 8)) 33 true,QG (some 35) (.arith .neq (V 34) (I 0)) 33 true,QG (some 36) (.mov (V 35)) 33 true,QG (some 37) (.mov (V 2)) 36 false,QG (some 38) (.arith .eql (V 37) (.cst (.int .u32 0))) 36 false,QG (some 39) (.pick (V 36) cN (V 38)) 33 true,Q 40 (.pick (V 33) (V 39) bO),M 41 40,QG (some 42) (.call .pur 65 []) 41 true,Q 43 (.pick (V 41) (V 42) bO),M 6 43]
def vh:List aA:=[M 44 1,Q 45 (.toInt .u64 (V 44)),M 46 7,Q 47 (.len false (V 46)),Q 48 (.arith .sub (V 47) (I 7)),Q 49 (.toInt .u64 (V 48)),Q 50 (.arith .rem (V 45) (V 49)),Q 51 (.toInt .i64 (V 50)),Q 52 (.arith .add (I 4) (V 51)),M 9 52]
def vi:List aA:=[Q 10 (.mov (I 0))]
def rQ:List aA:=[M 53 10,Q 54 (.arith .lss (V 53) (I 4))]
def vj:List aA:=[M 55 10,Q 56 (.arith .add (V 55) (I 1)),M 10 56]
def vk:List aA:=[M 79 12,Q 80 (.arith .eql (V 79) (I 5)),M 81 80,QG (some 82) (.mov (V 11)) 81 true,QG (some 83) (.eqn false .p (V 82)) 81 true,Q 84 (.pick (V 81) (V 83) bO),M 85 84,QG (some 86) (.call .pur 65 []) 85 true,Q 87 (.pick (V 85) (V 86) bO),M 6 87]
def rR:List aA:=[Q 2 (.mov (.cst .nils)),Q 3 (.mov (I 0))]
def HG:List aA:=[M 17 0,Q 18 (.call .std 64 [V 17]),M 4 18]
@[simp]def aET:=aC Gy.eq_1<|aC vc.eq_1<|aC vd.eq_1<|aC ve.eq_1<|aC vf.eq_1<|aC vg.eq_1<|aC Gz.eq_1<|aC HA.eq_1<|aC HB.eq_1<|aC HC.eq_1<|aC HD.eq_1<|aC HE.eq_1<|aC HF.eq_1<|aC pD.eq_1<|aC pE.eq_1<|aC pF.eq_1<|aC rP.eq_1<|aC vh.eq_1<|aC vi.eq_1<|aC rQ.eq_1<|aC vj.eq_1<|aC vk.eq_1<|aC rR.eq_1<|aP HG.eq_1
def HH:List aA:=[M 19 4,Q 20 (.arith .neq (V 19) (I 0))]
def HI:List aA:=[M 21 4,Q 2 (.mov (.cst .nils)),M 3 21]
def HJ:List aA:=[M 23 0,Q 24 (.call .std 153 [V 23]),Q 25 (.call .std 51 [V 24]),M 22 25,EX 26 0 22,EX 27 1 22,M 5 26,M 6 27]
def HK:List aA:=[Q 28 (.mov (.cst .und)),Q 29 (.bsl false (.int .u8 0) 4 [(0,(.cst (.int .u8 71))),(1,(.cst (.int .u8 66))),(2,(.cst (.int .u8 75))),(3,(.cst (.int .u8 49)))]),Q 7 (.alloc false [.nils]),QN (.store 1 (V 7) (V 29))]
def HL:List aA:=[Q 30 (.mkfn 261 [V 7]),Q 8 (.alloc false [.nilf]),QN (.store 1 (V 8) (V 30))]
def HM:List aA:=[Q 31 (.mkfn 262 [V 8,V 7]),M 9 31]
def HN:List aA:=[M 32 9,M 33 5,Q 34 (.call .std 134 [V 33]),Q 35 (.callv .std (V 32) [V 34])]
def HO:List aA:=[M 36 0,Q 37 (.len false (V 36)),Q 38 (.mov (I 0))]
def vl:List aA:=[Q 39 (.arith .lss (V 38) (V 37))]
def HP:List aA:=[Q 40 (.iaddr 2 (V 36) (V 38)),Q 41 (.load true 2 false (V 40)),Q 11 (.alloc false [.nils,.nils]),QN (.store 2 (V 11) (V 41))]
def HQ:List aA:=[FA 42 1 11,LD 43 42,Q 44 (.call .std 263 [V 43]),M 12 44]
def HR:List aA:=[LD 45 8,M 46 12,Q 47 (.len false (V 46)),Q 48 (.callv .std (V 45) [V 47])]
def HS:List aA:=[M 49 12,Q 50 (.len false (V 49)),Q 51 (.mov (I 0))]
def vm:List aA:=[Q 52 (.arith .lss (V 51) (V 50))]
def HT:List aA:=[Q 53 (.iaddr 1 (V 49) (V 51)),LD 54 53,M 14 54]
def HU:List aA:=[M 56 14,Q 57 (.call .std 264 [V 56]),M 55 57,EX 58 0 55,EX 59 1 55,M 15 58,M 16 59]
def HV:List aA:=[M 60 9,M 61 15,Q 62 (.callv .std (V 60) [V 61])]
def HW:List aA:=[Q 63 (.arith .add (V 51) (I 1)),M 51 63]
@[simp]def aEU:=aC HH.eq_1<|aC HI.eq_1<|aC HJ.eq_1<|aC HK.eq_1<|aC HL.eq_1<|aC HM.eq_1<|aC HN.eq_1<|aC HO.eq_1<|aC vl.eq_1<|aC HP.eq_1<|aC HQ.eq_1<|aC HR.eq_1<|aC HS.eq_1<|aC vm.eq_1<|aC HT.eq_1<|aC HU.eq_1<|aC HV.eq_1<|aP HW.eq_1
def vn:aN:=
 (aB (aZ vm) (aB (.cond (V 52) .skip (.exit 2)) (aB (.block 3 (aB (aD 53 55 HT) (aB (.clr [(16,17),(55,60)] (aZ HU)) (aD 60 63 HV)))) (aD 63 64 HW))))
@[simp]def aEV:=bG vn.eq_1
def HX:List aA:=[Q 64 (.arith .add (V 38) (I 1)),M 38 64]
@[simp]def aEW:=aP HX.eq_1
def vp:aN:=
 (aB (aZ vl) (aB (.cond (V 39) .skip (.exit 0)) (aB (.block 1 (aB (aD 40 42 HP) (aB (aD 42 45 HQ) (aB (aD 45 49 HR) (aB (aZ HS) (.block 2 (.loop vn))))))) (aD 64 65 HX))))
@[simp]def aEX:=bG vp.eq_1
def HY:List aA:=[LD 65 7,LD 66 7,Q 67 (.call .keep 161 [V 66]),Q 68 (.app 1 1 (V 65) (V 67)),M 2 68,Q 3 (.mov (I 0))]
@[simp]def aEY:=aP HY.eq_1
def jD:aT:=
 ⟨1,[.tmp 2,.tmp 3],
 (aB (aZ rR) (aB (aB (aD 17 19 HG) (aB (aD 19 20 HH) (.cond (V 20) (aB (aD 21 22 HI) .ret) .skip))) (aB (.clr [(6,7),(22,28)] (aZ HJ)) (aB (aD 28 30 HK) (aB (aD 30 31 HL) (aB (aD 31 32 HM) (aB (aD 32 36 HN) (aB (aB (aZ HO) (.block 0 (.loop vp))) (aB (aD 65 69 HY) .ret))))))))),false⟩
def HZ:List aA:=[M 12 0,Q 13 (.len false (V 12)),Q 14 (.arith .gtr (V 13) (I 256))]
def Ha:List aA:=[M 15 0,Q 16 (.len false (V 15)),Q 17 (.mov (I 0))]
def vr:List aA:=[Q 18 (.arith .lss (V 17) (V 16))]
def Hb:List aA:=[Q 19 (.iaddr 2 (V 15) (V 17)),Q 20 (.load true 2 false (V 19)),Q 5 (.alloc false [.nils,.nils]),QN (.store 2 (V 5) (V 20))]
def Hc:List aA:=[M 21 3,FA 22 1 5,LD 23 22,Q 24 (.len false (V 23)),Q 25 (.arith .add (V 21) (V 24)),M 3 25]
def Hd:List aA:=[M 26 3,Q 27 (.arith .gtr (V 26) (I 65536))]
def vt:List aA:=[Q 28 (.arith .add (V 17) (I 1)),M 17 28]
@[simp]def aEZ:=aC HZ.eq_1<|aC Ha.eq_1<|aC vr.eq_1<|aC Hb.eq_1<|aC Hc.eq_1<|aC Hd.eq_1<|aP vt.eq_1
def vu:aN:=
 (aB (aZ vr) (aB (.cond (V 18) .skip (.exit 0)) (aB (.block 1 (aB (aD 19 21 Hb) (aB (aD 21 26 Hc) (aB (aD 26 27 Hd) (.cond (V 27) (aB (.region [Q 2 (.mov (I 3))]) .ret) .skip))))) (aD 28 29 vt))))
@[simp]def aE0:=bG vu.eq_1
def He:List aA:=[M 30 0,Q 31 (.call .std 153 [V 30]),Q 32 (.call .std 51 [V 31]),M 29 32,EX 33 0 29,EX 34 1 29,M 6 33,M 7 34]
def Hf:List aA:=[M 35 7,Q 36 (.arith .neq (V 35) (I 0))]
def Hg:List aA:=[M 37 7,M 2 37]
def Hh:List aA:=[M 38 0,Q 39 (.len false (V 38)),Q 40 (.mov (I 0))]
def vv:List aA:=[Q 41 (.arith .lss (V 40) (V 39))]
def Hi:List aA:=[Q 42 (.iaddr 2 (V 38) (V 40)),Q 43 (.load true 2 false (V 42)),Q 9 (.alloc false [.nils,.nils]),QN (.store 2 (V 9) (V 43))]
def Hj:List aA:=[FA 44 1 9,LD 45 44,Q 46 (.len false (V 45)),Q 47 (.arith .eql (V 46) (I 0))]
def Hk:List aA:=[FA 48 1 9,LD 49 48,Q 50 (.len false (V 49)),Q 51 (.mov (I 0))]
def Hl:List aA:=[M 53 51,M 10 53]
def Hm:List aA:=[FA 54 1 9,LD 55 54,M 56 10,Q 57 (.arith .sub (V 56) (I 1)),Q 58 (.mnmx true (I 0) (V 57)),M 59 10,Q 60 (.arith .add (V 59) (I 1)),Q 61 (.slc 2 (some (V 58)) (some (V 60)) (V 55)),Q 62 (.call .std 154 [V 61]),M 11 62]
def Hn:List aA:=[M 63 11,Q 64 (.arith .neq (V 63) (I 0))]
def Ho:List aA:=[M 65 11,M 2 65]
def Hp:List aA:=[Q 66 (.arith .add (V 51) (I 1)),M 51 66]
@[simp]def aE1:=aC He.eq_1<|aC Hf.eq_1<|aC Hg.eq_1<|aC Hh.eq_1<|aC vv.eq_1<|aC Hi.eq_1<|aC Hj.eq_1<|aC Hk.eq_1<|aC Hl.eq_1<|aC Hm.eq_1<|aC Hn.eq_1<|aC Ho.eq_1<|aP Hp.eq_1
def vw:aN:=
 (aB (aZ vm) (aB (.cond (V 52) .skip (.exit 4)) (aB (.block 5 (aB (aD 53 54 Hl) (aB (aD 54 63 Hm) (aB (aD 63 64 Hn) (.cond (V 64) (aB (aD 65 66 Ho) .ret) .skip))))) (aD 66 67 Hp))))
@[simp]def aE2:=bG vw.eq_1
def Hq:List aA:=[Q 67 (.arith .add (V 40) (I 1)),M 40 67]
@[simp]def aE3:=aP Hq.eq_1
def vy:aN:=
 (aB (aZ vv) (aB (.cond (V 41) .skip (.exit 2)) (aB (.block 3 (aB (aD 42 44 Hi) (aB (aB (aD 44 47 Hj) (.cond (V 47) (aB (.region [Q 2 (.mov (I 2))]) .ret) .skip)) (aB (aD 48 50 Hk) (.block 4 (.loop vw)))))) (aD 67 68 Hq))))
@[simp]def aE4:=bG vy.eq_1
def lg:aT:=
 ⟨1,[.tmp 2],
 (aB (.region [Q 2 (.mov (I 0))]) (aB (aB (aD 12 14 HZ) (.cond (V 14) (aB (.region [Q 2 (.mov (I 3))]) .ret) .skip)) (aB (.region [Q 3 (.mov (I 0))]) (aB (aB (aZ Ha) (.block 0 (.loop vu))) (aB (aB (.clr [(6,7),(29,35)] (aZ He)) (aB (aD 35 36 Hf) (.cond (V 36) (aB (aD 37 38 Hg) .ret) .skip))) (aB (aB (aZ Hh) (.block 2 (.loop vy))) (aB (.region [Q 2 (.mov (I 0))]) .ret))))))),false⟩
def Hr:List aA:=[Q 0 (.mov bO)]
def Hs:List aA:=[Q 10 (.call .pur 156 []),Q 11 (.call .std 155 [V 10]),M 9 11,EX 12 0 9,EX 13 1 9,M 1 12,M 2 13]
def Ht:List aA:=[M 23 2,Q 24 (.arith .neq (V 23) (I 0)),M 25 24,QG (some 26) (.mov (V 4)) 25 false,QG (some 27) (.arith .neq (V 26) (I 0)) 25 false,Q 28 (.pick (V 25) cN (V 27)),M 29 28,QG (some 30) (.mov (V 3)) 29 false,QG (some 31) (.eqn false .p (V 30)) 29 false,Q 32 (.pick (V 29) cN (V 31)),M 33 32,QG (some 34) (.mov (V 6)) 33 false,QG (some 35) (.arith .neq (V 34) (I 5)) 33 false,Q 36 (.pick (V 33) cN (V 35))]
def Hu:List aA:=[Q 0 (.mov bO)]
def Hv:List aA:=[M 38 3,Q 39 (.call .std 157 [V 38,(I 0),(I 10),(I 10)]),M 37 39,EX 40 0 37,EX 41 1 37,M 7 40,M 8 41]
def vz:List aA:=[Q 2 (.alloc false [.nilp]),Q 3 (.alloc false [(.int .i64 0)])]
def wB:List aA:=[M 8 0,Q 9 (.build [.nils,(.int .i64 0)] [(0,1,V 8)]),Q 10 (.box false (V 9)),M 4 10]
def Hw:List aA:=[M 38 4,M 39 4,M 40 0,M 41 0,Q 42 (.len false (V 41)),Q 43 (.arith .sub (V 42) (I 4)),Q 44 (.slc 1 none (some (V 43)) (V 40)),bL 45 38,FA 46 0 45,QN (.store 1 (V 46) (V 44)),bL 47 39,FA 48 1 47,QN (.store 1 (V 48) (I 4))]
def Hx:List aA:=[M 59 5,Q 60 (.build [.nilp,.nils] [(0,1,V 59)]),Q 61 (.box false (V 60)),QN (.store 1 (V 2) (V 61))]
def Hy:List aA:=[M 62 5,Q 63 (.call .std 136 [V 62]),Q 64 (.mov (I 0))]
def Hz:List aA:=[Q 65 (.arith .lss (V 64) (V 63))]
def IA:List aA:=[Q 77 (.arith .add (V 64) (I 1)),M 64 77]
def IB:List aA:=[LD 100 2,QN (.store 1 (V 2) (V 100)),QN (.store 1 (V 3) (I 0))]
def IC:List aA:=[M 9 0,Q 10 (.eqn false .p (V 9))]
def ID:List aA:=[M 11 0,bL 12 11,FA 13 1 12,LD 14 13,Q 15 (.len false (V 14)),Q 16 (.mov (I 0))]
def IE:List aA:=[Q 17 (.arith .lss (V 16) (V 15))]
def IF:List aA:=[M 18 16,M 4 18]
def IG:List aA:=[M 20 0,M 21 4,Q 22 (.call .std 176 [V 20,V 21]),M 19 22,EX 23 0 19,EX 24 1 19,M 5 23,M 6 24]
def IH:List aA:=[M 26 0,M 27 4,Q 28 (.call .std 157 [V 26,V 27,(I 0),(I 1099511627776)]),M 25 28,EX 29 0 25,EX 30 1 25,M 7 29,M 8 30]
def II:List aA:=[M 31 3,M 32 5,M 33 7,Q 34 (.build [.nils,.nils] [(0,1,V 32),(1,1,V 33)]),Q 35 (.bsl false (.agg [.nils,.nils]) 1 [(0,V 34)]),Q 36 (.app 2 48 (V 31) (V 35)),M 3 36]
def IJ:List aA:=[Q 37 (.arith .add (V 16) (I 1)),M 16 37]
@[simp]def aE5:=aC Hr.eq_1<|aC Hs.eq_1<|aC Ht.eq_1<|aC Hu.eq_1<|aC Hv.eq_1<|aC vz.eq_1<|aC wB.eq_1<|aC Hw.eq_1<|aC Hx.eq_1<|aC Hy.eq_1<|aC Hz.eq_1<|aC IA.eq_1<|aC IB.eq_1<|aC IC.eq_1<|aC ID.eq_1<|aC IE.eq_1<|aC IF.eq_1<|aC IG.eq_1<|aC IH.eq_1<|aC II.eq_1<|aP IJ.eq_1
def IK:aN:=
 (aB (aZ IE) (aB (.cond (V 17) .skip (.exit 0)) (aB (.block 1 (aB (aD 18 19 IF) (aB (.clr [(6,7),(19,25)] (aZ IG)) (aB (.clr [(8,9),(25,31)] (aZ IH)) (aD 31 37 II))))) (aD 37 38 IJ))))
@[simp]def aE6:=bG IK.eq_1
def IL:List aA:=[M 38 3,M 2 38]
@[simp]def aE7:=aP IL.eq_1
def wC:aT:=
 ⟨1,[.tmp 2],
 (aB (.region [Q 2 (.mov (.cst .nils))]) (aB (aB (aD 9 10 IC) (.cond (V 10) (aB (.region [Q 2 (.mov (.cst .nils))]) .ret) .skip)) (aB (.region [Q 3 (.mov (.cst .nils))]) (aB (aB (aD 11 15 ID) (.block 0 (.loop IK))) (aB (aD 38 39 IL) .ret))))),false⟩
def IM:List aA:=[Q 8 (.mov (.cst .nils)),Q 9 (.mov (I 0))]
def IO:List aA:=[M 18 0,Q 19 (.eqn false .p (V 18)),M 17 19]
def IP:List aA:=[Q 8 (.mov (.cst .nils)),Q 9 (.mov (I 1))]
def IQ:List aA:=[M 21 1,Q 22 (.arith .lss (V 21) (I 0)),M 23 22,QG (some 24) (.mov (V 1)) 23 false,QG (some 25) (.mov (V 0)) 23 false,QG (some 26) (.nilck (V 25)) 23 false,QG (some 27) (.faddr 1 (V 26)) 23 false,QG (some 28) (.load false 1 false (V 27)) 23 false,QG (some 29) (.len false (V 28)) 23 false,QG (some 30) (.arith .geq (V 24) (V 29)) 23 false,Q 31 (.pick (V 23) cN (V 30)),M 20 31]
def IR:List aA:=[Q 8 (.mov (.cst .nils)),Q 9 (.mov (I 9))]
def IS:List aA:=[M 32 0,bL 33 32,FA 34 1 33,LD 35 34,M 36 1,Q 37 (.iaddr 1 (V 35) (V 36)),LD 38 37,Q 39 (.len false (V 38)),Q 40 (.mov (I 0))]
def IT:List aA:=[Q 42 (.iaddr 4 (V 38) (V 40)),Q 43 (.load true 4 false (V 42)),Q 12 (.alloc false [.nils,(.int .i64 0),(.int .i64 0),(.int .i64 0)]),QN (.store 4 (V 12) (V 43))]
def IU:List aA:=[FA 44 3 12,LD 45 44,M 46 2,Q 47 (.arith .lss (V 45) (V 46)),M 48 47,QG (some 49) (.faddr 2 (V 12)) 48 false,QG (some 50) (.load false 1 false (V 49)) 48 false,QG (some 51) (.mov (V 3)) 48 false,QG (some 52) (.arith .gtr (V 50) (V 51)) 48 false,Q 53 (.pick (V 48) cN (V 52))]
def IV:List aA:=[FA 55 0 12,LD 56 55,Q 57 (.call .std 265 [V 56]),M 54 57,EX 58 0 54,EX 59 1 54,M 13 58,M 14 59]
def IW:List aA:=[M 60 13,Q 61 (.len false (V 60)),Q 62 (.mov (I 0))]
def IX:List aA:=[Q 63 (.arith .lss (V 62) (V 61))]
def IY:List aA:=[Q 64 (.iaddr 2 (V 60) (V 62)),Q 65 (.load true 2 false (V 64)),Q 16 (.alloc false [(.int .i64 0),(.int .i64 0)]),QN (.store 2 (V 16) (V 65))]
def IZ:List aA:=[FA 66 0 16,LD 67 66,M 68 2,Q 69 (.arith .geq (V 67) (V 68)),M 70 69,QG (some 71) (.faddr 0 (V 16)) 70 true,QG (some 72) (.load false 1 false (V 71)) 70 true,QG (some 73) (.mov (V 3)) 70 true,QG (some 74) (.arith .leq (V 72) (V 73)) 70 true,Q 75 (.pick (V 70) (V 74) bO)]
def Ia:List aA:=[M 76 10,Q 77 (.load true 2 false (V 16)),Q 78 (.bsl false (.agg [(.int .i64 0),(.int .i64 0)]) 1 [(0,V 77)]),Q 79 (.app 2 16 (V 76) (V 78)),M 10 79]
def Ib:List aA:=[Q 80 (.arith .add (V 62) (I 1)),M 62 80]
@[simp]def aE8:=aC IM.eq_1<|aC IO.eq_1<|aC IP.eq_1<|aC IQ.eq_1<|aC IR.eq_1<|aC IS.eq_1<|aC IT.eq_1<|aC IU.eq_1<|aC IV.eq_1<|aC IW.eq_1<|aC IX.eq_1<|aC IY.eq_1<|aC IZ.eq_1<|aC Ia.eq_1<|aP Ib.eq_1
def Ic:aN:=
 (aB (aZ IX) (aB (.cond (V 63) .skip (.exit 3)) (aB (.block 4 (aB (aD 64 66 IY) (aB (aD 66 75 IZ) (.cond (V 75) (aD 76 80 Ia) .skip)))) (aD 80 81 Ib))))
@[simp]def aE9:=bG Ic.eq_1
def Id:List aA:=[Q 81 (.arith .add (V 40) (I 1)),M 40 81]
@[simp]def aFa:=aP Id.eq_1
def Ie:aN:=
 (aB (aZ vv) (aB (.cond (V 41) .skip (.exit 1)) (aB (.block 2 (aB (aD 42 44 IT) (aB (aB (aD 44 53 IU) (.cond (V 53) (.exit 2) .skip)) (aB (.clr [(14,15),(54,60)] (aZ IV)) (aB (aZ IW) (.block 3 (.loop Ic))))))) (aD 81 82 Id))))
@[simp]def aFb:=bG Ie.eq_1
def If:List aA:=[M 82 10,M 8 82,Q 9 (.mov (I 0))]
@[simp]def aFc:=aP If.eq_1
def z6:aT:=
 ⟨4,[.tmp 8,.tmp 9],
 (aB (aZ IM) (aB (.block 0 (aB (aD 18 20 IO) (.cond (V 17) (aB (aZ IP) .ret) (aB (aD 21 32 IQ) (.cond (V 20) (aB (aZ IR) .ret) .skip))))) (aB (.region [Q 10 (.mov (.cst .nils))]) (aB (aB (aD 32 38 IS) (.block 1 (.loop Ie))) (aB (aD 82 83 If) .ret))))),false⟩
def wD:List aA:=[Q 2 (.mov (.cst .nilp)),Q 3 (.mov (I 0))]
def Ig:List aA:=[M 11 0,Q 12 (.len false (V 11)),Q 13 (.arith .gtr (V 12) (I 256))]
def Ih:List aA:=[Q 2 (.mov (.cst .nilp)),Q 3 (.mov (I 3))]
def Ii:List aA:=[Q 14 (.mkm),Q 15 (.build [.nils,.nilm] [(1,1,V 14)]),Q 16 (.box false (V 15)),M 4 16]
def Ij:List aA:=[M 17 0,Q 18 (.len false (V 17)),Q 19 (.mov (I 0))]
def Ik:List aA:=[Q 20 (.arith .lss (V 19) (V 18))]
def Il:List aA:=[M 21 19,Q 22 (.iaddr 1 (V 17) (V 19)),LD 23 22,M 5 21,M 6 23]
def Im:List aA:=[M 24 6,Q 25 (.call .std 40 [V 24]),M 7 25]
def In:List aA:=[M 26 7,Q 27 (.arith .neq (V 26) (I 0))]
def Io:List aA:=[M 28 7,Q 2 (.mov (.cst .nilp)),M 3 28]
def Ip:List aA:=[M 29 5,Q 30 (.arith .gtr (V 29) (I 0)),M 31 30,QG (some 32) (.mov (V 0)) 31 true,QG (some 33) (.mov (V 5)) 31 true,QG (some 34) (.arith .sub (V 33) (I 1)) 31 true,QG (some 35) (.iaddr 1 (V 32) (V 34)) 31 true,QG (some 36) (.load false 1 false (V 35)) 31 true,QG (some 37) (.mov (V 6)) 31 true,QG (some 38) (.call .std 28 [V 36,V 37]) 31 true,QG (some 39) (.arith .geq (V 38) (I 0)) 31 true,Q 40 (.pick (V 31) (V 39) bO)]
def Iq:List aA:=[Q 2 (.mov (.cst .nilp)),Q 3 (.mov (I 13))]
def wE:List aA:=[M 41 4,M 42 4,bL 43 42,FA 44 0 43,LD 45 44,M 46 6,Q 47 (.call .keep 130 [V 46]),Q 48 (.bsl false .nils 1 [(0,V 47)]),Q 49 (.app 1 24 (V 45) (V 48)),bL 50 41,FA 51 0 50,QN (.store 1 (V 51) (V 49))]
@[simp]def Ir:=aP wE.eq_1
def wF:List aA:=[M 52 6,Q 53 (.len false (V 52)),Q 54 (.mov (I 0))]
def wG:List aA:=[Q 55 (.arith .lss (V 54) (V 53))]
def Is:List aA:=[Q 56 (.iaddr 2 (V 52) (V 54)),Q 57 (.load true 2 false (V 56)),Q 9 (.alloc false [(.str []),(.str [])]),QN (.store 2 (V 9) (V 57))]
def Iu:List aA:=[FA 58 0 9,LD 59 58,FA 60 1 9,LD 61 60,Q 62 (.build [(.str []),(.str [])] [(0,1,V 59),(1,1,V 61)]),Q 10 (.alloc false [(.str []),(.str [])]),QN (.store 2 (V 10) (V 62))]
def Iv:List aA:=[M 63 4,bL 64 63,FA 65 1 64,LD 66 65,Q 67 (.load true 2 false (V 10)),M 69 5,Q 70 (.bsl false (.int .i64 0) 1 [(0,V 69)]),Q 71 (.men .nils (V 66) (V 67)),EX 68 0 71,Q 72 (.app 1 8 (V 68) (V 70)),EX 73 1 71,QN (.est (V 66) (V 67) (V 72))]
def Iw:List aA:=[Q 74 (.arith .add (V 54) (I 1)),M 54 74]
@[simp]def aFd:=aC wD.eq_1<|aC Ig.eq_1<|aC Ih.eq_1<|aC Ii.eq_1<|aC Ij.eq_1<|aC Ik.eq_1<|aC Il.eq_1<|aC Im.eq_1<|aC In.eq_1<|aC Io.eq_1<|aC Ip.eq_1<|aC Iq.eq_1<|aC wF.eq_1<|aC wG.eq_1<|aC Is.eq_1<|aC Iu.eq_1<|aC Iv.eq_1<|aP Iw.eq_1
def rS:aN:=
 (aB (aZ wG) (aB (.cond (V 55) .skip (.exit 2)) (aB (.block 3 (aB (aD 56 58 Is) (aB (aD 58 63 Iu) (aD 63 74 Iv)))) (aD 74 75 Iw))))
@[simp]def aFe:=bG rS.eq_1
def wH:List aA:=[Q 75 (.arith .add (V 19) (I 1)),M 19 75]
@[simp]def aFf:=aP wH.eq_1
def rT:aN:=
 (aB (aZ Ik) (aB (.cond (V 20) .skip (.exit 0)) (aB (.block 1 (aB (aD 21 24 Il) (aB (aB (aD 24 26 Im) (aB (aD 26 27 In) (.cond (V 27) (aB (aD 28 29 Io) .ret) .skip))) (aB (aB (aD 29 40 Ip) (.cond (V 40) (aB (aZ Iq) .ret) .skip)) (aB (aD 41 52 wE) (aB (aZ wF) (.block 2 (.loop rS)))))))) (aD 75 76 wH))))
@[simp]def aFg:=bG rT.eq_1
def Ix:List aA:=[M 76 4,M 2 76,Q 3 (.mov (I 0))]
@[simp]def aFh:=aP Ix.eq_1
def lj:aT:=
 ⟨1,[.tmp 2,.tmp 3],
 (aB (aZ wD) (aB (aB (aD 11 13 Ig) (.cond (V 13) (aB (aZ Ih) .ret) .skip)) (aB (aD 14 17 Ii) (aB (aB (aZ Ij) (.block 0 (.loop rT))) (aB (aD 76 77 Ix) .ret))))),false⟩
def wI:List aA:=[M 6 0,Q 7 (.len false (V 6)),Q 8 (.mov (I 0))]
def Iy:List aA:=[Q 10 (.iaddr 2 (V 6) (V 8)),Q 11 (.load true 2 false (V 10)),Q 5 (.alloc false [.nils,.nils]),QN (.store 2 (V 5) (V 11))]
def Iz:List aA:=[M 12 3,FA 13 0 5,LD 14 13,Q 15 (.bsl false .nils 1 [(0,V 14)]),Q 16 (.app 1 24 (V 12) (V 15)),M 3 16]
def JA:List aA:=[Q 17 (.arith .add (V 8) (I 1)),M 8 17]
@[simp]def aFi:=aC wI.eq_1<|aC Iy.eq_1<|aC Iz.eq_1<|aP JA.eq_1
def JB:aN:=
 (aB (.region [Q 9 (.arith .lss (V 8) (V 7))]) (aB (.cond (V 9) .skip (.exit 0)) (aB (.block 1 (aB (aD 10 12 Iy) (aD 12 17 Iz))) (aD 17 18 JA))))
@[simp]def aFj:=bG JB.eq_1
def JC:List aA:=[M 18 3,M 2 18]
@[simp]def aFk:=aP JC.eq_1
def nJ:aT:=
 ⟨1,[.tmp 2],
 (aB (.region [Q 2 (.mov (.cst .nils))]) (aB (.region [Q 3 (.mov (.cst .nils))]) (aB (aB (aZ wI) (.block 0 (.loop JB))) (aB (aD 18 19 JC) .ret)))),false⟩
def JD:List aA:=[M 6 0,Q 7 (.call .std 107 [(.cst .nils),V 6]),M 5 7,EX 8 0 5,EX 9 1 5,M 3 8,M 4 9]
def JE:List aA:=[LD 10 1,M 11 3,Q 12 (.app 1 1 (V 10) (V 11)),QN (.store 1 (V 1) (V 12))]
@[simp]def aFl:=aC JD.eq_1<|aP JE.eq_1
def pG:aT:=
 ⟨2,[],
 (aB (aD 4 10 JD) (aD 10 13 JE)),false⟩
def pH:List aA:=[Q 4 (.mov (.cst .nils)),Q 5 (.mov (I 0))]
def JF:List aA:=[M 7 1,Q 8 (.arith .lss (V 7) (I 0))]
def JG:List aA:=[Q 4 (.mov (.cst .nils)),Q 5 (.mov (I 2))]
def JH:List aA:=[M 9 0,Q 10 (.call .std 218 [V 9,(I 9)]),M 6 10]
def JI:List aA:=[M 11 1,Q 12 (.arith .geq (V 11) (I 128))]
def JJ:List aA:=[M 15 6,M 16 1,Q 17 (.toInt .u8 (V 16)),Q 18 (.arith .or (V 17) (.cst (.int .u8 128))),Q 19 (.bsl false (.int .u8 0) 1 [(0,V 18)]),Q 20 (.app 1 1 (V 15) (V 19)),M 6 20]
def JK:List aA:=[M 13 1,Q 14 (.arith .shr (V 13) (.cst (.int .u64 7))),M 1 14]
@[simp]def aFm:=aC pH.eq_1<|aC JF.eq_1<|aC JG.eq_1<|aC JH.eq_1<|aC JI.eq_1<|aC JJ.eq_1<|aP JK.eq_1
def wJ:aN:=
 (aB (aB (aD 11 12 JI) (.cond (V 12) .skip (.exit 0))) (aB (.block 1 (aD 15 21 JJ)) (aD 13 15 JK)))
@[simp]def aFn:=bG wJ.eq_1
def JL:List aA:=[M 21 6,M 22 1,Q 23 (.toInt .u8 (V 22)),Q 24 (.bsl false (.int .u8 0) 1 [(0,V 23)]),Q 25 (.app 1 1 (V 21) (V 24)),M 4 25,Q 5 (.mov (I 0))]
@[simp]def aFo:=aP JL.eq_1
def z23:aT:=
 ⟨2,[.tmp 4,.tmp 5],
 (aB (aZ pH) (aB (aB (aD 7 8 JF) (.cond (V 8) (aB (aZ JG) .ret) .skip)) (aB (aD 9 11 JH) (aB (.block 0 (.loop wJ)) (aB (aD 21 26 JL) .ret))))),true⟩
def JM:List aA:=[LD 4 1,M 5 0,Q 6 (.len false (V 5)),Q 7 (.callv .std (V 4) [V 6])]
def JN:List aA:=[LD 8 2,M 9 0,Q 10 (.app 1 1 (V 8) (V 9)),QN (.store 1 (V 2) (V 10))]
@[simp]def aFp:=aC JM.eq_1<|aP JN.eq_1
def z26:aT:=
 ⟨3,[],
 (aB (aD 4 8 JM) (aD 8 11 JN)),false⟩
def wK:List aA:=[Q 2 (.mov (.cst .nils))]
def wL:List aA:=[M 13 0,Q 14 (.eqn false .p (V 13))]
def JO:List aA:=[Q 2 (.mov (.cst .nils))]
def wM:List aA:=[M 21 3,Q 22 (.len false (V 21)),Q 23 (.call .std 107 [(.cst .nils),V 22]),M 20 23,EX 24 0 20,EX 25 1 20,M 5 24,M 6 25]
def wN:List aA:=[M 26 3,Q 27 (.len false (V 26)),Q 28 (.mov (I 0))]
def JP:List aA:=[Q 29 (.arith .lss (V 28) (V 27))]
def JQ:List aA:=[Q 30 (.iaddr 1 (V 26) (V 28)),LD 31 30,M 8 31]
def JR:List aA:=[M 33 5,M 34 8,Q 35 (.call .std 108 [V 33,V 34]),M 32 35,EX 36 0 32,EX 37 1 32,M 5 36]
def JS:List aA:=[Q 38 (.arith .add (V 28) (I 1)),M 28 38]
@[simp]def aFq:=aC wK.eq_1<|aC wL.eq_1<|aC JO.eq_1<|aC wM.eq_1<|aC wN.eq_1<|aC JP.eq_1<|aC JQ.eq_1<|aC JR.eq_1<|aP JS.eq_1
def wO:aN:=
 (aB (aZ JP) (aB (.cond (V 29) .skip (.exit 0)) (aB (.block 1 (aB (aD 30 32 JQ) (aD 32 38 JR))) (aD 38 39 JS))))
@[simp]def aFr:=bG wO.eq_1
def wP:List aA:=[M 40 5,M 41 0,bL 42 41,FA 43 0 42,LD 44 43,Q 45 (.len false (V 44)),Q 46 (.call .std 107 [V 40,V 45]),M 39 46,EX 47 0 39,EX 48 1 39,M 5 47]
def wQ:List aA:=[M 49 0,bL 50 49,FA 51 0 50,LD 52 51,Q 53 (.len false (V 52)),Q 54 (.mov (I 0))]
def JT:List aA:=[Q 56 (.iaddr 1 (V 52) (V 54)),LD 57 56,M 10 57]
def JU:List aA:=[M 59 5,M 60 10,Q 61 (.len false (V 60)),Q 62 (.call .std 107 [V 59,V 61]),M 58 62,EX 63 0 58,EX 64 1 58,M 5 63]
def JV:List aA:=[M 65 10,Q 66 (.len false (V 65)),Q 67 (.mov (I 0))]
def JW:List aA:=[Q 68 (.arith .lss (V 67) (V 66))]
def JX:List aA:=[Q 69 (.iaddr 2 (V 65) (V 67)),Q 70 (.load true 2 false (V 69)),Q 12 (.alloc false [(.str []),(.str [])]),QN (.store 2 (V 12) (V 70))]
def JY:List aA:=[M 72 5,M 73 4,FA 74 0 12,LD 75 74,Q 76 (.mlk true false (.int .i64 0) (V 73) (V 75)),Q 77 (.call .std 107 [V 72,V 76]),M 71 77,EX 78 0 71,EX 79 1 71,M 5 78]
def JZ:List aA:=[M 81 5,M 82 4,FA 83 1 12,LD 84 83,Q 85 (.mlk true false (.int .i64 0) (V 82) (V 84)),Q 86 (.call .std 107 [V 81,V 85]),M 80 86,EX 87 0 80,EX 88 1 80,M 5 87]
def Ja:List aA:=[Q 89 (.arith .add (V 67) (I 1)),M 67 89]
@[simp]def aFs:=aC wP.eq_1<|aC wQ.eq_1<|aC JT.eq_1<|aC JU.eq_1<|aC JV.eq_1<|aC JW.eq_1<|aC JX.eq_1<|aC JY.eq_1<|aC JZ.eq_1<|aP Ja.eq_1
def wR:aN:=
 (aB (aZ JW) (aB (.cond (V 68) .skip (.exit 4)) (aB (.block 5 (aB (aD 69 71 JX) (aB (aD 71 80 JY) (aD 80 89 JZ)))) (aD 89 90 Ja))))
@[simp]def aFt:=bG wR.eq_1
def Jb:List aA:=[Q 90 (.arith .add (V 54) (I 1)),M 54 90]
@[simp]def aFu:=aP Jb.eq_1
def wS:aN:=
 (aB (aZ wG) (aB (.cond (V 55) .skip (.exit 2)) (aB (.block 3 (aB (aD 56 58 JT) (aB (aD 58 65 JU) (aB (aZ JV) (.block 4 (.loop wR)))))) (aD 90 91 Jb))))
@[simp]def aFv:=bG wS.eq_1
def wT:List aA:=[M 91 5,M 2 91]
def Jc:List aA:=[M 5 0,Q 6 (.len false (V 5)),Q 7 (.arith .gtr (V 6) (I 0))]
def Jd:List aA:=[M 8 0,Q 9 (.len false (V 8)),Q 10 (.mnmx false (V 9) (I 120)),M 4 10]
def Je:List aA:=[M 11 3,M 12 0,M 13 4,Q 14 (.slc 2 none (some (V 13)) (V 12)),Q 15 (.app 2 16 (.cst .nils) (V 14)),Q 16 (.bsl false .nils 1 [(0,V 15)]),Q 17 (.app 1 24 (V 11) (V 16)),M 3 17]
def Jf:List aA:=[M 18 0,M 19 4,Q 20 (.slc 2 (some (V 19)) none (V 18)),M 0 20]
@[simp]def aFw:=aC wT.eq_1<|aC Jc.eq_1<|aC Jd.eq_1<|aC Je.eq_1<|aP Jf.eq_1
def wU:aN:=
 (aB (aB (aD 5 7 Jc) (.cond (V 7) .skip (.exit 0))) (.block 1 (aB (aD 8 11 Jd) (aB (aD 11 18 Je) (aD 18 21 Jf)))))
@[simp]def aFx:=bG wU.eq_1
def Jg:List aA:=[M 21 3,M 2 21]
@[simp]def aFy:=aP Jg.eq_1
def kX:aT:=
 ⟨1,[.tmp 2],
 (aB (.region [Q 2 (.mov (.cst .nils))]) (aB (.region [Q 3 (.mov (.cst .nils))]) (aB (.block 0 (.loop wU)) (aB (aD 21 22 Jg) .ret)))),false⟩
def Jh:List aA:=[M 10 0,Q 11 (.call .std 154 [V 10]),M 4 11]
def wV:List aA:=[M 12 4,Q 13 (.arith .neq (V 12) (I 0))]
def wW:List aA:=[M 14 4,Q 2 (.mov (.cst .nils)),M 3 14]
def Ji:List aA:=[Q 15 (.build [.nils,(.int .i64 0)] []),Q 16 (.box false (V 15)),M 5 16]
def Jj:List aA:=[M 17 5,Q 18 (.mkbfn 333 [V 17]),M 19 5,Q 20 (.mkbfn 334 [V 19]),M 6 18,M 7 20]
def Jk:List aA:=[M 21 6,M 22 0,Q 23 (.len false (V 22)),Q 24 (.toInt .u64 (V 23)),Q 25 (.callv .std (V 21) [V 24])]
def Jl:List aA:=[M 26 6,M 27 0,Q 28 (.iaddr 2 (V 27) (I 0)),FA 29 0 28,LD 30 29,Q 31 (.toInt .u64 (V 30)),Q 32 (.callv .std (V 26) [V 31])]
def Jm:List aA:=[M 33 7,M 34 0,Q 35 (.iaddr 2 (V 34) (I 0)),FA 36 1 35,LD 37 36,Q 38 (.callv .std (V 33) [V 37])]
def Jn:List aA:=[M 39 8,M 40 0,Q 41 (.len false (V 40)),Q 42 (.arith .lss (V 39) (V 41))]
def Jo:List aA:=[M 45 0,M 46 8,Q 47 (.iaddr 2 (V 45) (V 46)),FA 48 0 47,Q 49 (.load false 1 true (V 48)),M 50 0,M 51 8,Q 52 (.arith .sub (V 51) (I 1)),Q 53 (.iaddr 2 (V 50) (V 52)),FA 54 0 53,Q 55 (.load false 1 true (V 54)),Q 56 (.arith .sub (V 49) (V 55)),M 9 56]
def Jp:List aA:=[M 57 8,Q 58 (.arith .eql (V 57) (I 1))]
def Jq:List aA:=[M 59 6,M 60 9,Q 61 (.toInt .u64 (V 60)),Q 62 (.callv .std (V 59) [V 61])]
def Jr:List aA:=[M 63 7,M 64 9,M 65 0,M 66 8,Q 67 (.arith .sub (V 66) (I 1)),Q 68 (.iaddr 2 (V 65) (V 67)),FA 69 0 68,Q 70 (.load false 1 true (V 69)),M 71 0,M 72 8,Q 73 (.arith .sub (V 72) (I 2)),Q 74 (.iaddr 2 (V 71) (V 73)),FA 75 0 74,Q 76 (.load false 1 true (V 75)),Q 77 (.arith .sub (V 70) (V 76)),Q 78 (.arith .sub (V 64) (V 77)),Q 79 (.callv .std (V 63) [V 78])]
def Js:List aA:=[M 80 7,M 81 0,M 82 8,Q 83 (.iaddr 2 (V 81) (V 82)),FA 84 1 83,Q 85 (.load false 1 true (V 84)),M 86 0,M 87 8,Q 88 (.arith .sub (V 87) (I 1)),Q 89 (.iaddr 2 (V 86) (V 88)),FA 90 1 89,Q 91 (.load false 1 true (V 90)),Q 92 (.arith .sub (V 85) (V 91)),Q 93 (.callv .std (V 80) [V 92])]
def Jt:List aA:=[M 43 8,Q 44 (.arith .add (V 43) (I 1)),M 8 44]
@[simp]def aFz:=aC Jh.eq_1<|aC wV.eq_1<|aC wW.eq_1<|aC Ji.eq_1<|aC Jj.eq_1<|aC Jk.eq_1<|aC Jl.eq_1<|aC Jm.eq_1<|aC Jn.eq_1<|aC Jo.eq_1<|aC Jp.eq_1<|aC Jq.eq_1<|aC Jr.eq_1<|aC Js.eq_1<|aP Jt.eq_1
def rU:aN:=
 (aB (aB (aD 39 42 Jn) (.cond (V 42) .skip (.exit 0))) (aB (.block 1 (aB (aD 45 57 Jo) (aB (aB (aD 57 58 Jp) (.cond (V 58) (aD 59 63 Jq) (aD 63 80 Jr))) (aD 80 94 Js)))) (aD 43 45 Jt)))
@[simp]def aFA:=bG rU.eq_1
def Ju:List aA:=[M 94 5,bL 95 94,FA 96 0 95,FA 97 0 96,LD 98 97,M 2 98,Q 3 (.mov (I 0))]
@[simp]def aFB:=aP Ju.eq_1
def z29:aT:=
 ⟨1,[.tmp 2,.tmp 3],
 (aB (aZ rR) (aB (aB (aD 10 12 Jh) (aB (aD 12 13 wV) (.cond (V 13) (aB (aD 14 15 wW) .ret) .skip))) (aB (aD 15 17 Ji) (aB (aD 17 21 Jj) (aB (aD 21 26 Jk) (aB (aD 26 33 Jl) (aB (aD 33 39 Jm) (aB (aB (.region [Q 8 (.mov (I 1))]) (.block 0 (.loop rU))) (aB (aD 94 99 Ju) .ret))))))))),false⟩
def Jv:List aA:=[M 4 0,Q 5 (.call .std 270 [V 4]),M 3 5]
def Jw:List aA:=[M 6 3,Q 7 (.toInt .u8 (V 6)),M 8 3,Q 9 (.arith .shr (V 8) (.cst (.int .u64 8))),Q 10 (.toInt .u8 (V 9)),M 11 3,Q 12 (.arith .shr (V 11) (.cst (.int .u64 16))),Q 13 (.toInt .u8 (V 12)),M 14 3,Q 15 (.arith .shr (V 14) (.cst (.int .u64 24))),Q 16 (.toInt .u8 (V 15)),Q 17 (.bsl false (.int .u8 0) 4 [(0,V 7),(1,V 10),(2,V 13),(3,V 16)]),M 2 17]
@[simp]def aFC:=aC Jv.eq_1<|aP Jw.eq_1
def pI:aT:=
 ⟨1,[.tmp 2],
 (aB (.region [Q 2 (.mov (.cst .nils))]) (aB (aD 4 6 Jv) (aB (aD 6 18 Jw) .ret))),false⟩
def Jx:List aA:=[M 11 0,Q 12 (.call .std 174 [V 11]),Q 13 (.call .std 135 [V 12]),M 3 13]
def Jy:List aA:=[Q 14 (.mov (.cst .und)),Q 15 (.bsl false (.int .u8 0) 4 [(0,(.cst (.int .u8 71))),(1,(.cst (.int .u8 66))),(2,(.cst (.int .u8 75))),(3,(.cst (.int .u8 49)))]),M 16 3,Q 17 (.len false (V 16)),Q 18 (.call .std 219 [V 17]),Q 19 (.app 1 1 (V 15) (V 18)),M 4 19]
def Jz:List aA:=[M 20 4,M 21 3,Q 22 (.app 1 1 (V 20) (V 21)),M 4 22]
def KA:List aA:=[M 23 5,M 24 0,Q 25 (.len false (V 24)),Q 26 (.arith .lss (V 23) (V 25))]
def KB:List aA:=[M 29 0,M 30 5,Q 31 (.iaddr 2 (V 29) (V 30)),FA 32 1 31,LD 33 32,M 6 33]
def KC:List aA:=[M 34 4,M 35 6,Q 36 (.len false (V 35)),Q 37 (.arith .add (V 36) (I 120)),Q 38 (.arith .sub (V 37) (I 1)),Q 39 (.arith .quo (V 38) (I 120)),Q 40 (.call .std 219 [V 39]),Q 41 (.app 1 1 (V 34) (V 40)),M 4 41]
def KD:List aA:=[M 42 6,Q 43 (.len false (V 42)),Q 44 (.arith .gtr (V 43) (I 0))]
def KE:List aA:=[M 45 6,Q 46 (.len false (V 45)),Q 47 (.mnmx false (I 120) (V 46)),M 7 47]
def KF:List aA:=[M 49 6,M 50 7,Q 51 (.slc 2 none (some (V 50)) (V 49)),Q 52 (.call .std 258 [V 51]),M 48 52,EX 53 0 48,EX 54 1 48,M 8 53,M 9 54]
def KG:List aA:=[M 55 4,M 56 8,Q 57 (.len false (V 56)),Q 58 (.call .std 219 [V 57]),Q 59 (.app 1 1 (V 55) (V 58)),M 60 8,Q 61 (.app 1 1 (V 59) (V 60)),M 4 61]
def KH:List aA:=[M 62 6,M 63 7,Q 64 (.slc 2 (some (V 63)) none (V 62)),M 6 64]
@[simp]def aFD:=aC Jx.eq_1<|aC Jy.eq_1<|aC Jz.eq_1<|aC KA.eq_1<|aC KB.eq_1<|aC KC.eq_1<|aC KD.eq_1<|aC KE.eq_1<|aC KF.eq_1<|aC KG.eq_1<|aP KH.eq_1
def KI:aN:=
 (aB (aB (aD 42 44 KD) (.cond (V 44) .skip (.exit 2))) (.block 3 (aB (aD 45 48 KE) (aB (.clr [(9,10),(48,55)] (aZ KF)) (aB (aD 55 62 KG) (aD 62 65 KH))))))
@[simp]def aFE:=bG KI.eq_1
def KJ:List aA:=[M 27 5,Q 28 (.arith .add (V 27) (I 1)),M 5 28]
@[simp]def aFF:=aP KJ.eq_1
def KK:aN:=
 (aB (aB (aD 23 26 KA) (.cond (V 26) .skip (.exit 0))) (aB (.block 1 (aB (aD 29 34 KB) (aB (aD 34 42 KC) (.block 2 (.loop KI))))) (aD 27 29 KJ)))
@[simp]def aFG:=bG KK.eq_1
def KL:List aA:=[M 65 4,Q 66 (.call .std 259 [V 65]),M 10 66]
def KM:List aA:=[M 67 4,M 68 10,Q 69 (.toInt .u8 (V 68)),M 70 10,Q 71 (.arith .shr (V 70) (.cst (.int .u64 8))),Q 72 (.toInt .u8 (V 71)),M 73 10,Q 74 (.arith .shr (V 73) (.cst (.int .u64 16))),Q 75 (.toInt .u8 (V 74)),M 76 10,Q 77 (.arith .shr (V 76) (.cst (.int .u64 24))),Q 78 (.toInt .u8 (V 77)),Q 79 (.bsl false (.int .u8 0) 4 [(0,V 69),(1,V 72),(2,V 75),(3,V 78)]),Q 80 (.app 1 1 (V 67) (V 79)),M 2 80]
@[simp]def aFH:=aC KL.eq_1<|aP KM.eq_1
def z33:aT:=
 ⟨1,[.tmp 2],
 (aB (.region [Q 2 (.mov (.cst .nils))]) (aB (aD 11 14 Jx) (aB (aD 14 20 Jy) (aB (aD 20 23 Jz) (aB (aB (.region [Q 5 (.mov (I 0))]) (.block 0 (.loop KK))) (aB (aD 65 67 KL) (aB (aD 67 81 KM) .ret))))))),false⟩
def KN:List aA:=[M 5 0,Q 6 (.len false (V 5)),Q 7 (.arith .eql (V 6) (I 0)),M 8 7,QG (some 9) (.mov (V 0)) 8 false,QG (some 10) (.len false (V 9)) 8 false,QG (some 11) (.arith .gtr (V 10) (I 120)) 8 false,Q 12 (.pick (V 8) cN (V 11))]
def KO:List aA:=[M 13 0,Q 14 (.len false (V 13)),Q 15 (.mov (I 0))]
def wX:List aA:=[Q 16 (.arith .lss (V 15) (V 14))]
def KP:List aA:=[M 17 15,Q 18 (.iaddr 2 (V 13) (V 15)),Q 19 (.load true 2 false (V 18)),Q 4 (.alloc false [(.int .i64 0),(.int .i64 0)]),M 3 17,QN (.store 2 (V 4) (V 19))]
def KQ:List aA:=[Q 21 (.load true 2 false (V 4)),Q 22 (.call .std 260 [V 21]),Q 23 (.un .not (V 22)),M 20 23]
def KR:List aA:=[M 25 3,Q 26 (.arith .gtr (V 25) (I 0)),M 27 26,QG (some 28) (.faddr 0 (V 4)) 27 true,QG (some 29) (.load false 1 false (V 28)) 27 true,QG (some 30) (.mov (V 0)) 27 true,QG (some 31) (.mov (V 3)) 27 true,QG (some 32) (.arith .sub (V 31) (I 1)) 27 true,QG (some 33) (.iaddr 2 (V 30) (V 32)) 27 true,QG (some 34) (.faddr 0 (V 33)) 27 true,QG (some 35) (.load false 1 true (V 34)) 27 true,QG (some 36) (.arith .leq (V 29) (V 35)) 27 true,Q 37 (.pick (V 27) (V 36) bO),M 24 37]
def KS:List aA:=[Q 38 (.arith .add (V 15) (I 1)),M 15 38]
@[simp]def aFI:=aC KN.eq_1<|aC KO.eq_1<|aC wX.eq_1<|aC KP.eq_1<|aC KQ.eq_1<|aC KR.eq_1<|aP KS.eq_1
def rV:aN:=
 (aB (aZ wX) (aB (.cond (V 16) .skip (.exit 0)) (aB (.block 1 (aB (aD 17 20 KP) (.block 2 (aB (aD 21 24 KQ) (.cond (V 20) (aB (.region [Q 2 (.mov (I 11))]) .ret) (aB (aD 25 38 KR) (.cond (V 24) (aB (.region [Q 2 (.mov (I 13))]) .ret) .skip))))))) (aD 38 39 KS))))
@[simp]def aFJ:=bG rV.eq_1
def pJ:aT:=
 ⟨1,[.tmp 2],
 (aB (.region [Q 2 (.mov (I 0))]) (aB (aB (aD 5 12 KN) (.cond (V 12) (aB (.region [Q 2 (.mov (I 2))]) .ret) .skip)) (aB (aB (aZ KO) (.block 0 (.loop rV))) (aB (.region [Q 2 (.mov (I 0))]) .ret)))),false⟩
def KT:List aA:=[M 5 4,M 6 0,Q 7 (.len false (V 6)),Q 8 (.arith .lss (V 5) (V 7))]
def KU:List aA:=[M 11 3,M 12 0,M 13 4,Q 14 (.iaddr 2 (V 12) (V 13)),FA 15 0 14,LD 16 15,Q 17 (.bsl false .nils 1 [(0,V 16)]),Q 18 (.app 1 24 (V 11) (V 17)),M 3 18]
def KV:List aA:=[M 9 4,Q 10 (.arith .add (V 9) (I 1)),M 4 10]
@[simp]def aFK:=aC KT.eq_1<|aC KU.eq_1<|aP KV.eq_1
def KW:aN:=
 (aB (aB (aD 5 8 KT) (.cond (V 8) .skip (.exit 0))) (aB (.block 1 (aD 11 19 KU)) (aD 9 11 KV)))
@[simp]def aFL:=bG KW.eq_1
def KX:List aA:=[M 19 3,M 2 19]
@[simp]def aFM:=aP KX.eq_1
def z53:aT:=
 ⟨1,[.tmp 2],
 (aB (.region [Q 2 (.mov (.cst .nils))]) (aB (.region [Q 3 (.mov (.cst .nils))]) (aB (aB (.region [Q 4 (.mov (I 0))]) (.block 0 (.loop KW))) (aB (aD 19 20 KX) .ret)))),false⟩
def KY:List aA:=[M 4 3,M 5 0,Q 6 (.len false (V 5)),Q 7 (.arith .lss (V 4) (V 6))]
def KZ:List aA:=[M 10 0,M 11 3,Q 12 (.iaddr 2 (V 10) (V 11)),Q 13 (.load true 2 false (V 12)),Q 14 (.call .std 329 [V 13]),Q 15 (.un .not (V 14))]
def Ka:List aA:=[M 16 3,Q 17 (.arith .gtr (V 16) (I 0)),M 18 17,QG (some 19) (.mov (V 0)) 18 true,QG (some 20) (.mov (V 3)) 18 true,QG (some 21) (.iaddr 2 (V 19) (V 20)) 18 true,QG (some 22) (.faddr 0 (V 21)) 18 true,QG (some 23) (.load false 1 true (V 22)) 18 true,QG (some 24) (.mov (V 0)) 18 true,QG (some 25) (.mov (V 3)) 18 true,QG (some 26) (.arith .sub (V 25) (I 1)) 18 true,QG (some 27) (.iaddr 2 (V 24) (V 26)) 18 true,QG (some 28) (.faddr 0 (V 27)) 18 true,QG (some 29) (.load false 1 true (V 28)) 18 true,QG (some 30) (.arith .leq (V 23) (V 29)) 18 true,Q 31 (.pick (V 18) (V 30) bO)]
def Kb:List aA:=[M 8 3,Q 9 (.arith .add (V 8) (I 1)),M 3 9]
@[simp]def aFN:=aC KY.eq_1<|aC KZ.eq_1<|aC Ka.eq_1<|aP Kb.eq_1
def Kc:aN:=
 (aB (aB (aD 4 7 KY) (.cond (V 7) .skip (.exit 0))) (aB (.block 1 (aB (aB (aD 10 15 KZ) (.cond (V 15) (aB (.region [Q 2 (.mov (I 11))]) .ret) .skip)) (aB (aD 16 31 Ka) (.cond (V 31) (aB (.region [Q 2 (.mov (I 13))]) .ret) .skip)))) (aD 8 10 Kb)))
@[simp]def aFO:=bG Kc.eq_1
def wY:aT:=
 ⟨1,[.tmp 2],
 (aB (.region [Q 2 (.mov (I 0))]) (aB (aB (.region [Q 3 (.mov (I 0))]) (.block 0 (.loop Kc))) (aB (.region [Q 2 (.mov (I 0))]) .ret))),false⟩
def Kd:List aA:=[Q 1 (.build [(.str []),(.str [])] [(0,1,(.cst (.str [97]))),(1,1,(.cst (.str [120])))]),Q 2 (.bsl false (.agg [(.str []),(.str [])]) 1 [(0,V 1)]),Q 3 (.build [(.int .i64 0),(.int .i64 0)] [(0,1,(I 10)),(1,1,(I 5))]),Q 4 (.bsl false (.agg [(.int .i64 0),(.int .i64 0)]) 1 [(0,V 3)]),Q 5 (.build [.nils,.nils] [(0,1,V 2),(1,1,V 4)]),Q 6 (.bsl false (.agg [.nils,.nils]) 1 [(0,V 5)]),M 0 6]
@[simp]def aFP:=aP Kd.eq_1
def wZ:aT:=
 ⟨0,[.tmp 0],
 (aB (.region [Q 0 (.mov (.cst .nils))]) (aB (aD 1 7 Kd) .ret)),false⟩
def rW:List aA:=[M 4 1,Q 5 (.un .not (V 4))]
def Ke:List aA:=[M 12 0,Q 13 (.build [.nils,(.int .i64 0),(.bool false)] [(0,1,V 12)]),Q 14 (.box false (V 13)),M 4 14]
def Kf:List aA:=[M 15 4,Q 16 (.call .std 232 [V 15,(I 4096)]),Q 17 (.mov (I 0))]
def Kg:List aA:=[M 19 5,M 20 4,Q 21 (.call .std 233 [V 20]),Q 22 (.bsl false (.str []) 1 [(0,V 21)]),Q 23 (.app 1 16 (V 19) (V 22)),M 5 23]
def Kh:List aA:=[M 24 4,bL 25 24,FA 26 2 25,LD 27 26]
def rX:List aA:=[Q 2 (.mov (.cst .nilp)),Q 3 (.mov (I 5))]
@[simp]def aFQ:=aC rW.eq_1<|aC Ke.eq_1<|aC Kf.eq_1<|aC Kg.eq_1<|aC Kh.eq_1<|aP rX.eq_1
def Ki:aN:=
 (aB (aZ vr) (aB (.cond (V 18) .skip (.exit 0)) (aB (.block 1 (aB (aD 19 24 Kg) (aB (aD 24 27 Kh) (.cond (V 27) (aB (aZ rX) .ret) .skip)))) (aD 28 29 vt))))
@[simp]def aFR:=bG Ki.eq_1
def Kj:List aA:=[M 29 4,Q 30 (.call .std 232 [V 29,(I 256)]),Q 31 (.mov (I 0))]
def Kk:List aA:=[Q 32 (.arith .lss (V 31) (V 30))]
def Kl:List aA:=[M 33 4,Q 34 (.call .std 232 [V 33,(I 8)]),Q 35 (.mov (I 0))]
def Km:List aA:=[Q 36 (.arith .lss (V 35) (V 34))]
def Kn:List aA:=[M 37 4,M 38 5,Q 39 (.len false (V 38)),Q 40 (.arith .sub (V 39) (I 1)),Q 41 (.call .std 232 [V 37,V 40]),M 42 4,M 43 5,Q 44 (.len false (V 43)),Q 45 (.arith .sub (V 44) (I 1)),Q 46 (.call .std 232 [V 42,V 45]),M 8 41,M 9 46]
def Ko:List aA:=[M 47 4,bL 48 47,FA 49 2 48,LD 50 49]
def Kp:List aA:=[M 51 7,M 52 5,M 53 8,Q 54 (.iaddr 1 (V 52) (V 53)),Q 55 (.load false 1 true (V 54)),M 56 5,M 57 9,Q 58 (.iaddr 1 (V 56) (V 57)),Q 59 (.load false 1 true (V 58)),Q 60 (.build [(.str []),(.str [])] [(0,1,V 55),(1,1,V 59)]),Q 61 (.bsl false (.agg [(.str []),(.str [])]) 1 [(0,V 60)]),Q 62 (.app 2 32 (V 51) (V 61)),M 7 62]
def Kq:List aA:=[Q 63 (.arith .add (V 35) (I 1)),M 35 63]
@[simp]def aFS:=aC Kj.eq_1<|aC Kk.eq_1<|aC Kl.eq_1<|aC Km.eq_1<|aC Kn.eq_1<|aC Ko.eq_1<|aC Kp.eq_1<|aP Kq.eq_1
def Kr:aN:=
 (aB (aZ Km) (aB (.cond (V 36) .skip (.exit 4)) (aB (.block 5 (aB (aD 37 47 Kn) (aB (aB (aD 47 50 Ko) (.cond (V 50) (aB (aZ rX) .ret) .skip)) (aD 51 63 Kp)))) (aD 63 64 Kq))))
@[simp]def aFT:=bG Kr.eq_1
def Ks:List aA:=[M 64 6,M 65 7,Q 66 (.bsl false .nils 1 [(0,V 65)]),Q 67 (.app 1 24 (V 64) (V 66)),M 6 67]
def Ku:List aA:=[Q 68 (.arith .add (V 31) (I 1)),M 31 68]
@[simp]def aFU:=aC Ks.eq_1<|aP Ku.eq_1
def Kv:aN:=
 (aB (aZ Kk) (aB (.cond (V 32) .skip (.exit 2)) (aB (.block 3 (aB (.region [Q 7 (.mov (.cst .nils))]) (aB (aB (aD 33 34 Kl) (.block 4 (.loop Kr))) (aD 64 68 Ks)))) (aD 68 69 Ku))))
@[simp]def aFV:=bG Kv.eq_1
def Kw:List aA:=[M 70 6,Q 71 (.call .std 51 [V 70]),M 69 71,EX 72 0 69,EX 73 1 69,M 10 72,M 11 73]
def Kx:List aA:=[M 74 4,bL 75 74,FA 76 2 75,LD 77 76,M 78 77,QG (some 79) (.mov (V 11)) 78 false,QG (some 80) (.arith .neq (V 79) (I 0)) 78 false,Q 81 (.pick (V 78) cN (V 80)),M 82 81,QG (some 83) (.mov (V 10)) 82 false,QG (some 84) (.call .std 134 [V 83]) 82 false,QG (some 85) (.toStr (V 84)) 82 false,QG (some 86) (.mov (V 0)) 82 false,QG (some 87) (.toStr (V 86)) 82 false,QG (some 88) (.arith .neq (V 85) (V 87)) 82 false,Q 89 (.pick (V 82) cN (V 88))]
def Ky:List aA:=[M 90 10,M 2 90,Q 3 (.mov (I 0))]
@[simp]def aFW:=aC Kw.eq_1<|aC Kx.eq_1<|aP Ky.eq_1
def wa:aT:=
 ⟨1,[.tmp 2,.tmp 3],
 (aB (aZ wD) (aB (aD 12 15 Ke) (aB (.region [Q 5 (.mov (.cst .nils))]) (aB (aB (aD 15 16 Kf) (.block 0 (.loop Ki))) (aB (.region [Q 6 (.mov (.cst .nils))]) (aB (aB (aD 29 30 Kj) (.block 2 (.loop Kv))) (aB (aD 69 74 Kw) (aB (aB (aD 74 89 Kx) (.cond (V 89) (aB (aZ rX) .ret) .skip)) (aB (aD 90 91 Ky) .ret))))))))),false⟩
def Kz:List aA:=[Q 2 (.mov (.cst .nils))]
def LA:List aA:=[M 20 0,bL 21 20,FA 22 1 21,LD 23 22,M 24 3,Q 25 (.arith .add (V 23) (V 24)),bL 26 20,FA 27 1 26,QN (.store 1 (V 27) (V 25))]
def LB:List aA:=[M 28 0,bL 29 28,FA 30 0 29,LD 31 30,M 32 0,bL 33 32,FA 34 1 33,LD 35 34,M 36 3,Q 37 (.arith .sub (V 35) (V 36)),M 38 0,bL 39 38,FA 40 1 39,LD 41 40,Q 42 (.slc 1 (some (V 37)) (some (V 41)) (V 31)),M 2 42]
def LC:List aA:=[M 3 0,Q 4 (.eqn false .p (V 3))]
def LE:List aA:=[M 5 0,bL 6 5,FA 7 0 6,LD 8 7,Q 9 (.len false (V 8)),M 2 9]
@[simp]def aFX:=aC Kz.eq_1<|aC LA.eq_1<|aC LB.eq_1<|aC LC.eq_1<|aP LE.eq_1
def wb:aT:=
 ⟨1,[.tmp 2],
 (aB (.region [Q 2 (.mov (I 0))]) (aB (aB (aD 3 4 LC) (.cond (V 4) (aB (.region [Q 2 (.mov (I 0))]) .ret) .skip)) (aB (aD 5 10 LE) .ret))),false⟩
def LF:List aA:=[Q 2 (.mov (.cst .nils))]
def LG:List aA:=[Q 4 (.mov (.cst .nils))]
def LH:List aA:=[Q 5 (.mov (I (-1)))]
def LI:List aA:=[M 19 3,Q 20 (.mov (I 0))]
def LJ:List aA:=[Q 21 (.arith .lss (V 20) (V 19))]
def LK:List aA:=[M 22 20,M 6 22]
def LL:List aA:=[Q 8 (.mov (I 0))]
def LM:List aA:=[FA 28 0 7,LD 29 28,Q 30 (.call .std 272 [V 29]),M 27 30,EX 31 0 27,EX 32 1 27,EX 33 2 27,EX 34 3 27,FA 35 1 7,QN (.store 1 (V 35) (V 31)),FA 36 2 7,QN (.store 1 (V 36) (V 32)),FA 37 3 7,QN (.store 1 (V 37) (V 33)),M 8 34]
def LN:List aA:=[FA 59 3 7,LD 60 59,M 5 60]
def LO:List aA:=[M 61 4,Q 62 (.load true 4 false (V 7)),Q 63 (.bsl false (.agg [.nils,(.int .i64 0),(.int .i64 0),(.int .i64 0)]) 1 [(0,V 62)]),Q 64 (.app 4 48 (V 61) (V 63)),M 4 64]
def LP:List aA:=[Q 65 (.arith .add (V 20) (I 1)),M 20 65]
def LQ:List aA:=[M 66 4,M 2 66]
def LR:List aA:=[M 8 0,Q 9 (.eqn true .p (V 8))]
def LS:List aA:=[M 10 0,bL 11 10,FA 12 1 11,LD 13 12,Q 14 (.len false (V 13)),Q 15 (.mov (I 0))]
def LT:List aA:=[Q 17 (.iaddr 1 (V 13) (V 15)),LD 18 17,M 5 18]
def LU:List aA:=[M 19 5,Q 20 (.len false (V 19)),Q 21 (.mov (I 0))]
def LV:List aA:=[Q 22 (.arith .lss (V 21) (V 20))]
def LW:List aA:=[Q 23 (.iaddr 4 (V 19) (V 21)),Q 24 (.load true 4 false (V 23)),Q 7 (.alloc false [.nils,(.int .i64 0),(.int .i64 0),(.int .i64 0)]),QN (.store 4 (V 7) (V 24))]
def LX:List aA:=[M 25 3,FA 26 1 7,LD 27 26,Q 28 (.arith .add (V 25) (V 27)),M 3 28]
def LY:List aA:=[Q 29 (.arith .add (V 21) (I 1)),M 21 29]
@[simp]def aFY:=aC LF.eq_1<|aC LG.eq_1<|aC LH.eq_1<|aC LI.eq_1<|aC LJ.eq_1<|aC LK.eq_1<|aC LL.eq_1<|aC LM.eq_1<|aC LN.eq_1<|aC LO.eq_1<|aC LP.eq_1<|aC LQ.eq_1<|aC LR.eq_1<|aC LS.eq_1<|aC LT.eq_1<|aC LU.eq_1<|aC LV.eq_1<|aC LW.eq_1<|aC LX.eq_1<|aP LY.eq_1
def LZ:aN:=
 (aB (aZ LV) (aB (.cond (V 22) .skip (.exit 2)) (aB (.block 3 (aB (aD 23 25 LW) (aD 25 29 LX))) (aD 29 30 LY))))
@[simp]def aFZ:=bG LZ.eq_1
def La:List aA:=[Q 30 (.arith .add (V 15) (I 1)),M 15 30]
@[simp]def aF0:=aP La.eq_1
def Lb:aN:=
 (aB (aZ wX) (aB (.cond (V 16) .skip (.exit 0)) (aB (.block 1 (aB (aD 17 19 LT) (aB (aZ LU) (.block 2 (.loop LZ))))) (aD 30 31 La))))
@[simp]def aF1:=bG Lb.eq_1
def we:List aA:=[M 31 3,M 2 31]
@[simp]def aF2:=aP we.eq_1
def wg:aT:=
 ⟨1,[.tmp 2],
 (aB (.region [Q 2 (.mov (I 0))]) (aB (.region [Q 3 (.mov (I 0))]) (aB (aB (aD 8 9 LR) (.cond (V 9) (aB (aD 10 13 LS) (.block 0 (.loop Lb))) .skip)) (aB (aD 31 32 we) .ret)))),false⟩
def Lc:List aA:=[M 8 1,Q 9 (.call .std 171 [V 8]),Q 10 (.call .std 155 [V 9]),M 7 10,EX 11 0 7,EX 12 1 7,M 5 11,M 6 12]
def Ld:List aA:=[M 13 6,Q 14 (.arith .eql (V 13) (I 0)),M 15 14,QG (some 16) (.mov (V 5)) 15 true,QG (some 17) (.mov (V 5)) 15 true,QG (some 18) (.len false (V 17)) 15 true,QG (some 19) (.arith .sub (V 18) (I 4)) 15 true,QG (some 20) (.slc 1 none (some (V 19)) (V 16)) 15 true,QG (some 21) (.toStr (V 20)) 15 true,QG (some 22) (.mov (V 0)) 15 true,QG (some 23) (.nilck (V 22)) 15 true,QG (some 24) (.faddr 0 (V 23)) 15 true,QG (some 25) (.load false 1 false (V 24)) 15 true,QG (some 26) (.toStr (V 25)) 15 true,QG (some 27) (.arith .eql (V 21) (V 26)) 15 true,Q 28 (.pick (V 15) (V 27) bO),M 4 28]
@[simp]def aF3:=aC Lc.eq_1<|aP Ld.eq_1
def z1:aT:=
 ⟨2,[.tmp 4],
 (aB (.region [Q 4 (.mov bO)]) (aB (aD 7 13 Lc) (aB (aD 13 29 Ld) .ret))),false⟩
def Lf:List aA:=[M 6 0,Q 7 (.eqn false .p (V 6))]
def wh:List aA:=[Q 4 (.mov (.cst .nils)),Q 5 (.mov (I 1))]
def Lg:List aA:=[M 8 0,bL 9 8,FA 10 0 9,LD 11 10,M 12 1,Q 13 (.call .std 55 [V 11,V 12]),EX 14 0 13,EX 15 1 13,M 4 14,M 5 15]
@[simp]def aF4:=aC Lf.eq_1<|aC wh.eq_1<|aP Lg.eq_1
def z3:aT:=
 ⟨2,[.tmp 4,.tmp 5],
 (aB (aZ pH) (aB (aB (aD 6 7 Lf) (.cond (V 7) (aB (aZ wh) .ret) .skip)) (aB (aD 8 16 Lg) .ret))),false⟩
def Lh:List aA:=[Q 2 (.alloc false [.nils]),Q 3 (.alloc false [(.int .i64 0)])]
def Li:List aA:=[M 13 0,M 14 0,Q 15 (.len false (V 14)),Q 16 (.arith .mul (I 8) (V 15)),Q 17 (.build [.nils,(.int .i64 0)] [(0,1,V 13),(1,1,V 16)]),Q 18 (.build [.nils,(.int .i64 0),(.int .i64 0)] [(0,2,V 17)]),Q 19 (.box false (V 18)),M 4 19]
def Lj:List aA:=[M 20 4,Q 21 (.mkbfn 336 [V 20]),M 22 4,Q 23 (.mkbfn 337 [V 22]),M 5 21,M 6 23]
def Lk:List aA:=[M 26 7,Q 27 (.arith .lss (V 26) (.cst (.int .u64 1))),M 28 27,QG (some 29) (.mov (V 7)) 28 false,QG (some 30) (.arith .gtr (V 29) (.cst (.int .u64 120))) 28 false,Q 31 (.pick (V 28) cN (V 30))]
def Ll:List aA:=[QN (.store 1 (V 2) (.cst .nils)),QN (.store 1 (V 3) (I 5))]
def Lm:List aA:=[Q 8 (.mov (I 0))]
def Ln:List aA:=[M 32 7,Q 33 (.toInt .i64 (V 32)),Q 34 (.mov (I 0))]
def Lo:List aA:=[Q 35 (.arith .lss (V 34) (V 33))]
def Lp:List aA:=[M 36 34,M 9 36]
def Lq:List aA:=[Q 10 (.alloc false [(.int .i64 0),(.int .i64 0)])]
def Lr:List aA:=[M 37 9]
def Ls:List aA:=[Q 52 (.arith .eql (V 37) (I 0)),M 51 52]
def Lt:List aA:=[Q 57 (.arith .eql (V 37) (I 1)),M 56 57]
def Lu:List aA:=[LD 60 2,Q 61 (.iaddr 2 (V 60) (I 0)),FA 62 0 61,LD 63 62,M 64 8,Q 65 (.arith .add (V 63) (V 64)),FA 66 0 10,QN (.store 1 (V 66) (V 65))]
def Lv:List aA:=[LD 42 2,M 43 9,Q 44 (.arith .sub (V 43) (I 1)),Q 45 (.iaddr 2 (V 42) (V 44)),FA 46 0 45,LD 47 46,M 48 8,Q 49 (.arith .add (V 47) (V 48)),FA 50 0 10,QN (.store 1 (V 50) (V 49))]
def Lw:List aA:=[M 70 9,Q 71 (.arith .gtr (V 70) (I 0))]
def Lx:List aA:=[FA 72 1 10,LD 73 72,LD 74 2,M 75 9,Q 76 (.arith .sub (V 75) (I 1)),Q 77 (.iaddr 2 (V 74) (V 76)),FA 78 1 77,Q 79 (.load false 1 true (V 78)),Q 80 (.arith .add (V 73) (V 79)),FA 81 1 10,QN (.store 1 (V 81) (V 80))]
def Ly:List aA:=[Q 82 (.load true 2 false (V 10)),Q 83 (.call .std 260 [V 82]),Q 84 (.un .not (V 83)),M 85 84,QG (some 86) (.mov (V 9)) 85 false,QG (some 87) (.arith .gtr (V 86) (I 0)) 85 false,QG (some 88) (.mov (V 87)) 85 false,QG (some 89) (.mov (V 8)) 88 true,QG (some 90) (.arith .lss (V 89) (I 1)) 88 true,QG (some 91) (.pick (V 88) (V 90) bO) 85 false,Q 92 (.pick (V 85) cN (V 91))]
def Lz:List aA:=[QN (.store 1 (V 2) (.cst .nils)),QN (.store 1 (V 3) (I 5))]
def MA:List aA:=[LD 93 2,Q 94 (.load true 2 false (V 10)),Q 95 (.bsl false (.agg [(.int .i64 0),(.int .i64 0)]) 1 [(0,V 94)]),Q 96 (.app 2 16 (V 93) (V 95)),QN (.store 1 (V 2) (V 96))]
def MB:List aA:=[Q 97 (.arith .add (V 34) (I 1)),M 34 97]
def MC:List aA:=[M 98 4,bL 99 98,FA 100 0 99,FA 101 1 100,LD 102 101,M 103 4,bL 104 103,FA 105 2 104,LD 106 105,Q 107 (.arith .sub (V 102) (V 106)),M 11 107]
def MD:List aA:=[M 108 11,Q 109 (.arith .gtr (V 108) (I 7)),M 110 109,QG (some 111) (.mov (V 11)) 110 false,QG (some 112) (.arith .gtr (V 111) (I 0)) 110 false,QG (some 113) (.mov (V 112)) 110 false,QG (some 114) (.mov (V 0)) 113 true,QG (some 115) (.mov (V 0)) 113 true,QG (some 116) (.len false (V 115)) 113 true,QG (some 117) (.arith .sub (V 116) (I 1)) 113 true,QG (some 118) (.iaddr 1 (V 114) (V 117)) 113 true,QG (some 119) (.load false 1 false (V 118)) 113 true,QG (some 120) (.mov (V 11)) 113 true,QG (some 121) (.arith .sub (I 8) (V 120)) 113 true,QG (some 122) (.arith .shl (V 119) (V 121)) 113 true,QG (some 123) (.arith .neq (V 122) (.cst (.int .u8 0))) 113 true,QG (some 124) (.pick (V 113) (V 123) bO) 110 false,Q 125 (.pick (V 110) cN (V 124))]
def ME:List aA:=[QN (.store 1 (V 2) (.cst .nils)),QN (.store 1 (V 3) (I 5))]
@[simp]def aF5:=aC Lh.eq_1<|aC Li.eq_1<|aC Lj.eq_1<|aC Lk.eq_1<|aC Ll.eq_1<|aC Lm.eq_1<|aC Ln.eq_1<|aC Lo.eq_1<|aC Lp.eq_1<|aC Lq.eq_1<|aC Lr.eq_1<|aC Ls.eq_1<|aC Lt.eq_1<|aC Lu.eq_1<|aC Lv.eq_1<|aC Lw.eq_1<|aC Lx.eq_1<|aC Ly.eq_1<|aC Lz.eq_1<|aC MA.eq_1<|aC MB.eq_1<|aC MC.eq_1<|aC MD.eq_1<|aP ME.eq_1
def MF:List aA:=[LD 126 2,QN (.store 1 (V 2) (V 126)),QN (.store 1 (V 3) (I 0))]
def MG:List aA:=[M 5 0,Q 6 (.len false (V 5)),Q 7 (.arith .gtr (V 6) (I 8))]
def wi:List aA:=[M 8 0,Q 9 (.len false (V 8)),Q 10 (.mov (I 0))]
def MH:List aA:=[M 12 10,Q 13 (.iaddr 2 (V 8) (V 10)),Q 14 (.load true 2 false (V 13)),Q 4 (.alloc false [(.str []),(.str [])]),M 3 12,QN (.store 2 (V 4) (V 14))]
def MI:List aA:=[FA 16 0 4,LD 17 16,Q 18 (.call .pur 121 [V 17]),Q 19 (.un .not (V 18)),M 15 19]
def MJ:List aA:=[FA 21 1 4,LD 22 21,Q 23 (.arith .eql (V 22) (.cst (.str []))),M 20 23]
def MK:List aA:=[FA 25 1 4,LD 26 25,Q 27 (.len true (V 26)),Q 28 (.arith .gtr (V 27) (I 64)),M 24 28]
def ML:List aA:=[M 30 3,Q 31 (.arith .gtr (V 30) (I 0)),M 32 31,QG (some 33) (.faddr 0 (V 4)) 32 true,QG (some 34) (.load false 1 false (V 33)) 32 true,QG (some 35) (.mov (V 0)) 32 true,QG (some 36) (.mov (V 3)) 32 true,QG (some 37) (.arith .sub (V 36) (I 1)) 32 true,QG (some 38) (.iaddr 2 (V 35) (V 37)) 32 true,QG (some 39) (.faddr 0 (V 38)) 32 true,QG (some 40) (.load false 1 true (V 39)) 32 true,QG (some 41) (.arith .leq (V 34) (V 40)) 32 true,Q 42 (.pick (V 32) (V 41) bO),M 29 42]
def MM:List aA:=[Q 43 (.arith .add (V 10) (I 1)),M 10 43]
@[simp]def aF6:=aC MF.eq_1<|aC MG.eq_1<|aC wi.eq_1<|aC MH.eq_1<|aC MI.eq_1<|aC MJ.eq_1<|aC MK.eq_1<|aC ML.eq_1<|aP MM.eq_1
def rY:aN:=
 (aB (.region [Q 11 (.arith .lss (V 10) (V 9))]) (aB (.cond (V 11) .skip (.exit 0)) (aB (.block 1 (aB (aD 12 15 MH) (.block 2 (aB (aD 16 20 MI) (.cond (V 15) (aB (.region [Q 2 (.mov (I 8))]) .ret) (aB (aD 21 24 MJ) (.cond (V 20) (aB (.region [Q 2 (.mov (I 2))]) .ret) (aB (aD 25 29 MK) (.cond (V 24) (aB (.region [Q 2 (.mov (I 3))]) .ret) (aB (aD 30 43 ML) (.cond (V 29) (aB (.region [Q 2 (.mov (I 13))]) .ret) .skip))))))))))) (aD 43 44 MM))))
@[simp]def aF7:=bG rY.eq_1
def z46:aT:=
 ⟨1,[.tmp 2],
 (aB (.region [Q 2 (.mov (I 0))]) (aB (aB (aD 5 7 MG) (.cond (V 7) (aB (.region [Q 2 (.mov (I 3))]) .ret) .skip)) (aB (aB (aZ wi) (.block 0 (.loop rY))) (aB (.region [Q 2 (.mov (I 0))]) .ret)))),false⟩
def MN:List aA:=[M 5 0,M 6 1,Q 7 (.call .std 103 [V 5,V 6,(.cst (.fn 104 []))]),M 4 7]
@[simp]def aF8:=aP MN.eq_1
def pK:aT:=
 ⟨2,[.tmp 4],
 (aB (.region [Q 4 (.mov (I 0))]) (aB (aD 5 8 MN) .ret)),false⟩
def wj:List aA:=[M 3 0,Q 4 (.eqn false .s (V 3))]
def MO:List aA:=[Q 5 (.emp0),M 6 0,Q 7 (.gapp 2 32 (V 5) (V 6)),M 2 7]
@[simp]def aF9:=aC wj.eq_1<|aP MO.eq_1
def z5:aT:=
 ⟨1,[.tmp 2],
 (aB (.region [Q 2 (.mov (.cst .nils))]) (aB (aB (aD 3 4 wj) (.cond (V 4) (aB (.region [Q 2 (.mov (.cst .nils))]) .ret) .skip)) (aB (aD 5 8 MO) .ret))),false⟩
def MP:List aA:=[M 5 0,Q 6 (.len false (V 5)),M 7 1,Q 8 (.arith .add (V 6) (V 7)),Q 9 (.mks 1 1 (V 8)),M 10 0,Q 11 (.app 1 1 (V 9) (V 10)),M 4 11]
@[simp]def aGa:=aP MP.eq_1
def pL:aT:=
 ⟨2,[.tmp 4],
 (aB (.region [Q 4 (.mov (.cst .nils))]) (aB (aD 5 12 MP) .ret)),true⟩
def wk:List aA:=[Q 2 (.mov (.cst .nils)),Q 3 (.mov (.cst .nilm))]
def wl:List aA:=[Q 9 (.mkm),M 4 9]
def wm:List aA:=[M 25 4,Q 26 (.call .std 314 [V 25]),Q 27 (.call .std 199 [V 26]),M 6 27]
def wn:List aA:=[M 28 6,Q 29 (.len false (V 28)),Q 30 (.mov (I 0))]
def MQ:List aA:=[Q 31 (.arith .lss (V 30) (V 29))]
def MS:List aA:=[M 32 30,Q 33 (.iaddr 1 (V 28) (V 30)),LD 34 33,M 7 32,M 8 34]
def MT:List aA:=[M 35 4,M 36 8,M 37 7,QN (.mset true (V 35) (V 36) (V 37))]
def MU:List aA:=[Q 38 (.arith .add (V 30) (I 1)),M 30 38]
@[simp]def aGb:=aC wk.eq_1<|aC wl.eq_1<|aC wm.eq_1<|aC wn.eq_1<|aC MQ.eq_1<|aC MS.eq_1<|aC MT.eq_1<|aP MU.eq_1
def wo:aN:=
 (aB (aZ MQ) (aB (.cond (V 31) .skip (.exit 2)) (aB (.block 3 (aB (aD 32 35 MS) (aD 35 38 MT))) (aD 38 39 MU))))
@[simp]def aGc:=bG wo.eq_1
def wq:List aA:=[M 39 6,M 40 4,M 2 39,M 3 40]
def MV:List aA:=[M 8 1,Q 9 (.len true (V 8)),Q 10 (.arith .gtr (V 9) (I 65535))]
def MW:List aA:=[Q 4 (.mov (.cst .nils)),Q 5 (.mov (I 3))]
def MX:List aA:=[M 12 0,M 13 1,Q 14 (.len true (V 13)),Q 15 (.call .std 107 [V 12,V 14]),M 11 15,EX 16 0 11,EX 17 1 11,M 6 16,M 7 17]
def MY:List aA:=[M 18 6,M 19 1,Q 20 (.app 1 1 (V 18) (V 19)),M 4 20,Q 5 (.mov (I 0))]
@[simp]def aGd:=aC wq.eq_1<|aC MV.eq_1<|aC MW.eq_1<|aC MX.eq_1<|aP MY.eq_1
def z24:aT:=
 ⟨2,[.tmp 4,.tmp 5],
 (aB (aZ pH) (aB (aB (aD 8 10 MV) (.cond (V 10) (aB (aZ MW) .ret) .skip)) (aB (.clr [(7,8),(11,18)] (aZ MX)) (aB (aD 18 21 MY) .ret)))),true⟩
def MZ:List aA:=[M 5 0,M 6 0,bL 7 6,FA 8 0 7,Q 9 (.load true 2 false (V 8)),M 10 1,Q 11 (.call .std 377 [V 9,V 10]),M 4 11,EX 12 0 4,EX 13 1 4,bL 14 5,FA 15 0 14,QN (.store 2 (V 15) (V 12))]
@[simp]def aGe:=aP MZ.eq_1
def pM:aT:=
 ⟨2,[],
 (aD 4 16 MZ),false⟩
def Ma:List aA:=[M 4 0,M 5 1,Q 6 (.call .pur 378 [V 5]),Q 7 (.call .std 333 [V 4,V 6])]
@[simp]def aGf:=aP Ma.eq_1
def z2:aT:=
 ⟨2,[],
 (aD 4 8 Ma),false⟩
end Ps
