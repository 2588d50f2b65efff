/- The functions' code, as the pure semantics has it: printed by program. -/
import Derived.Test.YtpjmpaidcidjgaaGreatDoorWalkKw
namespace Ps
open Go
set_option maxRecDepth 10000
set_option linter.defProp false
variable (T : aQ) (K : List Kt) (fr : Fr) (S : St)
def EN:List aB:=[Q 6 (.mov (.cst .nili)),M 2 6]
def EO:List aB:=[M 7 2,Q 8 (.eqn false .i (V 7))]
def EP:List aB:=[Q 3 (.alloc false [(.int .i64 0)])]
def EQ:List aB:=[M 10 2,Q 11 (.asrI [3,2] (V 10)),M 9 11,EX 12 0 9,EX 13 1 9,M 4 12,M 5 13]
def ER:List aB:=[M 14 5,M 15 14,QG (some 16) (.mov (V 4)) 15 true,QG (some 17) (.mkif 2 (V 3)) 15 true,QG (some 18) (.call .std 159 [V 16,V 17]) 15 true,Q 19 (.pick (V 15) (V 18) bG)]
def ES:List aB:=[QN (.store 1 (V 0) (.cst .nilp)),QN (.store 1 (V 1) (I 5))]
def ET:List aB:=[M 20 2,QN (.bad)]
def EU:List aB:=[Q 5 (.mov (.cst .nili)),M 2 5]
def EV:List aB:=[M 6 2,Q 7 (.eqn true .i (V 6))]
def EW:List aB:=[M 9 2,Q 10 (.assert 11 true (.agg []) (V 9)),M 8 10,EX 11 0 8,EX 12 1 8,Q 3 (.alloc false []),QN (.store 0 (V 3) (V 11)),M 4 12]
def EY:List aB:=[M 13 4,Q 14 (.un .not (V 13))]
def EZ:List aB:=[M 15 2,QN (.bad)]
def Ea:List aB:=[QN (.store 1 (V 0) (.cst .nils)),QN (.store 1 (V 1) (I 5))]
def sy:List aB:=[Q 2 (.mov bG)]
def tA:List aB:=[M 8 0,Q 9 (.call .std 460 [V 8]),M 3 9]
def tB:List aB:=[M 11 3,Q 12 (.call .std 155 [V 11]),M 10 12,EX 13 0 10,EX 14 1 10,M 4 13,M 5 14]
def tC:List aB:=[M 16 0,Q 17 (.call .std 63 [V 16]),M 15 17,EX 18 0 15,EX 19 1 15,M 6 18,M 7 19]
def Eb:List aB:=[M 20 3,Q 21 (.call .std 64 [V 20]),M 22 0,Q 23 (.call .std 151 [V 22]),Q 24 (.arith .eql (V 21) (V 23)),M 25 24,QG (some 26) (.mov (V 4)) 25 true,QG (some 27) (.toStr (V 26)) 25 true,QG (some 28) (.mov (V 6)) 25 true,QG (some 29) (.toStr (V 28)) 25 true,QG (some 30) (.arith .eql (V 27) (V 29)) 25 true,Q 31 (.pick (V 25) (V 30) bG),M 32 31,QG (some 33) (.mov (V 5)) 32 true,QG (some 34) (.mov (V 7)) 32 true,QG (some 35) (.arith .eql (V 33) (V 34)) 32 true,Q 36 (.pick (V 32) (V 35) bG),M 37 36,QG (some 38) (.mov (V 3)) 37 true,QG (some 39) (.mov (V 0)) 37 true,QG (some 40) (.call .std 170 [V 38,V 39]) 37 true,Q 41 (.pick (V 37) (V 40) bG),M 42 41,QG (some 43) (.call .pur 65 []) 42 true,Q 44 (.pick (V 42) (V 43) bG),M 2 44]
@[simp]def aHl:=aC EN.eq_1<|aC EO.eq_1<|aC EP.eq_1<|aC EQ.eq_1<|aC ER.eq_1<|aC ES.eq_1<|aC ET.eq_1<|aC EU.eq_1<|aC EV.eq_1<|aC EW.eq_1<|aC EY.eq_1<|aC EZ.eq_1<|aC Ea.eq_1<|aC sy.eq_1<|aC tA.eq_1<|aC tB.eq_1<|aC tC.eq_1<|aP Eb.eq_1
def z9:aU:=
 ⟨1,[.tmp 2],
 (aA (ai sy) (aA (aD 8 10 tA) (aA (aD 10 15 tB) (aA (aD 15 20 tC) (aA (aD 20 45 Eb) .ret))))),false⟩
def wm:List aB:=[M 5 4,M 6 0,Q 7 (.len false (V 6)),Q 8 (.arith .lss (V 5) (V 7))]
def Ec:List aB:=[M 11 3,Q 12 (.bsl false (.agg [(.str []),(.str [])]) 0 []),M 13 0,M 14 4,Q 15 (.iaddr 2 (V 13) (V 14)),FA 16 0 15,Q 17 (.load false 1 true (V 16)),Q 18 (.app 2 32 (V 12) (V 17)),Q 19 (.emp0),M 20 0,M 21 4,Q 22 (.iaddr 2 (V 20) (V 21)),FA 23 1 22,Q 24 (.load false 1 true (V 23)),Q 25 (.app 2 16 (V 19) (V 24)),Q 26 (.build [.nils,.nils] [(0,1,V 18),(1,1,V 25)]),Q 27 (.bsl false (.agg [.nils,.nils]) 1 [(0,V 26)]),Q 28 (.app 2 48 (V 11) (V 27)),M 3 28]
def wn:List aB:=[M 9 4,Q 10 (.arith .add (V 9) (I 1)),M 4 10]
@[simp]def aHm:=aC wm.eq_1<|aC Ec.eq_1<|aP wn.eq_1
def Ed:aL:=
 (aA (aA (aD 5 8 wm) (.cond (V 8) .skip (.exit 0))) (aA (.block 1 (aD 11 29 Ec)) (aD 9 11 wn)))
@[simp]def aHn:=bL Ed.eq_1
def Ee:List aB:=[M 29 3,M 2 29]
@[simp]def aHo:=aP Ee.eq_1
def kK:aU:=
 ⟨1,[.tmp 2],
 (aA (.region [Q 2 (.mov (.cst .nils))]) (aA (.region [Q 3 (.mov (.cst .nils))]) (aA (aA (.region [Q 4 (.mov (I 0))]) (.block 0 (.loop Ed))) (aA (aD 29 30 Ee) .ret)))),false⟩
def qC:List aB:=[Q 2 (.mov (.cst .nils)),Q 3 (.mov (I 0))]
def Ef:List aB:=[M 17 0,Q 18 (.call .std 64 [V 17]),M 4 18]
def wo:List aB:=[M 19 4,Q 20 (.arith .neq (V 19) (I 0))]
def Eg:List aB:=[M 21 4,Q 2 (.mov (.cst .nils)),M 3 21]
def Eh:List aB:=[M 23 0,Q 24 (.call .std 153 [V 23]),Q 25 (.call .std 51 [V 24]),M 22 25,EX 26 0 22,EX 27 1 22,M 5 26,M 6 27]
def Ei:List aB:=[Q 28 (.mov (.cst .und)),Q 29 (.bsl false (.int .u8 0) 4 [(0,(.cst (.int .u8 71))),(1,(.cst (.int .u8 66))),(2,(.cst (.int .u8 75))),(3,(.cst (.int .u8 49)))]),Q 7 (.alloc false [.nils]),QN (.store 1 (V 7) (V 29))]
def Ej:List aB:=[Q 30 (.mkfn 261 [V 7]),Q 8 (.alloc false [.nilf]),QN (.store 1 (V 8) (V 30))]
def Ek:List aB:=[Q 31 (.mkfn 262 [V 8,V 7]),M 9 31]
def El:List aB:=[M 32 9,M 33 5,Q 34 (.call .std 134 [V 33]),Q 35 (.callv .std (V 32) [V 34])]
def Em:List aB:=[M 36 0,Q 37 (.len false (V 36)),Q 38 (.mov (I 0))]
def wq:List aB:=[Q 39 (.arith .lss (V 38) (V 37))]
def En:List aB:=[Q 40 (.iaddr 2 (V 36) (V 38)),Q 41 (.load true 2 false (V 40)),Q 11 (.alloc false [.nils,.nils]),QN (.store 2 (V 11) (V 41))]
def Eo:List aB:=[FA 42 1 11,LD 43 42,Q 44 (.call .std 263 [V 43]),M 12 44]
def Ep:List aB:=[LD 45 8,M 46 12,Q 47 (.len false (V 46)),Q 48 (.callv .std (V 45) [V 47])]
def Eq:List aB:=[M 49 12,Q 50 (.len false (V 49)),Q 51 (.mov (I 0))]
def wr:List aB:=[Q 52 (.arith .lss (V 51) (V 50))]
def Er:List aB:=[Q 53 (.iaddr 1 (V 49) (V 51)),LD 54 53,M 14 54]
def Es:List aB:=[M 56 14,Q 57 (.call .std 264 [V 56]),M 55 57,EX 58 0 55,EX 59 1 55,M 15 58,M 16 59]
def Et:List aB:=[M 60 9,M 61 15,Q 62 (.callv .std (V 60) [V 61])]
def Eu:List aB:=[Q 63 (.arith .add (V 51) (I 1)),M 51 63]
@[simp]def aHp:=aC qC.eq_1<|aC Ef.eq_1<|aC wo.eq_1<|aC Eg.eq_1<|aC Eh.eq_1<|aC Ei.eq_1<|aC Ej.eq_1<|aC Ek.eq_1<|aC El.eq_1<|aC Em.eq_1<|aC wq.eq_1<|aC En.eq_1<|aC Eo.eq_1<|aC Ep.eq_1<|aC Eq.eq_1<|aC wr.eq_1<|aC Er.eq_1<|aC Es.eq_1<|aC Et.eq_1<|aP Eu.eq_1
def wu:aL:=
 (aA (ai wr) (aA (.cond (V 52) .skip (.exit 2)) (aA (.block 3 (aA (aD 53 55 Er) (aA (.clr [(16,17),(55,60)] (ai Es)) (aD 60 63 Et)))) (aD 63 64 Eu))))
@[simp]def aHq:=bL wu.eq_1
def Ev:List aB:=[Q 64 (.arith .add (V 38) (I 1)),M 38 64]
@[simp]def aHr:=aP Ev.eq_1
def wv:aL:=
 (aA (ai wq) (aA (.cond (V 39) .skip (.exit 0)) (aA (.block 1 (aA (aD 40 42 En) (aA (aD 42 45 Eo) (aA (aD 45 49 Ep) (aA (ai Eq) (.block 2 (.loop wu))))))) (aD 64 65 Ev))))
@[simp]def aHs:=bL wv.eq_1
def Ew:List aB:=[LD 65 7,LD 66 7,Q 67 (.call .keep 161 [V 66]),Q 68 (.app 1 1 (V 65) (V 67)),M 2 68,Q 3 (.mov (I 0))]
@[simp]def aHt:=aP Ew.eq_1
def z53:aU:=
 ⟨1,[.tmp 2,.tmp 3],
 (aA (ai qC) (aA (aA (aD 17 19 Ef) (aA (aD 19 20 wo) (.cond (V 20) (aA (aD 21 22 Eg) .ret) .skip))) (aA (.clr [(6,7),(22,28)] (ai Eh)) (aA (aD 28 30 Ei) (aA (aD 30 31 Ej) (aA (aD 31 32 Ek) (aA (aD 32 36 El) (aA (aA (ai Em) (.block 0 (.loop wv))) (aA (aD 65 69 Ew) .ret))))))))),false⟩
def Ey:List aB:=[M 5 0,Q 6 (.call .std 151 [V 5]),M 4 6]
def Ez:List aB:=[M 7 4,Q 8 (.arith .neq (V 7) (I 0))]
def FB:List aB:=[M 9 4,Q 2 (.mov (.cst .nils)),M 3 9]
def FC:List aB:=[M 10 0,Q 11 (.call .std 152 [V 10]),M 2 11,Q 3 (.mov (I 0))]
@[simp]def aHu:=aC Ey.eq_1<|aC Ez.eq_1<|aC FB.eq_1<|aP FC.eq_1
def z46:aU:=
 ⟨1,[.tmp 2,.tmp 3],
 (aA (ai qC) (aA (aA (aD 5 7 Ey) (aA (aD 7 8 Ez) (.cond (V 8) (aA (aD 9 10 FB) .ret) .skip))) (aA (aD 10 12 FC) .ret))),false⟩
def FD:List aB:=[M 12 0,Q 13 (.len false (V 12)),Q 14 (.arith .gtr (V 13) (I 256))]
def FE:List aB:=[M 15 0,Q 16 (.len false (V 15)),Q 17 (.mov (I 0))]
def ww:List aB:=[Q 18 (.arith .lss (V 17) (V 16))]
def FF:List aB:=[Q 19 (.iaddr 2 (V 15) (V 17)),Q 20 (.load true 2 false (V 19)),Q 5 (.alloc false [.nils,.nils]),QN (.store 2 (V 5) (V 20))]
def FG:List aB:=[M 21 3,FA 22 1 5,LD 23 22,Q 24 (.len false (V 23)),Q 25 (.arith .add (V 21) (V 24)),M 3 25]
def FH:List aB:=[M 26 3,Q 27 (.arith .gtr (V 26) (I 65536))]
def wx:List aB:=[Q 28 (.arith .add (V 17) (I 1)),M 17 28]
@[simp]def aHv:=aC FD.eq_1<|aC FE.eq_1<|aC ww.eq_1<|aC FF.eq_1<|aC FG.eq_1<|aC FH.eq_1<|aP wx.eq_1
def wy:aL:=
 (aA (ai ww) (aA (.cond (V 18) .skip (.exit 0)) (aA (.block 1 (aA (aD 19 21 FF) (aA (aD 21 26 FG) (aA (aD 26 27 FH) (.cond (V 27) (aA (.region [Q 2 (.mov (I 3))]) .ret) .skip))))) (aD 28 29 wx))))
@[simp]def aHw:=bL wy.eq_1
def FI:List aB:=[M 30 0,Q 31 (.call .std 153 [V 30]),Q 32 (.call .std 51 [V 31]),M 29 32,EX 33 0 29,EX 34 1 29,M 6 33,M 7 34]
def FJ:List aB:=[M 35 7,Q 36 (.arith .neq (V 35) (I 0))]
def FK:List aB:=[M 37 7,M 2 37]
def FL:List aB:=[M 38 0,Q 39 (.len false (V 38)),Q 40 (.mov (I 0))]
def wz:List aB:=[Q 41 (.arith .lss (V 40) (V 39))]
def FM:List aB:=[Q 42 (.iaddr 2 (V 38) (V 40)),Q 43 (.load true 2 false (V 42)),Q 9 (.alloc false [.nils,.nils]),QN (.store 2 (V 9) (V 43))]
def FN:List aB:=[FA 44 1 9,LD 45 44,Q 46 (.len false (V 45)),Q 47 (.arith .eql (V 46) (I 0))]
def FO:List aB:=[FA 48 1 9,LD 49 48,Q 50 (.len false (V 49)),Q 51 (.mov (I 0))]
def FP:List aB:=[M 53 51,M 10 53]
def FQ:List aB:=[FA 54 1 9,LD 55 54,M 56 10,Q 57 (.arith .sub (V 56) (I 1)),Q 58 (.mnmx true (I 0) (V 57)),M 59 10,Q 60 (.arith .add (V 59) (I 1)),Q 61 (.slc 2 (some (V 58)) (some (V 60)) (V 55)),Q 62 (.call .std 154 [V 61]),M 11 62]
def FS:List aB:=[M 63 11,Q 64 (.arith .neq (V 63) (I 0))]
def FT:List aB:=[M 65 11,M 2 65]
def FU:List aB:=[Q 66 (.arith .add (V 51) (I 1)),M 51 66]
@[simp]def aHx:=aC FI.eq_1<|aC FJ.eq_1<|aC FK.eq_1<|aC FL.eq_1<|aC wz.eq_1<|aC FM.eq_1<|aC FN.eq_1<|aC FO.eq_1<|aC FP.eq_1<|aC FQ.eq_1<|aC FS.eq_1<|aC FT.eq_1<|aP FU.eq_1
def xA:aL:=
 (aA (ai wr) (aA (.cond (V 52) .skip (.exit 4)) (aA (.block 5 (aA (aD 53 54 FP) (aA (aD 54 63 FQ) (aA (aD 63 64 FS) (.cond (V 64) (aA (aD 65 66 FT) .ret) .skip))))) (aD 66 67 FU))))
@[simp]def aHy:=bL xA.eq_1
def FV:List aB:=[Q 67 (.arith .add (V 40) (I 1)),M 40 67]
@[simp]def aHz:=aP FV.eq_1
def xB:aL:=
 (aA (ai wz) (aA (.cond (V 41) .skip (.exit 2)) (aA (.block 3 (aA (aD 42 44 FM) (aA (aA (aD 44 47 FN) (.cond (V 47) (aA (.region [Q 2 (.mov (I 2))]) .ret) .skip)) (aA (aD 48 50 FO) (.block 4 (.loop xA)))))) (aD 67 68 FV))))
@[simp]def aHA:=bL xB.eq_1
def z35:aU:=
 ⟨1,[.tmp 2],
 (aA (.region [Q 2 (.mov (I 0))]) (aA (aA (aD 12 14 FD) (.cond (V 14) (aA (.region [Q 2 (.mov (I 3))]) .ret) .skip)) (aA (.region [Q 3 (.mov (I 0))]) (aA (aA (ai FE) (.block 0 (.loop wy))) (aA (aA (.clr [(6,7),(29,35)] (ai FI)) (aA (aD 35 36 FJ) (.cond (V 36) (aA (aD 37 38 FK) .ret) .skip))) (aA (aA (ai FL) (.block 2 (.loop xB))) (aA (.region [Q 2 (.mov (I 0))]) .ret))))))),false⟩
def FW:List aB:=[M 6 0,Q 7 (.len false (V 6)),Q 8 (.arith .gtr (V 7) (I 256)),M 9 8,QG (some 10) (.mov (V 0)) 9 false,QG (some 11) (.call .std 169 [V 10]) 9 false,QG (some 12) (.arith .gtr (V 11) (I 65536)) 9 false,Q 13 (.pick (V 9) cN (V 12))]
def FX:List aB:=[M 14 0,Q 15 (.call .std 174 [V 14]),Q 16 (.call .std 52 [V 15]),M 3 16]
def FY:List aB:=[M 17 3,Q 18 (.arith .neq (V 17) (I 0))]
def xC:List aB:=[M 19 3,M 2 19]
def FZ:List aB:=[M 20 4,M 21 0,Q 22 (.len false (V 21)),Q 23 (.arith .lss (V 20) (V 22))]
def Fa:List aB:=[M 26 0,M 27 4,Q 28 (.iaddr 2 (V 26) (V 27)),FA 29 1 28,LD 30 29,Q 31 (.len false (V 30)),Q 32 (.arith .eql (V 31) (I 0))]
def Fb:List aB:=[M 33 0,M 34 4,Q 35 (.iaddr 2 (V 33) (V 34)),FA 36 1 35,LD 37 36,Q 38 (.call .std 257 [V 37]),M 5 38]
def Fc:List aB:=[M 39 5,Q 40 (.arith .neq (V 39) (I 0))]
def Fd:List aB:=[M 41 5,M 2 41]
def Fe:List aB:=[M 24 4,Q 25 (.arith .add (V 24) (I 1)),M 4 25]
@[simp]def aHB:=aC FW.eq_1<|aC FX.eq_1<|aC FY.eq_1<|aC xC.eq_1<|aC FZ.eq_1<|aC Fa.eq_1<|aC Fb.eq_1<|aC Fc.eq_1<|aC Fd.eq_1<|aP Fe.eq_1
def xD:aL:=
 (aA (aA (aD 20 23 FZ) (.cond (V 23) .skip (.exit 0))) (aA (.block 1 (aA (aA (aD 26 32 Fa) (.cond (V 32) (aA (.region [Q 2 (.mov (I 2))]) .ret) .skip)) (aA (aD 33 39 Fb) (aA (aD 39 40 Fc) (.cond (V 40) (aA (aD 41 42 Fd) .ret) .skip))))) (aD 24 26 Fe)))
@[simp]def aHC:=bL xD.eq_1
def lA:aU:=
 ⟨1,[.tmp 2],
 (aA (.region [Q 2 (.mov (I 0))]) (aA (aA (aD 6 13 FW) (.cond (V 13) (aA (.region [Q 2 (.mov (I 3))]) .ret) .skip)) (aA (aA (aD 14 17 FX) (aA (aD 17 18 FY) (.cond (V 18) (aA (aD 19 20 xC) .ret) .skip))) (aA (aA (.region [Q 4 (.mov (I 0))]) (.block 0 (.loop xD))) (aA (.region [Q 2 (.mov (I 0))]) .ret))))),false⟩
def xE:List aB:=[M 6 0,Q 7 (.len false (V 6)),M 8 1,Q 9 (.len false (V 8)),Q 10 (.arith .neq (V 7) (V 9))]
def xF:List aB:=[M 11 5,M 12 0,Q 13 (.len false (V 12)),Q 14 (.arith .lss (V 11) (V 13))]
def Ff:List aB:=[M 17 0,M 18 5,Q 19 (.iaddr 2 (V 17) (V 18)),FA 20 0 19,Q 21 (.load false 1 true (V 20)),M 22 1,M 23 5,Q 24 (.iaddr 2 (V 22) (V 23)),FA 25 0 24,Q 26 (.load false 1 true (V 25)),Q 27 (.call .std 26 [V 21,V 26]),Q 28 (.un .not (V 27)),M 29 28,QG (some 30) (.mov (V 0)) 29 false,QG (some 31) (.mov (V 5)) 29 false,QG (some 32) (.iaddr 2 (V 30) (V 31)) 29 false,QG (some 33) (.faddr 1 (V 32)) 29 false,QG (some 34) (.load false 1 true (V 33)) 29 false,QG (some 35) (.mov (V 1)) 29 false,QG (some 36) (.mov (V 5)) 29 false,QG (some 37) (.iaddr 2 (V 35) (V 36)) 29 false,QG (some 38) (.faddr 1 (V 37)) 29 false,QG (some 39) (.load false 1 true (V 38)) 29 false,QG (some 40) (.call .std 177 [V 34,V 39]) 29 false,QG (some 41) (.un .not (V 40)) 29 false,Q 42 (.pick (V 29) cN (V 41))]
def xG:List aB:=[M 15 5,Q 16 (.arith .add (V 15) (I 1)),M 5 16]
@[simp]def aHD:=aC xE.eq_1<|aC xF.eq_1<|aC Ff.eq_1<|aP xG.eq_1
def Fg:aL:=
 (aA (aA (aD 11 14 xF) (.cond (V 14) .skip (.exit 0))) (aA (.block 1 (aA (aD 17 42 Ff) (.cond (V 42) (aA (.region [Q 4 (.mov bG)]) .ret) .skip))) (aD 15 17 xG)))
@[simp]def aHE:=bL Fg.eq_1
def qD:aU:=
 ⟨2,[.tmp 4],
 (aA (.region [Q 4 (.mov bG)]) (aA (aA (aD 6 10 xE) (.cond (V 10) (aA (.region [Q 4 (.mov bG)]) .ret) .skip)) (aA (aA (.region [Q 5 (.mov (I 0))]) (.block 0 (.loop Fg))) (aA (.region [Q 4 (.mov cN)]) .ret)))),false⟩
def Fh:List aB:=[Q 0 (.mov bG)]
def Fi:List aB:=[Q 10 (.call .pur 156 []),Q 11 (.call .std 155 [V 10]),M 9 11,EX 12 0 9,EX 13 1 9,M 1 12,M 2 13]
def Fj:List aB:=[M 23 2,Q 24 (.arith .neq (V 23) (I 0)),M 25 24,QG (some 26) (.mov (V 4)) 25 false,QG (some 27) (.arith .neq (V 26) (I 0)) 25 false,Q 28 (.pick (V 25) cN (V 27)),M 29 28,QG (some 30) (.mov (V 3)) 29 false,QG (some 31) (.eqn false .p (V 30)) 29 false,Q 32 (.pick (V 29) cN (V 31)),M 33 32,QG (some 34) (.mov (V 6)) 33 false,QG (some 35) (.arith .neq (V 34) (I 5)) 33 false,Q 36 (.pick (V 33) cN (V 35))]
def Fk:List aB:=[Q 0 (.mov bG)]
def Fl:List aB:=[M 38 3,Q 39 (.call .std 157 [V 38,(I 0),(I 10),(I 10)]),M 37 39,EX 40 0 37,EX 41 1 37,M 7 40,M 8 41]
def Fm:List aB:=[Q 2 (.alloc false [.nilp]),Q 3 (.alloc false [(.int .i64 0)])]
def Fn:List aB:=[M 8 0,Q 9 (.build [.nils,(.int .i64 0)] [(0,1,V 8)]),Q 10 (.box false (V 9)),M 4 10]
def Fo:List aB:=[M 38 4,M 39 4,M 40 0,M 41 0,Q 42 (.len false (V 41)),Q 43 (.arith .sub (V 42) (I 4)),Q 44 (.slc 1 none (some (V 43)) (V 40)),ba 45 38,FA 46 0 45,QN (.store 1 (V 46) (V 44)),ba 47 39,FA 48 1 47,QN (.store 1 (V 48) (I 4))]
def Fp:List aB:=[M 59 5,Q 60 (.build [.nilp,.nils] [(0,1,V 59)]),Q 61 (.box false (V 60)),QN (.store 1 (V 2) (V 61))]
def Fq:List aB:=[M 62 5,Q 63 (.call .std 136 [V 62]),Q 64 (.mov (I 0))]
def Fs:List aB:=[Q 65 (.arith .lss (V 64) (V 63))]
def Ft:List aB:=[Q 77 (.arith .add (V 64) (I 1)),M 64 77]
def Fu:List aB:=[LD 100 2,QN (.store 1 (V 2) (V 100)),QN (.store 1 (V 3) (I 0))]
def Fv:List aB:=[M 9 0,Q 10 (.eqn false .p (V 9))]
def Fw:List aB:=[M 11 0,ba 12 11,FA 13 1 12,LD 14 13,Q 15 (.len false (V 14)),Q 16 (.mov (I 0))]
def Fx:List aB:=[Q 17 (.arith .lss (V 16) (V 15))]
def Fy:List aB:=[M 18 16,M 4 18]
def Fz:List aB:=[M 20 0,M 21 4,Q 22 (.call .std 176 [V 20,V 21]),M 19 22,EX 23 0 19,EX 24 1 19,M 5 23,M 6 24]
def GA:List aB:=[M 26 0,M 27 4,Q 28 (.call .std 157 [V 26,V 27,(I 0),(I 1099511627776)]),M 25 28,EX 29 0 25,EX 30 1 25,M 7 29,M 8 30]
def GB:List aB:=[M 31 3,M 32 5,M 33 7,Q 34 (.build [.nils,.nils] [(0,1,V 32),(1,1,V 33)]),Q 35 (.bsl false (.agg [.nils,.nils]) 1 [(0,V 34)]),Q 36 (.app 2 48 (V 31) (V 35)),M 3 36]
def GC:List aB:=[Q 37 (.arith .add (V 16) (I 1)),M 16 37]
@[simp]def aHF:=aC Fh.eq_1<|aC Fi.eq_1<|aC Fj.eq_1<|aC Fk.eq_1<|aC Fl.eq_1<|aC Fm.eq_1<|aC Fn.eq_1<|aC Fo.eq_1<|aC Fp.eq_1<|aC Fq.eq_1<|aC Fs.eq_1<|aC Ft.eq_1<|aC Fu.eq_1<|aC Fv.eq_1<|aC Fw.eq_1<|aC Fx.eq_1<|aC Fy.eq_1<|aC Fz.eq_1<|aC GA.eq_1<|aC GB.eq_1<|aP GC.eq_1
def GD:aL:=
 (aA (ai Fx) (aA (.cond (V 17) .skip (.exit 0)) (aA (.block 1 (aA (aD 18 19 Fy) (aA (.clr [(6,7),(19,25)] (ai Fz)) (aA (.clr [(8,9),(25,31)] (ai GA)) (aD 31 37 GB))))) (aD 37 38 GC))))
@[simp]def aHG:=bL GD.eq_1
def GE:List aB:=[M 38 3,M 2 38]
@[simp]def aHH:=aP GE.eq_1
def xH:aU:=
 ⟨1,[.tmp 2],
 (aA (.region [Q 2 (.mov (.cst .nils))]) (aA (aA (aD 9 10 Fv) (.cond (V 10) (aA (.region [Q 2 (.mov (.cst .nils))]) .ret) .skip)) (aA (.region [Q 3 (.mov (.cst .nils))]) (aA (aA (aD 11 15 Fw) (.block 0 (.loop GD))) (aA (aD 38 39 GE) .ret))))),false⟩
def GF:List aB:=[Q 8 (.mov (.cst .nils)),Q 9 (.mov (I 0))]
def GG:List aB:=[M 18 0,Q 19 (.eqn false .p (V 18)),M 17 19]
def GH:List aB:=[Q 8 (.mov (.cst .nils)),Q 9 (.mov (I 1))]
def GI:List aB:=[M 21 1,Q 22 (.arith .lss (V 21) (I 0)),M 23 22,QG (some 24) (.mov (V 1)) 23 false,QG (some 25) (.mov (V 0)) 23 false,QG (some 26) (.nilck (V 25)) 23 false,QG (some 27) (.faddr 1 (V 26)) 23 false,QG (some 28) (.load false 1 false (V 27)) 23 false,QG (some 29) (.len false (V 28)) 23 false,QG (some 30) (.arith .geq (V 24) (V 29)) 23 false,Q 31 (.pick (V 23) cN (V 30)),M 20 31]
def GJ:List aB:=[Q 8 (.mov (.cst .nils)),Q 9 (.mov (I 9))]
def GK:List aB:=[M 32 0,ba 33 32,FA 34 1 33,LD 35 34,M 36 1,Q 37 (.iaddr 1 (V 35) (V 36)),LD 38 37,Q 39 (.len false (V 38)),Q 40 (.mov (I 0))]
def GL:List aB:=[Q 42 (.iaddr 4 (V 38) (V 40)),Q 43 (.load true 4 false (V 42)),Q 12 (.alloc false [.nils,(.int .i64 0),(.int .i64 0),(.int .i64 0)]),QN (.store 4 (V 12) (V 43))]
def GM:List aB:=[FA 44 3 12,LD 45 44,M 46 2,Q 47 (.arith .lss (V 45) (V 46)),M 48 47,QG (some 49) (.faddr 2 (V 12)) 48 false,QG (some 50) (.load false 1 false (V 49)) 48 false,QG (some 51) (.mov (V 3)) 48 false,QG (some 52) (.arith .gtr (V 50) (V 51)) 48 false,Q 53 (.pick (V 48) cN (V 52))]
def GN:List aB:=[FA 55 0 12,LD 56 55,Q 57 (.call .std 265 [V 56]),M 54 57,EX 58 0 54,EX 59 1 54,M 13 58,M 14 59]
def GO:List aB:=[M 60 13,Q 61 (.len false (V 60)),Q 62 (.mov (I 0))]
def GP:List aB:=[Q 63 (.arith .lss (V 62) (V 61))]
def GQ:List aB:=[Q 64 (.iaddr 2 (V 60) (V 62)),Q 65 (.load true 2 false (V 64)),Q 16 (.alloc false [(.int .i64 0),(.int .i64 0)]),QN (.store 2 (V 16) (V 65))]
def GR:List aB:=[FA 66 0 16,LD 67 66,M 68 2,Q 69 (.arith .geq (V 67) (V 68)),M 70 69,QG (some 71) (.faddr 0 (V 16)) 70 true,QG (some 72) (.load false 1 false (V 71)) 70 true,QG (some 73) (.mov (V 3)) 70 true,QG (some 74) (.arith .leq (V 72) (V 73)) 70 true,Q 75 (.pick (V 70) (V 74) bG)]
def GS:List aB:=[M 76 10,Q 77 (.load true 2 false (V 16)),Q 78 (.bsl false (.agg [(.int .i64 0),(.int .i64 0)]) 1 [(0,V 77)]),Q 79 (.app 2 16 (V 76) (V 78)),M 10 79]
def GT:List aB:=[Q 80 (.arith .add (V 62) (I 1)),M 62 80]
@[simp]def aHI:=aC GF.eq_1<|aC GG.eq_1<|aC GH.eq_1<|aC GI.eq_1<|aC GJ.eq_1<|aC GK.eq_1<|aC GL.eq_1<|aC GM.eq_1<|aC GN.eq_1<|aC GO.eq_1<|aC GP.eq_1<|aC GQ.eq_1<|aC GR.eq_1<|aC GS.eq_1<|aP GT.eq_1
def GU:aL:=
 (aA (ai GP) (aA (.cond (V 63) .skip (.exit 3)) (aA (.block 4 (aA (aD 64 66 GQ) (aA (aD 66 75 GR) (.cond (V 75) (aD 76 80 GS) .skip)))) (aD 80 81 GT))))
@[simp]def aHJ:=bL GU.eq_1
def GV:List aB:=[Q 81 (.arith .add (V 40) (I 1)),M 40 81]
@[simp]def aHK:=aP GV.eq_1
def GW:aL:=
 (aA (ai wz) (aA (.cond (V 41) .skip (.exit 1)) (aA (.block 2 (aA (aD 42 44 GL) (aA (aA (aD 44 53 GM) (.cond (V 53) (.exit 2) .skip)) (aA (.clr [(14,15),(54,60)] (ai GN)) (aA (ai GO) (.block 3 (.loop GU))))))) (aD 81 82 GV))))
@[simp]def aHL:=bL GW.eq_1
def GX:List aB:=[M 82 10,M 8 82,Q 9 (.mov (I 0))]
@[simp]def aHM:=aP GX.eq_1
def z7:aU:=
 ⟨4,[.tmp 8,.tmp 9],
 (aA (ai GF) (aA (.block 0 (aA (aD 18 20 GG) (.cond (V 17) (aA (ai GH) .ret) (aA (aD 21 32 GI) (.cond (V 20) (aA (ai GJ) .ret) .skip))))) (aA (.region [Q 10 (.mov (.cst .nils))]) (aA (aA (aD 32 38 GK) (.block 1 (.loop GW))) (aA (aD 82 83 GX) .ret))))),false⟩
def GY:List aB:=[M 17 0,M 18 5,Q 19 (.iaddr 2 (V 17) (V 18)),Q 20 (.load true 2 true (V 19)),M 21 1,M 22 5,Q 23 (.iaddr 2 (V 21) (V 22)),Q 24 (.load true 2 true (V 23)),Q 25 (.eqs true 2 (V 20) (V 24))]
@[simp]def aHN:=aP GY.eq_1
def GZ:aL:=
 (aA (aA (aD 11 14 xF) (.cond (V 14) .skip (.exit 0))) (aA (.block 1 (aA (aD 17 25 GY) (.cond (V 25) (aA (.region [Q 4 (.mov bG)]) .ret) .skip))) (aD 15 17 xG)))
@[simp]def aHO:=bL GZ.eq_1
def qE:aU:=
 ⟨2,[.tmp 4],
 (aA (.region [Q 4 (.mov bG)]) (aA (aA (aD 6 10 xE) (.cond (V 10) (aA (.region [Q 4 (.mov bG)]) .ret) .skip)) (aA (aA (.region [Q 5 (.mov (I 0))]) (.block 0 (.loop GZ))) (aA (.region [Q 4 (.mov cN)]) .ret)))),false⟩
def xI:List aB:=[Q 2 (.mov (.cst .nilp)),Q 3 (.mov (I 0))]
def Ga:List aB:=[M 11 0,Q 12 (.len false (V 11)),Q 13 (.arith .gtr (V 12) (I 256))]
def Gb:List aB:=[Q 2 (.mov (.cst .nilp)),Q 3 (.mov (I 3))]
def Gc:List aB:=[Q 14 (.mkm),Q 15 (.build [.nils,.nilm] [(1,1,V 14)]),Q 16 (.box false (V 15)),M 4 16]
def Gd:List aB:=[M 17 0,Q 18 (.len false (V 17)),Q 19 (.mov (I 0))]
def Ge:List aB:=[Q 20 (.arith .lss (V 19) (V 18))]
def Gf:List aB:=[M 21 19,Q 22 (.iaddr 1 (V 17) (V 19)),LD 23 22,M 5 21,M 6 23]
def Gg:List aB:=[M 24 6,Q 25 (.call .std 40 [V 24]),M 7 25]
def Gi:List aB:=[M 26 7,Q 27 (.arith .neq (V 26) (I 0))]
def Gj:List aB:=[M 28 7,Q 2 (.mov (.cst .nilp)),M 3 28]
def Gk:List aB:=[M 29 5,Q 30 (.arith .gtr (V 29) (I 0)),M 31 30,QG (some 32) (.mov (V 0)) 31 true,QG (some 33) (.mov (V 5)) 31 true,QG (some 34) (.arith .sub (V 33) (I 1)) 31 true,QG (some 35) (.iaddr 1 (V 32) (V 34)) 31 true,QG (some 36) (.load false 1 false (V 35)) 31 true,QG (some 37) (.mov (V 6)) 31 true,QG (some 38) (.call .std 28 [V 36,V 37]) 31 true,QG (some 39) (.arith .geq (V 38) (I 0)) 31 true,Q 40 (.pick (V 31) (V 39) bG)]
def Gl:List aB:=[Q 2 (.mov (.cst .nilp)),Q 3 (.mov (I 13))]
def xJ:List aB:=[M 41 4,M 42 4,ba 43 42,FA 44 0 43,LD 45 44,M 46 6,Q 47 (.call .keep 130 [V 46]),Q 48 (.bsl false .nils 1 [(0,V 47)]),Q 49 (.app 1 24 (V 45) (V 48)),ba 50 41,FA 51 0 50,QN (.store 1 (V 51) (V 49))]
@[simp]def Gm:=aP xJ.eq_1
def xK:List aB:=[M 52 6,Q 53 (.len false (V 52)),Q 54 (.mov (I 0))]
def xL:List aB:=[Q 55 (.arith .lss (V 54) (V 53))]
def Gn:List aB:=[Q 56 (.iaddr 2 (V 52) (V 54)),Q 57 (.load true 2 false (V 56)),Q 9 (.alloc false [(.str []),(.str [])]),QN (.store 2 (V 9) (V 57))]
def Gp:List aB:=[FA 58 0 9,LD 59 58,FA 60 1 9,LD 61 60,Q 62 (.build [(.str []),(.str [])] [(0,1,V 59),(1,1,V 61)]),Q 10 (.alloc false [(.str []),(.str [])]),QN (.store 2 (V 10) (V 62))]
def Gq:List aB:=[M 63 4,ba 64 63,FA 65 1 64,LD 66 65,Q 67 (.load true 2 false (V 10)),M 69 5,Q 70 (.bsl false (.int .i64 0) 1 [(0,V 69)]),Q 71 (.men .nils (V 66) (V 67)),EX 68 0 71,Q 72 (.app 1 8 (V 68) (V 70)),EX 73 1 71,QN (.est (V 66) (V 67) (V 72))]
def Gr:List aB:=[Q 74 (.arith .add (V 54) (I 1)),M 54 74]
@[simp]def aHP:=aC xI.eq_1<|aC Ga.eq_1<|aC Gb.eq_1<|aC Gc.eq_1<|aC Gd.eq_1<|aC Ge.eq_1<|aC Gf.eq_1<|aC Gg.eq_1<|aC Gi.eq_1<|aC Gj.eq_1<|aC Gk.eq_1<|aC Gl.eq_1<|aC xK.eq_1<|aC xL.eq_1<|aC Gn.eq_1<|aC Gp.eq_1<|aC Gq.eq_1<|aP Gr.eq_1
def tD:aL:=
 (aA (ai xL) (aA (.cond (V 55) .skip (.exit 2)) (aA (.block 3 (aA (aD 56 58 Gn) (aA (aD 58 63 Gp) (aD 63 74 Gq)))) (aD 74 75 Gr))))
@[simp]def aHQ:=bL tD.eq_1
def xM:List aB:=[Q 75 (.arith .add (V 19) (I 1)),M 19 75]
@[simp]def aHR:=aP xM.eq_1
def tE:aL:=
 (aA (ai Ge) (aA (.cond (V 20) .skip (.exit 0)) (aA (.block 1 (aA (aD 21 24 Gf) (aA (aA (aD 24 26 Gg) (aA (aD 26 27 Gi) (.cond (V 27) (aA (aD 28 29 Gj) .ret) .skip))) (aA (aA (aD 29 40 Gk) (.cond (V 40) (aA (ai Gl) .ret) .skip)) (aA (aD 41 52 xJ) (aA (ai xK) (.block 2 (.loop tD)))))))) (aD 75 76 xM))))
@[simp]def aHS:=bL tE.eq_1
def Gs:List aB:=[M 76 4,M 2 76,Q 3 (.mov (I 0))]
@[simp]def aHT:=aP Gs.eq_1
def mR:aU:=
 ⟨1,[.tmp 2,.tmp 3],
 (aA (ai xI) (aA (aA (aD 11 13 Ga) (.cond (V 13) (aA (ai Gb) .ret) .skip)) (aA (aD 14 17 Gc) (aA (aA (ai Gd) (.block 0 (.loop tE))) (aA (aD 76 77 Gs) .ret))))),false⟩
def xN:List aB:=[M 6 0,Q 7 (.len false (V 6)),Q 8 (.mov (I 0))]
def Gt:List aB:=[Q 10 (.iaddr 2 (V 6) (V 8)),Q 11 (.load true 2 false (V 10)),Q 5 (.alloc false [.nils,.nils]),QN (.store 2 (V 5) (V 11))]
def Gu:List aB:=[M 12 3,FA 13 0 5,LD 14 13,Q 15 (.bsl false .nils 1 [(0,V 14)]),Q 16 (.app 1 24 (V 12) (V 15)),M 3 16]
def Gv:List aB:=[Q 17 (.arith .add (V 8) (I 1)),M 8 17]
@[simp]def aHU:=aC xN.eq_1<|aC Gt.eq_1<|aC Gu.eq_1<|aP Gv.eq_1
def Gw:aL:=
 (aA (.region [Q 9 (.arith .lss (V 8) (V 7))]) (aA (.cond (V 9) .skip (.exit 0)) (aA (.block 1 (aA (aD 10 12 Gt) (aD 12 17 Gu))) (aD 17 18 Gv))))
@[simp]def aHV:=bL Gw.eq_1
def Gx:List aB:=[M 18 3,M 2 18]
@[simp]def aHW:=aP Gx.eq_1
def oA:aU:=
 ⟨1,[.tmp 2],
 (aA (.region [Q 2 (.mov (.cst .nils))]) (aA (.region [Q 3 (.mov (.cst .nils))]) (aA (aA (ai xN) (.block 0 (.loop Gw))) (aA (aD 18 19 Gx) .ret)))),false⟩
def Gy:List aB:=[M 6 0,Q 7 (.call .std 107 [(.cst .nils),V 6]),M 5 7,EX 8 0 5,EX 9 1 5,M 3 8,M 4 9]
def Gz:List aB:=[LD 10 1,M 11 3,Q 12 (.app 1 1 (V 10) (V 11)),QN (.store 1 (V 1) (V 12))]
@[simp]def aHX:=aC Gy.eq_1<|aP Gz.eq_1
def qF:aU:=
 ⟨2,[],
 (aA (aD 4 10 Gy) (aD 10 13 Gz)),false⟩
def qG:List aB:=[Q 4 (.mov (.cst .nils)),Q 5 (.mov (I 0))]
def HA:List aB:=[M 7 1,Q 8 (.arith .lss (V 7) (I 0))]
def HB:List aB:=[Q 4 (.mov (.cst .nils)),Q 5 (.mov (I 2))]
def HC:List aB:=[M 9 0,Q 10 (.call .std 218 [V 9,(I 9)]),M 6 10]
def HD:List aB:=[M 11 1,Q 12 (.arith .geq (V 11) (I 128))]
def HE:List aB:=[M 15 6,M 16 1,Q 17 (.toInt .u8 (V 16)),Q 18 (.arith .or (V 17) (.cst (.int .u8 128))),Q 19 (.bsl false (.int .u8 0) 1 [(0,V 18)]),Q 20 (.app 1 1 (V 15) (V 19)),M 6 20]
def HF:List aB:=[M 13 1,Q 14 (.arith .shr (V 13) (.cst (.int .u64 7))),M 1 14]
@[simp]def aHY:=aC qG.eq_1<|aC HA.eq_1<|aC HB.eq_1<|aC HC.eq_1<|aC HD.eq_1<|aC HE.eq_1<|aP HF.eq_1
def xO:aL:=
 (aA (aA (aD 11 12 HD) (.cond (V 12) .skip (.exit 0))) (aA (.block 1 (aD 15 21 HE)) (aD 13 15 HF)))
@[simp]def aHZ:=bL xO.eq_1
def HG:List aB:=[M 21 6,M 22 1,Q 23 (.toInt .u8 (V 22)),Q 24 (.bsl false (.int .u8 0) 1 [(0,V 23)]),Q 25 (.app 1 1 (V 21) (V 24)),M 4 25,Q 5 (.mov (I 0))]
@[simp]def aH0:=aP HG.eq_1
def oB:aU:=
 ⟨2,[.tmp 4,.tmp 5],
 (aA (ai qG) (aA (aA (aD 7 8 HA) (.cond (V 8) (aA (ai HB) .ret) .skip)) (aA (aD 9 11 HC) (aA (.block 0 (.loop xO)) (aA (aD 21 26 HG) .ret))))),true⟩
def HH:List aB:=[LD 4 1,M 5 0,Q 6 (.len false (V 5)),Q 7 (.callv .std (V 4) [V 6])]
def HI:List aB:=[LD 8 2,M 9 0,Q 10 (.app 1 1 (V 8) (V 9)),QN (.store 1 (V 2) (V 10))]
@[simp]def aH1:=aC HH.eq_1<|aP HI.eq_1
def z27:aU:=
 ⟨3,[],
 (aA (aD 4 8 HH) (aD 8 11 HI)),false⟩
def xP:List aB:=[Q 2 (.mov (.cst .nils))]
def xQ:List aB:=[M 13 0,Q 14 (.eqn false .p (V 13))]
def HJ:List aB:=[Q 2 (.mov (.cst .nils))]
def xR:List aB:=[M 21 3,Q 22 (.len false (V 21)),Q 23 (.call .std 107 [(.cst .nils),V 22]),M 20 23,EX 24 0 20,EX 25 1 20,M 5 24,M 6 25]
def xS:List aB:=[M 26 3,Q 27 (.len false (V 26)),Q 28 (.mov (I 0))]
def HK:List aB:=[Q 29 (.arith .lss (V 28) (V 27))]
def HL:List aB:=[Q 30 (.iaddr 1 (V 26) (V 28)),LD 31 30,M 8 31]
def HM:List aB:=[M 33 5,M 34 8,Q 35 (.call .std 108 [V 33,V 34]),M 32 35,EX 36 0 32,EX 37 1 32,M 5 36]
def HN:List aB:=[Q 38 (.arith .add (V 28) (I 1)),M 28 38]
@[simp]def aH2:=aC xP.eq_1<|aC xQ.eq_1<|aC HJ.eq_1<|aC xR.eq_1<|aC xS.eq_1<|aC HK.eq_1<|aC HL.eq_1<|aC HM.eq_1<|aP HN.eq_1
def xU:aL:=
 (aA (ai HK) (aA (.cond (V 29) .skip (.exit 0)) (aA (.block 1 (aA (aD 30 32 HL) (aD 32 38 HM))) (aD 38 39 HN))))
@[simp]def aH3:=bL xU.eq_1
def xV:List aB:=[M 40 5,M 41 0,ba 42 41,FA 43 0 42,LD 44 43,Q 45 (.len false (V 44)),Q 46 (.call .std 107 [V 40,V 45]),M 39 46,EX 47 0 39,EX 48 1 39,M 5 47]
def xW:List aB:=[M 49 0,ba 50 49,FA 51 0 50,LD 52 51,Q 53 (.len false (V 52)),Q 54 (.mov (I 0))]
def HO:List aB:=[Q 56 (.iaddr 1 (V 52) (V 54)),LD 57 56,M 10 57]
def HP:List aB:=[M 59 5,M 60 10,Q 61 (.len false (V 60)),Q 62 (.call .std 107 [V 59,V 61]),M 58 62,EX 63 0 58,EX 64 1 58,M 5 63]
def HQ:List aB:=[M 65 10,Q 66 (.len false (V 65)),Q 67 (.mov (I 0))]
def HR:List aB:=[Q 68 (.arith .lss (V 67) (V 66))]
def HS:List aB:=[Q 69 (.iaddr 2 (V 65) (V 67)),Q 70 (.load true 2 false (V 69)),Q 12 (.alloc false [(.str []),(.str [])]),QN (.store 2 (V 12) (V 70))]
def HT:List aB:=[M 72 5,M 73 4,FA 74 0 12,LD 75 74,Q 76 (.mlk true false (.int .i64 0) (V 73) (V 75)),Q 77 (.call .std 107 [V 72,V 76]),M 71 77,EX 78 0 71,EX 79 1 71,M 5 78]
def HU:List aB:=[M 81 5,M 82 4,FA 83 1 12,LD 84 83,Q 85 (.mlk true false (.int .i64 0) (V 82) (V 84)),Q 86 (.call .std 107 [V 81,V 85]),M 80 86,EX 87 0 80,EX 88 1 80,M 5 87]
def HV:List aB:=[Q 89 (.arith .add (V 67) (I 1)),M 67 89]
@[simp]def aH4:=aC xV.eq_1<|aC xW.eq_1<|aC HO.eq_1<|aC HP.eq_1<|aC HQ.eq_1<|aC HR.eq_1<|aC HS.eq_1<|aC HT.eq_1<|aC HU.eq_1<|aP HV.eq_1
def xX:aL:=
 (aA (ai HR) (aA (.cond (V 68) .skip (.exit 4)) (aA (.block 5 (aA (aD 69 71 HS) (aA (aD 71 80 HT) (aD 80 89 HU)))) (aD 89 90 HV))))
@[simp]def aH5:=bL xX.eq_1
def HW:List aB:=[Q 90 (.arith .add (V 54) (I 1)),M 54 90]
@[simp]def aH6:=aP HW.eq_1
def xY:aL:=
 (aA (ai xL) (aA (.cond (V 55) .skip (.exit 2)) (aA (.block 3 (aA (aD 56 58 HO) (aA (aD 58 65 HP) (aA (ai HQ) (.block 4 (.loop xX)))))) (aD 90 91 HW))))
@[simp]def aH7:=bL xY.eq_1
def xZ:List aB:=[M 91 5,M 2 91]
def HX:List aB:=[M 5 0,Q 6 (.len false (V 5)),Q 7 (.arith .gtr (V 6) (I 0))]
def HY:List aB:=[M 8 0,Q 9 (.len false (V 8)),Q 10 (.mnmx false (V 9) (I 120)),M 4 10]
def HZ:List aB:=[M 11 3,M 12 0,M 13 4,Q 14 (.slc 2 none (some (V 13)) (V 12)),Q 15 (.app 2 16 (.cst .nils) (V 14)),Q 16 (.bsl false .nils 1 [(0,V 15)]),Q 17 (.app 1 24 (V 11) (V 16)),M 3 17]
def Ha:List aB:=[M 18 0,M 19 4,Q 20 (.slc 2 (some (V 19)) none (V 18)),M 0 20]
@[simp]def aH8:=aC xZ.eq_1<|aC HX.eq_1<|aC HY.eq_1<|aC HZ.eq_1<|aP Ha.eq_1
def xc:aL:=
 (aA (aA (aD 5 7 HX) (.cond (V 7) .skip (.exit 0))) (.block 1 (aA (aD 8 11 HY) (aA (aD 11 18 HZ) (aD 18 21 Ha)))))
@[simp]def aH9:=bL xc.eq_1
def Hb:List aB:=[M 21 3,M 2 21]
@[simp]def aIa:=aP Hb.eq_1
def lB:aU:=
 ⟨1,[.tmp 2],
 (aA (.region [Q 2 (.mov (.cst .nils))]) (aA (.region [Q 3 (.mov (.cst .nils))]) (aA (.block 0 (.loop xc)) (aA (aD 21 22 Hb) .ret)))),false⟩
def Hc:List aB:=[M 10 0,Q 11 (.call .std 154 [V 10]),M 4 11]
def xd:List aB:=[M 12 4,Q 13 (.arith .neq (V 12) (I 0))]
def xe:List aB:=[M 14 4,Q 2 (.mov (.cst .nils)),M 3 14]
def Hd:List aB:=[Q 15 (.build [.nils,(.int .i64 0)] []),Q 16 (.box false (V 15)),M 5 16]
def He:List aB:=[M 17 5,Q 18 (.mkbfn 333 [V 17]),M 19 5,Q 20 (.mkbfn 334 [V 19]),M 6 18,M 7 20]
def Hf:List aB:=[M 21 6,M 22 0,Q 23 (.len false (V 22)),Q 24 (.toInt .u64 (V 23)),Q 25 (.callv .std (V 21) [V 24])]
def Hg:List aB:=[M 26 6,M 27 0,Q 28 (.iaddr 2 (V 27) (I 0)),FA 29 0 28,LD 30 29,Q 31 (.toInt .u64 (V 30)),Q 32 (.callv .std (V 26) [V 31])]
def Hh:List aB:=[M 33 7,M 34 0,Q 35 (.iaddr 2 (V 34) (I 0)),FA 36 1 35,LD 37 36,Q 38 (.callv .std (V 33) [V 37])]
def Hi:List aB:=[M 39 8,M 40 0,Q 41 (.len false (V 40)),Q 42 (.arith .lss (V 39) (V 41))]
def Hj:List aB:=[M 45 0,M 46 8,Q 47 (.iaddr 2 (V 45) (V 46)),FA 48 0 47,Q 49 (.load false 1 true (V 48)),M 50 0,M 51 8,Q 52 (.arith .sub (V 51) (I 1)),Q 53 (.iaddr 2 (V 50) (V 52)),FA 54 0 53,Q 55 (.load false 1 true (V 54)),Q 56 (.arith .sub (V 49) (V 55)),M 9 56]
def Hk:List aB:=[M 57 8,Q 58 (.arith .eql (V 57) (I 1))]
def Hl:List aB:=[M 59 6,M 60 9,Q 61 (.toInt .u64 (V 60)),Q 62 (.callv .std (V 59) [V 61])]
def Hm:List aB:=[M 63 7,M 64 9,M 65 0,M 66 8,Q 67 (.arith .sub (V 66) (I 1)),Q 68 (.iaddr 2 (V 65) (V 67)),FA 69 0 68,Q 70 (.load false 1 true (V 69)),M 71 0,M 72 8,Q 73 (.arith .sub (V 72) (I 2)),Q 74 (.iaddr 2 (V 71) (V 73)),FA 75 0 74,Q 76 (.load false 1 true (V 75)),Q 77 (.arith .sub (V 70) (V 76)),Q 78 (.arith .sub (V 64) (V 77)),Q 79 (.callv .std (V 63) [V 78])]
def Hn:List aB:=[M 80 7,M 81 0,M 82 8,Q 83 (.iaddr 2 (V 81) (V 82)),FA 84 1 83,Q 85 (.load false 1 true (V 84)),M 86 0,M 87 8,Q 88 (.arith .sub (V 87) (I 1)),Q 89 (.iaddr 2 (V 86) (V 88)),FA 90 1 89,Q 91 (.load false 1 true (V 90)),Q 92 (.arith .sub (V 85) (V 91)),Q 93 (.callv .std (V 80) [V 92])]
def Ho:List aB:=[M 43 8,Q 44 (.arith .add (V 43) (I 1)),M 8 44]
@[simp]def aIb:=aC Hc.eq_1<|aC xd.eq_1<|aC xe.eq_1<|aC Hd.eq_1<|aC He.eq_1<|aC Hf.eq_1<|aC Hg.eq_1<|aC Hh.eq_1<|aC Hi.eq_1<|aC Hj.eq_1<|aC Hk.eq_1<|aC Hl.eq_1<|aC Hm.eq_1<|aC Hn.eq_1<|aP Ho.eq_1
def tF:aL:=
 (aA (aA (aD 39 42 Hi) (.cond (V 42) .skip (.exit 0))) (aA (.block 1 (aA (aD 45 57 Hj) (aA (aA (aD 57 58 Hk) (.cond (V 58) (aD 59 63 Hl) (aD 63 80 Hm))) (aD 80 94 Hn)))) (aD 43 45 Ho)))
@[simp]def aIc:=bL tF.eq_1
def Hp:List aB:=[M 94 5,ba 95 94,FA 96 0 95,FA 97 0 96,LD 98 97,M 2 98,Q 3 (.mov (I 0))]
@[simp]def aId:=aP Hp.eq_1
def mS:aU:=
 ⟨1,[.tmp 2,.tmp 3],
 (aA (ai qC) (aA (aA (aD 10 12 Hc) (aA (aD 12 13 xd) (.cond (V 13) (aA (aD 14 15 xe) .ret) .skip))) (aA (aD 15 17 Hd) (aA (aD 17 21 He) (aA (aD 21 26 Hf) (aA (aD 26 33 Hg) (aA (aD 33 39 Hh) (aA (aA (.region [Q 8 (.mov (I 1))]) (.block 0 (.loop tF))) (aA (aD 94 99 Hp) .ret))))))))),false⟩
def Hq:List aB:=[M 4 0,Q 5 (.call .std 270 [V 4]),M 3 5]
def Hr:List aB:=[M 6 3,Q 7 (.toInt .u8 (V 6)),M 8 3,Q 9 (.arith .shr (V 8) (.cst (.int .u64 8))),Q 10 (.toInt .u8 (V 9)),M 11 3,Q 12 (.arith .shr (V 11) (.cst (.int .u64 16))),Q 13 (.toInt .u8 (V 12)),M 14 3,Q 15 (.arith .shr (V 14) (.cst (.int .u64 24))),Q 16 (.toInt .u8 (V 15)),Q 17 (.bsl false (.int .u8 0) 4 [(0,V 7),(1,V 10),(2,V 13),(3,V 16)]),M 2 17]
@[simp]def aIe:=aC Hq.eq_1<|aP Hr.eq_1
def qH:aU:=
 ⟨1,[.tmp 2],
 (aA (.region [Q 2 (.mov (.cst .nils))]) (aA (aD 4 6 Hq) (aA (aD 6 18 Hr) .ret))),false⟩
def Hs:List aB:=[M 11 0,Q 12 (.call .std 174 [V 11]),Q 13 (.call .std 135 [V 12]),M 3 13]
def Ht:List aB:=[Q 14 (.mov (.cst .und)),Q 15 (.bsl false (.int .u8 0) 4 [(0,(.cst (.int .u8 71))),(1,(.cst (.int .u8 66))),(2,(.cst (.int .u8 75))),(3,(.cst (.int .u8 49)))]),M 16 3,Q 17 (.len false (V 16)),Q 18 (.call .std 219 [V 17]),Q 19 (.app 1 1 (V 15) (V 18)),M 4 19]
def Hu:List aB:=[M 20 4,M 21 3,Q 22 (.app 1 1 (V 20) (V 21)),M 4 22]
def Hv:List aB:=[M 23 5,M 24 0,Q 25 (.len false (V 24)),Q 26 (.arith .lss (V 23) (V 25))]
def Hw:List aB:=[M 29 0,M 30 5,Q 31 (.iaddr 2 (V 29) (V 30)),FA 32 1 31,LD 33 32,M 6 33]
def Hx:List aB:=[M 34 4,M 35 6,Q 36 (.len false (V 35)),Q 37 (.arith .add (V 36) (I 120)),Q 38 (.arith .sub (V 37) (I 1)),Q 39 (.arith .quo (V 38) (I 120)),Q 40 (.call .std 219 [V 39]),Q 41 (.app 1 1 (V 34) (V 40)),M 4 41]
def Hy:List aB:=[M 42 6,Q 43 (.len false (V 42)),Q 44 (.arith .gtr (V 43) (I 0))]
def Hz:List aB:=[M 45 6,Q 46 (.len false (V 45)),Q 47 (.mnmx false (I 120) (V 46)),M 7 47]
def IA:List aB:=[M 49 6,M 50 7,Q 51 (.slc 2 none (some (V 50)) (V 49)),Q 52 (.call .std 258 [V 51]),M 48 52,EX 53 0 48,EX 54 1 48,M 8 53,M 9 54]
def IB:List aB:=[M 55 4,M 56 8,Q 57 (.len false (V 56)),Q 58 (.call .std 219 [V 57]),Q 59 (.app 1 1 (V 55) (V 58)),M 60 8,Q 61 (.app 1 1 (V 59) (V 60)),M 4 61]
def IC:List aB:=[M 62 6,M 63 7,Q 64 (.slc 2 (some (V 63)) none (V 62)),M 6 64]
@[simp]def aIf:=aC Hs.eq_1<|aC Ht.eq_1<|aC Hu.eq_1<|aC Hv.eq_1<|aC Hw.eq_1<|aC Hx.eq_1<|aC Hy.eq_1<|aC Hz.eq_1<|aC IA.eq_1<|aC IB.eq_1<|aP IC.eq_1
def xf:aL:=
 (aA (aA (aD 42 44 Hy) (.cond (V 44) .skip (.exit 2))) (.block 3 (aA (aD 45 48 Hz) (aA (.clr [(9,10),(48,55)] (ai IA)) (aA (aD 55 62 IB) (aD 62 65 IC))))))
@[simp]def aIg:=bL xf.eq_1
def xg:List aB:=[M 27 5,Q 28 (.arith .add (V 27) (I 1)),M 5 28]
@[simp]def aIh:=aP xg.eq_1
def tG:aL:=
 (aA (aA (aD 23 26 Hv) (.cond (V 26) .skip (.exit 0))) (aA (.block 1 (aA (aD 29 34 Hw) (aA (aD 34 42 Hx) (.block 2 (.loop xf))))) (aD 27 29 xg)))
@[simp]def aIi:=bL tG.eq_1
def xh:List aB:=[M 65 4,Q 66 (.call .std 259 [V 65]),M 10 66]
def xi:List aB:=[M 67 4,M 68 10,Q 69 (.toInt .u8 (V 68)),M 70 10,Q 71 (.arith .shr (V 70) (.cst (.int .u64 8))),Q 72 (.toInt .u8 (V 71)),M 73 10,Q 74 (.arith .shr (V 73) (.cst (.int .u64 16))),Q 75 (.toInt .u8 (V 74)),M 76 10,Q 77 (.arith .shr (V 76) (.cst (.int .u64 24))),Q 78 (.toInt .u8 (V 77)),Q 79 (.bsl false (.int .u8 0) 4 [(0,V 69),(1,V 72),(2,V 75),(3,V 78)]),Q 80 (.app 1 1 (V 67) (V 79)),M 2 80]
@[simp]def aIj:=aC xh.eq_1<|aP xi.eq_1
def mT:aU:=
 ⟨1,[.tmp 2],
 (aA (.region [Q 2 (.mov (.cst .nils))]) (aA (aD 11 14 Hs) (aA (aD 14 20 Ht) (aA (aD 20 23 Hu) (aA (aA (.region [Q 5 (.mov (I 0))]) (.block 0 (.loop tG))) (aA (aD 65 67 xh) (aA (aD 67 81 xi) .ret))))))),false⟩
def ID:List aB:=[M 5 0,Q 6 (.len false (V 5)),Q 7 (.arith .eql (V 6) (I 0)),M 8 7,QG (some 9) (.mov (V 0)) 8 false,QG (some 10) (.len false (V 9)) 8 false,QG (some 11) (.arith .gtr (V 10) (I 120)) 8 false,Q 12 (.pick (V 8) cN (V 11))]
def IE:List aB:=[M 13 0,Q 14 (.len false (V 13)),Q 15 (.mov (I 0))]
def xj:List aB:=[Q 16 (.arith .lss (V 15) (V 14))]
def IF:List aB:=[M 17 15,Q 18 (.iaddr 2 (V 13) (V 15)),Q 19 (.load true 2 false (V 18)),Q 4 (.alloc false [(.int .i64 0),(.int .i64 0)]),M 3 17,QN (.store 2 (V 4) (V 19))]
def IG:List aB:=[Q 21 (.load true 2 false (V 4)),Q 22 (.call .std 260 [V 21]),Q 23 (.un .not (V 22)),M 20 23]
def IH:List aB:=[M 25 3,Q 26 (.arith .gtr (V 25) (I 0)),M 27 26,QG (some 28) (.faddr 0 (V 4)) 27 true,QG (some 29) (.load false 1 false (V 28)) 27 true,QG (some 30) (.mov (V 0)) 27 true,QG (some 31) (.mov (V 3)) 27 true,QG (some 32) (.arith .sub (V 31) (I 1)) 27 true,QG (some 33) (.iaddr 2 (V 30) (V 32)) 27 true,QG (some 34) (.faddr 0 (V 33)) 27 true,QG (some 35) (.load false 1 true (V 34)) 27 true,QG (some 36) (.arith .leq (V 29) (V 35)) 27 true,Q 37 (.pick (V 27) (V 36) bG),M 24 37]
def II:List aB:=[Q 38 (.arith .add (V 15) (I 1)),M 15 38]
@[simp]def aIk:=aC ID.eq_1<|aC IE.eq_1<|aC xj.eq_1<|aC IF.eq_1<|aC IG.eq_1<|aC IH.eq_1<|aP II.eq_1
def tH:aL:=
 (aA (ai xj) (aA (.cond (V 16) .skip (.exit 0)) (aA (.block 1 (aA (aD 17 20 IF) (.block 2 (aA (aD 21 24 IG) (.cond (V 20) (aA (.region [Q 2 (.mov (I 11))]) .ret) (aA (aD 25 38 IH) (.cond (V 24) (aA (.region [Q 2 (.mov (I 13))]) .ret) .skip))))))) (aD 38 39 II))))
@[simp]def aIl:=bL tH.eq_1
def qI:aU:=
 ⟨1,[.tmp 2],
 (aA (.region [Q 2 (.mov (I 0))]) (aA (aA (aD 5 12 ID) (.cond (V 12) (aA (.region [Q 2 (.mov (I 2))]) .ret) .skip)) (aA (aA (ai IE) (.block 0 (.loop tH))) (aA (.region [Q 2 (.mov (I 0))]) .ret)))),false⟩
def IJ:List aB:=[M 5 4,M 6 0,Q 7 (.len false (V 6)),Q 8 (.arith .lss (V 5) (V 7)),M 9 8,QG (some 10) (.mov (V 3)) 9 true,QG (some 11) (.arith .leq (V 10) (I 65536)) 9 true,Q 12 (.pick (V 9) (V 11) bG)]
def IK:List aB:=[M 15 3,M 16 0,M 17 4,Q 18 (.iaddr 2 (V 16) (V 17)),FA 19 1 18,LD 20 19,Q 21 (.len false (V 20)),Q 22 (.arith .add (V 15) (V 21)),M 3 22]
def IL:List aB:=[M 13 4,Q 14 (.arith .add (V 13) (I 1)),M 4 14]
@[simp]def aIm:=aC IJ.eq_1<|aC IK.eq_1<|aP IL.eq_1
def xk:aL:=
 (aA (aA (aD 5 12 IJ) (.cond (V 12) .skip (.exit 0))) (aA (.block 1 (aD 15 23 IK)) (aD 13 15 IL)))
@[simp]def aIn:=bL xk.eq_1
def xl:List aB:=[M 23 3,M 2 23]
@[simp]def aIo:=aP xl.eq_1
def mU:aU:=
 ⟨1,[.tmp 2],
 (aA (.region [Q 2 (.mov (I 0))]) (aA (.region [Q 3 (.mov (I 0))]) (aA (aA (.region [Q 4 (.mov (I 0))]) (.block 0 (.loop xk))) (aA (aD 23 24 xl) .ret)))),false⟩
def IM:List aB:=[M 5 0,Q 6 (.len false (V 5)),Q 7 (.arith .gtr (V 6) (I 256))]
def IO:List aB:=[M 8 3,M 9 0,Q 10 (.len false (V 9)),Q 11 (.arith .lss (V 8) (V 10))]
def IP:List aB:=[M 14 0,M 15 3,Q 16 (.iaddr 1 (V 14) (V 15)),LD 17 16,Q 18 (.call .std 98 [V 17]),M 4 18]
def IQ:List aB:=[M 21 4,M 2 21]
def IR:List aB:=[M 22 3,Q 23 (.arith .gtr (V 22) (I 0)),M 24 23,QG (some 25) (.mov (V 0)) 24 true,QG (some 26) (.mov (V 3)) 24 true,QG (some 27) (.arith .sub (V 26) (I 1)) 24 true,QG (some 28) (.iaddr 1 (V 25) (V 27)) 24 true,QG (some 29) (.load false 1 true (V 28)) 24 true,QG (some 30) (.mov (V 0)) 24 true,QG (some 31) (.mov (V 3)) 24 true,QG (some 32) (.iaddr 1 (V 30) (V 31)) 24 true,QG (some 33) (.load false 1 true (V 32)) 24 true,QG (some 34) (.call .std 102 [V 29,V 33]) 24 true,QG (some 35) (.arith .geq (V 34) (I 0)) 24 true,Q 36 (.pick (V 24) (V 35) bG)]
def IS:List aB:=[M 12 3,Q 13 (.arith .add (V 12) (I 1)),M 3 13]
@[simp]def aIp:=aC IM.eq_1<|aC IO.eq_1<|aC IP.eq_1<|aC IQ.eq_1<|aC IR.eq_1<|aP IS.eq_1
def xn:aL:=
 (aA (aA (aD 8 11 IO) (.cond (V 11) .skip (.exit 0))) (aA (.block 1 (aA (aA (aD 14 19 IP) (aA (aD 19 20 wo) (.cond (V 20) (aA (aD 21 22 IQ) .ret) .skip))) (aA (aD 22 36 IR) (.cond (V 36) (aA (.region [Q 2 (.mov (I 13))]) .ret) .skip)))) (aD 12 14 IS)))
@[simp]def aIq:=bL xn.eq_1
def z44:aU:=
 ⟨1,[.tmp 2],
 (aA (.region [Q 2 (.mov (I 0))]) (aA (aA (aD 5 7 IM) (.cond (V 7) (aA (.region [Q 2 (.mov (I 3))]) .ret) .skip)) (aA (aA (.region [Q 3 (.mov (I 0))]) (.block 0 (.loop xn))) (aA (.region [Q 2 (.mov (I 0))]) .ret)))),false⟩
def IT:List aB:=[M 11 3,M 12 0,M 13 4,Q 14 (.iaddr 2 (V 12) (V 13)),FA 15 0 14,LD 16 15,Q 17 (.bsl false .nils 1 [(0,V 16)]),Q 18 (.app 1 24 (V 11) (V 17)),M 3 18]
@[simp]def aIr:=aP IT.eq_1
def IU:aL:=
 (aA (aA (aD 5 8 wm) (.cond (V 8) .skip (.exit 0))) (aA (.block 1 (aD 11 19 IT)) (aD 9 11 wn)))
@[simp]def aIs:=bL IU.eq_1
def oC:aU:=
 ⟨1,[.tmp 2],
 (aA (.region [Q 2 (.mov (.cst .nils))]) (aA (.region [Q 3 (.mov (.cst .nils))]) (aA (aA (.region [Q 4 (.mov (I 0))]) (.block 0 (.loop IU))) (aA (aD 19 20 xC) .ret)))),false⟩
def IV:List aB:=[M 4 3,M 5 0,Q 6 (.len false (V 5)),Q 7 (.arith .lss (V 4) (V 6))]
def IW:List aB:=[M 10 0,M 11 3,Q 12 (.iaddr 2 (V 10) (V 11)),Q 13 (.load true 2 false (V 12)),Q 14 (.call .std 329 [V 13]),Q 15 (.un .not (V 14))]
def IX:List aB:=[M 16 3,Q 17 (.arith .gtr (V 16) (I 0)),M 18 17,QG (some 19) (.mov (V 0)) 18 true,QG (some 20) (.mov (V 3)) 18 true,QG (some 21) (.iaddr 2 (V 19) (V 20)) 18 true,QG (some 22) (.faddr 0 (V 21)) 18 true,QG (some 23) (.load false 1 true (V 22)) 18 true,QG (some 24) (.mov (V 0)) 18 true,QG (some 25) (.mov (V 3)) 18 true,QG (some 26) (.arith .sub (V 25) (I 1)) 18 true,QG (some 27) (.iaddr 2 (V 24) (V 26)) 18 true,QG (some 28) (.faddr 0 (V 27)) 18 true,QG (some 29) (.load false 1 true (V 28)) 18 true,QG (some 30) (.arith .leq (V 23) (V 29)) 18 true,Q 31 (.pick (V 18) (V 30) bG)]
def IY:List aB:=[M 8 3,Q 9 (.arith .add (V 8) (I 1)),M 3 9]
@[simp]def aIt:=aC IV.eq_1<|aC IW.eq_1<|aC IX.eq_1<|aP IY.eq_1
def tI:aL:=
 (aA (aA (aD 4 7 IV) (.cond (V 7) .skip (.exit 0))) (aA (.block 1 (aA (aA (aD 10 15 IW) (.cond (V 15) (aA (.region [Q 2 (.mov (I 11))]) .ret) .skip)) (aA (aD 16 31 IX) (.cond (V 31) (aA (.region [Q 2 (.mov (I 13))]) .ret) .skip)))) (aD 8 10 IY)))
@[simp]def aIu:=bL tI.eq_1
def qJ:aU:=
 ⟨1,[.tmp 2],
 (aA (.region [Q 2 (.mov (I 0))]) (aA (aA (.region [Q 3 (.mov (I 0))]) (.block 0 (.loop tI))) (aA (.region [Q 2 (.mov (I 0))]) .ret))),false⟩
def IZ:List aB:=[M 5 0,M 6 1,Q 7 (.call .std 102 [V 5,V 6]),Q 8 (.arith .eql (V 7) (I 0)),M 4 8]
@[simp]def aIv:=aP IZ.eq_1
def qK:aU:=
 ⟨2,[.tmp 4],
 (aA (.region [Q 4 (.mov bG)]) (aA (aD 5 9 IZ) .ret)),false⟩
def Ia:List aB:=[Q 1 (.build [(.str []),(.str [])] [(0,1,(.cst (.str [97]))),(1,1,(.cst (.str [120])))]),Q 2 (.bsl false (.agg [(.str []),(.str [])]) 1 [(0,V 1)]),Q 3 (.build [(.int .i64 0),(.int .i64 0)] [(0,1,(I 10)),(1,1,(I 5))]),Q 4 (.bsl false (.agg [(.int .i64 0),(.int .i64 0)]) 1 [(0,V 3)]),Q 5 (.build [.nils,.nils] [(0,1,V 2),(1,1,V 4)]),Q 6 (.bsl false (.agg [.nils,.nils]) 1 [(0,V 5)]),M 0 6]
@[simp]def aIw:=aP Ia.eq_1
def xp:aU:=
 ⟨0,[.tmp 0],
 (aA (.region [Q 0 (.mov (.cst .nils))]) (aA (aD 1 7 Ia) .ret)),false⟩
def Ib:List aB:=[M 4 1,Q 5 (.un .not (V 4))]
def Ic:List aB:=[M 12 0,Q 13 (.build [.nils,(.int .i64 0),(.bool false)] [(0,1,V 12)]),Q 14 (.box false (V 13)),M 4 14]
def Id:List aB:=[M 15 4,Q 16 (.call .std 232 [V 15,(I 4096)]),Q 17 (.mov (I 0))]
def Ie:List aB:=[M 19 5,M 20 4,Q 21 (.call .std 233 [V 20]),Q 22 (.bsl false (.str []) 1 [(0,V 21)]),Q 23 (.app 1 16 (V 19) (V 22)),M 5 23]
def If:List aB:=[M 24 4,ba 25 24,FA 26 2 25,LD 27 26]
def tJ:List aB:=[Q 2 (.mov (.cst .nilp)),Q 3 (.mov (I 5))]
@[simp]def aIx:=aC Ib.eq_1<|aC Ic.eq_1<|aC Id.eq_1<|aC Ie.eq_1<|aC If.eq_1<|aP tJ.eq_1
def Ig:aL:=
 (aA (ai ww) (aA (.cond (V 18) .skip (.exit 0)) (aA (.block 1 (aA (aD 19 24 Ie) (aA (aD 24 27 If) (.cond (V 27) (aA (ai tJ) .ret) .skip)))) (aD 28 29 wx))))
@[simp]def aIy:=bL Ig.eq_1
def Ih:List aB:=[M 29 4,Q 30 (.call .std 232 [V 29,(I 256)]),Q 31 (.mov (I 0))]
def Ii:List aB:=[Q 32 (.arith .lss (V 31) (V 30))]
def Ij:List aB:=[M 33 4,Q 34 (.call .std 232 [V 33,(I 8)]),Q 35 (.mov (I 0))]
def Ik:List aB:=[Q 36 (.arith .lss (V 35) (V 34))]
def Il:List aB:=[M 37 4,M 38 5,Q 39 (.len false (V 38)),Q 40 (.arith .sub (V 39) (I 1)),Q 41 (.call .std 232 [V 37,V 40]),M 42 4,M 43 5,Q 44 (.len false (V 43)),Q 45 (.arith .sub (V 44) (I 1)),Q 46 (.call .std 232 [V 42,V 45]),M 8 41,M 9 46]
def Im:List aB:=[M 47 4,ba 48 47,FA 49 2 48,LD 50 49]
def In:List aB:=[M 51 7,M 52 5,M 53 8,Q 54 (.iaddr 1 (V 52) (V 53)),Q 55 (.load false 1 true (V 54)),M 56 5,M 57 9,Q 58 (.iaddr 1 (V 56) (V 57)),Q 59 (.load false 1 true (V 58)),Q 60 (.build [(.str []),(.str [])] [(0,1,V 55),(1,1,V 59)]),Q 61 (.bsl false (.agg [(.str []),(.str [])]) 1 [(0,V 60)]),Q 62 (.app 2 32 (V 51) (V 61)),M 7 62]
def Io:List aB:=[Q 63 (.arith .add (V 35) (I 1)),M 35 63]
@[simp]def aIz:=aC Ih.eq_1<|aC Ii.eq_1<|aC Ij.eq_1<|aC Ik.eq_1<|aC Il.eq_1<|aC Im.eq_1<|aC In.eq_1<|aP Io.eq_1
def Ip:aL:=
 (aA (ai Ik) (aA (.cond (V 36) .skip (.exit 4)) (aA (.block 5 (aA (aD 37 47 Il) (aA (aA (aD 47 50 Im) (.cond (V 50) (aA (ai tJ) .ret) .skip)) (aD 51 63 In)))) (aD 63 64 Io))))
@[simp]def aIA:=bL Ip.eq_1
def Iq:List aB:=[M 64 6,M 65 7,Q 66 (.bsl false .nils 1 [(0,V 65)]),Q 67 (.app 1 24 (V 64) (V 66)),M 6 67]
def Ir:List aB:=[Q 68 (.arith .add (V 31) (I 1)),M 31 68]
@[simp]def aIB:=aC Iq.eq_1<|aP Ir.eq_1
def Is:aL:=
 (aA (ai Ii) (aA (.cond (V 32) .skip (.exit 2)) (aA (.block 3 (aA (.region [Q 7 (.mov (.cst .nils))]) (aA (aA (aD 33 34 Ij) (.block 4 (.loop Ip))) (aD 64 68 Iq)))) (aD 68 69 Ir))))
@[simp]def aIC:=bL Is.eq_1
def Iu:List aB:=[M 70 6,Q 71 (.call .std 51 [V 70]),M 69 71,EX 72 0 69,EX 73 1 69,M 10 72,M 11 73]
def Iv:List aB:=[M 74 4,ba 75 74,FA 76 2 75,LD 77 76,M 78 77,QG (some 79) (.mov (V 11)) 78 false,QG (some 80) (.arith .neq (V 79) (I 0)) 78 false,Q 81 (.pick (V 78) cN (V 80)),M 82 81,QG (some 83) (.mov (V 10)) 82 false,QG (some 84) (.call .std 134 [V 83]) 82 false,QG (some 85) (.toStr (V 84)) 82 false,QG (some 86) (.mov (V 0)) 82 false,QG (some 87) (.toStr (V 86)) 82 false,QG (some 88) (.arith .neq (V 85) (V 87)) 82 false,Q 89 (.pick (V 82) cN (V 88))]
def Iw:List aB:=[M 90 10,M 2 90,Q 3 (.mov (I 0))]
@[simp]def aID:=aC Iu.eq_1<|aC Iv.eq_1<|aP Iw.eq_1
def xq:aU:=
 ⟨1,[.tmp 2,.tmp 3],
 (aA (ai xI) (aA (aD 12 15 Ic) (aA (.region [Q 5 (.mov (.cst .nils))]) (aA (aA (aD 15 16 Id) (.block 0 (.loop Ig))) (aA (.region [Q 6 (.mov (.cst .nils))]) (aA (aA (aD 29 30 Ih) (.block 2 (.loop Is))) (aA (aD 69 74 Iu) (aA (aA (aD 74 89 Iv) (.cond (V 89) (aA (ai tJ) .ret) .skip)) (aA (aD 90 91 Iw) .ret))))))))),false⟩
def Ix:List aB:=[Q 2 (.mov (.cst .nils))]
def Iy:List aB:=[M 20 0,ba 21 20,FA 22 1 21,LD 23 22,M 24 3,Q 25 (.arith .add (V 23) (V 24)),ba 26 20,FA 27 1 26,QN (.store 1 (V 27) (V 25))]
def Iz:List aB:=[M 28 0,ba 29 28,FA 30 0 29,LD 31 30,M 32 0,ba 33 32,FA 34 1 33,LD 35 34,M 36 3,Q 37 (.arith .sub (V 35) (V 36)),M 38 0,ba 39 38,FA 40 1 39,LD 41 40,Q 42 (.slc 1 (some (V 37)) (some (V 41)) (V 31)),M 2 42]
def JA:List aB:=[M 3 0,Q 4 (.eqn false .p (V 3))]
def JB:List aB:=[M 5 0,ba 6 5,FA 7 0 6,LD 8 7,Q 9 (.len false (V 8)),M 2 9]
@[simp]def aIE:=aC Ix.eq_1<|aC Iy.eq_1<|aC Iz.eq_1<|aC JA.eq_1<|aP JB.eq_1
def xr:aU:=
 ⟨1,[.tmp 2],
 (aA (.region [Q 2 (.mov (I 0))]) (aA (aA (aD 3 4 JA) (.cond (V 4) (aA (.region [Q 2 (.mov (I 0))]) .ret) .skip)) (aA (aD 5 10 JB) .ret))),false⟩
def JC:List aB:=[Q 2 (.mov (.cst .nils))]
def JD:List aB:=[Q 4 (.mov (.cst .nils))]
def JE:List aB:=[Q 5 (.mov (I (-1)))]
def JF:List aB:=[M 19 3,Q 20 (.mov (I 0))]
def JG:List aB:=[Q 21 (.arith .lss (V 20) (V 19))]
def JH:List aB:=[M 22 20,M 6 22]
def JI:List aB:=[Q 8 (.mov (I 0))]
def JJ:List aB:=[FA 28 0 7,LD 29 28,Q 30 (.call .std 272 [V 29]),M 27 30,EX 31 0 27,EX 32 1 27,EX 33 2 27,EX 34 3 27,FA 35 1 7,QN (.store 1 (V 35) (V 31)),FA 36 2 7,QN (.store 1 (V 36) (V 32)),FA 37 3 7,QN (.store 1 (V 37) (V 33)),M 8 34]
def JK:List aB:=[FA 59 3 7,LD 60 59,M 5 60]
def JL:List aB:=[M 61 4,Q 62 (.load true 4 false (V 7)),Q 63 (.bsl false (.agg [.nils,(.int .i64 0),(.int .i64 0),(.int .i64 0)]) 1 [(0,V 62)]),Q 64 (.app 4 48 (V 61) (V 63)),M 4 64]
def JM:List aB:=[Q 65 (.arith .add (V 20) (I 1)),M 20 65]
def JN:List aB:=[M 66 4,M 2 66]
def JO:List aB:=[M 8 0,Q 9 (.eqn true .p (V 8))]
def JP:List aB:=[M 10 0,ba 11 10,FA 12 1 11,LD 13 12,Q 14 (.len false (V 13)),Q 15 (.mov (I 0))]
def JQ:List aB:=[Q 17 (.iaddr 1 (V 13) (V 15)),LD 18 17,M 5 18]
def JR:List aB:=[M 19 5,Q 20 (.len false (V 19)),Q 21 (.mov (I 0))]
def JS:List aB:=[Q 22 (.arith .lss (V 21) (V 20))]
def JT:List aB:=[Q 23 (.iaddr 4 (V 19) (V 21)),Q 24 (.load true 4 false (V 23)),Q 7 (.alloc false [.nils,(.int .i64 0),(.int .i64 0),(.int .i64 0)]),QN (.store 4 (V 7) (V 24))]
def JU:List aB:=[M 25 3,FA 26 1 7,LD 27 26,Q 28 (.arith .add (V 25) (V 27)),M 3 28]
def JV:List aB:=[Q 29 (.arith .add (V 21) (I 1)),M 21 29]
@[simp]def aIF:=aC JC.eq_1<|aC JD.eq_1<|aC JE.eq_1<|aC JF.eq_1<|aC JG.eq_1<|aC JH.eq_1<|aC JI.eq_1<|aC JJ.eq_1<|aC JK.eq_1<|aC JL.eq_1<|aC JM.eq_1<|aC JN.eq_1<|aC JO.eq_1<|aC JP.eq_1<|aC JQ.eq_1<|aC JR.eq_1<|aC JS.eq_1<|aC JT.eq_1<|aC JU.eq_1<|aP JV.eq_1
def JW:aL:=
 (aA (ai JS) (aA (.cond (V 22) .skip (.exit 2)) (aA (.block 3 (aA (aD 23 25 JT) (aD 25 29 JU))) (aD 29 30 JV))))
@[simp]def aIG:=bL JW.eq_1
def JX:List aB:=[Q 30 (.arith .add (V 15) (I 1)),M 15 30]
@[simp]def aIH:=aP JX.eq_1
def JY:aL:=
 (aA (ai xj) (aA (.cond (V 16) .skip (.exit 0)) (aA (.block 1 (aA (aD 17 19 JQ) (aA (ai JR) (.block 2 (.loop JW))))) (aD 30 31 JX))))
@[simp]def aII:=bL JY.eq_1
def xu:List aB:=[M 31 3,M 2 31]
@[simp]def aIJ:=aP xu.eq_1
def xw:aU:=
 ⟨1,[.tmp 2],
 (aA (.region [Q 2 (.mov (I 0))]) (aA (.region [Q 3 (.mov (I 0))]) (aA (aA (aD 8 9 JO) (.cond (V 9) (aA (aD 10 13 JP) (.block 0 (.loop JY))) .skip)) (aA (aD 31 32 xu) .ret)))),false⟩
def JZ:List aB:=[M 8 1,Q 9 (.call .std 171 [V 8]),Q 10 (.call .std 155 [V 9]),M 7 10,EX 11 0 7,EX 12 1 7,M 5 11,M 6 12]
def Ja:List aB:=[M 13 6,Q 14 (.arith .eql (V 13) (I 0)),M 15 14,QG (some 16) (.mov (V 5)) 15 true,QG (some 17) (.mov (V 5)) 15 true,QG (some 18) (.len false (V 17)) 15 true,QG (some 19) (.arith .sub (V 18) (I 4)) 15 true,QG (some 20) (.slc 1 none (some (V 19)) (V 16)) 15 true,QG (some 21) (.toStr (V 20)) 15 true,QG (some 22) (.mov (V 0)) 15 true,QG (some 23) (.nilck (V 22)) 15 true,QG (some 24) (.faddr 0 (V 23)) 15 true,QG (some 25) (.load false 1 false (V 24)) 15 true,QG (some 26) (.toStr (V 25)) 15 true,QG (some 27) (.arith .eql (V 21) (V 26)) 15 true,Q 28 (.pick (V 15) (V 27) bG),M 4 28]
@[simp]def aIK:=aC JZ.eq_1<|aP Ja.eq_1
def z1:aU:=
 ⟨2,[.tmp 4],
 (aA (.region [Q 4 (.mov bG)]) (aA (aD 7 13 JZ) (aA (aD 13 29 Ja) .ret))),false⟩
def Jb:List aB:=[M 6 0,Q 7 (.eqn false .p (V 6))]
def xx:List aB:=[Q 4 (.mov (.cst .nils)),Q 5 (.mov (I 1))]
def Jc:List aB:=[M 8 0,ba 9 8,FA 10 0 9,LD 11 10,M 12 1,Q 13 (.call .std 55 [V 11,V 12]),EX 14 0 13,EX 15 1 13,M 4 14,M 5 15]
@[simp]def aIL:=aC Jb.eq_1<|aC xx.eq_1<|aP Jc.eq_1
def z6:aU:=
 ⟨2,[.tmp 4,.tmp 5],
 (aA (ai qG) (aA (aA (aD 6 7 Jb) (.cond (V 7) (aA (ai xx) .ret) .skip)) (aA (aD 8 16 Jc) .ret))),false⟩
end Ps
