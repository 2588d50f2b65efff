/- The functions' code, as the pure semantics has it: printed by program. -/
import Derived.Test.YtpjmpaidcidjgaaGreatDoorCodeAKw
namespace Ps
open Go
set_option maxRecDepth 10000
set_option linter.defProp false
variable (T : aQ) (K : List Kt) (fr : Fr) (S : St)
def Jd:List aB:=[Q 2 (.alloc false [.nils]),Q 3 (.alloc false [(.int .i64 0)])]
def Je:List aB:=[M 13 0,M 14 0,Q 15 (.len false (V 14)),Q 16 (.arith .mul (I 8) (V 15)),Q 17 (.build [.nils,(.int .i64 0)] [(0,1,V 13),(1,1,V 16)]),Q 18 (.build [.nils,(.int .i64 0),(.int .i64 0)] [(0,2,V 17)]),Q 19 (.box false (V 18)),M 4 19]
def Jf:List aB:=[M 20 4,Q 21 (.mkbfn 336 [V 20]),M 22 4,Q 23 (.mkbfn 337 [V 22]),M 5 21,M 6 23]
def Jg:List aB:=[M 26 7,Q 27 (.arith .lss (V 26) (.cst (.int .u64 1))),M 28 27,QG (some 29) (.mov (V 7)) 28 false,QG (some 30) (.arith .gtr (V 29) (.cst (.int .u64 120))) 28 false,Q 31 (.pick (V 28) cN (V 30))]
def Jh:List aB:=[QN (.store 1 (V 2) (.cst .nils)),QN (.store 1 (V 3) (I 5))]
def Ji:List aB:=[Q 8 (.mov (I 0))]
def Jj:List aB:=[M 32 7,Q 33 (.toInt .i64 (V 32)),Q 34 (.mov (I 0))]
def Jk:List aB:=[Q 35 (.arith .lss (V 34) (V 33))]
def Jl:List aB:=[M 36 34,M 9 36]
def Jm:List aB:=[Q 10 (.alloc false [(.int .i64 0),(.int .i64 0)])]
def Jn:List aB:=[M 37 9]
def Jo:List aB:=[Q 52 (.arith .eql (V 37) (I 0)),M 51 52]
def Jp:List aB:=[Q 57 (.arith .eql (V 37) (I 1)),M 56 57]
def Jq:List aB:=[LD 60 2,Q 61 (.iaddr 2 (V 60) (I 0)),FA 62 0 61,LD 63 62,M 64 8,Q 65 (.arith .add (V 63) (V 64)),FA 66 0 10,QN (.store 1 (V 66) (V 65))]
def Jr:List aB:=[LD 42 2,M 43 9,Q 44 (.arith .sub (V 43) (I 1)),Q 45 (.iaddr 2 (V 42) (V 44)),FA 46 0 45,LD 47 46,M 48 8,Q 49 (.arith .add (V 47) (V 48)),FA 50 0 10,QN (.store 1 (V 50) (V 49))]
def Js:List aB:=[M 70 9,Q 71 (.arith .gtr (V 70) (I 0))]
def Jt:List aB:=[FA 72 1 10,LD 73 72,LD 74 2,M 75 9,Q 76 (.arith .sub (V 75) (I 1)),Q 77 (.iaddr 2 (V 74) (V 76)),FA 78 1 77,Q 79 (.load false 1 true (V 78)),Q 80 (.arith .add (V 73) (V 79)),FA 81 1 10,QN (.store 1 (V 81) (V 80))]
def Ju:List aB:=[Q 82 (.load true 2 false (V 10)),Q 83 (.call .std 260 [V 82]),Q 84 (.un .not (V 83)),M 85 84,QG (some 86) (.mov (V 9)) 85 false,QG (some 87) (.arith .gtr (V 86) (I 0)) 85 false,QG (some 88) (.mov (V 87)) 85 false,QG (some 89) (.mov (V 8)) 88 true,QG (some 90) (.arith .lss (V 89) (I 1)) 88 true,QG (some 91) (.pick (V 88) (V 90) bG) 85 false,Q 92 (.pick (V 85) cN (V 91))]
def Jv:List aB:=[QN (.store 1 (V 2) (.cst .nils)),QN (.store 1 (V 3) (I 5))]
def Jw:List aB:=[LD 93 2,Q 94 (.load true 2 false (V 10)),Q 95 (.bsl false (.agg [(.int .i64 0),(.int .i64 0)]) 1 [(0,V 94)]),Q 96 (.app 2 16 (V 93) (V 95)),QN (.store 1 (V 2) (V 96))]
def Jx:List aB:=[Q 97 (.arith .add (V 34) (I 1)),M 34 97]
def Jy:List aB:=[M 98 4,ba 99 98,FA 100 0 99,FA 101 1 100,LD 102 101,M 103 4,ba 104 103,FA 105 2 104,LD 106 105,Q 107 (.arith .sub (V 102) (V 106)),M 11 107]
def Jz:List aB:=[M 108 11,Q 109 (.arith .gtr (V 108) (I 7)),M 110 109,QG (some 111) (.mov (V 11)) 110 false,QG (some 112) (.arith .gtr (V 111) (I 0)) 110 false,QG (some 113) (.mov (V 112)) 110 false,QG (some 114) (.mov (V 0)) 113 true,QG (some 115) (.mov (V 0)) 113 true,QG (some 116) (.len false (V 115)) 113 true,QG (some 117) (.arith .sub (V 116) (I 1)) 113 true,QG (some 118) (.iaddr 1 (V 114) (V 117)) 113 true,QG (some 119) (.load false 1 false (V 118)) 113 true,QG (some 120) (.mov (V 11)) 113 true,QG (some 121) (.arith .sub (I 8) (V 120)) 113 true,QG (some 122) (.arith .shl (V 119) (V 121)) 113 true,QG (some 123) (.arith .neq (V 122) (.cst (.int .u8 0))) 113 true,QG (some 124) (.pick (V 113) (V 123) bG) 110 false,Q 125 (.pick (V 110) cN (V 124))]
def KA:List aB:=[QN (.store 1 (V 2) (.cst .nils)),QN (.store 1 (V 3) (I 5))]
@[simp]def aIM:=aC Jd.eq_1<|aC Je.eq_1<|aC Jf.eq_1<|aC Jg.eq_1<|aC Jh.eq_1<|aC Ji.eq_1<|aC Jj.eq_1<|aC Jk.eq_1<|aC Jl.eq_1<|aC Jm.eq_1<|aC Jn.eq_1<|aC Jo.eq_1<|aC Jp.eq_1<|aC Jq.eq_1<|aC Jr.eq_1<|aC Js.eq_1<|aC Jt.eq_1<|aC Ju.eq_1<|aC Jv.eq_1<|aC Jw.eq_1<|aC Jx.eq_1<|aC Jy.eq_1<|aC Jz.eq_1<|aP KA.eq_1
def KB:List aB:=[LD 126 2,QN (.store 1 (V 2) (V 126)),QN (.store 1 (V 3) (I 0))]
def KC:List aB:=[M 5 0,Q 6 (.len false (V 5)),Q 7 (.arith .gtr (V 6) (I 8))]
def xy:List aB:=[M 8 0,Q 9 (.len false (V 8)),Q 10 (.mov (I 0))]
def KD:List aB:=[M 12 10,Q 13 (.iaddr 2 (V 8) (V 10)),Q 14 (.load true 2 false (V 13)),Q 4 (.alloc false [(.str []),(.str [])]),M 3 12,QN (.store 2 (V 4) (V 14))]
def KE:List aB:=[FA 16 0 4,LD 17 16,Q 18 (.call .pur 121 [V 17]),Q 19 (.un .not (V 18)),M 15 19]
def KF:List aB:=[FA 21 1 4,LD 22 21,Q 23 (.arith .eql (V 22) (.cst (.str []))),M 20 23]
def KG:List aB:=[FA 25 1 4,LD 26 25,Q 27 (.len true (V 26)),Q 28 (.arith .gtr (V 27) (I 64)),M 24 28]
def KH:List aB:=[M 30 3,Q 31 (.arith .gtr (V 30) (I 0)),M 32 31,QG (some 33) (.faddr 0 (V 4)) 32 true,QG (some 34) (.load false 1 false (V 33)) 32 true,QG (some 35) (.mov (V 0)) 32 true,QG (some 36) (.mov (V 3)) 32 true,QG (some 37) (.arith .sub (V 36) (I 1)) 32 true,QG (some 38) (.iaddr 2 (V 35) (V 37)) 32 true,QG (some 39) (.faddr 0 (V 38)) 32 true,QG (some 40) (.load false 1 true (V 39)) 32 true,QG (some 41) (.arith .leq (V 34) (V 40)) 32 true,Q 42 (.pick (V 32) (V 41) bG),M 29 42]
def KI:List aB:=[Q 43 (.arith .add (V 10) (I 1)),M 10 43]
@[simp]def aIN:=aC KB.eq_1<|aC KC.eq_1<|aC xy.eq_1<|aC KD.eq_1<|aC KE.eq_1<|aC KF.eq_1<|aC KG.eq_1<|aC KH.eq_1<|aP KI.eq_1
def tK:aL:=
 (aA (.region [Q 11 (.arith .lss (V 10) (V 9))]) (aA (.cond (V 11) .skip (.exit 0)) (aA (.block 1 (aA (aD 12 15 KD) (.block 2 (aA (aD 16 20 KE) (.cond (V 15) (aA (.region [Q 2 (.mov (I 8))]) .ret) (aA (aD 21 24 KF) (.cond (V 20) (aA (.region [Q 2 (.mov (I 2))]) .ret) (aA (aD 25 29 KG) (.cond (V 24) (aA (.region [Q 2 (.mov (I 3))]) .ret) (aA (aD 30 43 KH) (.cond (V 29) (aA (.region [Q 2 (.mov (I 13))]) .ret) .skip))))))))))) (aD 43 44 KI))))
@[simp]def aIO:=bL tK.eq_1
def z36:aU:=
 ⟨1,[.tmp 2],
 (aA (.region [Q 2 (.mov (I 0))]) (aA (aA (aD 5 7 KC) (.cond (V 7) (aA (.region [Q 2 (.mov (I 3))]) .ret) .skip)) (aA (aA (ai xy) (.block 0 (.loop tK))) (aA (.region [Q 2 (.mov (I 0))]) .ret)))),false⟩
def KJ:List aB:=[M 5 0,M 6 1,Q 7 (.call .std 103 [V 5,V 6,(.cst (.fn 104 []))]),M 4 7]
@[simp]def aIP:=aP KJ.eq_1
def qL:aU:=
 ⟨2,[.tmp 4],
 (aA (.region [Q 4 (.mov (I 0))]) (aA (aD 5 8 KJ) .ret)),false⟩
def xz:List aB:=[M 3 0,Q 4 (.eqn false .s (V 3))]
def KK:List aB:=[Q 5 (.emp0),M 6 0,Q 7 (.gapp 2 32 (V 5) (V 6)),M 2 7]
@[simp]def aIQ:=aC xz.eq_1<|aP KK.eq_1
def z4:aU:=
 ⟨1,[.tmp 2],
 (aA (.region [Q 2 (.mov (.cst .nils))]) (aA (aA (aD 3 4 xz) (.cond (V 4) (aA (.region [Q 2 (.mov (.cst .nils))]) .ret) .skip)) (aA (aD 5 8 KK) .ret))),false⟩
def KL:List aB:=[M 5 0,Q 6 (.len false (V 5)),M 7 1,Q 8 (.arith .add (V 6) (V 7)),Q 9 (.mks 1 1 (V 8)),M 10 0,Q 11 (.app 1 1 (V 9) (V 10)),M 4 11]
@[simp]def aIR:=aP KL.eq_1
def qN:aU:=
 ⟨2,[.tmp 4],
 (aA (.region [Q 4 (.mov (.cst .nils))]) (aA (aD 5 12 KL) .ret)),true⟩
def yA:List aB:=[Q 2 (.mov (.cst .nils)),Q 3 (.mov (.cst .nilm))]
def yB:List aB:=[Q 9 (.mkm),M 4 9]
def yC:List aB:=[M 25 4,Q 26 (.call .std 314 [V 25]),Q 27 (.call .std 199 [V 26]),M 6 27]
def yD:List aB:=[M 28 6,Q 29 (.len false (V 28)),Q 30 (.mov (I 0))]
def KM:List aB:=[Q 31 (.arith .lss (V 30) (V 29))]
def KN:List aB:=[M 32 30,Q 33 (.iaddr 1 (V 28) (V 30)),LD 34 33,M 7 32,M 8 34]
def KO:List aB:=[M 35 4,M 36 8,M 37 7,QN (.mset true (V 35) (V 36) (V 37))]
def KP:List aB:=[Q 38 (.arith .add (V 30) (I 1)),M 30 38]
@[simp]def aIS:=aC yA.eq_1<|aC yB.eq_1<|aC yC.eq_1<|aC yD.eq_1<|aC KM.eq_1<|aC KN.eq_1<|aC KO.eq_1<|aP KP.eq_1
def yE:aL:=
 (aA (ai KM) (aA (.cond (V 31) .skip (.exit 2)) (aA (.block 3 (aA (aD 32 35 KN) (aD 35 38 KO))) (aD 38 39 KP))))
@[simp]def aIT:=bL yE.eq_1
def yF:List aB:=[M 39 6,M 40 4,M 2 39,M 3 40]
def KQ:List aB:=[M 8 1,Q 9 (.len true (V 8)),Q 10 (.arith .gtr (V 9) (I 65535))]
def KR:List aB:=[Q 4 (.mov (.cst .nils)),Q 5 (.mov (I 3))]
def KS:List aB:=[M 12 0,M 13 1,Q 14 (.len true (V 13)),Q 15 (.call .std 107 [V 12,V 14]),M 11 15,EX 16 0 11,EX 17 1 11,M 6 16,M 7 17]
def KT:List aB:=[M 18 6,M 19 1,Q 20 (.app 1 1 (V 18) (V 19)),M 4 20,Q 5 (.mov (I 0))]
@[simp]def aIU:=aC yF.eq_1<|aC KQ.eq_1<|aC KR.eq_1<|aC KS.eq_1<|aP KT.eq_1
def z24:aU:=
 ⟨2,[.tmp 4,.tmp 5],
 (aA (ai qG) (aA (aA (aD 8 10 KQ) (.cond (V 10) (aA (ai KR) .ret) .skip)) (aA (.clr [(7,8),(11,18)] (ai KS)) (aA (aD 18 21 KT) .ret)))),true⟩
def KU:List aB:=[M 5 0,M 6 0,ba 7 6,FA 8 0 7,Q 9 (.load true 2 false (V 8)),M 10 1,Q 11 (.call .std 377 [V 9,V 10]),M 4 11,EX 12 0 4,EX 13 1 4,ba 14 5,FA 15 0 14,QN (.store 2 (V 15) (V 12))]
@[simp]def aIV:=aP KU.eq_1
def qO:aU:=
 ⟨2,[],
 (aD 4 16 KU),false⟩
def KV:List aB:=[M 4 0,M 5 1,Q 6 (.call .pur 378 [V 5]),Q 7 (.call .std 333 [V 4,V 6])]
@[simp]def aIW:=aP KV.eq_1
def z2:aU:=
 ⟨2,[],
 (aD 4 8 KV),false⟩
def KW:List aB:=[Q 3 (.alloc false [(.int .u32 0)]),QN (.store 1 (V 3) (.cst (.int .u32 4294967295)))]
def KX:List aB:=[Q 7 (.mkfn 342 [V 3]),M 4 7]
def KY:List aB:=[Q 12 (.iaddr 1 (V 8) (V 10)),LD 13 12,M 6 13]
def KZ:List aB:=[LD 14 3,M 15 6,Q 16 (.toInt .u32 (V 15)),Q 17 (.arith .xor (V 14) (V 16)),QN (.store 1 (V 3) (V 17))]
def Ka:List aB:=[Q 18 (.mov (I 0))]
@[simp]def Xs:=aP Ka.eq_1
def Kb:List aB:=[M 20 4,Q 21 (.callv .std (V 20) [])]
def Kc:List aB:=[Q 22 (.arith .add (V 18) (I 1)),M 18 22]
@[simp]def aIX:=aC KW.eq_1<|aC KX.eq_1<|aC KY.eq_1<|aC KZ.eq_1<|aC Kb.eq_1<|aP Kc.eq_1
def tL:aL:=
 (aA (.region [Q 19 (.arith .lss (V 18) (I 8))]) (aA (.cond (V 19) .skip (.exit 2)) (aA (.block 3 (aD 20 22 Kb)) (aD 22 23 Kc))))
@[simp]def aIY:=bL tL.eq_1
def Kd:List aB:=[Q 23 (.arith .add (V 10) (I 1)),M 10 23]
@[simp]def aIZ:=aP Kd.eq_1
def tM:aL:=
 (aA (.region [Q 11 (.arith .lss (V 10) (V 9))]) (aA (.cond (V 11) .skip (.exit 0)) (aA (.block 1 (aA (aD 12 14 KY) (aA (aD 14 18 KZ) (aA (ai Ka) (.block 2 (.loop tL)))))) (aD 23 24 Kd))))
@[simp]def aI0:=bL tM.eq_1
def Ke:List aB:=[LD 24 3,Q 25 (.un .xor (V 24)),M 2 25]
@[simp]def aI1:=aP Ke.eq_1
def qP:aU:=
 ⟨1,[.tmp 2],
 (aA (.region [Q 2 (.mov (.cst (.int .u32 0)))]) (aA (ai KW) (aA (aD 7 8 KX) (aA (aA (ai xy) (.block 0 (.loop tM))) (aA (aD 24 26 Ke) .ret))))),false⟩
def Kf:List aB:=[M 8 0,Q 9 (.call .std 235 [V 8]),M 3 9]
def Kg:List aB:=[M 10 3,Q 11 (.len false (V 10)),Q 12 (.call .std 219 [V 11]),M 4 12]
def Kh:List aB:=[M 13 5,M 14 3,Q 15 (.len false (V 14)),Q 16 (.arith .lss (V 13) (V 15))]
def Ki:List aB:=[M 19 4,M 20 3,M 21 5,Q 22 (.iaddr 1 (V 20) (V 21)),LD 23 22,Q 24 (.call .pur 220 [V 23]),Q 25 (.app 1 1 (V 19) (V 24)),M 4 25]
def Kj:List aB:=[M 17 5,Q 18 (.arith .add (V 17) (I 1)),M 5 18]
@[simp]def aI2:=aC Kf.eq_1<|aC Kg.eq_1<|aC Kh.eq_1<|aC Ki.eq_1<|aP Kj.eq_1
def yG:aL:=
 (aA (aA (aD 13 16 Kh) (.cond (V 16) .skip (.exit 0))) (aA (.block 1 (aD 19 26 Ki)) (aD 17 19 Kj)))
@[simp]def aI3:=bL yG.eq_1
def Kk:List aB:=[M 26 4,M 27 0,Q 28 (.len false (V 27)),Q 29 (.call .std 219 [V 28]),Q 30 (.app 1 1 (V 26) (V 29)),M 4 30]
def Kl:List aB:=[M 31 6,M 32 0,Q 33 (.len false (V 32)),Q 34 (.arith .lss (V 31) (V 33))]
def Km:List aB:=[M 37 4,M 38 0,M 39 6,Q 40 (.iaddr 1 (V 38) (V 39)),LD 41 40,Q 42 (.len false (V 41)),Q 43 (.call .std 219 [V 42]),Q 44 (.app 1 1 (V 37) (V 43)),M 4 44]
def Kn:List aB:=[M 45 7,M 46 0,M 47 6,Q 48 (.iaddr 1 (V 46) (V 47)),LD 49 48,Q 50 (.len false (V 49)),Q 51 (.arith .lss (V 45) (V 50))]
def Ko:List aB:=[M 54 4,M 55 3,M 56 0,M 57 6,Q 58 (.iaddr 1 (V 56) (V 57)),Q 59 (.load false 1 true (V 58)),M 60 7,Q 61 (.iaddr 2 (V 59) (V 60)),FA 62 0 61,Q 63 (.load false 1 true (V 62)),Q 64 (.call .std 236 [V 55,V 63]),Q 65 (.call .std 219 [V 64]),Q 66 (.app 1 1 (V 54) (V 65)),M 67 3,M 68 0,M 69 6,Q 70 (.iaddr 1 (V 68) (V 69)),Q 71 (.load false 1 true (V 70)),M 72 7,Q 73 (.iaddr 2 (V 71) (V 72)),FA 74 1 73,Q 75 (.load false 1 true (V 74)),Q 76 (.call .std 236 [V 67,V 75]),Q 77 (.call .std 219 [V 76]),Q 78 (.app 1 1 (V 66) (V 77)),M 4 78]
def Kp:List aB:=[M 52 7,Q 53 (.arith .add (V 52) (I 1)),M 7 53]
@[simp]def aI4:=aC Kk.eq_1<|aC Kl.eq_1<|aC Km.eq_1<|aC Kn.eq_1<|aC Ko.eq_1<|aP Kp.eq_1
def yH:aL:=
 (aA (aA (aD 45 51 Kn) (.cond (V 51) .skip (.exit 4))) (aA (.block 5 (aD 54 79 Ko)) (aD 52 54 Kp)))
@[simp]def aI5:=bL yH.eq_1
def Kq:List aB:=[M 35 6,Q 36 (.arith .add (V 35) (I 1)),M 6 36]
@[simp]def aI6:=aP Kq.eq_1
def yI:aL:=
 (aA (aA (aD 31 34 Kl) (.cond (V 34) .skip (.exit 2))) (aA (.block 3 (aA (aD 37 45 Km) (aA (.region [Q 7 (.mov (I 0))]) (.block 4 (.loop yH))))) (aD 35 37 Kq)))
@[simp]def aI7:=bL yI.eq_1
def Kr:List aB:=[M 79 4,M 2 79]
@[simp]def aI8:=aP Kr.eq_1
def mV:aU:=
 ⟨1,[.tmp 2],
 (aA (.region [Q 2 (.mov (.cst .nils))]) (aA (aD 8 10 Kf) (aA (aD 10 13 Kg) (aA (aA (.region [Q 5 (.mov (I 0))]) (.block 0 (.loop yG))) (aA (aD 26 31 Kk) (aA (aA (.region [Q 6 (.mov (I 0))]) (.block 2 (.loop yI))) (aA (aD 79 80 Kr) .ret))))))),false⟩
def Ks:List aB:=[M 4 0,Q 5 (.arith .gtr (V 4) (I 127))]
def Ku:List aB:=[M 6 3,M 7 0,Q 8 (.arith .rem (V 7) (I 128)),Q 9 (.arith .add (V 8) (I 128)),Q 10 (.toInt .u8 (V 9)),Q 11 (.bsl false (.int .u8 0) 1 [(0,V 10)]),Q 12 (.app 1 1 (V 6) (V 11)),M 3 12]
def Kv:List aB:=[M 13 0,Q 14 (.arith .quo (V 13) (I 128)),M 0 14]
@[simp]def aI9:=aC Ks.eq_1<|aC Ku.eq_1<|aP Kv.eq_1
def yJ:aL:=
 (aA (aA (aD 4 5 Ks) (.cond (V 5) .skip (.exit 0))) (.block 1 (aA (aD 6 13 Ku) (aD 13 15 Kv))))
@[simp]def aJa:=bL yJ.eq_1
def Kw:List aB:=[M 15 3,M 16 0,Q 17 (.toInt .u8 (V 16)),Q 18 (.bsl false (.int .u8 0) 1 [(0,V 17)]),Q 19 (.app 1 1 (V 15) (V 18)),M 2 19]
@[simp]def aJb:=aP Kw.eq_1
def oD:aU:=
 ⟨1,[.tmp 2],
 (aA (.region [Q 2 (.mov (.cst .nils))]) (aA (.region [Q 3 (.mov (.cst .nils))]) (aA (.block 0 (.loop yJ)) (aA (aD 15 20 Kw) .ret)))),true⟩
def Kx:List aB:=[M 10 0,Q 11 (.call .std 330 [V 10]),M 4 11]
def Ky:List aB:=[M 15 0,Q 16 (.len false (V 15)),Q 17 (.toInt .u64 (V 16)),M 18 0,Q 19 (.iaddr 2 (V 18) (I 0)),FA 20 0 19,Q 21 (.load false 1 true (V 20)),Q 22 (.toInt .u64 (V 21)),M 23 0,Q 24 (.iaddr 2 (V 23) (I 0)),FA 25 1 24,Q 26 (.load false 1 true (V 25)),Q 27 (.call .pur 331 [V 26]),Q 28 (.bsl false (.int .u64 0) 3 [(0,V 17),(1,V 22),(2,V 27)]),M 5 28]
def Kz:List aB:=[M 29 6,M 30 0,Q 31 (.len false (V 30)),Q 32 (.arith .lss (V 29) (V 31))]
def LA:List aB:=[M 35 0,M 36 6,Q 37 (.iaddr 2 (V 35) (V 36)),FA 38 0 37,Q 39 (.load false 1 true (V 38)),M 40 0,M 41 6,Q 42 (.arith .sub (V 41) (I 1)),Q 43 (.iaddr 2 (V 40) (V 42)),FA 44 0 43,Q 45 (.load false 1 true (V 44)),Q 46 (.arith .sub (V 39) (V 45)),M 7 46]
def LB:List aB:=[M 47 6,Q 48 (.arith .eql (V 47) (I 1))]
def LC:List aB:=[M 49 5,M 50 7,Q 51 (.toInt .u64 (V 50)),Q 52 (.bsl false (.int .u64 0) 1 [(0,V 51)]),Q 53 (.app 1 8 (V 49) (V 52)),M 5 53]
def LE:List aB:=[M 54 5,M 55 7,M 56 0,M 57 6,Q 58 (.arith .sub (V 57) (I 1)),Q 59 (.iaddr 2 (V 56) (V 58)),FA 60 0 59,Q 61 (.load false 1 true (V 60)),M 62 0,M 63 6,Q 64 (.arith .sub (V 63) (I 2)),Q 65 (.iaddr 2 (V 62) (V 64)),FA 66 0 65,Q 67 (.load false 1 true (V 66)),Q 68 (.arith .sub (V 61) (V 67)),Q 69 (.arith .sub (V 55) (V 68)),Q 70 (.call .pur 331 [V 69]),Q 71 (.bsl false (.int .u64 0) 1 [(0,V 70)]),Q 72 (.app 1 8 (V 54) (V 71)),M 5 72]
def LF:List aB:=[M 73 5,M 74 0,M 75 6,Q 76 (.iaddr 2 (V 74) (V 75)),FA 77 1 76,Q 78 (.load false 1 true (V 77)),M 79 0,M 80 6,Q 81 (.arith .sub (V 80) (I 1)),Q 82 (.iaddr 2 (V 79) (V 81)),FA 83 1 82,Q 84 (.load false 1 true (V 83)),Q 85 (.arith .sub (V 78) (V 84)),Q 86 (.call .pur 331 [V 85]),Q 87 (.bsl false (.int .u64 0) 1 [(0,V 86)]),Q 88 (.app 1 8 (V 73) (V 87)),M 5 88]
def LG:List aB:=[M 33 6,Q 34 (.arith .add (V 33) (I 1)),M 6 34]
@[simp]def aJc:=aC Kx.eq_1<|aC Ky.eq_1<|aC Kz.eq_1<|aC LA.eq_1<|aC LB.eq_1<|aC LC.eq_1<|aC LE.eq_1<|aC LF.eq_1<|aP LG.eq_1
def tN:aL:=
 (aA (aA (aD 29 32 Kz) (.cond (V 32) .skip (.exit 0))) (aA (.block 1 (aA (aD 35 47 LA) (aA (aA (aD 47 48 LB) (.cond (V 48) (aD 49 54 LC) (aD 54 73 LE))) (aD 73 89 LF)))) (aD 33 35 LG)))
@[simp]def aJd:=bL tN.eq_1
def LH:List aB:=[Q 89 (.build [.nils,(.int .i64 0)] []),Q 8 (.alloc false [.nils,(.int .i64 0)]),QN (.store 2 (V 8) (V 89))]
def LI:List aB:=[M 90 9,M 91 5,Q 92 (.len false (V 91)),Q 93 (.arith .lss (V 90) (V 92))]
def LJ:List aB:=[Q 97 (.load true 2 false (V 8)),M 98 5,M 99 9,Q 100 (.iaddr 1 (V 98) (V 99)),Q 101 (.load false 1 true (V 100)),Q 102 (.call .std 332 [V 97,V 101]),M 96 102,EX 103 0 96,EX 104 1 96,QN (.store 2 (V 8) (V 103))]
def LK:List aB:=[M 94 9,Q 95 (.arith .add (V 94) (I 1)),M 9 95]
@[simp]def aJe:=aC LH.eq_1<|aC LI.eq_1<|aC LJ.eq_1<|aP LK.eq_1
def LL:aL:=
 (aA (aA (aD 90 93 LI) (.cond (V 93) .skip (.exit 2))) (aA (.block 3 (aD 96 105 LJ)) (aD 94 96 LK)))
@[simp]def aJf:=bL LL.eq_1
def LM:List aB:=[FA 105 0 8,LD 106 105,M 2 106,Q 3 (.mov (I 0))]
@[simp]def aJg:=aP LM.eq_1
def mW:aU:=
 ⟨1,[.tmp 2,.tmp 3],
 (aA (ai qC) (aA (aA (aD 10 12 Kx) (aA (aD 12 13 xd) (.cond (V 13) (aA (aD 14 15 xe) .ret) .skip))) (aA (aD 15 29 Ky) (aA (aA (.region [Q 6 (.mov (I 1))]) (.block 0 (.loop tN))) (aA (aD 89 90 LH) (aA (aA (.region [Q 9 (.mov (I 0))]) (.block 2 (.loop LL))) (aA (aD 105 107 LM) .ret))))))),false⟩
def LN:List aB:=[Q 3 (.mov (.cst (.int .u32 4294967295)))]
def yK:List aB:=[M 6 4,M 7 0,Q 8 (.len false (V 7)),Q 9 (.arith .lss (V 6) (V 8))]
def LO:List aB:=[M 12 3,M 13 0,M 14 4,Q 15 (.iaddr 1 (V 13) (V 14)),LD 16 15,Q 17 (.toInt .u32 (V 16)),Q 18 (.arith .xor (V 12) (V 17)),M 3 18]
def LP:List aB:=[M 19 5,Q 20 (.arith .lss (V 19) (I 8))]
@[simp]def Xt:=aP LP.eq_1
def LQ:List aB:=[M 23 3,Q 24 (.arith .rem (V 23) (.cst (.int .u32 2))),Q 25 (.arith .eql (V 24) (.cst (.int .u32 1)))]
def LR:List aB:=[M 26 3,Q 27 (.arith .quo (V 26) (.cst (.int .u32 2))),Q 28 (.arith .xor (V 27) (.cst (.int .u32 2197175160))),M 3 28]
def LS:List aB:=[M 29 3,Q 30 (.arith .quo (V 29) (.cst (.int .u32 2))),M 3 30]
def yL:List aB:=[M 21 5,Q 22 (.arith .add (V 21) (I 1)),M 5 22]
@[simp]def aJh:=aC LN.eq_1<|aC yK.eq_1<|aC LO.eq_1<|aC LQ.eq_1<|aC LR.eq_1<|aC LS.eq_1<|aP yL.eq_1
def tP:aL:=
 (aA (aA (aD 19 20 LP) (.cond (V 20) .skip (.exit 2))) (aA (.block 3 (aA (aD 23 25 LQ) (.cond (V 25) (aD 26 29 LR) (aD 29 31 LS)))) (aD 21 23 yL)))
@[simp]def aJi:=bL tP.eq_1
def yM:List aB:=[M 10 4,Q 11 (.arith .add (V 10) (I 1)),M 4 11]
@[simp]def aJj:=aP yM.eq_1
def tQ:aL:=
 (aA (aA (aD 6 9 yK) (.cond (V 9) .skip (.exit 0))) (aA (.block 1 (aA (aD 12 19 LO) (aA (.region [Q 5 (.mov (I 0))]) (.block 2 (.loop tP))))) (aD 10 12 yM)))
@[simp]def aJk:=bL tQ.eq_1
def LT:List aB:=[M 31 3,Q 32 (.arith .sub (.cst (.int .u32 4294967295)) (V 31)),M 2 32]
@[simp]def aJl:=aP LT.eq_1
def qQ:aU:=
 ⟨1,[.tmp 2],
 (aA (.region [Q 2 (.mov (.cst (.int .u32 0)))]) (aA (ai LN) (aA (aA (.region [Q 4 (.mov (I 0))]) (.block 0 (.loop tQ))) (aA (aD 31 33 LT) .ret)))),false⟩
def qR:List aB:=[Q 1 (.box true (V 0)),Q 2 (.mov bG)]
def LU:List aB:=[FA 3 0 1,LD 4 3,Q 5 (.arith .leq (I 0) (V 4)),M 6 5,QG (some 7) (.faddr 0 (V 1)) 6 true,QG (some 8) (.load false 1 false (V 7)) 6 true,QG (some 9) (.arith .leq (V 8) (I 1099511627776)) 6 true,Q 10 (.pick (V 6) (V 9) bG),M 11 10,QG (some 12) (.faddr 1 (V 1)) 11 true,QG (some 13) (.load false 1 false (V 12)) 11 true,QG (some 14) (.arith .leq (I (-1152921504606846976)) (V 13)) 11 true,Q 15 (.pick (V 11) (V 14) bG),M 16 15,QG (some 17) (.faddr 1 (V 1)) 16 true,QG (some 18) (.load false 1 false (V 17)) 16 true,QG (some 19) (.arith .leq (V 18) (I 1152921504606846976)) 16 true,Q 20 (.pick (V 16) (V 19) bG),M 2 20]
@[simp]def aJm:=aC qR.eq_1<|aP LU.eq_1
def qS:aU:=
 ⟨1,[.tmp 2],
 (aA (ai qR) (aA (aD 3 21 LU) .ret)),false⟩
def LV:List aB:=[M 4 0,Q 5 (.len false (V 4)),Q 6 (.arith .gtr (V 5) (I 8))]
def LW:List aB:=[M 7 3,M 8 0,Q 9 (.len false (V 8)),Q 10 (.arith .lss (V 7) (V 9))]
def LX:List aB:=[M 13 0,M 14 3,Q 15 (.iaddr 2 (V 13) (V 14)),FA 16 0 15,LD 17 16,Q 18 (.call .pur 126 [V 17]),Q 19 (.un .not (V 18))]
def LY:List aB:=[M 20 0,M 21 3,Q 22 (.iaddr 2 (V 20) (V 21)),FA 23 1 22,LD 24 23,Q 25 (.arith .eql (V 24) (.cst (.str [])))]
def LZ:List aB:=[M 26 0,M 27 3,Q 28 (.iaddr 2 (V 26) (V 27)),FA 29 1 28,LD 30 29,Q 31 (.len true (V 30)),Q 32 (.arith .gtr (V 31) (I 64))]
def La:List aB:=[M 33 3,Q 34 (.arith .gtr (V 33) (I 0)),M 35 34,QG (some 36) (.mov (V 0)) 35 true,QG (some 37) (.mov (V 3)) 35 true,QG (some 38) (.iaddr 2 (V 36) (V 37)) 35 true,QG (some 39) (.faddr 0 (V 38)) 35 true,QG (some 40) (.load false 1 true (V 39)) 35 true,QG (some 41) (.mov (V 0)) 35 true,QG (some 42) (.mov (V 3)) 35 true,QG (some 43) (.arith .sub (V 42) (I 1)) 35 true,QG (some 44) (.iaddr 2 (V 41) (V 43)) 35 true,QG (some 45) (.faddr 0 (V 44)) 35 true,QG (some 46) (.load false 1 true (V 45)) 35 true,QG (some 47) (.arith .leq (V 40) (V 46)) 35 true,Q 48 (.pick (V 35) (V 47) bG)]
def Lb:List aB:=[M 11 3,Q 12 (.arith .add (V 11) (I 1)),M 3 12]
@[simp]def aJn:=aC LV.eq_1<|aC LW.eq_1<|aC LX.eq_1<|aC LY.eq_1<|aC LZ.eq_1<|aC La.eq_1<|aP Lb.eq_1
def tR:aL:=
 (aA (aA (aD 7 10 LW) (.cond (V 10) .skip (.exit 0))) (aA (.block 1 (aA (aA (aD 13 19 LX) (.cond (V 19) (aA (.region [Q 2 (.mov (I 8))]) .ret) .skip)) (aA (aA (aD 20 25 LY) (.cond (V 25) (aA (.region [Q 2 (.mov (I 2))]) .ret) .skip)) (aA (aA (aD 26 32 LZ) (.cond (V 32) (aA (.region [Q 2 (.mov (I 3))]) .ret) .skip)) (aA (aD 33 48 La) (.cond (V 48) (aA (.region [Q 2 (.mov (I 13))]) .ret) .skip)))))) (aD 11 13 Lb)))
@[simp]def aJo:=bL tR.eq_1
def qT:aU:=
 ⟨1,[.tmp 2],
 (aA (.region [Q 2 (.mov (I 0))]) (aA (aA (aD 4 6 LV) (.cond (V 6) (aA (.region [Q 2 (.mov (I 3))]) .ret) .skip)) (aA (aA (.region [Q 3 (.mov (I 0))]) (.block 0 (.loop tR))) (aA (.region [Q 2 (.mov (I 0))]) .ret)))),false⟩
def Lc:List aB:=[M 8 5,M 9 0,Q 10 (.len false (V 9)),Q 11 (.arith .lss (V 8) (V 10)),M 12 11,QG (some 13) (.mov (V 5)) 12 true,QG (some 14) (.mov (V 1)) 12 true,QG (some 15) (.len false (V 14)) 12 true,QG (some 16) (.arith .lss (V 13) (V 15)) 12 true,Q 17 (.pick (V 12) (V 16) bG)]
def Ld:List aB:=[M 20 0,M 21 5,Q 22 (.iaddr 2 (V 20) (V 21)),FA 23 0 22,Q 24 (.load false 1 true (V 23)),M 25 1,M 26 5,Q 27 (.iaddr 2 (V 25) (V 26)),FA 28 0 27,Q 29 (.load false 1 true (V 28)),Q 30 (.call .pur 216 [V 24,V 29]),M 6 30]
def Lf:List aB:=[M 31 6,Q 32 (.arith .neq (V 31) (I 0))]
def Lg:List aB:=[M 33 6,M 4 33]
def Lh:List aB:=[M 34 0,M 35 5,Q 36 (.iaddr 2 (V 34) (V 35)),FA 37 1 36,Q 38 (.load false 1 true (V 37)),M 39 1,M 40 5,Q 41 (.iaddr 2 (V 39) (V 40)),FA 42 1 41,Q 43 (.load false 1 true (V 42)),Q 44 (.call .pur 216 [V 38,V 43]),M 7 44]
def Li:List aB:=[M 45 7,Q 46 (.arith .neq (V 45) (I 0))]
def Lj:List aB:=[M 47 7,M 4 47]
def Lk:List aB:=[M 18 5,Q 19 (.arith .add (V 18) (I 1)),M 5 19]
@[simp]def aJp:=aC Lc.eq_1<|aC Ld.eq_1<|aC Lf.eq_1<|aC Lg.eq_1<|aC Lh.eq_1<|aC Li.eq_1<|aC Lj.eq_1<|aP Lk.eq_1
def yN:aL:=
 (aA (aA (aD 8 17 Lc) (.cond (V 17) .skip (.exit 0))) (aA (.block 1 (aA (aA (aD 20 31 Ld) (aA (aD 31 32 Lf) (.cond (V 32) (aA (aD 33 34 Lg) .ret) .skip))) (aA (aD 34 45 Lh) (aA (aD 45 46 Li) (.cond (V 46) (aA (aD 47 48 Lj) .ret) .skip))))) (aD 18 20 Lk)))
@[simp]def aJq:=bL yN.eq_1
def Ll:List aB:=[M 48 0,Q 49 (.len false (V 48)),M 50 1,Q 51 (.len false (V 50)),Q 52 (.arith .lss (V 49) (V 51))]
def Lm:List aB:=[M 53 0,Q 54 (.len false (V 53)),M 55 1,Q 56 (.len false (V 55)),Q 57 (.arith .gtr (V 54) (V 56))]
@[simp]def aJr:=aC Ll.eq_1<|aP Lm.eq_1
def qU:aU:=
 ⟨2,[.tmp 4],
 (aA (.region [Q 4 (.mov (I 0))]) (aA (aA (.region [Q 5 (.mov (I 0))]) (.block 0 (.loop yN))) (aA (aA (aD 48 52 Ll) (.cond (V 52) (aA (.region [Q 4 (.mov (I (-1)))]) .ret) .skip)) (aA (aA (aD 53 57 Lm) (.cond (V 57) (aA (.region [Q 4 (.mov (I 1))]) .ret) .skip)) (aA (.region [Q 4 (.mov (I 0))]) .ret))))),false⟩
def Ln:List aB:=[FA 3 0 1,LD 4 3,Q 5 (.arith .geq (V 4) (I 0)),M 6 5,QG (some 7) (.faddr 0 (V 1)) 6 true,QG (some 8) (.load false 1 false (V 7)) 6 true,QG (some 9) (.arith .leq (V 8) (I 1099511627776)) 6 true,Q 10 (.pick (V 6) (V 9) bG),M 11 10,QG (some 12) (.faddr 1 (V 1)) 11 true,QG (some 13) (.load false 1 false (V 12)) 11 true,QG (some 14) (.arith .geq (V 13) (I (-1152921504606846976))) 11 true,Q 15 (.pick (V 11) (V 14) bG),M 16 15,QG (some 17) (.faddr 1 (V 1)) 16 true,QG (some 18) (.load false 1 false (V 17)) 16 true,QG (some 19) (.arith .leq (V 18) (I 1152921504606846976)) 16 true,Q 20 (.pick (V 16) (V 19) bG),M 2 20]
@[simp]def aJs:=aP Ln.eq_1
def qV:aU:=
 ⟨1,[.tmp 2],
 (aA (ai qR) (aA (aD 3 21 Ln) .ret)),false⟩
def Lo:List aB:=[M 8 0,ba 9 8,FA 10 2 9,LD 11 10]
def Lp:List aB:=[M 13 0,ba 14 13,FA 15 0 14,LD 16 15,M 17 0,ba 18 17,FA 19 1 18,LD 20 19,Q 21 (.call .std 110 [V 16,V 20]),M 12 21,EX 22 0 12,EX 23 1 12,EX 24 2 12,M 5 22,M 6 23,M 7 24]
def Lq:List aB:=[M 25 0,M 26 7,Q 27 (.arith .neq (V 26) (I 0)),M 28 27,QG (some 29) (.mov (V 5)) 28 false,QG (some 30) (.mov (V 1)) 28 false,QG (some 31) (.arith .gtr (V 29) (V 30)) 28 false,Q 32 (.pick (V 28) cN (V 31)),ba 33 25,FA 34 2 33,QN (.store 1 (V 34) (V 32))]
def Lr:List aB:=[M 35 0,ba 36 35,FA 37 2 36,LD 38 37]
def Ls:List aB:=[M 39 0,M 40 6,ba 41 39,FA 42 1 41,QN (.store 1 (V 42) (V 40))]
def Lt:List aB:=[M 43 5,M 4 43]
@[simp]def aJt:=aC Lo.eq_1<|aC Lp.eq_1<|aC Lq.eq_1<|aC Lr.eq_1<|aC Ls.eq_1<|aP Lt.eq_1
def yO:aU:=
 ⟨2,[.tmp 4],
 (aA (.region [Q 4 (.mov (I 0))]) (aA (aA (aD 8 11 Lo) (.cond (V 11) (aA (.region [Q 4 (.mov (I 0))]) .ret) .skip)) (aA (aD 12 25 Lp) (aA (aA (aD 25 35 Lq) (aA (aD 35 38 Lr) (.cond (V 38) (aA (.region [Q 4 (.mov (I 0))]) .ret) .skip))) (aA (aD 39 43 Ls) (aA (aD 43 44 Lt) .ret)))))),false⟩
def tS:List aB:=[Q 2 (.mov (.cst (.str [])))]
def Lu:List aB:=[M 6 0,ba 7 6,FA 8 2 7,LD 9 8]
def Lv:List aB:=[M 11 0,ba 12 11,FA 13 0 12,LD 14 13,M 15 0,ba 16 15,FA 17 1 16,LD 18 17,Q 19 (.call .std 111 [V 14,V 18]),M 10 19,EX 20 0 10,EX 21 1 10,EX 22 2 10,M 3 20,M 4 21,M 5 22]
def Lw:List aB:=[M 23 0,M 24 5,Q 25 (.arith .neq (V 24) (I 0)),M 26 25,QG (some 27) (.mov (V 3)) 26 false,QG (some 28) (.len true (V 27)) 26 false,QG (some 29) (.arith .gtr (V 28) (I 64)) 26 false,Q 30 (.pick (V 26) cN (V 29)),ba 31 23,FA 32 2 31,QN (.store 1 (V 32) (V 30))]
def Lx:List aB:=[M 33 0,ba 34 33,FA 35 2 34,LD 36 35]
def Ly:List aB:=[M 37 0,M 38 4,ba 39 37,FA 40 1 39,QN (.store 1 (V 40) (V 38))]
def Lz:List aB:=[M 41 3,M 2 41]
@[simp]def aJu:=aC tS.eq_1<|aC Lu.eq_1<|aC Lv.eq_1<|aC Lw.eq_1<|aC Lx.eq_1<|aC Ly.eq_1<|aP Lz.eq_1
def z8:aU:=
 ⟨1,[.tmp 2],
 (aA (ai tS) (aA (aA (aD 6 9 Lu) (.cond (V 9) (aA (ai tS) .ret) .skip)) (aA (aD 10 23 Lv) (aA (aA (aD 23 33 Lw) (aA (aD 33 36 Lx) (.cond (V 36) (aA (ai tS) .ret) .skip))) (aA (aD 37 41 Ly) (aA (aD 41 42 Lz) .ret)))))),false⟩
def MA:List aB:=[Q 2 (.mov (I 0))]
def MB:List aB:=[M 7 0,ba 8 7,FA 9 0 8,LD 10 9,M 11 0,ba 12 11,FA 13 1 12,LD 14 13,Q 15 (.call .std 110 [V 10,V 14]),M 6 15,EX 16 0 6,EX 17 1 6,EX 18 2 6,M 3 16,M 4 17,M 5 18]
def MC:List aB:=[M 23 0,M 24 4,ba 25 23,FA 26 1 25,QN (.store 1 (V 26) (V 24))]
def MD:List aB:=[M 27 3,M 2 27]
def ME:List aB:=[Q 5 (.emp0),M 6 0,Q 7 (.gapp 1 1 (V 5) (V 6)),M 2 7]
@[simp]def aJv:=aC MA.eq_1<|aC MB.eq_1<|aC MC.eq_1<|aC MD.eq_1<|aP ME.eq_1
def yP:aU:=
 ⟨1,[.tmp 2],
 (aA (.region [Q 2 (.mov (.cst .nils))]) (aA (aA (aD 3 4 xz) (.cond (V 4) (aA (.region [Q 2 (.mov (.cst .nils))]) .ret) .skip)) (aA (aD 5 8 ME) .ret))),false⟩
def MF:List aB:=[Q 2 (.mov (I 0)),Q 3 (.mov (I 0)),Q 4 (.mov (I 0)),Q 5 (.mov (I 0))]
def MG:List aB:=[M 9 0,Q 10 (.call .std 265 [V 9]),M 8 10,EX 11 0 8,EX 12 1 8,M 6 11,M 7 12]
def MH:List aB:=[M 13 7,Q 14 (.arith .neq (V 13) (I 0))]
def MI:List aB:=[M 15 7,Q 2 (.mov (I 0)),Q 3 (.mov (I 0)),Q 4 (.mov (I 0)),M 5 15]
def MJ:List aB:=[M 16 6,Q 17 (.len false (V 16)),M 18 6,Q 19 (.iaddr 2 (V 18) (I 0)),FA 20 0 19,Q 21 (.load false 1 true (V 20)),M 22 6,M 23 6,Q 24 (.len false (V 23)),Q 25 (.arith .sub (V 24) (I 1)),Q 26 (.iaddr 2 (V 22) (V 25)),FA 27 0 26,Q 28 (.load false 1 true (V 27)),M 2 17,M 3 21,M 4 28,Q 5 (.mov (I 0))]
@[simp]def aJw:=aC MF.eq_1<|aC MG.eq_1<|aC MH.eq_1<|aC MI.eq_1<|aP MJ.eq_1
def yQ:aU:=
 ⟨1,[.tmp 2,.tmp 3,.tmp 4,.tmp 5],
 (aA (ai MF) (aA (aD 8 13 MG) (aA (aA (aD 13 14 MH) (.cond (V 14) (aA (aD 15 16 MI) .ret) .skip)) (aA (aD 16 29 MJ) .ret)))),false⟩
def MK:List aB:=[M 7 0,Q 8 (.eqn false .p (V 7)),M 6 8]
def ML:List aB:=[M 10 1,Q 11 (.arith .lss (V 10) (I 0)),M 12 11,QG (some 13) (.mov (V 1)) 12 false,QG (some 14) (.mov (V 0)) 12 false,QG (some 15) (.nilck (V 14)) 12 false,QG (some 16) (.faddr 0 (V 15)) 12 false,QG (some 17) (.load false 1 false (V 16)) 12 false,QG (some 18) (.len false (V 17)) 12 false,QG (some 19) (.arith .geq (V 13) (V 18)) 12 false,Q 20 (.pick (V 12) cN (V 19)),M 9 20]
def MM:List aB:=[Q 4 (.mov (.cst .nils)),Q 5 (.mov (I 9))]
def MN:List aB:=[M 21 0,ba 22 21,FA 23 0 22,LD 24 23,M 25 1,Q 26 (.iaddr 1 (V 24) (V 25)),LD 27 26,Q 28 (.call .std 130 [V 27]),M 4 28,Q 5 (.mov (I 0))]
@[simp]def aJx:=aC MK.eq_1<|aC ML.eq_1<|aC MM.eq_1<|aP MN.eq_1
def z3:aU:=
 ⟨2,[.tmp 4,.tmp 5],
 (aA (ai qG) (aA (.block 0 (aA (aD 7 9 MK) (.cond (V 6) (aA (ai xx) .ret) (aA (aD 10 21 ML) (.cond (V 9) (aA (ai MM) .ret) .skip))))) (aA (aD 21 29 MN) .ret))),false⟩
def MO:List aB:=[Q 2 (.mov (I 0))]
def MP:List aB:=[M 6 3,Q 7 (.arith .gtr (V 6) (.cst (.int .u64 1099511627776)))]
def MQ:List aB:=[M 10 3,Q 11 (.toInt .i64 (V 10)),M 2 11]
def MS:List aB:=[Q 4 (.mov (I 0))]
def MT:List aB:=[M 9 5,M 10 1,Q 11 (.un .neg (V 10)),Q 12 (.arith .lss (V 9) (V 11)),M 13 12,QG (some 14) (.mov (V 5)) 13 false,QG (some 15) (.mov (V 1)) 13 false,QG (some 16) (.arith .gtr (V 14) (V 15)) 13 false,Q 17 (.pick (V 13) cN (V 16))]
def MU:List aB:=[M 20 5,M 4 20]
def MV:List aB:=[Q 2 (.mov (.cst (.int .u64 0)))]
def MW:List aB:=[M 7 0,ba 8 7,FA 9 0 8,Q 10 (.load true 2 false (V 9)),M 11 0,ba 12 11,FA 13 2 12,LD 14 13,Q 15 (.call .std 380 [V 10,V 14]),M 6 15,EX 16 0 6,EX 17 1 6,EX 18 2 6,M 3 16,M 4 17,M 5 18]
def MX:List aB:=[M 19 5,Q 20 (.arith .neq (V 19) (I 0))]
def MY:List aB:=[M 23 0,M 24 4,ba 25 23,FA 26 2 25,QN (.store 1 (V 26) (V 24))]
def MZ:List aB:=[M 27 3,M 2 27]
def Ma:List aB:=[M 5 0,Q 6 (.len true (V 5)),Q 7 (.mov (I 0))]
def Mb:List aB:=[M 9 7,M 3 9]
def Mc:List aB:=[M 10 0,M 11 3,Q 12 (.idxs (V 10) (V 11)),M 4 12]
def Md:List aB:=[M 14 4,Q 15 (.arith .geq (V 14) (.cst (.int .u8 97))),M 16 15,QG (some 17) (.mov (V 4)) 16 true,QG (some 18) (.arith .leq (V 17) (.cst (.int .u8 122))) 16 true,Q 19 (.pick (V 16) (V 18) bG),M 13 19]
def Me:List aB:=[M 20 4,Q 21 (.arith .geq (V 20) (.cst (.int .u8 65))),M 22 21,QG (some 23) (.mov (V 4)) 22 true,QG (some 24) (.arith .leq (V 23) (.cst (.int .u8 90))) 22 true,Q 25 (.pick (V 22) (V 24) bG),M 13 25]
def Mf:List aB:=[M 26 4,Q 27 (.arith .eql (V 26) (.cst (.int .u8 95))),M 13 27]
def Mg:List aB:=[M 29 3,Q 30 (.arith .gtr (V 29) (I 0)),M 31 30,QG (some 32) (.mov (V 4)) 31 true,QG (some 33) (.arith .geq (V 32) (.cst (.int .u8 48))) 31 true,Q 34 (.pick (V 31) (V 33) bG),M 35 34,QG (some 36) (.mov (V 4)) 35 true,QG (some 37) (.arith .leq (V 36) (.cst (.int .u8 57))) 35 true,Q 38 (.pick (V 35) (V 37) bG),M 28 38]
def Mh:List aB:=[Q 39 (.arith .add (V 7) (I 1)),M 7 39]
@[simp]def aJy:=aC MO.eq_1<|aC MP.eq_1<|aC MQ.eq_1<|aC MS.eq_1<|aC MT.eq_1<|aC MU.eq_1<|aC MV.eq_1<|aC MW.eq_1<|aC MX.eq_1<|aC MY.eq_1<|aC MZ.eq_1<|aC Ma.eq_1<|aC Mb.eq_1<|aC Mc.eq_1<|aC Md.eq_1<|aC Me.eq_1<|aC Mf.eq_1<|aC Mg.eq_1<|aP Mh.eq_1
def tT:aL:=
 (aA (.region [Q 8 (.arith .lss (V 7) (V 6))]) (aA (.cond (V 8) .skip (.exit 0)) (aA (.block 1 (aA (aD 9 10 Mb) (aA (aD 10 13 Mc) (.block 2 (aA (aA (aD 14 20 Md) (.cond (V 13) .skip (aA (aD 20 26 Me) (.cond (V 13) .skip (aD 26 28 Mf))))) (.cond (V 13) .skip (aA (aD 29 39 Mg) (.cond (V 28) .skip (aA (.region [Q 2 (.mov bG)]) .ret))))))))) (aD 39 40 Mh))))
@[simp]def aJz:=bL tT.eq_1
def Mi:List aB:=[M 40 0,Q 41 (.arith .neq (V 40) (.cst (.str []))),M 42 41,QG (some 43) (.mov (V 0)) 42 true,QG (some 44) (.len true (V 43)) 42 true,QG (some 45) (.arith .leq (V 44) (I 32)) 42 true,Q 46 (.pick (V 42) (V 45) bG),M 2 46]
@[simp]def aJA:=aP Mi.eq_1
def z57:aU:=
 ⟨1,[.tmp 2],
 (aA (.region [Q 2 (.mov bG)]) (aA (aA (aD 5 6 Ma) (.block 0 (.loop tT))) (aA (aD 40 47 Mi) .ret))),false⟩
def Mj:List aB:=[M 11 0,Q 12 (.len false (V 11)),Q 13 (.mov (I 0))]
def Mk:List aB:=[Q 14 (.arith .lss (V 13) (V 12))]
def Ml:List aB:=[M 15 13,Q 16 (.iaddr 2 (V 11) (V 13)),Q 17 (.load true 2 false (V 16)),Q 8 (.alloc false [(.str []),(.str [])]),M 7 15,QN (.store 2 (V 8) (V 17))]
def Mm:List aB:=[M 18 7,M 19 1,Q 20 (.len false (V 19)),Q 21 (.arith .geq (V 18) (V 20))]
def Mn:List aB:=[M 22 1,M 23 7,Q 24 (.iaddr 2 (V 22) (V 23)),Q 25 (.load true 2 false (V 24)),Q 9 (.alloc false [(.str []),(.str [])]),QN (.store 2 (V 9) (V 25))]
def Mo:List aB:=[M 26 2,Q 27 (.load true 2 false (V 8)),Q 28 (.load true 2 false (V 9)),Q 29 (.callv .std (V 26) [V 27,V 28]),M 10 29]
def Mp:List aB:=[M 30 10,Q 31 (.arith .neq (V 30) (I 0))]
def Mq:List aB:=[M 32 10,M 6 32]
def Mr:List aB:=[Q 33 (.arith .add (V 13) (I 1)),M 13 33]
@[simp]def aJB:=aC Mj.eq_1<|aC Mk.eq_1<|aC Ml.eq_1<|aC Mm.eq_1<|aC Mn.eq_1<|aC Mo.eq_1<|aC Mp.eq_1<|aC Mq.eq_1<|aP Mr.eq_1
def yR:aL:=
 (aA (ai Mk) (aA (.cond (V 14) .skip (.exit 0)) (aA (.block 1 (aA (aD 15 18 Ml) (aA (aA (aD 18 21 Mm) (.cond (V 21) (aA (.region [Q 6 (.mov (I 1))]) .ret) .skip)) (aA (aD 22 26 Mn) (aA (aD 26 30 Mo) (aA (aD 30 31 Mp) (.cond (V 31) (aA (aD 32 33 Mq) .ret) .skip))))))) (aD 33 34 Mr))))
@[simp]def aJC:=bL yR.eq_1
def Ms:List aB:=[M 34 0,Q 35 (.len false (V 34)),M 36 1,Q 37 (.len false (V 36)),Q 38 (.arith .lss (V 35) (V 37))]
@[simp]def aJD:=aP Ms.eq_1
def z0:aU:=
 ⟨3,[.tmp 6],
 (aA (.region [Q 6 (.mov (I 0))]) (aA (aA (ai Mj) (.block 0 (.loop yR))) (aA (aA (aD 34 38 Ms) (.cond (V 38) (aA (.region [Q 6 (.mov (I (-1)))]) .ret) .skip)) (aA (.region [Q 6 (.mov (I 0))]) .ret)))),false⟩
def Mt:List aB:=[Q 2 (.box true (V 0)),Q 3 (.box true (V 1)),Q 4 (.mov (I 0))]
def Mu:List aB:=[FA 5 0 2,Q 6 (.load false 1 true (V 5)),FA 7 0 3,Q 8 (.load false 1 true (V 7)),Q 9 (.call .pur 106 [V 6,V 8]),FA 10 1 2,Q 11 (.load false 1 true (V 10)),FA 12 1 3,Q 13 (.load false 1 true (V 12)),Q 14 (.call .pur 106 [V 11,V 13]),Q 15 (.bsl false (.int .i64 0) 2 [(0,V 9),(1,V 14)]),Q 16 (.call .std 105 [V 15]),M 4 16]
@[simp]def aJE:=aC Mt.eq_1<|aP Mu.eq_1
def qW:aU:=
 ⟨2,[.tmp 4],
 (aA (ai Mt) (aA (aD 5 17 Mu) .ret)),false⟩
def Mv:List aB:=[Q 10 (.iaddr 1 (V 6) (V 8)),LD 11 10,M 5 11]
def Mw:List aB:=[M 12 5,M 13 3,Q 14 (.arith .neq (V 12) (V 13))]
def Mx:List aB:=[M 15 5,M 2 15]
def My:List aB:=[Q 16 (.arith .add (V 8) (I 1)),M 8 16]
@[simp]def aJF:=aC Mv.eq_1<|aC Mw.eq_1<|aC Mx.eq_1<|aP My.eq_1
def Mz:aL:=
 (aA (.region [Q 9 (.arith .lss (V 8) (V 7))]) (aA (.cond (V 9) .skip (.exit 0)) (aA (.block 1 (aA (aD 10 12 Mv) (aA (aD 12 14 Mw) (.cond (V 14) (aA (aD 15 16 Mx) .ret) .skip)))) (aD 16 17 My))))
@[simp]def aJG:=bL Mz.eq_1
def NA:List aB:=[M 17 3,M 2 17]
@[simp]def aJH:=aP NA.eq_1
def z63:aU:=
 ⟨1,[.tmp 2],
 (aA (.region [Q 2 (.mov (I 0))]) (aA (.region [Q 3 (.mov (I 0))]) (aA (aA (ai xN) (.block 0 (.loop Mz))) (aA (aD 17 18 NA) .ret)))),false⟩
def NB:List aB:=[M 7 0,Q 8 (.call .pur 217 [V 7]),M 5 8]
def NC:List aB:=[M 9 1,Q 10 (.call .pur 217 [V 9]),M 6 10]
def ND:List aB:=[M 14 0,M 15 1,Q 16 (.arith .lss (V 14) (V 15))]
def NE:List aB:=[M 17 0,M 18 1,Q 19 (.arith .gtr (V 17) (V 18))]
@[simp]def aJI:=aC NB.eq_1<|aC NC.eq_1<|aC ND.eq_1<|aP NE.eq_1
def z5:aU:=
 ⟨2,[.tmp 4],
 (aA (.region [Q 4 (.mov (I 0))]) (aA (aD 7 9 NB) (aA (aD 9 11 NC) (aA (aA (.region [M 11 5]) (.cond (V 11) (aA (aA (.region [M 12 6]) (.cond (V 12) (aA (.region [Q 4 (.mov (I 0))]) .ret) .skip)) (aA (.region [Q 4 (.mov (I (-1)))]) .ret)) .skip)) (aA (aA (.region [M 13 6]) (.cond (V 13) (aA (.region [Q 4 (.mov (I 1))]) .ret) .skip)) (aA (aA (aD 14 16 ND) (.cond (V 16) (aA (.region [Q 4 (.mov (I (-1)))]) .ret) .skip)) (aA (aA (aD 17 19 NE) (.cond (V 19) (aA (.region [Q 4 (.mov (I 1))]) .ret) .skip)) (aA (.region [Q 4 (.mov (I 0))]) .ret)))))))),false⟩
def NF:List aB:=[Q 1 (.box false (V 0)),Q 2 (.mov (.cst .nilf))]
def NG:List aB:=[Q 3 (.mkfn 362 [V 1]),M 2 3]
@[simp]def aJJ:=aC NF.eq_1<|aP NG.eq_1
def z29:aU:=
 ⟨1,[.tmp 2],
 (aA (ai NF) (aA (aD 3 4 NG) .ret)),false⟩
def yS:List aB:=[Q 2 (.box true (V 0)),Q 4 (.alloc false [.nils,(.int .i64 0)]),Q 5 (.mov (I 0))]
def NH:List aB:=[Q 9 (.load true 2 false (V 2)),Q 10 (.call .std 404 [V 9]),Q 11 (.un .not (V 10))]
def NI:List aB:=[Q 12 (.build [.nils,(.int .i64 0)] []),QN (.store 2 (V 4) (V 12)),Q 5 (.mov (I 2))]
def NJ:List aB:=[Q 14 (.load true 2 false (V 2)),Q 15 (.call .std 405 [V 14]),M 13 15,EX 16 0 13,EX 17 1 13,M 6 16,M 7 17]
def NL:List aB:=[M 18 1,Q 19 (.call .pur 373 [V 18]),M 8 19]
def NM:List aB:=[M 20 6,M 21 8,Q 22 (.toInt .u64 (V 21)),Q 23 (.callv .std (V 20) [V 22,(I 7)])]
def NN:List aB:=[M 24 6,M 25 1,M 26 8,Q 27 (.callv .std (V 24) [V 25,V 26])]
def NO:List aB:=[M 28 7,Q 29 (.callv .std (V 28) []),QN (.store 2 (V 4) (V 29)),Q 5 (.mov (I 0))]
@[simp]def aJK:=aC yS.eq_1<|aC NH.eq_1<|aC NI.eq_1<|aC NJ.eq_1<|aC NL.eq_1<|aC NM.eq_1<|aC NN.eq_1<|aP NO.eq_1
def qX:aU:=
 ⟨2,[.cell 4 true 2,.tmp 5],
 (aA (ai yS) (aA (aA (aD 9 11 NH) (.cond (V 11) (aA (aD 12 13 NI) .ret) .skip)) (aA (aD 13 18 NJ) (aA (aD 18 20 NL) (aA (aD 20 24 NM) (aA (aD 24 28 NN) (aA (aD 28 30 NO) .ret))))))),false⟩
def NP:List aB:=[M 3 0,Q 4 (.arith .shl (V 3) (.cst (.int .u64 1))),Q 5 (.toInt .u64 (V 4)),M 6 0,Q 7 (.arith .shr (V 6) (.cst (.int .u64 63))),Q 8 (.toInt .u64 (V 7)),Q 9 (.arith .xor (V 5) (V 8)),M 2 9]
@[simp]def aJL:=aP NP.eq_1
def qY:aU:=
 ⟨1,[.tmp 2],
 (aA (.region [Q 2 (.mov (.cst (.int .u64 0)))]) (aA (aD 3 10 NP) .ret)),false⟩
def NQ:List aB:=[LD 2 0,Q 3 (.arith .and (V 2) (.cst (.int .u32 1))),M 1 3]
def NR:List aB:=[LD 4 0,Q 5 (.arith .shr (V 4) (.cst (.int .u64 1))),M 6 1,Q 7 (.un .neg (V 6)),Q 8 (.arith .and (.cst (.int .u32 2197175160)) (V 7)),Q 9 (.arith .xor (V 5) (V 8)),QN (.store 1 (V 0) (V 9))]
@[simp]def aJM:=aC NQ.eq_1<|aP NR.eq_1
def qZ:aU:=
 ⟨1,[],
 (aA (aD 2 4 NQ) (aD 4 10 NR)),false⟩
def NS:List aB:=[M 6 0,Q 7 (.call .std 139 [V 6]),M 3 7]
def NT:List aB:=[M 8 4,M 9 0,Q 10 (.len false (V 9)),Q 11 (.arith .lss (V 8) (V 10))]
def NU:List aB:=[M 14 5,M 15 0,M 16 4,Q 17 (.iaddr 1 (V 15) (V 16)),LD 18 17,Q 19 (.len false (V 18)),Q 20 (.arith .lss (V 14) (V 19))]
def NV:List aB:=[M 23 3,M 24 0,M 25 4,Q 26 (.iaddr 1 (V 24) (V 25)),LD 27 26,M 28 5,Q 29 (.iaddr 2 (V 27) (V 28)),FA 30 1 29,LD 31 30,Q 32 (.call .std 238 [V 23,V 31]),M 3 32]
@[simp]def aJN:=aC NS.eq_1<|aC NT.eq_1<|aC NU.eq_1<|aP NV.eq_1
def NW:aL:=
 (aA (aA (aD 14 20 NU) (.cond (V 20) .skip (.exit 2))) (aA (.block 3 (aD 23 33 NV)) (aD 21 23 yL)))
@[simp]def aJO:=bL NW.eq_1
def NX:List aB:=[M 12 4,Q 13 (.arith .add (V 12) (I 1)),M 4 13]
@[simp]def aJP:=aP NX.eq_1
def NY:aL:=
 (aA (aA (aD 8 11 NT) (.cond (V 11) .skip (.exit 0))) (aA (.block 1 (aA (.region [Q 5 (.mov (I 0))]) (.block 2 (.loop NW)))) (aD 12 14 NX)))
@[simp]def aJQ:=bL NY.eq_1
def NZ:List aB:=[M 33 3,M 2 33]
@[simp]def aJR:=aP NZ.eq_1
def mX:aU:=
 ⟨1,[.tmp 2],
 (aA (.region [Q 2 (.mov (.cst .nils))]) (aA (aD 6 8 NS) (aA (aA (.region [Q 4 (.mov (I 0))]) (.block 0 (.loop NY))) (aA (aD 33 34 NZ) .ret)))),false⟩
def Na:List aB:=[M 3 0,Q 4 (.len true (V 3)),Q 5 (.call .std 219 [V 4]),M 6 0,Q 7 (.app 1 1 (V 5) (V 6)),M 2 7]
@[simp]def aJS:=aP Na.eq_1
def qb:aU:=
 ⟨1,[.tmp 2],
 (aA (.region [Q 2 (.mov (.cst .nils))]) (aA (aD 3 8 Na) .ret)),false⟩
def Nb:List aB:=[M 6 5,M 7 0,Q 8 (.len false (V 7)),Q 9 (.arith .lss (V 6) (V 8))]
def Nc:List aB:=[M 12 0,M 13 5,Q 14 (.iaddr 1 (V 12) (V 13)),LD 15 14,M 16 1,Q 17 (.arith .eql (V 15) (V 16))]
def Nd:List aB:=[M 18 5,M 4 18]
def Nf:List aB:=[M 10 5,Q 11 (.arith .add (V 10) (I 1)),M 5 11]
@[simp]def aJT:=aC Nb.eq_1<|aC Nc.eq_1<|aC Nd.eq_1<|aP Nf.eq_1
def yT:aL:=
 (aA (aA (aD 6 9 Nb) (.cond (V 9) .skip (.exit 0))) (aA (.block 1 (aA (aD 12 17 Nc) (.cond (V 17) (aA (aD 18 19 Nd) .ret) .skip))) (aD 10 12 Nf)))
@[simp]def aJU:=bL yT.eq_1
def qc:aU:=
 ⟨2,[.tmp 4],
 (aA (.region [Q 4 (.mov (I 0))]) (aA (aA (.region [Q 5 (.mov (I 0))]) (.block 0 (.loop yT))) (aA (.region [Q 4 (.mov (I 0))]) .ret))),false⟩
def Ng:List aB:=[M 3 0,Q 4 (.len false (V 3)),Q 5 (.arith .eql (V 4) (I 0)),M 6 5,QG (some 7) (.mov (V 0)) 6 false,QG (some 8) (.len false (V 7)) 6 false,QG (some 9) (.arith .gtr (V 8) (I 120)) 6 false,Q 10 (.pick (V 6) cN (V 9))]
def Nh:List aB:=[M 11 0,Q 12 (.call .std 257 [V 11]),M 2 12]
@[simp]def aJV:=aC Ng.eq_1<|aP Nh.eq_1
def oE:aU:=
 ⟨1,[.tmp 2],
 (aA (.region [Q 2 (.mov (I 0))]) (aA (aA (aD 3 10 Ng) (.cond (V 10) (aA (.region [Q 2 (.mov (I 2))]) .ret) .skip)) (aA (aD 11 13 Nh) .ret))),false⟩
def Ni:List aB:=[M 3 0,Q 4 (.arith .geq (V 3) (I 0))]
def Nj:List aB:=[M 5 0,Q 6 (.toInt .u64 (V 5)),Q 7 (.arith .mul (.cst (.int .u64 2)) (V 6)),M 2 7]
def Nk:List aB:=[M 8 0,Q 9 (.arith .add (V 8) (I 1)),Q 10 (.un .neg (V 9)),Q 11 (.toInt .u64 (V 10)),Q 12 (.arith .mul (.cst (.int .u64 2)) (V 11)),Q 13 (.arith .add (V 12) (.cst (.int .u64 1))),M 2 13]
@[simp]def aJW:=aC Ni.eq_1<|aC Nj.eq_1<|aP Nk.eq_1
def oF:aU:=
 ⟨1,[.tmp 2],
 (aA (.region [Q 2 (.mov (.cst (.int .u64 0)))]) (aA (aA (aD 3 4 Ni) (.cond (V 4) (aA (aD 5 8 Nj) .ret) .skip)) (aA (aD 8 14 Nk) .ret))),false⟩
def Nl:List aB:=[M 9 1,Q 10 (.call .pur 375 [V 9]),M 6 10]
def Nm:List aB:=[Q 12 (.load true 2 false (V 2)),M 13 6,Q 14 (.toInt .u64 (V 13)),Q 15 (.call .std 376 [V 12,V 14,(I 7)]),M 11 15,EX 16 0 11,EX 17 1 11,Q 7 (.alloc false [.nils,(.int .i64 0)]),QN (.store 2 (V 7) (V 16)),M 8 17]
def Nn:List aB:=[M 18 8,Q 19 (.arith .neq (V 18) (I 0))]
def No:List aB:=[Q 20 (.build [.nils,(.int .i64 0)] []),M 21 8,QN (.store 2 (V 4) (V 20)),M 5 21]
def Np:List aB:=[Q 22 (.load true 2 false (V 7)),M 23 1,M 24 6,Q 25 (.call .std 376 [V 22,V 23,V 24]),EX 26 0 25,EX 27 1 25,QN (.store 2 (V 4) (V 26)),M 5 27]
@[simp]def aJX:=aC Nl.eq_1<|aC Nm.eq_1<|aC Nn.eq_1<|aC No.eq_1<|aP Np.eq_1
def z33:aU:=
 ⟨2,[.cell 4 true 2,.tmp 5],
 (aA (ai yS) (aA (aD 9 11 Nl) (aA (aD 11 18 Nm) (aA (aA (aD 18 19 Nn) (.cond (V 19) (aA (aD 20 22 No) .ret) .skip)) (aA (aD 22 28 Np) .ret))))),false⟩
def Nq:List aB:=[M 6 3,M 7 0,Q 8 (.len true (V 7)),Q 9 (.arith .lss (V 6) (V 8))]
def Nr:List aB:=[M 12 0,M 13 3,Q 14 (.idxs (V 12) (V 13)),M 4 14]
def Ns:List aB:=[M 15 4,Q 16 (.arith .geq (V 15) (.cst (.int .u8 97))),M 17 16,QG (some 18) (.mov (V 4)) 17 true,QG (some 19) (.arith .leq (V 18) (.cst (.int .u8 122))) 17 true,Q 20 (.pick (V 17) (V 19) bG),M 21 20,QG (some 22) (.mov (V 4)) 21 false,QG (some 23) (.arith .geq (V 22) (.cst (.int .u8 65))) 21 false,QG (some 24) (.mov (V 23)) 21 false,QG (some 25) (.mov (V 4)) 24 true,QG (some 26) (.arith .leq (V 25) (.cst (.int .u8 90))) 24 true,QG (some 27) (.pick (V 24) (V 26) bG) 21 false,Q 28 (.pick (V 21) cN (V 27)),M 29 28,QG (some 30) (.mov (V 4)) 29 false,QG (some 31) (.arith .eql (V 30) (.cst (.int .u8 95))) 29 false,Q 32 (.pick (V 29) cN (V 31)),M 5 32]
def Nt:List aB:=[M 33 5,Q 34 (.un .not (V 33)),M 35 34,QG (some 36) (.mov (V 3)) 35 true,QG (some 37) (.arith .eql (V 36) (I 0)) 35 true,QG (some 38) (.mov (V 37)) 35 true,QG (some 39) (.mov (V 4)) 38 false,QG (some 40) (.arith .lss (V 39) (.cst (.int .u8 48))) 38 false,QG (some 41) (.pick (V 38) cN (V 40)) 35 true,QG (some 42) (.mov (V 41)) 35 true,QG (some 43) (.mov (V 4)) 42 false,QG (some 44) (.arith .gtr (V 43) (.cst (.int .u8 57))) 42 false,QG (some 45) (.pick (V 42) cN (V 44)) 35 true,Q 46 (.pick (V 35) (V 45) bG)]
def Nu:List aB:=[M 10 3,Q 11 (.arith .add (V 10) (I 1)),M 3 11]
@[simp]def aJY:=aC Nq.eq_1<|aC Nr.eq_1<|aC Ns.eq_1<|aC Nt.eq_1<|aP Nu.eq_1
def tU:aL:=
 (aA (aA (aD 6 9 Nq) (.cond (V 9) .skip (.exit 0))) (aA (.block 1 (aA (aD 12 15 Nr) (aA (aD 15 33 Ns) (aA (aD 33 46 Nt) (.cond (V 46) (aA (.region [Q 2 (.mov bG)]) .ret) .skip))))) (aD 10 12 Nu)))
@[simp]def aJZ:=bL tU.eq_1
def Nv:List aB:=[M 47 0,Q 48 (.arith .neq (V 47) (.cst (.str []))),M 49 48,QG (some 50) (.mov (V 0)) 49 true,QG (some 51) (.len true (V 50)) 49 true,QG (some 52) (.arith .leq (V 51) (I 32)) 49 true,Q 53 (.pick (V 49) (V 52) bG),M 2 53]
@[simp]def aJ0:=aP Nv.eq_1
def qf:aU:=
 ⟨1,[.tmp 2],
 (aA (.region [Q 2 (.mov bG)]) (aA (aA (.region [Q 3 (.mov (I 0))]) (.block 0 (.loop tU))) (aA (aD 47 54 Nv) .ret))),false⟩
def Nw:List aB:=[M 5 0,M 6 1,Q 7 (.arith .lss (V 5) (V 6))]
def Nx:List aB:=[M 8 0,M 9 1,Q 10 (.arith .gtr (V 8) (V 9))]
@[simp]def aJ1:=aC Nw.eq_1<|aP Nx.eq_1
def qh:aU:=
 ⟨2,[.tmp 4],
 (aA (.region [Q 4 (.mov (I 0))]) (aA (aA (aD 5 7 Nw) (.cond (V 7) (aA (.region [Q 4 (.mov (I (-1)))]) .ret) .skip)) (aA (aA (aD 8 10 Nx) (.cond (V 10) (aA (.region [Q 4 (.mov (I 1))]) .ret) .skip)) (aA (.region [Q 4 (.mov (I 0))]) .ret)))),false⟩
def Ny:List aB:=[Q 4 (.mov (I 0)),Q 5 (.mov (I 0)),Q 6 (.mov (I 0))]
def Nz:List aB:=[M 10 1,Q 11 (.arith .lss (V 10) (I 0)),M 12 11,QG (some 13) (.mov (V 1)) 12 false,QG (some 14) (.mov (V 0)) 12 false,QG (some 15) (.len false (V 14)) 12 false,QG (some 16) (.arith .gtr (V 13) (V 15)) 12 false,Q 17 (.pick (V 12) cN (V 16))]
def OA:List aB:=[Q 4 (.mov (I 0)),Q 5 (.mov (I 0)),Q 6 (.mov (I 2))]
def OB:List aB:=[M 18 0,M 19 1,Q 20 (.slc 1 (some (V 19)) none (V 18)),Q 21 (.len false (V 20)),Q 22 (.mov (I 0))]
def OC:List aB:=[Q 23 (.arith .lss (V 22) (V 21))]
def OD:List aB:=[M 24 22,Q 25 (.iaddr 1 (V 20) (V 22)),LD 26 25,M 8 24,M 9 26]
def OE:List aB:=[M 27 8,Q 28 (.arith .eql (V 27) (I 8)),M 29 28,QG (some 30) (.mov (V 9)) 29 true,QG (some 31) (.arith .gtr (V 30) (.cst (.int .u8 127))) 29 true,Q 32 (.pick (V 29) (V 31) bG),M 33 32,QG (some 34) (.mov (V 8)) 33 false,QG (some 35) (.arith .gtr (V 34) (I 0)) 33 false,QG (some 36) (.mov (V 35)) 33 false,QG (some 37) (.mov (V 9)) 36 true,QG (some 38) (.arith .eql (V 37) (.cst (.int .u8 0))) 36 true,QG (some 39) (.pick (V 36) (V 38) bG) 33 false,Q 40 (.pick (V 33) cN (V 39))]
def OF:List aB:=[Q 4 (.mov (I 0)),Q 5 (.mov (I 0)),Q 6 (.mov (I 5))]
def OG:List aB:=[M 41 7,M 42 9,Q 43 (.arith .and (V 42) (.cst (.int .u8 127))),Q 44 (.toInt .u64 (V 43)),M 45 8,Q 46 (.arith .mul (I 7) (V 45)),Q 47 (.arith .shl (V 44) (V 46)),Q 48 (.arith .or (V 41) (V 47)),M 7 48]
def OH:List aB:=[M 49 9,Q 50 (.arith .lss (V 49) (.cst (.int .u8 128)))]
def OI:List aB:=[M 51 7,Q 52 (.toInt .i64 (V 51)),M 53 1,M 54 8,Q 55 (.arith .add (V 53) (V 54)),Q 56 (.arith .add (V 55) (I 1)),M 4 52,M 5 56,Q 6 (.mov (I 0))]
def OJ:List aB:=[Q 57 (.arith .add (V 22) (I 1)),M 22 57]
@[simp]def aJ2:=aC Ny.eq_1<|aC Nz.eq_1<|aC OA.eq_1<|aC OB.eq_1<|aC OC.eq_1<|aC OD.eq_1<|aC OE.eq_1<|aC OF.eq_1<|aC OG.eq_1<|aC OH.eq_1<|aC OI.eq_1<|aP OJ.eq_1
def OK:aL:=
 (aA (ai OC) (aA (.cond (V 23) .skip (.exit 0)) (aA (.block 1 (aA (aD 24 27 OD) (aA (aA (aD 27 40 OE) (.cond (V 40) (aA (ai OF) .ret) .skip)) (aA (aD 41 49 OG) (aA (aD 49 50 OH) (.cond (V 50) (aA (aD 51 57 OI) .ret) .skip)))))) (aD 57 58 OJ))))
@[simp]def aJ3:=bL OK.eq_1
def OL:List aB:=[Q 4 (.mov (I 0)),Q 5 (.mov (I 0)),Q 6 (.mov (I 4))]
@[simp]def aJ4:=aP OL.eq_1
def z23:aU:=
 ⟨2,[.tmp 4,.tmp 5,.tmp 6],
 (aA (ai Ny) (aA (aA (aD 10 17 Nz) (.cond (V 17) (aA (ai OA) .ret) .skip)) (aA (.region [Q 7 (.mov (.cst (.int .u64 0)))]) (aA (aA (aD 18 20 OB) (.block 0 (.loop OK))) (aA (ai OL) .ret))))),false⟩
def OM:List aB:=[Q 4 (.mov (.cst (.str []))),Q 5 (.mov (I 0)),Q 6 (.mov (I 0))]
def ON:List aB:=[M 11 0,M 12 1,Q 13 (.call .std 110 [V 11,V 12]),M 10 13,EX 14 0 10,EX 15 1 10,EX 16 2 10,M 7 14,M 8 15,M 9 16]
def OO:List aB:=[M 18 9,Q 19 (.arith .neq (V 18) (I 0)),M 17 19]
def OP:List aB:=[M 20 9,Q 4 (.mov (.cst (.str []))),Q 5 (.mov (I 0)),M 6 20]
def OQ:List aB:=[M 22 7,Q 23 (.arith .gtr (V 22) (I 65535)),M 21 23]
def OR:List aB:=[Q 4 (.mov (.cst (.str []))),Q 5 (.mov (I 0)),Q 6 (.mov (I 3))]
def OS:List aB:=[M 25 7,M 26 0,Q 27 (.len false (V 26)),M 28 8,Q 29 (.arith .sub (V 27) (V 28)),Q 30 (.arith .gtr (V 25) (V 29)),M 24 30]
def OT:List aB:=[Q 4 (.mov (.cst (.str []))),Q 5 (.mov (I 0)),Q 6 (.mov (I 4))]
def OU:List aB:=[M 31 0,M 32 8,M 33 8,M 34 7,Q 35 (.arith .add (V 33) (V 34)),Q 36 (.slc 1 (some (V 32)) (some (V 35)) (V 31)),Q 37 (.toStr (V 36)),M 38 8,M 39 7,Q 40 (.arith .add (V 38) (V 39)),M 4 37,M 5 40,Q 6 (.mov (I 0))]
@[simp]def aJ5:=aC OM.eq_1<|aC ON.eq_1<|aC OO.eq_1<|aC OP.eq_1<|aC OQ.eq_1<|aC OR.eq_1<|aC OS.eq_1<|aC OT.eq_1<|aP OU.eq_1
def z26:aU:=
 ⟨2,[.tmp 4,.tmp 5,.tmp 6],
 (aA (ai OM) (aA (aD 10 17 ON) (aA (.block 0 (aA (aD 18 20 OO) (.cond (V 17) (aA (aD 20 21 OP) .ret) (aA (aD 22 24 OQ) (.cond (V 21) (aA (ai OR) .ret) (aA (aD 25 31 OS) (.cond (V 24) (aA (ai OT) .ret) .skip))))))) (aA (aD 31 41 OU) .ret)))),false⟩
def OV:List aB:=[M 3 0,Q 4 (.arith .shr (V 3) (.cst (.int .u64 1))),Q 5 (.toInt .i64 (V 4)),M 6 0,Q 7 (.arith .and (V 6) (.cst (.int .u64 1))),Q 8 (.toInt .i64 (V 7)),Q 9 (.un .neg (V 8)),Q 10 (.arith .xor (V 5) (V 9)),M 2 10]
@[simp]def aJ6:=aP OV.eq_1
def yU:aU:=
 ⟨1,[.tmp 2],
 (aA (.region [Q 2 (.mov (I 0))]) (aA (aD 3 11 OV) .ret)),false⟩
def OW:List aB:=[Q 2 (.box true (V 0)),Q 4 (.mov (.cst (.int .u64 0))),Q 5 (.mov (I 0)),Q 6 (.mov (I 0))]
def OX:List aB:=[Q 11 (.load true 2 false (V 2)),M 12 1,Q 13 (.call .std 406 [V 11,V 12,(I 7)]),M 10 13,EX 14 0 10,EX 15 1 10,M 7 14,M 8 15]
def OY:List aB:=[M 17 8,Q 18 (.arith .neq (V 17) (I 0)),M 16 18]
def OZ:List aB:=[M 19 8,Q 4 (.mov (.cst (.int .u64 0))),Q 5 (.mov (I 0)),M 6 19]
def Oa:List aB:=[M 21 7,Q 22 (.arith .gtr (V 21) (.cst (.int .u64 64))),M 20 22]
def yV:List aB:=[Q 4 (.mov (.cst (.int .u64 0))),Q 5 (.mov (I 0)),Q 6 (.mov (I 5))]
def Ob:List aB:=[Q 24 (.load true 2 false (V 2)),M 25 1,Q 26 (.arith .add (V 25) (I 7)),M 27 7,Q 28 (.toInt .i64 (V 27)),Q 29 (.call .std 406 [V 24,V 26,V 28]),M 23 29,EX 30 0 23,EX 31 1 23,M 9 30,M 8 31]
def Oc:List aB:=[M 33 8,Q 34 (.arith .neq (V 33) (I 0)),M 32 34]
def Od:List aB:=[M 35 8,Q 4 (.mov (.cst (.int .u64 0))),Q 5 (.mov (I 0)),M 6 35]
def Oe:List aB:=[M 37 9,Q 38 (.call .pur 373 [V 37]),M 39 7,Q 40 (.toInt .i64 (V 39)),Q 41 (.arith .neq (V 38) (V 40)),M 36 41]
def Og:List aB:=[M 42 9,M 43 1,Q 44 (.arith .add (V 43) (I 7)),M 45 7,Q 46 (.toInt .i64 (V 45)),Q 47 (.arith .add (V 44) (V 46)),M 4 42,M 5 47,Q 6 (.mov (I 0))]
@[simp]def aJ7:=aC OW.eq_1<|aC OX.eq_1<|aC OY.eq_1<|aC OZ.eq_1<|aC Oa.eq_1<|aC yV.eq_1<|aC Ob.eq_1<|aC Oc.eq_1<|aC Od.eq_1<|aC Oe.eq_1<|aP Og.eq_1
def yW:aU:=
 ⟨2,[.tmp 4,.tmp 5,.tmp 6],
 (aA (ai OW) (aA (aD 10 16 OX) (aA (.block 0 (aA (aD 17 19 OY) (.cond (V 16) (aA (aD 19 20 OZ) .ret) (aA (aD 21 23 Oa) (.cond (V 20) (aA (ai yV) .ret) .skip))))) (aA (aD 23 32 Ob) (aA (.block 1 (aA (aD 33 35 Oc) (.cond (V 32) (aA (aD 35 36 Od) .ret) (aA (aD 37 42 Oe) (.cond (V 36) (aA (ai yV) .ret) .skip))))) (aA (aD 42 48 Og) .ret)))))),false⟩
def Oh:List aB:=[M 3 0,M 4 0,Q 5 (.arith .neq (V 3) (V 4)),M 2 5]
@[simp]def aJ8:=aP Oh.eq_1
def qi:aU:=
 ⟨1,[.tmp 2],
 (aA (.region [Q 2 (.mov bG)]) (aA (aD 3 6 Oh) .ret)),false⟩
def Oi:List aB:=[FA 3 1 1,Q 4 (.load false 1 true (V 3)),Q 5 (.arith .lss (V 4) (I 0)),M 6 5,QG (some 7) (.faddr 0 (V 1)) 6 false,QG (some 8) (.load false 1 true (V 7)) 6 false,QG (some 9) (.len false (V 8)) 6 false,QG (some 10) (.faddr 1 (V 1)) 6 false,QG (some 11) (.load false 1 true (V 10)) 6 false,QG (some 12) (.call .pur 413 [V 11]) 6 false,QG (some 13) (.arith .neq (V 9) (V 12)) 6 false,Q 14 (.pick (V 6) cN (V 13))]
def Oj:List aB:=[FA 15 1 1,Q 16 (.load false 1 true (V 15)),Q 17 (.arith .rem (V 16) (I 8)),Q 18 (.arith .eql (V 17) (I 0)),M 19 18,QG (some 20) (.faddr 0 (V 1)) 19 false,QG (some 21) (.load false 1 true (V 20)) 19 false,QG (some 22) (.faddr 0 (V 1)) 19 false,QG (some 23) (.load false 1 true (V 22)) 19 false,QG (some 24) (.len false (V 23)) 19 false,QG (some 25) (.arith .sub (V 24) (I 1)) 19 false,QG (some 26) (.iaddr 1 (V 21) (V 25)) 19 false,QG (some 27) (.load false 1 true (V 26)) 19 false,QG (some 28) (.faddr 1 (V 1)) 19 false,QG (some 29) (.load false 1 true (V 28)) 19 false,QG (some 30) (.arith .rem (V 29) (I 8)) 19 false,QG (some 31) (.arith .shl (V 27) (V 30)) 19 false,QG (some 32) (.arith .eql (V 31) (.cst (.int .u8 0))) 19 false,Q 33 (.pick (V 19) cN (V 32)),M 2 33]
@[simp]def aJ9:=aC Oi.eq_1<|aP Oj.eq_1
def z64:aU:=
 ⟨1,[.tmp 2],
 (aA (ai qR) (aA (aA (aD 3 14 Oi) (.cond (V 14) (aA (.region [Q 2 (.mov bG)]) .ret) .skip)) (aA (aD 15 34 Oj) .ret))),false⟩
def Ol:List aB:=[Q 1 (.box true (V 0)),Q 2 (.mov (.cst .nilf)),Q 3 (.mov (.cst .nilf))]
def Om:List aB:=[FA 5 0 1,Q 6 (.load false 1 true (V 5)),Q 7 (.len false (V 6)),Q 8 (.arith .add (V 7) (I 17)),Q 9 (.mko 1 1 [(.int .u8 0)] (V 8)),FA 10 0 1,Q 11 (.load false 1 true (V 10)),Q 12 (.gapp 1 1 (V 9) (V 11)),FA 13 1 1,Q 14 (.load false 1 true (V 13)),Q 15 (.build [.nils,(.int .i64 0)] [(0,1,V 12),(1,1,V 14)]),Q 4 (.mov (.cst .und)),Q 4 (.nst 2 (V 15))]
def On:List aB:=[Q 16 (.mkfn 414 [V 4]),M 2 16]
def Oo:List aB:=[M 17 2,Q 18 (.mkfn 415 [V 4]),M 2 17,M 3 18]
@[simp]def aKa:=aC Ol.eq_1<|aC Om.eq_1<|aC On.eq_1<|aP Oo.eq_1
def z41:aU:=
 ⟨1,[.tmp 2,.tmp 3],
 (aA (ai Ol) (aA (aD 5 16 Om) (aA (aD 16 17 On) (aA (aD 17 19 Oo) .ret)))),true⟩
def Oq:List aB:=[M 3 0,Q 4 (.arith .geq (V 3) (.cst (.int .u64 4294967296)))]
def Ot:List aB:=[M 5 0,Q 6 (.arith .shr (V 5) (.cst (.int .u64 32))),M 0 6]
def Ou:List aB:=[M 7 0,Q 8 (.arith .geq (V 7) (.cst (.int .u64 65536)))]
def Ov:List aB:=[M 9 0,Q 10 (.arith .shr (V 9) (.cst (.int .u64 16))),M 0 10]
def Ow:List aB:=[M 11 2,Q 12 (.arith .add (V 11) (I 16)),M 2 12]
def Ox:List aB:=[M 13 0,Q 14 (.arith .geq (V 13) (.cst (.int .u64 256)))]
def Oy:List aB:=[M 15 0,Q 16 (.arith .shr (V 15) (.cst (.int .u64 8))),M 0 16]
def Oz:List aB:=[M 17 2,Q 18 (.arith .add (V 17) (I 8)),M 2 18]
def tV:List aB:=[M 19 2,M 20 0,Q 21 (.toInt .u8 (V 20)),Q 22 (.idxs (.cst (.str [0,1,2,2,3,3,3,3,4,4,4,4,4,4,4,4,5,5,5,5,5,5,5,5,5,5,5,5,5,5,5,5,6,6,6,6,6,6,6,6,6,6,6,6,6,6,6,6,6,6,6,6,6,6,6,6,6,6,6,6,6,6,6,6,7,7,7,7,7,7,7,7,7,7,7,7,7,7,7,7,7,7,7,7,7,7,7,7,7,7,7,7,7,7,7,7,7,7,7,7,7,7,7,7,7,7,7,7,7,7,7,7,7,7,7,7,7,7,7,7,7,7,7,7,7,7,7,7,8,8,8,8,8,8,8,8,8,8,8,8,8,8,8,8,8,8,8,8,8,8,8,8,8,8,8,8,8,8,8,8,8,8,8,8,8,8,8,8,8,8,8,8,8,8,8,8,8,8,8,8,8,8,8,8,8,8,8,8,8,8,8,8,8,8,8,8,8,8,8,8,8,8,8,8,8,8,8,8,8,8,8,8,8,8,8,8,8,8,8,8,8,8,8,8,8,8,8,8,8,8,8,8,8,8,8,8,8,8,8,8,8,8,8,8,8,8,8,8,8,8,8,8,8,8,8,8])) (V 21)),Q 23 (.toInt .i64 (V 22)),Q 24 (.arith .add (V 19) (V 23)),M 2 24]
@[simp]def Xu:=aP tV.eq_1
@[simp]def aKb:=aC Oq.eq_1<|aC Ot.eq_1<|aC Ou.eq_1<|aC Ov.eq_1<|aC Ow.eq_1<|aC Ox.eq_1<|aC Oy.eq_1<|aP Oz.eq_1
def qj:aU:=
 ⟨1,[.tmp 2],
 (aA (.region [Q 2 (.mov (I 0))]) (aA (aA (aD 3 4 Oq) (.cond (V 4) (aA (aD 5 7 Ot) (.region [Q 2 (.mov (I 32))])) .skip)) (aA (aA (aD 7 8 Ou) (.cond (V 8) (aA (aD 9 11 Ov) (aD 11 13 Ow)) .skip)) (aA (aA (aD 13 14 Ox) (.cond (V 14) (aA (aD 15 17 Oy) (aD 17 19 Oz)) .skip)) (aA (aD 19 25 tV) .ret))))),false⟩
def PA:List aB:=[M 12 5,M 13 0,M 14 4,Q 15 (.iaddr 1 (V 13) (V 14)),LD 16 15,Q 17 (.len false (V 16)),Q 18 (.arith .lss (V 12) (V 17))]
def PC:List aB:=[M 21 3,M 22 0,M 23 4,Q 24 (.iaddr 1 (V 22) (V 23)),LD 25 24,M 26 5,Q 27 (.iaddr 2 (V 25) (V 26)),FA 28 0 27,LD 29 28,Q 30 (.call .std 238 [V 21,V 29]),M 3 30]
def PD:List aB:=[M 19 5,Q 20 (.arith .add (V 19) (I 1)),M 5 20]
@[simp]def aKc:=aC PA.eq_1<|aC PC.eq_1<|aP PD.eq_1
def PE:aL:=
 (aA (aA (aD 12 18 PA) (.cond (V 18) .skip (.exit 2))) (aA (.block 3 (aD 21 31 PC)) (aD 19 21 PD)))
@[simp]def aKd:=bL PE.eq_1
def PF:aL:=
 (aA (aA (aD 6 9 yK) (.cond (V 9) .skip (.exit 0))) (aA (.block 1 (aA (.region [Q 5 (.mov (I 0))]) (.block 2 (.loop PE)))) (aD 10 12 yM)))
@[simp]def aKe:=bL PF.eq_1
def mY:aU:=
 ⟨1,[.tmp 2],
 (aA (.region [Q 2 (.mov (.cst .nils))]) (aA (.region [Q 3 (.mov (.cst .nils))]) (aA (aA (.region [Q 4 (.mov (I 0))]) (.block 0 (.loop PF))) (aA (aD 31 32 xu) .ret)))),false⟩
end Ps
