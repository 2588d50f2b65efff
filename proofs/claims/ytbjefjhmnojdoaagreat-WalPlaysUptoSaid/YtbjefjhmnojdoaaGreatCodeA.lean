/- The functions' code, as the pure semantics has it: printed by program. -/
import Derived.Test.YtbjefjhmnojdoaaGreatWalk
namespace Ps
open Go
set_option maxRecDepth 10000
set_option linter.defProp false
variable (T : bH) (K : List Kt) (fr : Fr) (S : St)
def JV:List aF:=[M 14 0,Q 15 (.call .std 16 [V 14]),M 13 15,EX 16 0 13,EX 17 1 13,M 7 16,M 8 17]
def JW:List aF:=[M 19 0,Q 20 (.call .pur 17 [V 19]),M 18 20,EX 21 0 18,EX 22 1 18,Q 9 (.alloc false [(.int .i64 0),.nils,.nils,.nils,(.int .i64 0),(.bool false),(.int .i64 0)]),QN (.store 7 (V 9) (V 21)),M 10 22]
def JX:List aF:=[M 23 8,M 24 10,Q 25 (.arith .neq (V 23) (V 24)),M 26 25,QG (some 27) (.mov (V 10)) 26 false,QG (some 28) (.arith .neq (V 27) (I 0)) 26 false,Q 29 (.pick (V 26) bh (V 28))]
def JY:List aF:=[M 30 8,M 31 10,Q 32 (.arith .eql (V 30) (V 31)),M 33 32,QG (some 34) (.call .pur 57 []) 33 true,Q 35 (.pick (V 33) (V 34) au),M 6 35]
def JZ:List aF:=[M 36 7,Q 37 (.load true 7 false (V 9)),Q 38 (.build [.nilp,.nilp,(.int .i64 0),.nils,.nils,.nils,(.int .i64 0),(.bool false),(.int .i64 0),(.str []),(.int .i64 0),(.int .i64 0),(.bool false)] [(0,1,V 36),(2,7,V 37)]),Q 39 (.box false (V 38)),M 11 39]
@[simp]def Zp:=aT JZ.eq_1
def Ja:List aF:=[M 40 11,M 41 1,Q 42 (.call .std 58 [V 40,V 41]),Q 43 (.un .not (V 42))]
@[simp]def Zq:=aT Ja.eq_1
def Jb:List aF:=[M 44 12,M 45 2,Q 46 (.len false (V 45)),Q 47 (.arith .lss (V 44) (V 46)),M 48 47,QG (some 49) (.mov (V 12)) 48 true,QG (some 50) (.arith .lss (V 49) (I 40)) 48 true,Q 51 (.pick (V 48) (V 50) au)]
@[simp]def Zr:=aT Jb.eq_1
def Jc:List aF:=[M 54 11,M 55 2,M 56 12,Q 57 (.iaddr 10 (V 55) (V 56)),Q 58 (.load true 10 true (V 57)),M 59 1,Q 60 (.call .std 59 [V 54,V 58,V 59]),Q 61 (.un .not (V 60)),M 62 61,QG (some 63) (.mov (V 11)) 62 false,QG (some 64) (.nilck (V 63)) 62 false,QG (some 65) (.faddr 0 (V 64)) 62 false,QG (some 66) (.load false 1 false (V 65)) 62 false,QG (some 67) (.mov (V 11)) 62 false,QG (some 68) (.nilck (V 67)) 62 false,QG (some 69) (.faddr 2 (V 68)) 62 false,QG (some 70) (.load true 7 false (V 69)) 62 false,QG (some 71) (.call .std 60 [V 66,V 70]) 62 false,QG (some 72) (.un .not (V 71)) 62 false,Q 73 (.pick (V 62) bh (V 72))]
def Jd:List aF:=[M 74 11,bN 75 74,FA 76 12 75,LD 77 76,M 78 77,QG (some 79) (.mov (V 11)) 78 true,QG (some 80) (.nilck (V 79)) 78 true,QG (some 81) (.faddr 1 (V 80)) 78 true,QG (some 82) (.load false 1 false (V 81)) 78 true,QG (some 84) (.mov (V 11)) 78 true,QG (some 85) (.nilck (V 84)) 78 true,QG (some 86) (.faddr 9 (V 85)) 78 true,QG (some 87) (.faddr 1 (V 86)) 78 true,QG (some 88) (.load false 1 false (V 87)) 78 true,QG (some 83) (.call .keep 61 [V 82]) 78 true,QG (some 89) (.arith .neq (V 83) (V 88)) 78 true,QG (some 90) (.mov (V 89)) 78 true,QG (some 91) (.mov (V 11)) 90 false,QG (some 92) (.nilck (V 91)) 90 false,QG (some 93) (.faddr 1 (V 92)) 90 false,QG (some 94) (.load false 1 false (V 93)) 90 false,QG (some 96) (.mov (V 11)) 90 false,QG (some 97) (.nilck (V 96)) 90 false,QG (some 98) (.faddr 9 (V 97)) 90 false,QG (some 99) (.faddr 2 (V 98)) 90 false,QG (some 100) (.load false 1 false (V 99)) 90 false,QG (some 95) (.call .keep 62 [V 94]) 90 false,QG (some 101) (.arith .neq (V 95) (V 100)) 90 false,QG (some 102) (.pick (V 90) bh (V 101)) 78 true,Q 103 (.pick (V 78) (V 102) au)]
def Je:List aF:=[M 52 12,Q 53 (.arith .add (V 52) (I 1)),M 12 53]
@[simp]def aNK:=aH JV.eq_1<|aH JW.eq_1<|aH JX.eq_1<|aH JY.eq_1<|aH Jc.eq_1<|aH Jd.eq_1<|aT Je.eq_1
def wy:az:=
 (aE (aE (aG 44 51 Jb) (.cond (V 51) .skip (.exit 0))) (aE (.block 1 (aE (aE (aG 54 73 Jc) (.cond (V 73) (aE (.region [Q 6 (.mov au)]) .ret) .skip)) (aE (aG 74 103 Jd) (.cond (V 103) (aE (.region [Q 6 (.mov au)]) .ret) .skip)))) (aG 52 54 Je)))
@[simp]def aNL:=cL wy.eq_1
def Jf:List aF:=[Q 104 (.call .pur 57 []),M 6 104]
@[simp]def aNM:=aT Jf.eq_1
def qj:ai:=
 ⟨3,[.tmp 6],
 (aE (.region [Q 6 (.mov au)]) (aE (aG 13 18 JV) (aE (aG 18 23 JW) (aE (aE (aG 23 29 JX) (.cond (V 29) (aE (aG 30 36 JY) .ret) .skip)) (aE (aG 36 40 JZ) (aE (aE (aG 40 43 Ja) (.cond (V 43) (aE (.region [Q 6 (.mov au)]) .ret) .skip)) (aE (aE (.region [Q 12 (.mov (I 0))]) (.block 0 (.loop wy))) (aE (aG 104 105 Jf) .ret)))))))),false⟩
def Jg:List aF:=[Q 2 (.mov (.cst .nilp)),Q 3 (.mov (I 0))]
def BI:List aF:=[M 4 0,Q 5 (.arith .lss (V 4) (I 1)),M 6 5,QG (some 7) (.mov (V 0)) 6 false,QG (some 8) (.arith .gtr (V 7) (I 4194304)) 6 false,Q 9 (.pick (V 6) bh (V 8))]
def Jh:List aF:=[Q 2 (.mov (.cst .nilp)),Q 3 (.mov (I 2))]
def Ji:List aF:=[M 10 0,Q 11 (.mkm),Q 12 (.mkm),Q 13 (.build [(.int .i64 0),.nilm,.nilm,.nils,(.int .i64 0),(.int .i64 0),(.bool false)] [(0,1,V 10),(1,1,V 11),(2,1,V 12),(4,1,(I (-1)))]),Q 14 (.box false (V 13)),M 2 14,Q 3 (.mov (I 0))]
@[simp]def aNN:=aH Jg.eq_1<|aH BI.eq_1<|aH Jh.eq_1<|aT Ji.eq_1
def oy:ai:=
 ⟨1,[.tmp 2,.tmp 3],
 (aE (ad Jg) (aE (aE (aG 4 9 BI) (.cond (V 9) (aE (ad Jh) .ret) .skip)) (aE (aG 10 15 Ji) .ret))),false⟩
def Jj:List aF:=[Q 2 (.alloc false [(.int .i64 0),.nils,.nils,.nils,(.int .i64 0),(.bool false),(.int .i64 0)]),Q 3 (.mov (I 0))]
def Jk:List aF:=[Q 10 (.build [(.int .i64 0),.nils,.nils,.nils,(.int .i64 0),(.bool false),(.int .i64 0)] []),QN (.store 7 (V 2) (V 10)),Q 3 (.mov (I 2))]
def Jl:List aF:=[M 11 0,Q 12 (.build [(.int .i64 0),.nils,.nils,.nils,(.int .i64 0),(.bool false),(.int .i64 0)] [(0,1,V 11),(4,1,(I (-1)))]),QN (.store 7 (V 2) (V 12)),Q 3 (.mov (I 0))]
@[simp]def aNO:=aH Jj.eq_1<|aH Jk.eq_1<|aT Jl.eq_1
def oz:ai:=
 ⟨1,[.cell 2 true 7,.tmp 3],
 (aE (ad Jj) (aE (aE (aG 4 9 BI) (.cond (V 9) (aE (aG 10 11 Jk) .ret) .skip)) (aE (aG 11 13 Jl) .ret))),false⟩
def Jm:List aF:=[Q 8 (.build [(.int .i64 0),(.int .i64 0)] [(0,1,(I 10)),(1,1,(I (-1)))]),Q 9 (.build [(.int .i64 0),(.int .i64 0),(.int .i64 0)] [(0,1,(I 3)),(1,2,V 8)]),Q 10 (.bsl false (.agg [(.int .i64 0),(.int .i64 0),(.int .i64 0)]) 1 [(0,V 9)]),Q 11 (.build [(.int .i64 0),.nils,.nils,.nils,(.int .i64 0),(.int .i64 0)] [(0,1,(I 2)),(2,1,V 10)]),Q 12 (.call .std 142 [V 11]),M 7 12,EX 13 0 7,EX 14 1 7,M 1 13,M 2 14]
def Jn:List aF:=[Q 16 (.bsl false (.int .i64 0) 2 [(0,(I 1)),(1,(I 3))]),Q 17 (.build [(.int .i64 0),.nils,.nils,.nils,(.int .i64 0),(.int .i64 0)] [(0,1,(I 3)),(3,1,V 16),(4,1,(I 5)),(5,1,(I 9))]),Q 18 (.call .std 142 [V 17]),M 15 18,EX 19 0 15,EX 20 1 15,M 3 19,M 4 20]
def Jo:List aF:=[Q 22 (.call .std 143 [(.cst .nils)]),M 21 22,EX 23 0 21,EX 24 1 21,Q 5 (.alloc false [(.int .i64 0),.nils,.nils,.nils,(.int .i64 0),(.int .i64 0)]),QN (.store 6 (V 5) (V 23)),M 6 24]
def Jp:List aF:=[M 25 1,Q 26 (.toStr (V 25)),Q 27 (.arith .eql (V 26) (.cst (.str [2,1,3,10,1]))),M 28 27,QG (some 29) (.mov (V 2)) 28 true,QG (some 30) (.arith .eql (V 29) (I 0)) 28 true,Q 31 (.pick (V 28) (V 30) au),M 32 31,QG (some 33) (.mov (V 3)) 32 true,QG (some 34) (.toStr (V 33)) 32 true,QG (some 35) (.arith .eql (V 34) (.cst (.str [3,2,1,2,5,9]))) 32 true,Q 36 (.pick (V 32) (V 35) au),M 37 36,QG (some 38) (.mov (V 4)) 37 true,QG (some 39) (.arith .eql (V 38) (I 0)) 37 true,Q 40 (.pick (V 37) (V 39) au),M 41 40,QG (some 42) (.mov (V 6)) 41 true,QG (some 43) (.arith .eql (V 42) (I 5)) 41 true,Q 44 (.pick (V 41) (V 43) au),M 45 44,Q 46 (.pick (V 45) bh au),M 0 46]
@[simp]def aNP:=aH Jm.eq_1<|aH Jn.eq_1<|aH Jo.eq_1<|aT Jp.eq_1
def BJ:ai:=
 ⟨0,[.tmp 0],
 (aE (.region [Q 0 (.mov au)]) (aE (aG 7 15 Jm) (aE (aG 15 21 Jn) (aE (.clr [(5,6),(21,25)] (ad Jo)) (aE (aG 25 47 Jp) .ret))))),false⟩
def Jq:List aF:=[M 13 0,bN 14 13,FA 15 0 14,LD 16 15,M 17 1,Q 18 (.call .std 144 [V 16,V 17]),M 12 18,EX 19 0 12,EX 20 1 12,EX 21 2 12,M 5 19,M 6 20,M 7 21]
def Jr:List aF:=[M 23 0,bN 24 23,FA 25 2 24,Q 26 (.load true 7 false (V 25)),M 27 1,Q 28 (.call .std 145 [V 26,V 27]),M 22 28,EX 29 0 22,EX 30 1 22,EX 31 2 22,EX 32 3 22,Q 8 (.alloc false [(.int .i64 0),.nils,.nils,.nils,(.int .i64 0),(.bool false),(.int .i64 0)]),Q 9 (.alloc false [(.str []),(.int .i64 0),(.int .i64 0)]),QN (.store 7 (V 8) (V 29)),QN (.store 3 (V 9) (V 30)),M 10 31,M 11 32]
def Js:List aF:=[M 33 0,M 34 0,M 35 0,M 36 0,M 37 5,Q 38 (.loadb 8 true 7 (V 8)),Q 39 (.loadb 9 true 3 (V 9)),M 40 11,Q 41 (.arith .eql (V 40) (I 0)),bN 42 33,FA 43 1 42,QN (.stb [8,9] 1 (V 43) (V 37)),bN 44 34,FA 45 2 44,QN (.stb [9] 7 (V 45) (V 38)),bN 46 35,FA 47 9 46,QN (.store 3 (V 47) (V 39)),bN 48 36,FA 49 12 48,QN (.store 1 (V 49) (V 41))]
def Jt:List aF:=[M 50 7,M 51 11,Q 52 (.arith .eql (V 50) (V 51)),M 53 52,QG (some 54) (.mov (V 5)) 53 true,QG (some 55) (.eqn true .p (V 54)) 53 true,QG (some 56) (.mov (V 0)) 53 true,QG (some 57) (.nilck (V 56)) 53 true,QG (some 58) (.faddr 12 (V 57)) 53 true,QG (some 59) (.load false 1 false (V 58)) 53 true,QG (some 60) (.eqb false (V 55) (V 59)) 53 true,Q 61 (.pick (V 53) (V 60) au),M 62 61,QG (some 63) (.mov (V 6)) 62 true,QG (some 64) (.mov (V 10)) 62 true,QG (some 65) (.call .std 146 [V 63,V 64]) 62 true,Q 66 (.pick (V 62) (V 65) au),M 4 66]
@[simp]def aNQ:=aH Jq.eq_1<|aH Jr.eq_1<|aH Js.eq_1<|aT Jt.eq_1
def z3:ai:=
 ⟨2,[.tmp 4],
 (aE (.region [Q 4 (.mov au)]) (aE (aG 12 22 Jq) (aE (aG 22 33 Jr) (aE (aG 33 50 Js) (aE (aG 50 67 Jt) .ret))))),true⟩
def Ju:List aF:=[Q 4 (.box true (V 1)),Q 6 (.mov au)]
def Jv:List aF:=[FA 14 0 4,LD 15 14]
def Jw:List aF:=[Q 17 (.arith .eql (V 15) (I 3)),M 16 17]
def Jx:List aF:=[M 18 0,M 19 0,bN 20 19,FA 21 2 20,Q 22 (.load true 7 false (V 21)),FA 23 8 4,Q 24 (.load false 1 true (V 23)),FA 25 9 4,Q 26 (.load false 1 true (V 25)),Q 27 (.call .std 89 [V 22,V 24,V 26]),bN 28 18,FA 29 2 28,QN (.store 7 (V 29) (V 27))]
def Jy:List aF:=[M 30 0,bN 31 30,FA 32 0 31,LD 33 32,FA 34 8 4,Q 35 (.load false 1 true (V 34)),FA 36 9 4,Q 37 (.load false 1 true (V 36)),Q 38 (.call .std 80 [V 33,V 35,V 37]),Q 39 (.arith .eql (V 38) (I 0)),M 40 39,QG (some 41) (.mov (V 0)) 40 true,QG (some 42) (.mov (V 2)) 40 true,QG (some 43) (.call .std 58 [V 41,V 42]) 40 true,Q 44 (.pick (V 40) (V 43) au),M 6 44]
def Jz:List aF:=[Q 46 (.arith .eql (V 15) (I 4)),M 45 46]
def KA:List aF:=[M 47 0,bN 48 47,FA 49 0 48,LD 50 49,FA 51 8 4,Q 52 (.load false 1 true (V 51)),Q 53 (.call .std 85 [V 50,V 52])]
def KB:List aF:=[M 54 0,M 55 0,bN 56 55,FA 57 2 56,Q 58 (.load true 7 false (V 57)),FA 59 8 4,Q 60 (.load false 1 true (V 59)),Q 61 (.call .std 88 [V 58,V 60]),bN 62 54,FA 63 2 62,QN (.store 7 (V 63) (V 61))]
def KC:List aF:=[Q 65 (.arith .eql (V 15) (I 5)),M 64 65]
def KD:List aF:=[M 67 0,bN 68 67,FA 69 2 68,Q 70 (.load true 7 false (V 69)),M 71 2,FA 72 7 4,Q 73 (.load false 1 true (V 72)),Q 74 (.call .pur 86 [V 70,(I 2),V 71,(.cst (.str [])),V 73]),M 66 74,EX 75 0 66,EX 76 1 66,Q 7 (.alloc false [(.int .i64 0),.nils,.nils,.nils,(.int .i64 0),(.bool false),(.int .i64 0)]),QN (.store 7 (V 7) (V 75)),M 8 76]
def KE:List aF:=[M 77 0,Q 78 (.load true 7 false (V 7)),bN 79 77,FA 80 2 79,QN (.store 7 (V 80) (V 78))]
def KF:List aF:=[M 81 0,bN 82 81,FA 83 0 82,LD 84 83,M 85 2,FA 86 7 4,Q 87 (.load false 1 true (V 86)),Q 88 (.call .std 78 [V 84,V 85,V 87]),M 89 8,Q 90 (.arith .eql (V 88) (V 89)),M 91 90,QG (some 92) (.mov (V 0)) 91 true,QG (some 93) (.mov (V 2)) 91 true,QG (some 94) (.call .std 58 [V 92,V 93]) 91 true,Q 95 (.pick (V 91) (V 94) au),M 6 95]
@[simp]def Zs:=aT KF.eq_1
def KG:List aF:=[M 96 0,bN 97 96,FA 98 12 97,LD 99 98,Q 100 (.un .not (V 99))]
def KH:List aF:=[FA 101 0 4,LD 102 101]
@[simp]def Zt:=aT KH.eq_1
def KI:List aF:=[Q 104 (.arith .eql (V 102) (I 1)),M 103 104]
def KJ:List aF:=[M 106 0,bN 107 106,FA 108 2 107,Q 109 (.load true 7 false (V 108)),M 110 0,bN 111 110,FA 112 9 111,Q 113 (.load true 3 false (V 112)),FA 114 1 4,Q 115 (.load true 6 true (V 114)),Q 116 (.call .pur 147 [V 109,V 113,V 115]),M 105 116,EX 117 0 105,EX 118 1 105,EX 119 2 105,Q 9 (.alloc false [(.int .i64 0),.nils,.nils,.nils,(.int .i64 0),(.bool false),(.int .i64 0)]),QN (.store 7 (V 9) (V 117)),Q 10 (.alloc false [(.str []),(.int .i64 0),(.int .i64 0)]),QN (.store 3 (V 10) (V 118)),M 11 119]
@[simp]def Zu:=aT KJ.eq_1
def KL:List aF:=[M 120 0,M 121 0,Q 122 (.load true 7 false (V 9)),Q 123 (.loadb 10 true 3 (V 10)),bN 124 120,FA 125 2 124,QN (.stb [10] 7 (V 125) (V 122)),bN 126 121,FA 127 9 126,QN (.store 3 (V 127) (V 123))]
def KM:List aF:=[M 128 0,bN 129 128,FA 130 1 129,LD 131 130,FA 132 1 4,Q 133 (.load true 6 true (V 132)),Q 134 (.call .keep 149 [V 133]),Q 135 (.call .std 148 [V 131,V 134]),M 136 11,Q 137 (.arith .eql (V 135) (V 136)),M 6 137]
@[simp]def KN:=aT KM.eq_1
def KO:List aF:=[Q 139 (.arith .eql (V 102) (I 2)),M 138 139]
def KP:List aF:=[M 141 0,bN 142 141,FA 143 2 142,Q 144 (.load true 7 false (V 143)),M 145 2,Q 146 (.call .std 86 [V 144,(I 5),V 145,(.cst (.str [])),(.cst .nils)]),M 140 146,EX 147 0 140,EX 148 1 140,Q 12 (.alloc false [(.int .i64 0),.nils,.nils,.nils,(.int .i64 0),(.bool false),(.int .i64 0)]),QN (.store 7 (V 12) (V 147)),M 13 148]
def KQ:List aF:=[M 149 0,Q 150 (.load true 7 false (V 12)),bN 151 149,FA 152 2 151,QN (.store 7 (V 152) (V 150))]
def KR:List aF:=[M 153 0,bN 154 153,FA 155 1 154,LD 156 155,Q 157 (.call .std 150 [V 156]),M 158 13,Q 159 (.arith .eql (V 157) (V 158)),M 6 159]
@[simp]def Zv:=aT KR.eq_1
@[simp]def aNR:=aH Ju.eq_1<|aH Jv.eq_1<|aH Jw.eq_1<|aH Jx.eq_1<|aH Jy.eq_1<|aH Jz.eq_1<|aH KA.eq_1<|aH KB.eq_1<|aH KC.eq_1<|aH KD.eq_1<|aH KE.eq_1<|aH KG.eq_1<|aH KI.eq_1<|aH KL.eq_1<|aH KO.eq_1<|aH KP.eq_1<|aT KQ.eq_1
def kB:ai:=
 ⟨3,[.tmp 6],
 (aE (ad Ju) (aE (aE (aG 14 15 Jv) (.block 0 (aE (aG 17 18 Jw) (.cond (V 16) (aE (aG 18 30 Jx) (aE (aG 30 45 Jy) .ret)) (aE (aG 46 47 Jz) (.cond (V 45) (aE (aG 47 54 KA) (aE (aG 54 64 KB) (aE (.region [Q 6 (.mov bh)]) .ret))) (aE (aG 65 66 KC) (.cond (V 64) (aE (aG 66 77 KD) (aE (aG 77 81 KE) (aE (aG 81 96 KF) .ret))) .skip)))))))) (aE (aE (aG 96 100 KG) (.cond (V 100) (aE (.region [Q 6 (.mov bh)]) .ret) .skip)) (aE (aE (aG 101 102 KH) (.block 1 (aE (aG 104 105 KI) (.cond (V 103) (aE (aG 105 120 KJ) (aE (aG 120 128 KL) (aE (aG 128 138 KM) .ret))) (aE (aG 139 140 KO) (.cond (V 138) (aE (aG 140 149 KP) (aE (aG 149 153 KQ) (aE (aG 153 160 KR) .ret))) .skip)))))) (aE (.region [Q 6 (.mov bh)]) .ret))))),true⟩
def KS:List aF:=[Q 3 (.box true (V 1)),Q 4 (.mov au)]
def KT:List aF:=[M 12 0,Q 13 (.call .std 90 [V 12]),Q 14 (.load true 7 true (V 3)),Q 15 (.call .std 92 [V 14]),M 5 13,M 6 15]
def KU:List aF:=[M 16 5,Q 17 (.len false (V 16)),M 18 6,Q 19 (.len false (V 18)),Q 20 (.arith .neq (V 17) (V 19)),M 21 20,QG (some 22) (.mov (V 0)) 21 false,QG (some 23) (.call .std 93 [V 22]) 21 false,QG (some 24) (.faddr 6 (V 3)) 21 false,QG (some 25) (.load false 1 true (V 24)) 21 false,QG (some 26) (.arith .neq (V 23) (V 25)) 21 false,Q 27 (.pick (V 21) bh (V 26))]
def KV:List aF:=[M 28 7,M 29 5,Q 30 (.len false (V 29)),Q 31 (.arith .lss (V 28) (V 30))]
def KW:List aF:=[M 35 0,M 36 5,M 37 7,Q 38 (.iaddr 1 (V 36) (V 37)),LD 39 38,Q 40 (.call .std 81 [V 35,V 39]),M 34 40,EX 41 0 34,EX 42 1 34,M 8 41,M 9 42]
def KX:List aF:=[Q 44 (.load true 7 true (V 3)),M 45 6,M 46 7,Q 47 (.iaddr 1 (V 45) (V 46)),Q 48 (.load false 1 true (V 47)),Q 49 (.call .std 87 [V 44,V 48]),M 43 49,EX 50 0 43,EX 51 1 43,M 10 50,M 11 51]
def KY:List aF:=[M 52 5,M 53 7,Q 54 (.iaddr 1 (V 52) (V 53)),Q 55 (.load false 1 true (V 54)),M 56 6,M 57 7,Q 58 (.iaddr 1 (V 56) (V 57)),Q 59 (.load false 1 true (V 58)),Q 60 (.arith .neq (V 55) (V 59)),M 61 60,QG (some 62) (.mov (V 8)) 61 false,QG (some 63) (.toStr (V 62)) 61 false,QG (some 64) (.mov (V 10)) 61 false,QG (some 65) (.toStr (V 64)) 61 false,QG (some 66) (.arith .neq (V 63) (V 65)) 61 false,Q 67 (.pick (V 61) bh (V 66)),M 68 67,QG (some 69) (.mov (V 9)) 68 false,QG (some 70) (.mov (V 11)) 68 false,QG (some 71) (.arith .neq (V 69) (V 70)) 68 false,Q 72 (.pick (V 68) bh (V 71))]
def KZ:List aF:=[M 32 7,Q 33 (.arith .add (V 32) (I 1)),M 7 33]
@[simp]def aNS:=aH KS.eq_1<|aH KT.eq_1<|aH KU.eq_1<|aH KV.eq_1<|aH KW.eq_1<|aH KX.eq_1<|aH KY.eq_1<|aT KZ.eq_1
def BK:az:=
 (aE (aE (aG 28 31 KV) (.cond (V 31) .skip (.exit 0))) (aE (.block 1 (aE (aG 34 43 KW) (aE (aG 43 52 KX) (aE (aG 52 72 KY) (.cond (V 72) (aE (.region [Q 4 (.mov au)]) .ret) .skip))))) (aG 32 34 KZ)))
@[simp]def aNT:=cL BK.eq_1
def BL:List aF:=[Q 4 (.mov bh)]
@[simp]def aNU:=aT BL.eq_1
def tN:ai:=
 ⟨2,[.tmp 4],
 (aE (ad KS) (aE (aG 12 16 KT) (aE (aE (aG 16 27 KU) (.cond (V 27) (aE (.region [Q 4 (.mov au)]) .ret) .skip)) (aE (aE (.region [Q 7 (.mov (I 0))]) (.block 0 (.loop BK))) (aE (ad BL) .ret))))),false⟩
def tO:List aF:=[M 3 0,Q 4 (.eqn false .p (V 3))]
def Ka:List aF:=[M 5 0,bN 6 5,FA 7 2 6,LD 8 7,M 2 8]
@[simp]def aNV:=aH tO.eq_1<|aT Ka.eq_1
def tP:ai:=
 ⟨1,[.tmp 2],
 (aE (.region [Q 2 (.mov (I 0))]) (aE (aE (aG 3 4 tO) (.cond (V 4) (aE (.region [Q 2 (.mov (I 0))]) .ret) .skip)) (aE (aG 5 9 Ka) .ret))),false⟩
def Kb:List aF:=[M 5 0,bN 6 5,FA 7 3 6,LD 8 7,M 2 8]
@[simp]def aNW:=aT Kb.eq_1
def tQ:ai:=
 ⟨1,[.tmp 2],
 (aE (.region [Q 2 (.mov (I 0))]) (aE (aE (aG 3 4 tO) (.cond (V 4) (aE (.region [Q 2 (.mov (I 0))]) .ret) .skip)) (aE (aG 5 9 Kb) .ret))),false⟩
def BM:List aF:=[Q 1 (.box true (V 0)),Q 2 (.mov (.cst .nils)),Q 3 (.mov (I 0))]
def Kc:List aF:=[Q 10 (.load true 6 false (V 1)),Q 11 (.call .std 179 [V 10]),M 4 11]
def Kd:List aF:=[M 12 4,Q 13 (.arith .neq (V 12) (I 0))]
def Ke:List aF:=[M 14 4,Q 2 (.mov (.cst .nils)),M 3 14]
def Kf:List aF:=[FA 16 0 1,LD 17 16,Q 18 (.call .std 107 [(.cst .nils),V 17]),M 15 18,EX 19 0 15,EX 20 1 15,Q 5 (.alloc false [.nils]),QN (.store 1 (V 5) (V 19)),M 6 20]
@[simp]def Zw:=aT Kf.eq_1
def Kg:List aF:=[Q 21 (.mkfn 240 [V 5]),M 7 21]
def Kh:List aF:=[FA 22 0 1,LD 23 22]
def Ki:List aF:=[Q 39 (.arith .eql (V 23) (I 1)),M 38 39]
def Kj:List aF:=[LD 41 5,FA 42 1 1,LD 43 42,Q 44 (.call .std 29 [V 41,V 43]),M 40 44,EX 45 0 40,EX 46 1 40,QN (.store 1 (V 5) (V 45))]
def Kk:List aF:=[Q 48 (.arith .eql (V 23) (I 2)),M 47 48]
def Kl:List aF:=[M 49 7,FA 50 2 1,LD 51 50,Q 52 (.len false (V 51)),Q 53 (.bsl false (.int .i64 0) 1 [(0,V 52)]),Q 54 (.callv .std (V 49) [V 53])]
def Km:List aF:=[FA 55 2 1,LD 56 55,Q 57 (.len false (V 56)),Q 58 (.mov (I 0))]
def Kn:List aF:=[Q 59 (.arith .lss (V 58) (V 57))]
def Ko:List aF:=[Q 60 (.iaddr 3 (V 56) (V 58)),Q 61 (.load true 3 false (V 60)),Q 9 (.alloc false [(.int .i64 0),(.int .i64 0),(.int .i64 0)]),QN (.store 3 (V 9) (V 61))]
def Kp:List aF:=[M 62 7,FA 63 0 9,LD 64 63,FA 65 1 9,FA 66 0 65,LD 67 66,FA 68 1 9,FA 69 1 68,LD 70 69,Q 71 (.call .pur 241 [V 70]),Q 72 (.bsl false (.int .i64 0) 3 [(0,V 64),(1,V 67),(2,V 71)]),Q 73 (.callv .std (V 62) [V 72])]
def Kq:List aF:=[Q 74 (.arith .add (V 58) (I 1)),M 58 74]
@[simp]def aNX:=aH BM.eq_1<|aH Kc.eq_1<|aH Kd.eq_1<|aH Ke.eq_1<|aH Kg.eq_1<|aH Kh.eq_1<|aH Ki.eq_1<|aH Kj.eq_1<|aH Kk.eq_1<|aH Kl.eq_1<|aH Km.eq_1<|aH Kn.eq_1<|aH Ko.eq_1<|aH Kp.eq_1<|aT Kq.eq_1
def BN:az:=
 (aE (ad Kn) (aE (.cond (V 59) .skip (.exit 1)) (aE (.block 2 (aE (aG 60 62 Ko) (aG 62 74 Kp))) (aG 74 75 Kq))))
@[simp]def aNY:=cL BN.eq_1
def Kr:List aF:=[LD 25 5,FA 26 3 1,LD 27 26,Q 28 (.call .std 242 [V 25,V 27]),M 24 28,EX 29 0 24,EX 30 1 24,QN (.store 1 (V 5) (V 29))]
def Ks:List aF:=[M 31 7,FA 32 4 1,LD 33 32,FA 34 5 1,LD 35 34,Q 36 (.bsl false (.int .i64 0) 2 [(0,V 33),(1,V 35)]),Q 37 (.callv .std (V 31) [V 36])]
def Ku:List aF:=[LD 75 5,M 2 75,Q 3 (.mov (I 0))]
@[simp]def aNZ:=aH Kr.eq_1<|aH Ks.eq_1<|aT Ku.eq_1
def ka:ai:=
 ⟨1,[.tmp 2,.tmp 3],
 (aE (ad BM) (aE (aE (aG 10 12 Kc) (aE (aG 12 13 Kd) (.cond (V 13) (aE (aG 14 15 Ke) .ret) .skip))) (aE (.clr [(6,7),(15,21)] (ad Kf)) (aE (aG 21 22 Kg) (aE (aE (aG 22 23 Kh) (.block 0 (aE (aG 39 40 Ki) (.cond (V 38) (aG 40 47 Kj) (aE (aG 48 49 Kk) (.cond (V 47) (aE (aG 49 55 Kl) (aE (aG 55 56 Km) (.block 1 (.loop BN)))) (aE (aG 24 31 Kr) (aG 31 38 Ks)))))))) (aE (aG 75 76 Ku) .ret)))))),false⟩
def BO:List aF:=[Q 2 (.alloc false [(.int .i64 0),.nils,.nils,.nils,(.int .i64 0),(.int .i64 0)]),Q 3 (.mov (I 0))]
def BP:List aF:=[M 10 0,Q 11 (.build [.nils,(.int .i64 0),(.bool false)] [(0,1,V 10)]),Q 12 (.box false (V 11)),M 4 12]
def BQ:List aF:=[M 13 4,Q 14 (.call .std 243 [V 13]),Q 15 (.build [(.int .i64 0),.nils,.nils,.nils,(.int .i64 0),(.int .i64 0)] [(0,1,V 14)]),Q 5 (.alloc false [(.int .i64 0),.nils,.nils,.nils,(.int .i64 0),(.int .i64 0)]),QN (.store 6 (V 5) (V 15))]
def wz:List aF:=[Q 6 (.mov (I 0))]
def xA:List aF:=[FA 16 0 5,LD 17 16]
def xB:List aF:=[Q 19 (.arith .eql (V 17) (I 1)),M 18 19]
def xC:List aF:=[M 21 0,M 22 4,bN 23 22,FA 24 1 23,LD 25 24,Q 26 (.call .std 31 [V 21,V 25]),M 20 26,EX 27 0 20,EX 28 1 20,EX 29 2 20,FA 30 1 5,QN (.store 1 (V 30) (V 27)),M 6 29]
def xD:List aF:=[Q 32 (.arith .eql (V 17) (I 2)),M 31 32]
def xE:List aF:=[M 33 4,Q 34 (.call .std 243 [V 33]),M 7 34]
def Kv:List aF:=[FA 35 2 5,LD 36 35,Q 37 (.len false (V 36)),M 38 7,Q 39 (.mnmx false (V 38) (I 65)),Q 40 (.arith .lss (V 37) (V 39)),M 41 40,QG (some 42) (.mov (V 4)) 41 true,QG (some 43) (.nilck (V 42)) 41 true,QG (some 44) (.faddr 2 (V 43)) 41 true,QG (some 45) (.load false 1 false (V 44)) 41 true,QG (some 46) (.un .not (V 45)) 41 true,Q 47 (.pick (V 41) (V 46) au)]
def Kw:List aF:=[FA 48 2 5,Q 49 (.loadb 5 false 1 (V 48)),M 50 4,Q 51 (.callb 5 243 [V 50]),M 52 4,Q 53 (.callb 5 243 [V 52]),M 54 4,Q 55 (.callb 5 243 [V 54]),Q 56 (.call .pur 244 [V 55]),Q 57 (.build [(.int .i64 0),(.int .i64 0)] [(0,1,V 53),(1,1,V 56)]),Q 58 (.build [(.int .i64 0),(.int .i64 0),(.int .i64 0)] [(0,1,V 51),(1,2,V 57)]),Q 59 (.bsl false (.agg [(.int .i64 0),(.int .i64 0),(.int .i64 0)]) 1 [(0,V 58)]),Q 60 (.app 3 24 (V 49) (V 59)),FA 61 2 5,QN (.store 1 (V 61) (V 60))]
@[simp]def aN0:=aH BO.eq_1<|aH BP.eq_1<|aH BQ.eq_1<|aH wz.eq_1<|aH xA.eq_1<|aH xB.eq_1<|aH xC.eq_1<|aH xD.eq_1<|aH xE.eq_1<|aH Kv.eq_1<|aT Kw.eq_1
def tR:az:=
 (aE (aE (aG 35 47 Kv) (.cond (V 47) .skip (.exit 1))) (.block 2 (aG 48 62 Kw)))
@[simp]def aN1:=cL tR.eq_1
def xF:List aF:=[Q 63 (.arith .eql (V 17) (I 3)),M 62 63]
def xG:List aF:=[M 65 4,M 66 0,M 67 4,bN 68 67,FA 69 1 68,LD 70 69,Q 71 (.call .std 245 [V 66,V 70]),M 64 71,EX 72 0 64,EX 73 1 64,EX 74 2 64,FA 75 3 5,QN (.store 1 (V 75) (V 72)),bN 76 65,FA 77 1 76,QN (.store 1 (V 77) (V 73)),M 6 74]
def xH:List aF:=[M 78 4,Q 79 (.call .std 243 [V 78]),M 80 4,Q 81 (.call .std 243 [V 80]),FA 82 4 5,QN (.store 1 (V 82) (V 79)),FA 83 5 5,QN (.store 1 (V 83) (V 81))]
def xI:List aF:=[M 84 4,bN 85 84,FA 86 2 85,LD 87 86,M 88 87,QG (some 89) (.mov (V 6)) 88 false,QG (some 90) (.arith .neq (V 89) (I 0)) 88 false,Q 91 (.pick (V 88) bh (V 90))]
def xJ:List aF:=[Q 92 (.build [(.int .i64 0),.nils,.nils,.nils,(.int .i64 0),(.int .i64 0)] []),QN (.store 6 (V 2) (V 92)),Q 3 (.mov (I 5))]
def xK:List aF:=[Q 94 (.load true 6 false (V 5)),Q 95 (.call .std 142 [V 94]),M 93 95,EX 96 0 93,EX 97 1 93,M 8 96,M 9 97]
def xL:List aF:=[M 98 9,Q 99 (.arith .neq (V 98) (I 0)),M 100 99,QG (some 101) (.mov (V 8)) 100 false,QG (some 102) (.mov (V 0)) 100 false,QG (some 103) (.call .std 246 [V 101,V 102]) 100 false,QG (some 104) (.un .not (V 103)) 100 false,Q 105 (.pick (V 100) bh (V 104))]
def xM:List aF:=[Q 106 (.build [(.int .i64 0),.nils,.nils,.nils,(.int .i64 0),(.int .i64 0)] []),QN (.store 6 (V 2) (V 106)),Q 3 (.mov (I 5))]
def xN:List aF:=[Q 107 (.load true 6 false (V 5)),QN (.store 6 (V 2) (V 107)),Q 3 (.mov (I 0))]
@[simp]def aN2:=aH xF.eq_1<|aH xG.eq_1<|aH xH.eq_1<|aH xI.eq_1<|aH xJ.eq_1<|aH xK.eq_1<|aH xL.eq_1<|aH xM.eq_1<|aT xN.eq_1
def qk:ai:=
 ⟨1,[.cell 2 true 6,.tmp 3],
 (aE (ad BO) (aE (aG 10 13 BP) (aE (aG 13 16 BQ) (aE (ad wz) (aE (aE (aG 16 17 xA) (.block 0 (aE (aG 19 20 xB) (.cond (V 18) (aG 20 31 xC) (aE (aG 32 33 xD) (.cond (V 31) (aE (aG 33 35 xE) (.block 1 (.loop tR))) (aE (aG 63 64 xF) (.cond (V 62) (aE (aG 64 78 xG) (aG 78 84 xH)) .skip)))))))) (aE (aE (aG 84 91 xI) (.cond (V 91) (aE (aG 92 93 xJ) .ret) .skip)) (aE (aE (aG 93 98 xK) (aE (aG 98 105 xL) (.cond (V 105) (aE (aG 106 107 xM) .ret) .skip))) (aE (aG 107 108 xN) .ret)))))))),false⟩
def Kx:List aF:=[Q 2 (.box false (V 0)),Q 3 (.box false (V 1)),Q 4 (.mov (.cst .nilp)),Q 5 (.mov (.cst .nils)),Q 6 (.mov (I 0))]
def Ky:List aF:=[LD 12 2,Q 13 (.eqn false .p (V 12))]
def Kz:List aF:=[Q 4 (.mov (.cst .nilp)),Q 5 (.mov (.cst .nils)),Q 6 (.mov (I 1))]
def LA:List aF:=[LD 14 3,Q 15 (.arith .eql (V 14) (.cst (.str [116,109,112])))]
def LB:List aF:=[Q 4 (.mov (.cst .nilp)),Q 5 (.mov (.cst .nils)),Q 6 (.mov (I 8))]
def LC:List aF:=[LD 17 2,LD 18 3,Q 19 (.call .std 81 [V 17,V 18]),M 16 19,EX 20 0 16,EX 21 1 16,M 7 20,M 8 21]
def LE:List aF:=[M 22 8,Q 23 (.arith .eql (V 22) (I 9))]
def LF:List aF:=[Q 24 (.mkfn 248 [V 2,V 3]),LD 25 2,Q 26 (.mkbfn 79 [V 25]),Q 27 (.bsl false .nilf 2 [(0,V 24),(1,V 26)]),Q 28 (.call .std 247 [V 27]),M 8 28]
def LG:List aF:=[M 29 8,Q 30 (.arith .neq (V 29) (I 0))]
def LH:List aF:=[M 31 8,Q 4 (.mov (.cst .nilp)),Q 5 (.mov (.cst .nils)),M 6 31]
def LI:List aF:=[M 33 7,Q 34 (.call .std 249 [V 33]),M 32 34,EX 35 0 32,EX 36 1 32,M 9 35,M 10 36]
def LJ:List aF:=[M 37 10,M 38 7,Q 39 (.len false (V 38)),Q 40 (.arith .lss (V 37) (V 39))]
def LK:List aF:=[LD 41 2,LD 42 3,M 43 7,M 44 10,Q 45 (.slc 1 none (some (V 44)) (V 43)),Q 46 (.call .std 250 [V 41,V 42,V 45]),M 11 46]
def LL:List aF:=[M 47 11,Q 48 (.arith .neq (V 47) (I 0))]
def LM:List aF:=[M 49 11,Q 4 (.mov (.cst .nilp)),Q 5 (.mov (.cst .nils)),M 6 49]
def LN:List aF:=[LD 50 2,LD 51 3,M 52 9,Q 53 (.len false (V 52)),M 54 10,Q 55 (.build [.nilp,(.str []),(.int .i64 0),(.int .i64 0)] [(0,1,V 50),(1,1,V 51),(2,1,V 53),(3,1,V 54)]),Q 56 (.box false (V 55)),M 57 9,M 4 56,M 5 57,Q 6 (.mov (I 0))]
@[simp]def aN3:=aH Kx.eq_1<|aH Ky.eq_1<|aH Kz.eq_1<|aH LA.eq_1<|aH LB.eq_1<|aH LC.eq_1<|aH LE.eq_1<|aH LF.eq_1<|aH LG.eq_1<|aH LH.eq_1<|aH LI.eq_1<|aH LJ.eq_1<|aH LK.eq_1<|aH LL.eq_1<|aH LM.eq_1<|aT LN.eq_1
def kc:ai:=
 ⟨2,[.tmp 4,.tmp 5,.tmp 6],
 (aE (ad Kx) (aE (aE (aG 12 13 Ky) (.cond (V 13) (aE (ad Kz) .ret) .skip)) (aE (aE (aG 14 15 LA) (.cond (V 15) (aE (ad LB) .ret) .skip)) (aE (aG 16 22 LC) (aE (aE (aG 22 23 LE) (.cond (V 23) (aG 24 29 LF) .skip)) (aE (aE (aG 29 30 LG) (.cond (V 30) (aE (aG 31 32 LH) .ret) .skip)) (aE (aG 32 37 LI) (aE (aE (aG 37 40 LJ) (.cond (V 40) (aE (aG 41 47 LK) (aE (aG 47 48 LL) (.cond (V 48) (aE (aG 49 50 LM) .ret) .skip))) .skip)) (aE (aG 50 58 LN) .ret))))))))),false⟩
def LO:List aF:=[Q 2 (.box false (V 0)),Q 4 (.alloc false [(.int .i64 0),.nils,.nils,.nils,(.int .i64 0),(.bool false),(.int .i64 0)]),Q 5 (.alloc false [(.str []),(.int .i64 0),(.int .i64 0)]),Q 6 (.mov (.cst .nils)),Q 7 (.mov (I 0))]
def LP:List aF:=[M 12 1,Q 13 (.arith .eql (V 12) (.cst (.str [116,109,112])))]
def LQ:List aF:=[Q 14 (.load true 7 false (V 2)),Q 15 (.build [(.str []),(.int .i64 0),(.int .i64 0)] []),QN (.store 7 (V 4) (V 14)),QN (.store 3 (V 5) (V 15)),Q 6 (.mov (.cst .nils)),Q 7 (.mov (I 8))]
def LR:List aF:=[Q 17 (.load true 7 false (V 2)),M 18 1,Q 19 (.call .std 87 [V 17,V 18]),M 16 19,EX 20 0 16,EX 21 1 16,M 8 20,M 9 21]
def LS:List aF:=[M 22 9,Q 23 (.arith .eql (V 22) (I 9))]
def LT:List aF:=[Q 25 (.load true 7 false (V 2)),M 26 1,Q 27 (.build [(.int .i64 0),(.str []),(.str []),(.int .i64 0)] [(0,1,(I 1)),(1,1,V 26)]),Q 28 (.build [(.int .i64 0),(.str []),(.str []),(.int .i64 0)] [(0,1,(I 6))]),Q 29 (.bsl false (.agg [(.int .i64 0),(.str []),(.str []),(.int .i64 0)]) 2 [(0,V 27),(1,V 28)]),Q 30 (.call .std 251 [V 25,V 29,(.cst .nils)]),M 24 30,EX 31 0 24,EX 32 1 24,QN (.store 7 (V 2) (V 31)),M 9 32]
@[simp]def pA:=aT LT.eq_1
def LU:List aF:=[M 33 9,Q 34 (.arith .neq (V 33) (I 0))]
def LV:List aF:=[Q 35 (.load true 7 false (V 2)),Q 36 (.build [(.str []),(.int .i64 0),(.int .i64 0)] []),M 37 9,QN (.store 7 (V 4) (V 35)),QN (.store 3 (V 5) (V 36)),Q 6 (.mov (.cst .nils)),M 7 37]
def LW:List aF:=[M 38 9,Q 39 (.arith .neq (V 38) (I 0))]
@[simp]def Zx:=aT LW.eq_1
def LX:List aF:=[Q 40 (.load true 7 false (V 2)),Q 41 (.build [(.str []),(.int .i64 0),(.int .i64 0)] []),M 42 9,QN (.store 7 (V 4) (V 40)),QN (.store 3 (V 5) (V 41)),Q 6 (.mov (.cst .nils)),M 7 42]
@[simp]def qm:=aT LX.eq_1
def LY:List aF:=[M 44 8,Q 45 (.call .std 252 [V 44]),M 43 45,EX 46 0 43,EX 47 1 43,M 10 46,M 11 47]
@[simp]def mK:=aT LY.eq_1
def LZ:List aF:=[M 48 11,M 49 8,Q 50 (.len false (V 49)),Q 51 (.arith .lss (V 48) (V 50))]
def La:List aF:=[Q 52 (.load true 7 false (V 2)),Q 53 (.call .std 204 [V 52]),Q 54 (.call .std 205 [V 53,(.cst (.str [116,109,112]))]),Q 55 (.arith .geq (V 54) (I 0))]
@[simp]def pB:=aT La.eq_1
def Lb:List aF:=[Q 57 (.load true 7 false (V 2)),Q 58 (.build [(.int .i64 0),(.str []),(.str []),(.int .i64 0)] [(0,1,(I 4)),(1,1,(.cst (.str [116,109,112])))]),Q 59 (.bsl false (.agg [(.int .i64 0),(.str []),(.str []),(.int .i64 0)]) 1 [(0,V 58)]),Q 60 (.call .std 251 [V 57,V 59,(.cst .nils)]),M 56 60,EX 61 0 56,EX 62 1 56,QN (.store 7 (V 2) (V 61)),M 9 62]
@[simp]def tS:=aT Lb.eq_1
def Lc:List aF:=[M 63 9,Q 64 (.arith .neq (V 63) (I 0))]
def Ld:List aF:=[Q 65 (.load true 7 false (V 2)),Q 66 (.build [(.str []),(.int .i64 0),(.int .i64 0)] []),M 67 9,QN (.store 7 (V 4) (V 65)),QN (.store 3 (V 5) (V 66)),Q 6 (.mov (.cst .nils)),M 7 67]
@[simp]def Lf:=aT Ld.eq_1
def Lg:List aF:=[Q 69 (.load true 7 false (V 2)),Q 70 (.build [(.int .i64 0),(.str []),(.str []),(.int .i64 0)] [(0,1,(I 1)),(1,1,(.cst (.str [116,109,112])))]),Q 71 (.build [(.int .i64 0),(.str []),(.str []),(.int .i64 0)] [(0,1,(I 2)),(1,1,(.cst (.str [116,109,112])))]),Q 72 (.build [(.int .i64 0),(.str []),(.str []),(.int .i64 0)] [(0,1,(I 5)),(1,1,(.cst (.str [116,109,112])))]),M 73 1,Q 74 (.build [(.int .i64 0),(.str []),(.str []),(.int .i64 0)] [(0,1,(I 3)),(1,1,(.cst (.str [116,109,112]))),(2,1,V 73)]),Q 75 (.build [(.int .i64 0),(.str []),(.str []),(.int .i64 0)] [(0,1,(I 6))]),Q 76 (.bsl false (.agg [(.int .i64 0),(.str []),(.str []),(.int .i64 0)]) 5 [(0,V 70),(1,V 71),(2,V 72),(3,V 74),(4,V 75)]),M 77 8,M 78 11,Q 79 (.slc 1 none (some (V 78)) (V 77)),Q 80 (.call .std 251 [V 69,V 76,V 79]),M 68 80,EX 81 0 68,EX 82 1 68,QN (.store 7 (V 2) (V 81)),M 9 82]
@[simp]def nI:=aT Lg.eq_1
def Lh:List aF:=[M 83 9,Q 84 (.arith .neq (V 83) (I 0))]
def Li:List aF:=[Q 85 (.load true 7 false (V 2)),Q 86 (.build [(.str []),(.int .i64 0),(.int .i64 0)] []),M 87 9,QN (.store 7 (V 4) (V 85)),QN (.store 3 (V 5) (V 86)),Q 6 (.mov (.cst .nils)),M 7 87]
@[simp]def Lj:=aT Li.eq_1
def Lk:List aF:=[Q 88 (.load true 7 false (V 2)),M 89 1,M 90 10,Q 91 (.len false (V 90)),M 92 11,Q 93 (.build [(.str []),(.int .i64 0),(.int .i64 0)] [(0,1,V 89),(1,1,V 91),(2,1,V 92)]),M 94 10,QN (.store 7 (V 4) (V 88)),QN (.store 3 (V 5) (V 93)),M 6 94,Q 7 (.mov (I 0))]
@[simp]def mL:=aT Lk.eq_1
@[simp]def aN4:=aH LO.eq_1<|aH LP.eq_1<|aH LQ.eq_1<|aH LR.eq_1<|aH LS.eq_1<|aH LU.eq_1<|aH LV.eq_1<|aH LZ.eq_1<|aH Lc.eq_1<|aT Lh.eq_1
def jB:ai:=
 ⟨2,[.cell 4 true 7,.cell 5 true 3,.tmp 6,.tmp 7],
 (aE (ad LO) (aE (aE (aG 12 13 LP) (.cond (V 13) (aE (aG 14 16 LQ) .ret) .skip)) (aE (aG 16 22 LR) (aE (aE (aG 22 23 LS) (.cond (V 23) (aE (aG 24 33 LT) (aE (aG 33 34 LU) (.cond (V 34) (aE (aG 35 38 LV) .ret) .skip))) .skip)) (aE (aE (aG 38 39 LW) (.cond (V 39) (aE (aG 40 43 LX) .ret) .skip)) (aE (aG 43 48 LY) (aE (aE (aG 48 51 LZ) (.cond (V 51) (aE (aE (aG 52 55 La) (.cond (V 55) (aE (aG 56 63 Lb) (aE (aG 63 64 Lc) (.cond (V 64) (aE (aG 65 68 Ld) .ret) .skip))) .skip)) (aE (aG 68 83 Lg) (aE (aG 83 84 Lh) (.cond (V 84) (aE (aG 85 88 Li) .ret) .skip)))) .skip)) (aE (aG 88 95 Lk) .ret)))))))),false⟩
def xO:List aF:=[M 6 0,Q 7 (.len false (V 6)),M 8 1,Q 9 (.len false (V 8)),Q 10 (.arith .neq (V 7) (V 9))]
def BR:List aF:=[M 11 5,M 12 0,Q 13 (.len false (V 12)),Q 14 (.arith .lss (V 11) (V 13))]
def Ll:List aF:=[M 17 0,M 18 5,Q 19 (.iaddr 6 (V 17) (V 18)),Q 20 (.load true 6 true (V 19)),M 21 1,M 22 5,Q 23 (.iaddr 6 (V 21) (V 22)),Q 24 (.load true 6 true (V 23)),Q 25 (.call .std 253 [V 20,V 24]),Q 26 (.un .not (V 25))]
def BS:List aF:=[M 15 5,Q 16 (.arith .add (V 15) (I 1)),M 5 16]
@[simp]def aN5:=aH xO.eq_1<|aH BR.eq_1<|aH Ll.eq_1<|aT BS.eq_1
def xP:az:=
 (aE (aE (aG 11 14 BR) (.cond (V 14) .skip (.exit 0))) (aE (.block 1 (aE (aG 17 26 Ll) (.cond (V 26) (aE (.region [Q 4 (.mov au)]) .ret) .skip))) (aG 15 17 BS)))
@[simp]def aN6:=cL xP.eq_1
def tT:ai:=
 ⟨2,[.tmp 4],
 (aE (.region [Q 4 (.mov au)]) (aE (aE (aG 6 10 xO) (.cond (V 10) (aE (.region [Q 4 (.mov au)]) .ret) .skip)) (aE (aE (.region [Q 5 (.mov (I 0))]) (.block 0 (.loop xP))) (aE (.region [Q 4 (.mov bh)]) .ret)))),false⟩
def Lm:List aF:=[Q 3 (.box true (V 0)),Q 6 (.alloc false [(.int .i64 0),.nils,.nils,.nils,(.int .i64 0),(.bool false),(.int .i64 0)])]
def Ln:List aF:=[Q 12 (.load true 7 true (V 3)),M 13 1,Q 14 (.toInt .u64 (V 13)),FA 15 3 3,Q 16 (.load false 1 true (V 15)),Q 17 (.len false (V 16)),Q 18 (.arith .add (V 17) (I 1)),Q 19 (.toInt .u64 (V 18)),Q 20 (.arith .rem (V 14) (V 19)),Q 21 (.toInt .i64 (V 20)),Q 22 (.call .std 207 [V 12,V 21]),M 7 22]
def Lo:List aF:=[Q 23 (.emp0),FA 24 1 3,LD 25 24,Q 26 (.gapp 2 32 (V 23) (V 25)),M 8 26]
def Lp:List aF:=[M 27 9,M 28 7,Q 29 (.len false (V 28)),Q 30 (.arith .lss (V 27) (V 29))]
def Lq:List aF:=[M 33 8,M 34 7,M 35 9,Q 36 (.iaddr 2 (V 34) (V 35)),FA 37 1 36,LD 38 37,Q 39 (.iaddr 2 (V 33) (V 38)),Q 40 (.load true 2 false (V 39)),Q 10 (.alloc false [.nils,(.int .i64 0)]),QN (.store 2 (V 10) (V 40))]
def Lr:List aF:=[M 41 9,M 42 2,Q 43 (.len false (V 42)),Q 44 (.arith .lss (V 41) (V 43))]
def Ls:List aF:=[M 45 2,M 46 9,Q 47 (.iaddr 1 (V 45) (V 46)),LD 48 47,Q 49 (.toInt .u64 (V 48)),FA 50 0 10,LD 51 50,Q 52 (.len false (V 51)),FA 53 1 10,LD 54 53,Q 55 (.arith .sub (V 52) (V 54)),Q 56 (.arith .add (V 55) (I 1)),Q 57 (.toInt .u64 (V 56)),Q 58 (.arith .rem (V 49) (V 57)),Q 59 (.toInt .i64 (V 58)),M 11 59]
def Lt:List aF:=[M 60 8,M 61 7,M 62 9,Q 63 (.iaddr 2 (V 61) (V 62)),FA 64 1 63,LD 65 64,FA 66 0 10,LD 67 66,FA 68 1 10,LD 69 68,M 70 11,Q 71 (.arith .add (V 69) (V 70)),Q 72 (.slc 1 none (some (V 71)) (V 67)),FA 73 1 10,LD 74 73,M 75 11,Q 76 (.arith .add (V 74) (V 75)),Q 77 (.build [.nils,(.int .i64 0)] [(0,1,V 72),(1,1,V 76)]),Q 78 (.iaddr 2 (V 60) (V 65)),QN (.store 2 (V 78) (V 77))]
def Lu:List aF:=[M 31 9,Q 32 (.arith .add (V 31) (I 1)),M 9 32]
@[simp]def aN7:=aH Lm.eq_1<|aH Ln.eq_1<|aH Lo.eq_1<|aH Lp.eq_1<|aH Lq.eq_1<|aH Lr.eq_1<|aH Ls.eq_1<|aH Lt.eq_1<|aT Lu.eq_1
def BT:az:=
 (aE (aE (aG 27 30 Lp) (.cond (V 30) .skip (.exit 0))) (aE (.block 1 (aE (aG 33 41 Lq) (aE (.region [Q 11 (.mov (I 0))]) (aE (aE (aG 41 44 Lr) (.cond (V 44) (aG 45 60 Ls) .skip)) (aG 60 79 Lt))))) (aG 31 33 Lu)))
@[simp]def aN8:=cL BT.eq_1
def BU:List aF:=[FA 79 0 3,LD 80 79,M 81 8,M 82 7,FA 83 6 3,LD 84 83,Q 85 (.build [(.int .i64 0),.nils,.nils,.nils,(.int .i64 0),(.bool false),(.int .i64 0)] [(0,1,V 80),(1,1,V 81),(2,1,V 82),(4,1,(I (-1))),(6,1,V 84)]),QN (.store 7 (V 6) (V 85))]
@[simp]def aN9:=aT BU.eq_1
def tU:ai:=
 ⟨3,[.cell 6 true 7],
 (aE (ad Lm) (aE (aG 12 23 Ln) (aE (aG 23 27 Lo) (aE (aE (.region [Q 9 (.mov (I 0))]) (.block 0 (.loop BT))) (aE (aG 79 86 BU) .ret))))),false⟩
def Lv:List aF:=[M 13 0,Q 14 (.eqn false .p (V 13)),M 15 14,QG (some 16) (.mov (V 0)) 15 false,QG (some 17) (.nilck (V 16)) 15 false,QG (some 18) (.faddr 2 (V 17)) 15 false,QG (some 19) (.load false 1 false (V 18)) 15 false,QG (some 20) (.eqn false .m (V 19)) 15 false,Q 21 (.pick (V 15) bh (V 20))]
def Lw:List aF:=[M 22 0,bN 23 22,FA 24 3 23,LD 25 24,M 26 1,Q 27 (.toInt .u64 (V 26)),M 28 0,bN 29 28,FA 30 3 29,LD 31 30,Q 32 (.len false (V 31)),Q 33 (.arith .add (V 32) (I 1)),Q 34 (.toInt .u64 (V 33)),Q 35 (.arith .rem (V 27) (V 34)),Q 36 (.slc 3 none (some (V 35)) (V 25)),Q 37 (.len false (V 36)),Q 38 (.mov (I 0))]
def Lx:List aF:=[Q 39 (.arith .lss (V 38) (V 37))]
def Ly:List aF:=[Q 40 (.iaddr 3 (V 36) (V 38)),Q 41 (.load true 3 false (V 40)),Q 8 (.alloc false [(.str []),(.str []),.nilp]),QN (.store 3 (V 8) (V 41))]
def Lz:List aF:=[Q 42 (.load true 3 false (V 8)),M 43 0,bN 44 43,FA 45 1 44,LD 46 45,Q 47 (.call .std 198 [V 42,V 46])]
def MA:List aF:=[Q 48 (.arith .add (V 38) (I 1)),M 38 48]
@[simp]def aOa:=aH Lv.eq_1<|aH Lw.eq_1<|aH Lx.eq_1<|aH Ly.eq_1<|aH Lz.eq_1<|aT MA.eq_1
def xQ:az:=
 (aE (ad Lx) (aE (.cond (V 39) .skip (.exit 0)) (aE (.block 1 (aE (aG 40 42 Ly) (aG 42 48 Lz))) (aG 48 49 MA))))
@[simp]def aOb:=cL xQ.eq_1
def MB:List aF:=[M 49 0,bN 50 49,FA 51 1 50,LD 52 51,Q 53 (.call .std 200 [V 52]),Q 54 (.call .std 199 [V 53]),Q 55 (.len false (V 54)),Q 56 (.mov (I 0))]
def MC:List aF:=[Q 57 (.arith .lss (V 56) (V 55))]
def MD:List aF:=[M 58 56,Q 59 (.iaddr 1 (V 54) (V 56)),LD 60 59,M 9 58,M 10 60]
def ME:List aF:=[M 61 0,bN 62 61,FA 63 1 62,LD 64 63,M 65 10,Q 66 (.mlk true false .nilp (V 64) (V 65)),M 11 66]
def MF:List aF:=[M 67 11,bN 68 67,FA 69 1 68,LD 70 69,M 12 70]
def MG:List aF:=[M 71 9,M 72 2,Q 73 (.len false (V 72)),Q 74 (.arith .lss (V 71) (V 73))]
def MH:List aF:=[M 75 12,M 76 2,M 77 9,Q 78 (.iaddr 1 (V 76) (V 77)),Q 79 (.load false 1 true (V 78)),Q 80 (.toInt .u64 (V 79)),M 81 11,bN 82 81,FA 83 0 82,LD 84 83,Q 85 (.len false (V 84)),M 86 11,bN 87 86,FA 88 1 87,LD 89 88,Q 90 (.arith .sub (V 85) (V 89)),Q 91 (.arith .add (V 90) (I 1)),Q 92 (.toInt .u64 (V 91)),Q 93 (.arith .rem (V 80) (V 92)),Q 94 (.toInt .i64 (V 93)),Q 95 (.arith .add (V 75) (V 94)),M 12 95]
def MI:List aF:=[M 96 11,M 97 11,M 98 11,bN 99 98,FA 100 0 99,LD 101 100,M 102 12,M 103 12,Q 104 (.slc3 1 none (V 102) (V 103) (V 101)),M 105 12,bN 106 96,FA 107 0 106,QN (.store 1 (V 107) (V 104)),bN 108 97,FA 109 1 108,QN (.store 1 (V 109) (V 105))]
def MJ:List aF:=[Q 110 (.arith .add (V 56) (I 1)),M 56 110]
@[simp]def aOc:=aH MB.eq_1<|aH MC.eq_1<|aH MD.eq_1<|aH ME.eq_1<|aH MF.eq_1<|aH MG.eq_1<|aH MH.eq_1<|aH MI.eq_1<|aT MJ.eq_1
def xR:az:=
 (aE (ad MC) (aE (.cond (V 57) .skip (.exit 2)) (aE (.block 3 (aE (aG 58 61 MD) (aE (aG 61 67 ME) (aE (aG 67 71 MF) (aE (aE (aG 71 74 MG) (.cond (V 74) (aG 75 96 MH) .skip)) (aG 96 110 MI)))))) (aG 110 111 MJ))))
@[simp]def aOd:=cL xR.eq_1
def MK:List aF:=[M 111 0,M 112 0,M 113 0,M 114 0,M 115 0,bN 116 115,FA 117 1 116,LD 118 117,Q 119 (.call .std 197 [V 118]),bN 120 111,FA 121 2 120,QN (.store 1 (V 121) (V 119)),bN 122 112,FA 123 3 122,QN (.store 1 (V 123) (.cst .nils)),bN 124 113,FA 125 4 124,QN (.store 1 (V 125) (I (-1))),bN 126 114,FA 127 6 126,QN (.store 1 (V 127) au)]
@[simp]def aOe:=aT MK.eq_1
def mM:ai:=
 ⟨3,[.tmp 6],
 (aE (.region [Q 6 (.mov (I 0))]) (aE (aE (aG 13 21 Lv) (.cond (V 21) (aE (.region [Q 6 (.mov (I 1))]) .ret) .skip)) (aE (aE (aG 22 36 Lw) (.block 0 (.loop xQ))) (aE (aE (aG 49 54 MB) (.block 2 (.loop xR))) (aE (aG 111 128 MK) (aE (.region [Q 6 (.mov (I 0))]) .ret)))))),false⟩
def ML:List aF:=[M 4 0,Q 5 (.eqn true .p (V 4)),M 6 5,QG (some 7) (.mov (V 0)) 6 true,QG (some 8) (.nilck (V 7)) 6 true,QG (some 9) (.faddr 2 (V 8)) 6 true,QG (some 10) (.load false 1 false (V 9)) 6 true,QG (some 11) (.eqn true .m (V 10)) 6 true,Q 12 (.pick (V 6) (V 11) au)]
def MM:List aF:=[M 13 0,M 14 1,Q 15 (.mnmx true (V 14) (I (-1))),bN 16 13,FA 17 4 16,QN (.store 1 (V 17) (V 15))]
@[simp]def aOf:=aH ML.eq_1<|aT MM.eq_1
def qn:ai:=
 ⟨2,[],
 (aE (aG 4 12 ML) (.cond (V 12) (aG 13 18 MM) .skip)),false⟩
def MN:List aF:=[Q 2 (.box false (V 0)),Q 4 (.alloc false [(.int .i64 0),.nils,.nils,.nils,(.int .i64 0),(.bool false),(.int .i64 0)])]
def MO:List aF:=[M 5 1,Q 6 (.mnmx true (V 5) (I (-1))),FA 7 4 2,QN (.store 1 (V 7) (V 6))]
def MP:List aF:=[Q 8 (.load true 7 false (V 2)),QN (.store 7 (V 4) (V 8))]
@[simp]def aOg:=aH MN.eq_1<|aH MO.eq_1<|aT MP.eq_1
def pC:ai:=
 ⟨2,[.cell 4 true 7],
 (aE (ad MN) (aE (aG 5 8 MO) (aE (aG 8 9 MP) .ret))),false⟩
def MQ:List aF:=[Q 5 (.box false (V 0)),Q 10 (.alloc false [(.int .i64 0),.nils,.nils,.nils,(.int .i64 0),(.bool false),(.int .i64 0)]),Q 11 (.mov (I 0))]
def MS:List aF:=[M 19 1,Q 20 (.arith .neq (V 19) (I 6)),M 21 20,QG (some 22) (.mov (V 2)) 21 true,QG (some 23) (.call .pur 203 [V 22]) 21 true,QG (some 24) (.un .not (V 23)) 21 true,Q 25 (.pick (V 21) (V 24) au),M 26 25,QG (some 27) (.mov (V 1)) 26 false,QG (some 28) (.arith .eql (V 27) (I 3)) 26 false,QG (some 29) (.mov (V 28)) 26 false,QG (some 30) (.mov (V 3)) 29 true,QG (some 31) (.call .pur 203 [V 30]) 29 true,QG (some 32) (.un .not (V 31)) 29 true,QG (some 33) (.pick (V 29) (V 32) au) 26 false,Q 34 (.pick (V 26) bh (V 33))]
def MT:List aF:=[Q 35 (.load true 7 false (V 5)),QN (.store 7 (V 10) (V 35)),Q 11 (.mov (I 8))]
def MU:List aF:=[Q 36 (.load true 7 false (V 5)),Q 37 (.call .std 204 [V 36]),M 12 37]
def MV:List aF:=[M 38 12,M 39 2,Q 40 (.call .std 205 [V 38,V 39]),M 13 40]
def MW:List aF:=[M 41 1,Q 42 (.arith .eql (V 41) (I 1)),M 43 42,QG (some 44) (.mov (V 13)) 43 true,QG (some 45) (.arith .geq (V 44) (I 0)) 43 true,Q 46 (.pick (V 43) (V 45) au)]
def MX:List aF:=[Q 47 (.load true 7 false (V 5)),QN (.store 7 (V 10) (V 47)),Q 11 (.mov (I 10))]
def MY:List aF:=[M 48 1,Q 49 (.arith .eql (V 48) (I 1)),M 50 49,QG (some 51) (.mov (V 12)) 50 true,QG (some 52) (.len false (V 51)) 50 true,QG (some 53) (.arith .geq (V 52) (I 64)) 50 true,Q 54 (.pick (V 50) (V 53) au)]
def MZ:List aF:=[Q 55 (.load true 7 false (V 5)),QN (.store 7 (V 10) (V 55)),Q 11 (.mov (I 7))]
def Ma:List aF:=[M 56 1,Q 57 (.arith .gtr (V 56) (I 1)),M 58 57,QG (some 59) (.mov (V 1)) 58 true,QG (some 60) (.arith .lss (V 59) (I 6)) 58 true,Q 61 (.pick (V 58) (V 60) au),M 62 61,QG (some 63) (.mov (V 13)) 62 true,QG (some 64) (.arith .lss (V 63) (I 0)) 62 true,Q 65 (.pick (V 62) (V 64) au)]
def Mb:List aF:=[Q 66 (.load true 7 false (V 5)),QN (.store 7 (V 10) (V 66)),Q 11 (.mov (I 9))]
def Mc:List aF:=[M 67 15,M 68 12,Q 69 (.len false (V 68)),Q 70 (.arith .lss (V 67) (V 69))]
def Md:List aF:=[M 73 14,FA 74 1 5,LD 75 74,M 76 12,M 77 15,Q 78 (.iaddr 2 (V 76) (V 77)),FA 79 1 78,LD 80 79,Q 81 (.iaddr 2 (V 75) (V 80)),FA 82 0 81,LD 83 82,Q 84 (.len false (V 83)),Q 85 (.arith .add (V 73) (V 84)),M 14 85]
def Me:List aF:=[M 71 15,Q 72 (.arith .add (V 71) (I 1)),M 15 72]
@[simp]def aOh:=aH MQ.eq_1<|aH MS.eq_1<|aH MT.eq_1<|aH MU.eq_1<|aH MV.eq_1<|aH MW.eq_1<|aH MX.eq_1<|aH MY.eq_1<|aH MZ.eq_1<|aH Ma.eq_1<|aH Mb.eq_1<|aH Mc.eq_1<|aH Md.eq_1<|aT Me.eq_1
def xS:az:=
 (aE (aE (aG 67 70 Mc) (.cond (V 70) .skip (.exit 0))) (aE (.block 1 (aG 73 86 Md)) (aG 71 73 Me)))
@[simp]def aOi:=cL xS.eq_1
def BV:List aF:=[M 86 1,Q 87 (.arith .eql (V 86) (I 2)),M 88 87,QG (some 89) (.mov (V 4)) 88 true,QG (some 90) (.len false (V 89)) 88 true,QG (some 91) (.faddr 0 (V 5)) 88 true,QG (some 92) (.load false 1 false (V 91)) 88 true,QG (some 93) (.mov (V 14)) 88 true,QG (some 94) (.arith .sub (V 92) (V 93)) 88 true,QG (some 95) (.arith .gtr (V 90) (V 94)) 88 true,Q 96 (.pick (V 88) (V 95) au)]
def BW:List aF:=[Q 97 (.load true 7 false (V 5)),QN (.store 7 (V 10) (V 97)),Q 11 (.mov (I 7))]
def BX:List aF:=[Q 99 (.load true 7 false (V 5)),Q 100 (.call .std 206 [V 99]),M 98 100,EX 101 0 98,EX 102 1 98,QN (.store 7 (V 5) (V 101)),M 16 102]
def xT:List aF:=[M 103 16,Q 104 (.arith .neq (V 103) (I 0))]
@[simp]def Mf:=aT xT.eq_1
def xU:List aF:=[Q 105 (.load true 7 false (V 5)),M 106 16,QN (.store 7 (V 10) (V 105)),M 11 106]
def xV:List aF:=[Q 107 (.emp0),FA 108 1 5,LD 109 108,Q 110 (.gapp 2 32 (V 107) (V 109)),M 17 110]
def xW:List aF:=[Q 111 (.emp0),FA 112 3 5,LD 113 112,Q 114 (.gapp 4 48 (V 111) (V 113)),M 18 114]
def xX:List aF:=[M 115 1]
@[simp]def Zy:=aT xX.eq_1
def xY:List aF:=[Q 117 (.arith .eql (V 115) (I 1)),M 116 117]
def xZ:List aF:=[M 118 18,M 119 2,M 120 17,Q 121 (.len false (V 120)),Q 122 (.build [(.int .i64 0),(.str []),(.str []),(.int .i64 0)] [(0,1,(I 1)),(1,1,V 119),(3,1,V 121)]),Q 123 (.bsl false (.agg [(.int .i64 0),(.str []),(.str []),(.int .i64 0)]) 1 [(0,V 122)]),Q 124 (.gapp 4 48 (V 118) (V 123)),M 18 124]
def xa:List aF:=[M 125 17,Q 126 (.build [.nils,(.int .i64 0)] []),Q 127 (.bsl false (.agg [.nils,(.int .i64 0)]) 1 [(0,V 126)]),Q 128 (.gapp 2 32 (V 125) (V 127)),M 17 128]
def xb:List aF:=[Q 130 (.arith .eql (V 115) (I 2)),M 129 130]
def xc:List aF:=[M 131 17,M 132 13,Q 133 (.emp0),M 134 17,M 135 13,Q 136 (.iaddr 2 (V 134) (V 135)),FA 137 0 136,LD 138 137,Q 139 (.gapp 1 1 (V 133) (V 138)),M 140 4,Q 141 (.gapp 1 1 (V 139) (V 140)),Q 142 (.iaddr 2 (V 131) (V 132)),FA 143 0 142,QN (.store 1 (V 143) (V 141))]
def xd:List aF:=[Q 145 (.arith .eql (V 115) (I 3)),M 144 145]
def xe:List aF:=[M 146 18,M 147 2,M 148 3,Q 149 (.build [(.int .i64 0),(.str []),(.str []),(.int .i64 0)] [(0,1,(I 2)),(1,1,V 147),(2,1,V 148)]),Q 150 (.bsl false (.agg [(.int .i64 0),(.str []),(.str []),(.int .i64 0)]) 1 [(0,V 149)]),Q 151 (.gapp 4 48 (V 146) (V 150)),M 18 151]
def xf:List aF:=[Q 153 (.arith .eql (V 115) (I 4)),M 152 153]
def xg:List aF:=[M 154 18,M 155 2,Q 156 (.build [(.int .i64 0),(.str []),(.str []),(.int .i64 0)] [(0,1,(I 3)),(1,1,V 155)]),Q 157 (.bsl false (.agg [(.int .i64 0),(.str []),(.str []),(.int .i64 0)]) 1 [(0,V 156)]),Q 158 (.gapp 4 48 (V 154) (V 157)),M 18 158]
def xh:List aF:=[Q 160 (.arith .eql (V 115) (I 5)),M 159 160]
def xi:List aF:=[M 161 17,M 162 13,M 163 17,M 164 13,Q 165 (.iaddr 2 (V 163) (V 164)),FA 166 0 165,LD 167 166,Q 168 (.len false (V 167)),Q 169 (.iaddr 2 (V 161) (V 162)),FA 170 1 169,QN (.store 1 (V 170) (V 168))]
def xj:List aF:=[Q 172 (.arith .eql (V 115) (I 6)),M 171 172]
def xk:List aF:=[M 173 12,FA 174 2 5,QN (.store 1 (V 174) (V 173))]
def xl:List aF:=[Q 18 (.mov (.cst .nils))]
def qo:List aF:=[M 175 17,M 176 18,FA 177 1 5,QN (.store 1 (V 177) (V 175)),FA 178 3 5,QN (.store 1 (V 178) (V 176))]
@[simp]def qp:=aT qo.eq_1
def qq:List aF:=[Q 179 (.load true 7 false (V 5)),QN (.store 7 (V 10) (V 179)),Q 11 (.mov (I 0))]
@[simp]def aOj:=aH BV.eq_1<|aH BW.eq_1<|aH BX.eq_1<|aH xU.eq_1<|aH xV.eq_1<|aH xW.eq_1<|aH xY.eq_1<|aH xZ.eq_1<|aH xa.eq_1<|aH xb.eq_1<|aH xc.eq_1<|aH xd.eq_1<|aH xe.eq_1<|aH xf.eq_1<|aH xg.eq_1<|aH xh.eq_1<|aH xi.eq_1<|aH xj.eq_1<|aH xk.eq_1<|aH xl.eq_1<|aT qq.eq_1
def z41:ai:=
 ⟨5,[.cell 10 true 7,.tmp 11],
 (aE (ad MQ) (aE (aE (aG 19 34 MS) (.cond (V 34) (aE (aG 35 36 MT) .ret) .skip)) (aE (aG 36 38 MU) (aE (aG 38 41 MV) (aE (aE (aG 41 46 MW) (.cond (V 46) (aE (aG 47 48 MX) .ret) .skip)) (aE (aE (aG 48 54 MY) (.cond (V 54) (aE (aG 55 56 MZ) .ret) .skip)) (aE (aE (aG 56 65 Ma) (.cond (V 65) (aE (aG 66 67 Mb) .ret) .skip)) (aE (.region [Q 14 (.mov (I 0))]) (aE (aE (.region [Q 15 (.mov (I 0))]) (.block 0 (.loop xS))) (aE (aE (aG 86 96 BV) (.cond (V 96) (aE (aG 97 98 BW) .ret) .skip)) (aE (aG 98 103 BX) (aE (aE (aG 103 104 xT) (.cond (V 104) (aE (aG 105 107 xU) .ret) .skip)) (aE (aG 107 111 xV) (aE (aG 111 115 xW) (aE (aE (ad xX) (.block 2 (aE (aG 117 118 xY) (.cond (V 116) (aE (aG 118 125 xZ) (aG 125 129 xa)) (aE (aG 130 131 xb) (.cond (V 129) (aG 131 144 xc) (aE (aG 145 146 xd) (.cond (V 144) (aG 146 152 xe) (aE (aG 153 154 xf) (.cond (V 152) (aG 154 159 xg) (aE (aG 160 161 xh) (.cond (V 159) (aG 161 171 xi) (aE (aG 172 173 xj) (.cond (V 171) (aE (aG 173 175 xk) (ad xl)) .skip)))))))))))))) (aE (aG 175 179 qo) (aE (aG 179 180 qq) .ret))))))))))))))))),false⟩
def Mg:List aF:=[M 14 0,M 15 1,Q 16 (.call .std 194 [V 14,V 15]),M 13 16,EX 17 0 13,EX 18 1 13,M 7 17,M 8 18]
def Mh:List aF:=[M 19 8,Q 20 (.arith .neq (V 19) (I 0))]
def BY:List aF:=[M 21 8,M 6 21]
def Mi:List aF:=[M 22 0,bN 23 22,FA 24 0 23,LD 25 24,M 9 25]
def Mj:List aF:=[M 26 0,bN 27 26,FA 28 2 27,LD 29 28]
def xm:List aF:=[EX 34 1 33,M 11 34]
def xn:List aF:=[M 35 9,M 36 11,bN 37 36,FA 38 0 37,LD 39 38,Q 40 (.len false (V 39)),Q 41 (.arith .sub (V 35) (V 40)),M 9 41]
def Mk:List aF:=[M 42 2,Q 43 (.len false (V 42)),M 44 9,Q 45 (.arith .gtr (V 43) (V 44))]
def Ml:List aF:=[M 46 0,Q 47 (.call .std 196 [V 46]),M 12 47]
def Mm:List aF:=[M 48 12,Q 49 (.arith .neq (V 48) (I 0))]
def Mn:List aF:=[M 50 12,M 6 50]
def Mo:List aF:=[M 51 7,M 52 7,bN 53 52,FA 54 0 53,LD 55 54,M 56 2,Q 57 (.app 1 1 (V 55) (V 56)),bN 58 51,FA 59 0 58,QN (.store 1 (V 59) (V 57))]
@[simp]def aOk:=aH Mg.eq_1<|aH Mh.eq_1<|aH BY.eq_1<|aH Mi.eq_1<|aH Mj.eq_1<|aH xm.eq_1<|aH xn.eq_1<|aH Mk.eq_1<|aH Ml.eq_1<|aH Mm.eq_1<|aH Mn.eq_1<|aT Mo.eq_1
def z9:ai:=
 ⟨3,[.tmp 6],
 (aE (.region [Q 6 (.mov (I 0))]) (aE (aG 13 19 Mg) (aE (aE (aG 19 20 Mh) (.cond (V 20) (aE (aG 21 22 BY) .ret) .skip)) (aE (aG 22 26 Mi) (aE (.rng Mj (.tmp 29) 33 xm [(11,12),(26,42)] (ad xn)) (aE (aE (aG 42 45 Mk) (.cond (V 45) (aE (.region [Q 6 (.mov (I 7))]) .ret) .skip)) (aE (aE (aG 46 48 Ml) (aE (aG 48 49 Mm) (.cond (V 49) (aE (aG 50 51 Mn) .ret) .skip))) (aE (aG 51 60 Mo) (aE (.region [Q 6 (.mov (I 0))]) .ret))))))))),false⟩
def Mp:List aF:=[Q 3 (.box false (V 0)),Q 4 (.box false (V 1)),Q 5 (.box true (V 2)),Q 6 (.alloc false [(.int .i64 0),.nils,.nils,.nils,(.int .i64 0),(.bool false),(.int .i64 0)]),Q 7 (.alloc false [(.str []),(.int .i64 0),(.int .i64 0)]),Q 8 (.mov (I 0))]
def Mq:List aF:=[Q 13 (.load true 6 false (V 5)),Q 14 (.call .std 254 [V 13]),M 12 14,EX 15 0 12,EX 16 1 12,M 9 15,M 10 16]
def Mr:List aF:=[M 17 10,Q 18 (.arith .neq (V 17) (I 0))]
def Ms:List aF:=[Q 19 (.load true 7 false (V 3)),Q 20 (.loadb 4 true 3 (V 4)),M 21 10,QN (.stb [4] 7 (V 6) (V 19)),QN (.store 3 (V 7) (V 20)),M 8 21]
@[simp]def Mt:=aT Ms.eq_1
def Mu:List aF:=[M 22 9,Q 23 (.call .std 255 [V 22]),M 11 23]
@[simp]def Zz:=aT Mu.eq_1
def Mv:List aF:=[Q 25 (.load true 7 false (V 3)),FA 26 0 4,LD 27 26,M 28 11,Q 29 (.call .std 86 [V 25,(I 2),V 27,(.cst (.str [])),V 28]),M 24 29,EX 30 0 24,EX 31 1 24,QN (.store 7 (V 3) (V 30)),M 10 31]
def Mw:List aF:=[M 32 10,Q 33 (.arith .eql (V 32) (I 0))]
@[simp]def Mx:=aT Mw.eq_1
def My:List aF:=[FA 34 1 4,LD 35 34,Q 36 (.arith .add (V 35) (I 1)),FA 37 1 4,QN (.store 1 (V 37) (V 36))]
@[simp]def aAa:=aT My.eq_1
def Mz:List aF:=[FA 38 2 4,LD 39 38,M 40 11,Q 41 (.len false (V 40)),Q 42 (.arith .add (V 39) (V 41)),FA 43 2 4,QN (.store 1 (V 43) (V 42))]
def NA:List aF:=[Q 44 (.load true 7 false (V 3)),Q 45 (.loadb 4 true 3 (V 4)),M 46 10,QN (.stb [4] 7 (V 6) (V 44)),QN (.store 3 (V 7) (V 45)),M 8 46]
@[simp]def aOl:=aH Mp.eq_1<|aH Mq.eq_1<|aH Mr.eq_1<|aH Mv.eq_1<|aH Mz.eq_1<|aT NA.eq_1
def z44:ai:=
 ⟨3,[.cell 6 true 7,.cell 7 true 3,.tmp 8],
 (aE (ad Mp) (aE (aG 12 17 Mq) (aE (aE (aG 17 18 Mr) (.cond (V 18) (aE (aG 19 22 Ms) .ret) .skip)) (aE (aG 22 24 Mu) (aE (aG 24 32 Mv) (aE (aE (aG 32 33 Mw) (.cond (V 33) (aE (aG 34 38 My) (aG 38 44 Mz)) .skip)) (aE (aG 44 47 NA) .ret))))))),false⟩
def BZ:List aF:=[Q 3 (.box true (V 1)),Q 4 (.mov (I 0))]
def NB:List aF:=[M 9 0,Q 10 (.eqn false .p (V 9))]
def NC:List aF:=[Q 12 (.load true 6 false (V 3)),Q 13 (.call .std 142 [V 12]),M 11 13,EX 14 0 11,EX 15 1 11,M 5 14,M 6 15]
def ND:List aF:=[M 16 6,Q 17 (.arith .neq (V 16) (I 0))]
def NE:List aF:=[M 18 6,M 4 18]
def NF:List aF:=[M 20 5,Q 21 (.call .std 256 [(.cst .nils),V 20]),M 19 21,EX 22 0 19,EX 23 1 19,M 7 22,M 6 23]
def NG:List aF:=[M 24 6,Q 25 (.arith .neq (V 24) (I 0))]
def NH:List aF:=[M 26 6,M 4 26]
def NI:List aF:=[M 27 0,bN 28 27,FA 29 0 28,LD 30 29,M 31 0,bN 32 31,FA 33 1 32,LD 34 33,M 35 7,Q 36 (.call .std 78 [V 30,V 34,V 35]),M 8 36]
def NJ:List aF:=[M 37 8,Q 38 (.arith .neq (V 37) (I 0))]
def NL:List aF:=[M 39 8,M 4 39]
def NM:List aF:=[M 40 0,bN 41 40,FA 42 2 41,LD 43 42,Q 44 (.arith .add (V 43) (I 1)),bN 45 40,FA 46 2 45,QN (.store 1 (V 46) (V 44))]
def NN:List aF:=[M 47 0,bN 48 47,FA 49 3 48,LD 50 49,M 51 7,Q 52 (.len false (V 51)),Q 53 (.arith .add (V 50) (V 52)),bN 54 47,FA 55 3 54,QN (.store 1 (V 55) (V 53))]
@[simp]def aOm:=aH BZ.eq_1<|aH NB.eq_1<|aH NC.eq_1<|aH ND.eq_1<|aH NE.eq_1<|aH NF.eq_1<|aH NG.eq_1<|aH NH.eq_1<|aH NI.eq_1<|aH NJ.eq_1<|aH NL.eq_1<|aH NM.eq_1<|aT NN.eq_1
def pD:ai:=
 ⟨2,[.tmp 4],
 (aE (ad BZ) (aE (aE (aG 9 10 NB) (.cond (V 10) (aE (.region [Q 4 (.mov (I 1))]) .ret) .skip)) (aE (aG 11 16 NC) (aE (aE (aG 16 17 ND) (.cond (V 17) (aE (aG 18 19 NE) .ret) .skip)) (aE (aG 19 24 NF) (aE (aE (aG 24 25 NG) (.cond (V 25) (aE (aG 26 27 NH) .ret) .skip)) (aE (aE (aG 27 37 NI) (aE (aG 37 38 NJ) (.cond (V 38) (aE (aG 39 40 NL) .ret) .skip))) (aE (aG 40 47 NM) (aE (aG 47 56 NN) (aE (.region [Q 4 (.mov (I 0))]) .ret)))))))))),false⟩
def NO:List aF:=[Q 1 (.box false (V 0)),Q 2 (.alloc false [(.int .i64 0),.nils,.nils,.nils,(.int .i64 0),(.int .i64 0)])]
def NP:List aF:=[Q 3 (.bsl false (.agg [(.str []),(.str [])]) 0 []),FA 4 1 1,LD 5 4,Q 6 (.app 2 32 (V 3) (V 5)),FA 7 1 1,QN (.store 1 (V 7) (V 6))]
@[simp]def aAb:=aT NP.eq_1
def NQ:List aF:=[Q 8 (.bsl false (.agg [(.int .i64 0),(.int .i64 0),(.int .i64 0)]) 0 []),FA 9 2 1,LD 10 9,Q 11 (.app 3 24 (V 8) (V 10)),FA 12 2 1,QN (.store 1 (V 12) (V 11))]
@[simp]def aAc:=aT NQ.eq_1
def NR:List aF:=[Q 13 (.bsl false (.int .i64 0) 0 []),FA 14 3 1,LD 15 14,Q 16 (.app 1 8 (V 13) (V 15)),FA 17 3 1,QN (.store 1 (V 17) (V 16))]
@[simp]def aAd:=aT NR.eq_1
def NS:List aF:=[Q 18 (.load true 6 false (V 1)),QN (.store 6 (V 2) (V 18))]
@[simp]def aAe:=aT NS.eq_1
@[simp]def aOn:=aT NO.eq_1
def qr:ai:=
 ⟨1,[.cell 2 true 6],
 (aE (ad NO) (aE (aG 3 8 NP) (aE (aG 8 13 NQ) (aE (aG 13 18 NR) (aE (aG 18 19 NS) .ret))))),false⟩
def NT:List aF:=[M 5 0,bN 6 5,FA 7 0 6,LD 8 7,M 9 0,bN 10 9,FA 11 1 10,LD 12 11,Q 13 (.call .std 84 [V 8,V 12]),M 2 13]
@[simp]def aOo:=aT NT.eq_1
def tV:ai:=
 ⟨1,[.tmp 2],
 (aE (.region [Q 2 (.mov (I 0))]) (aE (aE (aG 3 4 tO) (.cond (V 4) (aE (.region [Q 2 (.mov (I 1))]) .ret) .skip)) (aE (aG 5 14 NT) .ret))),false⟩
def NU:List aF:=[M 3 0,Q 4 (.eqn false .p (V 3)),M 5 4,QG (some 6) (.mov (V 0)) 5 false,QG (some 7) (.nilck (V 6)) 5 false,QG (some 8) (.faddr 2 (V 7)) 5 false,QG (some 9) (.load false 1 false (V 8)) 5 false,QG (some 10) (.eqn false .m (V 9)) 5 false,Q 11 (.pick (V 5) bh (V 10)),M 12 11,QG (some 13) (.mov (V 0)) 12 false,QG (some 14) (.nilck (V 13)) 12 false,QG (some 15) (.faddr 6 (V 14)) 12 false,QG (some 16) (.load false 1 false (V 15)) 12 false,Q 17 (.pick (V 12) bh (V 16))]
def NV:List aF:=[M 18 0,bN 19 18,FA 20 2 19,LD 21 20,Q 22 (.call .std 200 [V 21]),Q 23 (.call .std 199 [V 22]),M 2 23]
@[simp]def aOp:=aH NU.eq_1<|aT NV.eq_1
def z23:ai:=
 ⟨1,[.tmp 2],
 (aE (.region [Q 2 (.mov (.cst .nils))]) (aE (aE (aG 3 17 NU) (.cond (V 17) (aE (.region [Q 2 (.mov (.cst .nils))]) .ret) .skip)) (aE (aG 18 24 NV) .ret))),false⟩
def Ba:List aF:=[Q 1 (.box true (V 0)),Q 2 (.mov (.cst .nils))]
def NW:List aF:=[Q 6 (.load true 7 false (V 1)),Q 7 (.call .std 204 [V 6]),M 4 7]
def NX:List aF:=[M 8 5,M 9 4,Q 10 (.len false (V 9)),Q 11 (.arith .lss (V 8) (V 10)),M 12 11,QG (some 13) (.faddr 5 (V 1)) 12 true,QG (some 14) (.load false 1 false (V 13)) 12 true,QG (some 15) (.un .not (V 14)) 12 true,Q 16 (.pick (V 12) (V 15) au)]
def NY:List aF:=[M 19 3,M 20 4,M 21 5,Q 22 (.iaddr 2 (V 20) (V 21)),FA 23 0 22,LD 24 23,Q 25 (.bsl false (.str []) 1 [(0,V 24)]),Q 26 (.app 1 16 (V 19) (V 25)),M 3 26]
def NZ:List aF:=[M 17 5,Q 18 (.arith .add (V 17) (I 1)),M 5 18]
@[simp]def aOq:=aH Ba.eq_1<|aH NW.eq_1<|aH NX.eq_1<|aH NY.eq_1<|aT NZ.eq_1
def Na:az:=
 (aE (aE (aG 8 16 NX) (.cond (V 16) .skip (.exit 0))) (aE (.block 1 (aG 19 27 NY)) (aG 17 19 NZ)))
@[simp]def aOr:=cL Na.eq_1
def Nb:List aF:=[M 27 3,M 2 27]
@[simp]def aOs:=aT Nb.eq_1
def tW:ai:=
 ⟨1,[.tmp 2],
 (aE (ad Ba) (aE (.region [Q 3 (.mov (.cst .nils))]) (aE (aG 6 8 NW) (aE (aE (.region [Q 5 (.mov (I 0))]) (.block 0 (.loop Na))) (aE (aG 27 28 Nb) .ret))))),false⟩
def Nc:List aF:=[M 5 0,bN 6 5,FA 7 5 6,LD 8 7,M 2 8]
@[simp]def aOt:=aT Nc.eq_1
def tX:ai:=
 ⟨1,[.tmp 2],
 (aE (.region [Q 2 (.mov (I 0))]) (aE (aE (aG 3 4 tO) (.cond (V 4) (aE (.region [Q 2 (.mov (I 0))]) .ret) .skip)) (aE (aG 5 9 Nc) .ret))),false⟩
def pE:List aF:=[Q 4 (.mov (.cst .nils)),Q 5 (.mov (I 0))]
def Nd:List aF:=[M 9 0,M 10 1,Q 11 (.call .std 194 [V 9,V 10]),M 8 11,EX 12 0 8,EX 13 1 8,M 6 12,M 7 13]
def Nf:List aF:=[M 14 7,Q 15 (.arith .neq (V 14) (I 0))]
def Ng:List aF:=[M 16 7,Q 4 (.mov (.cst .nils)),M 5 16]
def Nh:List aF:=[M 17 0,bN 18 17,FA 19 6 18,LD 20 19]
def Bb:List aF:=[Q 4 (.mov (.cst .nils)),Q 5 (.mov (I 6))]
def Ni:List aF:=[M 21 6,bN 22 21,FA 23 0 22,LD 24 23,Q 25 (.call .std 201 [V 24]),M 4 25,Q 5 (.mov (I 0))]
@[simp]def aOu:=aH pE.eq_1<|aH Nd.eq_1<|aH Nf.eq_1<|aH Ng.eq_1<|aH Nh.eq_1<|aH Bb.eq_1<|aT Ni.eq_1
def nJ:ai:=
 ⟨2,[.tmp 4,.tmp 5],
 (aE (ad pE) (aE (aG 8 14 Nd) (aE (aE (aG 14 15 Nf) (.cond (V 15) (aE (aG 16 17 Ng) .ret) .skip)) (aE (aE (aG 17 20 Nh) (.cond (V 20) (aE (ad Bb) .ret) .skip)) (aE (aG 21 26 Ni) .ret))))),false⟩
def Nj:List aF:=[Q 2 (.box true (V 0)),Q 4 (.mov (.cst .nils)),Q 5 (.mov (I 0))]
def Nk:List aF:=[M 7 1,Q 8 (.call .pur 203 [V 7]),Q 9 (.un .not (V 8))]
def Nl:List aF:=[Q 4 (.mov (.cst .nils)),Q 5 (.mov (I 8))]
def Nn:List aF:=[Q 10 (.load true 7 false (V 2)),Q 11 (.call .std 204 [V 10]),M 12 1,Q 13 (.call .std 205 [V 11,V 12]),M 6 13]
def No:List aF:=[M 14 6,Q 15 (.arith .lss (V 14) (I 0))]
def Np:List aF:=[Q 4 (.mov (.cst .nils)),Q 5 (.mov (I 9))]
def Nq:List aF:=[FA 16 5 2,LD 17 16]
def Nr:List aF:=[FA 18 1 2,LD 19 18,M 20 6,Q 21 (.iaddr 2 (V 19) (V 20)),FA 22 0 21,LD 23 22,M 4 23,Q 5 (.mov (I 0))]
@[simp]def aOv:=aH Nj.eq_1<|aH Nk.eq_1<|aH Nl.eq_1<|aH Nn.eq_1<|aH No.eq_1<|aH Np.eq_1<|aH Nq.eq_1<|aT Nr.eq_1
def nK:ai:=
 ⟨2,[.tmp 4,.tmp 5],
 (aE (ad Nj) (aE (aE (aG 7 9 Nk) (.cond (V 9) (aE (ad Nl) .ret) .skip)) (aE (aG 10 14 Nn) (aE (aE (aG 14 15 No) (.cond (V 15) (aE (ad Np) .ret) .skip)) (aE (aE (aG 16 17 Nq) (.cond (V 17) (aE (ad Bb) .ret) .skip)) (aE (aG 18 24 Nr) .ret)))))),false⟩
def xp:List aF:=[Q 1 (.box true (V 0)),Q 2 (.mov (I 0))]
def Ns:List aF:=[FA 4 1 1,LD 5 4,Q 6 (.len false (V 5)),FA 7 2 1,LD 8 7,Q 9 (.len false (V 8)),FA 10 3 1,LD 11 10,Q 12 (.len false (V 11)),FA 13 4 1,LD 14 13,FA 15 5 1,LD 16 15,Q 17 (.build [(.int .i64 0),(.int .i64 0),(.int .i64 0),(.int .i64 0),(.int .i64 0)] [(0,1,V 6),(1,1,V 9),(2,1,V 12),(3,1,V 14),(4,1,V 16)]),Q 3 (.alloc false [(.int .i64 0),(.int .i64 0),(.int .i64 0),(.int .i64 0),(.int .i64 0)]),QN (.store 5 (V 3) (V 17))]
def Nt:List aF:=[FA 19 0 1,LD 20 19,Q 21 (.arith .eql (V 20) (I 1)),M 22 21,QG (some 23) (.load true 5 false (V 3)) 22 true,QG (some 24) (.faddr 0 (V 3)) 22 true,QG (some 25) (.load false 1 false (V 24)) 22 true,QG (some 26) (.build [(.int .i64 0),(.int .i64 0),(.int .i64 0),(.int .i64 0),(.int .i64 0)] [(0,1,V 25)]) 22 true,QG (some 27) (.eqs false 5 (V 23) (V 26)) 22 true,Q 28 (.pick (V 22) (V 27) au),M 18 28]
def Nu:List aF:=[FA 29 1 1,LD 30 29,Q 31 (.call .std 40 [V 30]),M 2 31]
def Nv:List aF:=[FA 33 0 1,LD 34 33,Q 35 (.arith .eql (V 34) (I 2)),M 36 35,QG (some 37) (.load true 5 false (V 3)) 36 true,QG (some 38) (.faddr 1 (V 3)) 36 true,QG (some 39) (.load false 1 false (V 38)) 36 true,QG (some 40) (.build [(.int .i64 0),(.int .i64 0),(.int .i64 0),(.int .i64 0),(.int .i64 0)] [(1,1,V 39)]) 36 true,QG (some 41) (.eqs false 5 (V 37) (V 40)) 36 true,Q 42 (.pick (V 36) (V 41) au),M 32 42]
def Nw:List aF:=[FA 43 2 1,LD 44 43,Q 45 (.call .std 275 [V 44]),M 2 45]
def Nx:List aF:=[FA 47 0 1,LD 48 47,Q 49 (.arith .eql (V 48) (I 3)),M 50 49,QG (some 51) (.load true 5 false (V 3)) 50 true,QG (some 52) (.faddr 2 (V 3)) 50 true,QG (some 53) (.load false 1 false (V 52)) 50 true,QG (some 54) (.faddr 3 (V 3)) 50 true,QG (some 55) (.load false 1 false (V 54)) 50 true,QG (some 56) (.faddr 4 (V 3)) 50 true,QG (some 57) (.load false 1 false (V 56)) 50 true,QG (some 58) (.build [(.int .i64 0),(.int .i64 0),(.int .i64 0),(.int .i64 0),(.int .i64 0)] [(2,1,V 53),(3,1,V 55),(4,1,V 57)]) 50 true,QG (some 59) (.eqs false 5 (V 51) (V 58)) 50 true,Q 60 (.pick (V 50) (V 59) au),M 46 60]
def Ny:List aF:=[Q 61 (.load true 6 false (V 1)),Q 62 (.call .std 276 [V 61]),M 2 62]
@[simp]def aOw:=aH xp.eq_1<|aH Ns.eq_1<|aH Nt.eq_1<|aH Nu.eq_1<|aH Nv.eq_1<|aH Nw.eq_1<|aH Nx.eq_1<|aT Ny.eq_1
def nL:ai:=
 ⟨1,[.tmp 2],
 (aE (ad xp) (aE (aG 4 18 Ns) (aE (.block 0 (aE (aG 19 29 Nt) (.cond (V 18) (aE (aG 29 32 Nu) .ret) (aE (aG 33 43 Nv) (.cond (V 32) (aE (aG 43 46 Nw) .ret) (aE (aG 47 61 Nx) (.cond (V 46) (aE (aG 61 63 Ny) .ret) .skip))))))) (aE (.region [Q 2 (.mov (I 2))]) .ret)))),false⟩
def Nz:List aF:=[M 7 1,Q 8 (.arith .lss (V 7) (I 0))]
def OA:List aF:=[Q 4 (.mov (.cst .nils)),Q 5 (.mov (I 2))]
def OB:List aF:=[M 9 0,Q 10 (.call .std 218 [V 9,(I 9)]),M 6 10]
def OC:List aF:=[M 11 1,Q 12 (.arith .geq (V 11) (I 128))]
def OD:List aF:=[M 15 6,M 16 1,Q 17 (.toInt .u8 (V 16)),Q 18 (.arith .or (V 17) (.cst (.int .u8 128))),Q 19 (.bsl false (.int .u8 0) 1 [(0,V 18)]),Q 20 (.app 1 1 (V 15) (V 19)),M 6 20]
def OE:List aF:=[M 13 1,Q 14 (.arith .shr (V 13) (.cst (.int .u64 7))),M 1 14]
@[simp]def aOx:=aH Nz.eq_1<|aH OA.eq_1<|aH OB.eq_1<|aH OC.eq_1<|aH OD.eq_1<|aT OE.eq_1
def Bc:az:=
 (aE (aE (aG 11 12 OC) (.cond (V 12) .skip (.exit 0))) (aE (.block 1 (aG 15 21 OD)) (aG 13 15 OE)))
@[simp]def aOy:=cL Bc.eq_1
def OF:List aF:=[M 21 6,M 22 1,Q 23 (.toInt .u8 (V 22)),Q 24 (.bsl false (.int .u8 0) 1 [(0,V 23)]),Q 25 (.app 1 1 (V 21) (V 24)),M 4 25,Q 5 (.mov (I 0))]
@[simp]def aOz:=aT OF.eq_1
def z35:ai:=
 ⟨2,[.tmp 4,.tmp 5],
 (aE (ad pE) (aE (aE (aG 7 8 Nz) (.cond (V 8) (aE (ad OA) .ret) .skip)) (aE (aG 9 11 OB) (aE (.block 0 (.loop Bc)) (aE (aG 21 26 OF) .ret))))),true⟩
def OG:List aF:=[M 5 0,Q 6 (.len false (V 5)),Q 7 (.mov (I 0))]
def OH:List aF:=[Q 9 (.iaddr 1 (V 5) (V 7)),LD 10 9,M 4 10]
def OI:List aF:=[LD 12 1,M 13 4,Q 14 (.call .std 107 [V 12,V 13]),M 11 14,EX 15 0 11,EX 16 1 11,QN (.store 1 (V 1) (V 15))]
def OJ:List aF:=[Q 17 (.arith .add (V 7) (I 1)),M 7 17]
@[simp]def aOA:=aH OG.eq_1<|aH OH.eq_1<|aH OI.eq_1<|aT OJ.eq_1
def Bd:az:=
 (aE (.region [Q 8 (.arith .lss (V 7) (V 6))]) (aE (.cond (V 8) .skip (.exit 0)) (aE (.block 1 (aE (aG 9 11 OH) (aG 11 17 OI))) (aG 17 18 OJ))))
@[simp]def aOB:=cL Bd.eq_1
def qs:ai:=
 ⟨2,[],
 (aE (ad OG) (.block 0 (.loop Bd))),false⟩
def OK:List aF:=[M 11 1,Q 12 (.call .std 40 [V 11]),M 6 12]
def Be:List aF:=[M 13 6,Q 14 (.arith .neq (V 13) (I 0))]
def OL:List aF:=[M 15 6,Q 4 (.mov (.cst .nils)),M 5 15]
def OM:List aF:=[M 17 0,M 18 1,Q 19 (.len false (V 18)),Q 20 (.call .std 107 [V 17,V 19]),M 16 20,EX 21 0 16,EX 22 1 16,M 7 21,M 8 22]
def ON:List aF:=[M 23 1,Q 24 (.len false (V 23)),Q 25 (.mov (I 0))]
def OO:List aF:=[Q 26 (.arith .lss (V 25) (V 24))]
def OP:List aF:=[Q 27 (.iaddr 2 (V 23) (V 25)),Q 28 (.load true 2 false (V 27)),Q 10 (.alloc false [(.str []),(.str [])]),QN (.store 2 (V 10) (V 28))]
def OQ:List aF:=[M 30 7,FA 31 0 10,LD 32 31,Q 33 (.call .std 108 [V 30,V 32]),M 29 33,EX 34 0 29,EX 35 1 29,M 7 34]
def OR:List aF:=[M 37 7,FA 38 1 10,LD 39 38,Q 40 (.call .std 108 [V 37,V 39]),M 36 40,EX 41 0 36,EX 42 1 36,M 7 41]
def OS:List aF:=[Q 43 (.arith .add (V 25) (I 1)),M 25 43]
@[simp]def aOC:=aH OK.eq_1<|aH Be.eq_1<|aH OL.eq_1<|aH OM.eq_1<|aH ON.eq_1<|aH OO.eq_1<|aH OP.eq_1<|aH OQ.eq_1<|aH OR.eq_1<|aT OS.eq_1
def Bf:az:=
 (aE (ad OO) (aE (.cond (V 26) .skip (.exit 0)) (aE (.block 1 (aE (aG 27 29 OP) (aE (aG 29 36 OQ) (aG 36 43 OR)))) (aG 43 44 OS))))
@[simp]def aOD:=cL Bf.eq_1
def OT:List aF:=[M 44 7,M 4 44,Q 5 (.mov (I 0))]
@[simp]def aOE:=aT OT.eq_1
def qt:ai:=
 ⟨2,[.tmp 4,.tmp 5],
 (aE (ad pE) (aE (aE (aG 11 13 OK) (aE (aG 13 14 Be) (.cond (V 14) (aE (aG 15 16 OL) .ret) .skip))) (aE (.clr [(8,9),(16,23)] (ad OM)) (aE (aE (ad ON) (.block 0 (.loop Bf))) (aE (aG 44 45 OT) .ret))))),false⟩
def Bg:List aF:=[M 3 0,Q 4 (.arith .lss (V 3) (I 0))]
def Bh:List aF:=[M 5 0,Q 6 (.arith .mul (I (-2)) (V 5)),Q 7 (.arith .sub (V 6) (I 1)),M 2 7]
def Bi:List aF:=[M 8 0,Q 9 (.arith .mul (I 2) (V 8)),M 2 9]
@[simp]def aOF:=aH Bg.eq_1<|aH Bh.eq_1<|aT Bi.eq_1
def qu:ai:=
 ⟨1,[.tmp 2],
 (aE (.region [Q 2 (.mov (I 0))]) (aE (aE (aG 3 4 Bg) (.cond (V 4) (aE (aG 5 8 Bh) .ret) .skip)) (aE (aG 8 10 Bi) .ret))),false⟩
def OU:List aF:=[M 12 1,Q 13 (.call .std 318 [V 12]),M 6 13]
def Bj:List aF:=[M 14 6,Q 15 (.arith .neq (V 14) (I 0))]
def OV:List aF:=[M 16 6,Q 4 (.mov (.cst .nils)),M 5 16]
def OW:List aF:=[M 18 0,M 19 1,Q 20 (.len false (V 19)),Q 21 (.call .std 107 [V 18,V 20]),M 17 21,EX 22 0 17,EX 23 1 17,M 7 22,M 8 23]
def OX:List aF:=[M 24 1,Q 25 (.len false (V 24)),Q 26 (.mov (I 0))]
def OY:List aF:=[Q 27 (.arith .lss (V 26) (V 25))]
def OZ:List aF:=[Q 28 (.iaddr 1 (V 24) (V 26)),LD 29 28,M 11 29]
def Oa:List aF:=[M 31 7,M 32 11,M 33 9,Q 34 (.arith .sub (V 32) (V 33)),Q 35 (.call .std 107 [V 31,V 34]),M 30 35,EX 36 0 30,EX 37 1 30,M 7 36]
def Ob:List aF:=[M 38 11,M 9 38]
def Oc:List aF:=[Q 39 (.arith .add (V 26) (I 1)),M 26 39]
@[simp]def aOG:=aH OU.eq_1<|aH Bj.eq_1<|aH OV.eq_1<|aH OW.eq_1<|aH OX.eq_1<|aH OY.eq_1<|aH OZ.eq_1<|aH Oa.eq_1<|aH Ob.eq_1<|aT Oc.eq_1
def Bk:az:=
 (aE (ad OY) (aE (.cond (V 27) .skip (.exit 0)) (aE (.block 1 (aE (aG 28 30 OZ) (aE (aG 30 38 Oa) (aG 38 39 Ob)))) (aG 39 40 Oc))))
@[simp]def aOH:=cL Bk.eq_1
def Od:List aF:=[M 40 7,M 4 40,Q 5 (.mov (I 0))]
@[simp]def aOI:=aT Od.eq_1
def qv:ai:=
 ⟨2,[.tmp 4,.tmp 5],
 (aE (ad pE) (aE (aE (aG 12 14 OU) (aE (aG 14 15 Bj) (.cond (V 15) (aE (aG 16 17 OV) .ret) .skip))) (aE (.clr [(8,9),(17,24)] (ad OW)) (aE (.region [Q 9 (.mov (I 0))]) (aE (aE (ad OX) (.block 0 (.loop Bk))) (aE (aG 40 41 Od) .ret)))))),false⟩
def Oe:List aF:=[M 6 0,bN 7 6,FA 8 2 7,LD 9 8]
def Og:List aF:=[M 11 0,bN 12 11,FA 13 0 12,LD 14 13,M 15 0,bN 16 15,FA 17 1 16,LD 18 17,Q 19 (.call .std 110 [V 14,V 18]),M 10 19,EX 20 0 10,EX 21 1 10,EX 22 2 10,M 3 20,M 4 21,M 5 22]
def Oh:List aF:=[M 23 5,Q 24 (.arith .neq (V 23) (I 0))]
def Oi:List aF:=[M 25 0,bN 26 25,FA 27 2 26,QN (.store 1 (V 27) bh)]
def Oj:List aF:=[M 28 0,M 29 4,bN 30 28,FA 31 1 30,QN (.store 1 (V 31) (V 29))]
def Ol:List aF:=[M 32 3,M 2 32]
@[simp]def aOJ:=aH Oe.eq_1<|aH Og.eq_1<|aH Oh.eq_1<|aH Oi.eq_1<|aH Oj.eq_1<|aT Ol.eq_1
def mN:ai:=
 ⟨1,[.tmp 2],
 (aE (.region [Q 2 (.mov (I 0))]) (aE (aE (aG 6 9 Oe) (.cond (V 9) (aE (.region [Q 2 (.mov (I 0))]) .ret) .skip)) (aE (aG 10 23 Og) (aE (aE (aG 23 24 Oh) (.cond (V 24) (aE (aG 25 28 Oi) (aE (.region [Q 2 (.mov (I 0))]) .ret)) .skip)) (aE (aG 28 32 Oj) (aE (aG 32 33 Ol) .ret)))))),false⟩
def pF:List aF:=[Q 4 (.mov (.cst .nils)),Q 5 (.mov (I 0)),Q 6 (.mov (I 0))]
def Om:List aF:=[M 12 0,M 13 1,Q 14 (.call .std 110 [V 12,V 13]),M 11 14,EX 15 0 11,EX 16 1 11,EX 17 2 11,M 7 15,M 1 16,M 8 17]
def On:List aF:=[M 18 8,Q 19 (.arith .eql (V 18) (I 0)),M 20 19,QG (some 21) (.mov (V 7)) 20 true,QG (some 22) (.arith .gtr (V 21) (I 8)) 20 true,Q 23 (.pick (V 20) (V 22) au)]
def Oo:List aF:=[M 24 8,Q 25 (.arith .eql (V 24) (I 0)),M 26 25,QG (some 27) (.mov (V 9)) 26 true,QG (some 28) (.len false (V 27)) 26 true,QG (some 29) (.mov (V 7)) 26 true,QG (some 30) (.arith .lss (V 28) (V 29)) 26 true,Q 31 (.pick (V 26) (V 30) au)]
def Oq:List aF:=[Q 10 (.alloc false [(.str []),(.str [])])]
def Ot:List aF:=[M 33 0,M 34 1,Q 35 (.call .std 111 [V 33,V 34]),M 32 35,EX 36 0 32,EX 37 1 32,EX 38 2 32,FA 39 0 10,QN (.store 1 (V 39) (V 36)),M 1 37,M 8 38]
def Ou:List aF:=[M 40 8,Q 41 (.arith .eql (V 40) (I 0))]
def Ov:List aF:=[M 43 0,M 44 1,Q 45 (.call .std 111 [V 43,V 44]),M 42 45,EX 46 0 42,EX 47 1 42,EX 48 2 42,FA 49 1 10,QN (.store 1 (V 49) (V 46)),M 1 47,M 8 48]
def Ow:List aF:=[M 50 9,Q 51 (.load true 2 false (V 10)),Q 52 (.bsl false (.agg [(.str []),(.str [])]) 1 [(0,V 51)]),Q 53 (.app 2 32 (V 50) (V 52)),M 9 53]
@[simp]def aOK:=aH pF.eq_1<|aH Om.eq_1<|aH On.eq_1<|aH Oo.eq_1<|aH Oq.eq_1<|aH Ot.eq_1<|aH Ou.eq_1<|aH Ov.eq_1<|aT Ow.eq_1
def Bl:az:=
 (aE (aE (aG 24 31 Oo) (.cond (V 31) .skip (.exit 0))) (.block 1 (aE (ad Oq) (aE (aE (aG 32 40 Ot) (aE (aG 40 41 Ou) (.cond (V 41) (aG 42 50 Ov) .skip))) (aG 50 54 Ow)))))
@[simp]def aOL:=cL Bl.eq_1
def Ox:List aF:=[M 54 8,Q 55 (.arith .eql (V 54) (I 0)),M 56 55,QG (some 57) (.mov (V 9)) 56 true,QG (some 58) (.call .std 40 [V 57]) 56 true,QG (some 59) (.arith .neq (V 58) (I 0)) 56 true,Q 60 (.pick (V 56) (V 59) au)]
def Oy:List aF:=[M 61 8,Q 62 (.arith .neq (V 61) (I 0))]
def Oz:List aF:=[M 63 8,Q 4 (.mov (.cst .nils)),Q 5 (.mov (I 0)),M 6 63]
def PA:List aF:=[M 64 9,M 65 1,M 4 64,M 5 65,Q 6 (.mov (I 0))]
@[simp]def aOM:=aH Ox.eq_1<|aH Oy.eq_1<|aH Oz.eq_1<|aT PA.eq_1
def qw:ai:=
 ⟨2,[.tmp 4,.tmp 5,.tmp 6],
 (aE (ad pF) (aE (aG 11 18 Om) (aE (aE (aG 18 23 On) (.cond (V 23) (.region [Q 8 (.mov (I 3))]) .skip)) (aE (.region [Q 9 (.mov (.cst .nils))]) (aE (.block 0 (.loop Bl)) (aE (aE (aG 54 60 Ox) (.cond (V 60) (.region [Q 8 (.mov (I 5))]) .skip)) (aE (aE (aG 61 62 Oy) (.cond (V 62) (aE (aG 63 64 Oz) .ret) .skip)) (aE (aG 64 66 PA) .ret)))))))),false⟩
def PB:List aF:=[M 3 0,Q 4 (.arith .rem (V 3) (I 2)),Q 5 (.arith .eql (V 4) (I 1))]
def PC:List aF:=[M 6 0,Q 7 (.arith .quo (V 6) (I 2)),Q 8 (.un .neg (V 7)),Q 9 (.arith .sub (V 8) (I 1)),M 2 9]
def PD:List aF:=[M 10 0,Q 11 (.arith .quo (V 10) (I 2)),M 2 11]
@[simp]def aON:=aH PB.eq_1<|aH PC.eq_1<|aT PD.eq_1
def qx:ai:=
 ⟨1,[.tmp 2],
 (aE (.region [Q 2 (.mov (I 0))]) (aE (aE (aG 3 5 PB) (.cond (V 5) (aE (aG 6 10 PC) .ret) .skip)) (aE (aG 10 12 PD) .ret))),false⟩
end Ps
