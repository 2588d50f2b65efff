/- The functions' code, as the pure semantics has it: printed by program. -/
import Derived.Test.YtpjmpaidcidjgaaGreatDoorCodeAKb
namespace Ps
open Go
set_option maxRecDepth 10000
set_option linter.defProp false
variable (T : aV) (K : List Kt) (fr : Fr) (S : St)
def LT:List aA:=[M 5 0,Q 6 (.len false (V 5)),Q 7 (.arith .gtr (V 6) (I 8))]
def BK:List aA:=[M 8 0,Q 9 (.len false (V 8)),Q 10 (.mov (I 0))]
def LU:List aA:=[M 12 10,Q 13 (.iaddr 2 (V 8) (V 10)),Q 14 (.load true 2 false (V 13)),Q 4 (.alloc false [(.str []),(.str [])]),M 3 12,QN (.store 2 (V 4) (V 14))]
def LV:List aA:=[FA 16 0 4,LD 17 16,Q 18 (.call .pur 121 [V 17]),Q 19 (.un .not (V 18)),M 15 19]
def LW:List aA:=[FA 21 1 4,LD 22 21,Q 23 (.arith .eql (V 22) (.cst (.str []))),M 20 23]
def LX:List aA:=[FA 25 1 4,LD 26 25,Q 27 (.len true (V 26)),Q 28 (.arith .gtr (V 27) (I 64)),M 24 28]
def LY:List aA:=[M 30 3,Q 31 (.arith .gtr (V 30) (I 0)),M 32 31,QG (some 33) (.faddr 0 (V 4)) 32 true,QG (some 34) (.load false 1 false (V 33)) 32 true,QG (some 35) (.mov (V 0)) 32 true,QG (some 36) (.mov (V 3)) 32 true,QG (some 37) (.arith .sub (V 36) (I 1)) 32 true,QG (some 38) (.iaddr 2 (V 35) (V 37)) 32 true,QG (some 39) (.faddr 0 (V 38)) 32 true,QG (some 40) (.load false 1 true (V 39)) 32 true,QG (some 41) (.arith .leq (V 34) (V 40)) 32 true,Q 42 (.pick (V 32) (V 41) bR),M 29 42]
def LZ:List aA:=[Q 43 (.arith .add (V 10) (I 1)),M 10 43]
@[simp]def aJJ:=aC LT.eq_1<|aC BK.eq_1<|aC LU.eq_1<|aC LV.eq_1<|aC LW.eq_1<|aC LX.eq_1<|aC LY.eq_1<|aT LZ.eq_1
def vu:aS:=
 (aB (.region [Q 11 (.arith .lss (V 10) (V 9))]) (aB (.cond (V 11) .skip (.exit 0)) (aB (.block 1 (aB (aD 12 15 LU) (.block 2 (aB (aD 16 20 LV) (.cond (V 15) (aB (.region [Q 2 (.mov (I 8))]) .ret) (aB (aD 21 24 LW) (.cond (V 20) (aB (.region [Q 2 (.mov (I 2))]) .ret) (aB (aD 25 29 LX) (.cond (V 24) (aB (.region [Q 2 (.mov (I 3))]) .ret) (aB (aD 30 43 LY) (.cond (V 29) (aB (.region [Q 2 (.mov (I 13))]) .ret) .skip))))))))))) (aD 43 44 LZ))))
@[simp]def aJK:=bY vu.eq_1
def sY:aX:=
 ⟨1,[.tmp 2],
 (aB (.region [Q 2 (.mov (I 0))]) (aB (aB (aD 5 7 LT) (.cond (V 7) (aB (.region [Q 2 (.mov (I 3))]) .ret) .skip)) (aB (aB (af BK) (.block 0 (.loop vu))) (aB (.region [Q 2 (.mov (I 0))]) .ret)))),false⟩
def La:List aA:=[M 5 0,M 6 1,Q 7 (.call .std 103 [V 5,V 6,(.cst (.fn 104 []))]),M 4 7]
@[simp]def aJL:=aT La.eq_1
def z24:aX:=
 ⟨2,[.tmp 4],
 (aB (.region [Q 4 (.mov (I 0))]) (aB (aD 5 8 La) .ret)),false⟩
def BL:List aA:=[M 3 0,Q 4 (.eqn false .s (V 3))]
def Lb:List aA:=[Q 5 (.emp0),M 6 0,Q 7 (.gapp 2 32 (V 5) (V 6)),M 2 7]
@[simp]def aJM:=aC BL.eq_1<|aT Lb.eq_1
def z5:aX:=
 ⟨1,[.tmp 2],
 (aB (.region [Q 2 (.mov (.cst .nils))]) (aB (aB (aD 3 4 BL) (.cond (V 4) (aB (.region [Q 2 (.mov (.cst .nils))]) .ret) .skip)) (aB (aD 5 8 Lb) .ret))),false⟩
def Lc:List aA:=[M 5 0,Q 6 (.len false (V 5)),M 7 1,Q 8 (.arith .add (V 6) (V 7)),Q 9 (.mks 1 1 (V 8)),M 10 0,Q 11 (.app 1 1 (V 9) (V 10)),M 4 11]
@[simp]def aJN:=aT Lc.eq_1
def sZ:aX:=
 ⟨2,[.tmp 4],
 (aB (.region [Q 4 (.mov (.cst .nils))]) (aB (aD 5 12 Lc) .ret)),true⟩
def BM:List aA:=[Q 2 (.mov (.cst .nils)),Q 3 (.mov (.cst .nilm))]
def BN:List aA:=[Q 9 (.mkm),M 4 9]
def BO:List aA:=[M 25 4,Q 26 (.call .std 314 [V 25]),Q 27 (.call .std 199 [V 26]),M 6 27]
def BP:List aA:=[M 28 6,Q 29 (.len false (V 28)),Q 30 (.mov (I 0))]
def Ld:List aA:=[Q 31 (.arith .lss (V 30) (V 29))]
def Lf:List aA:=[M 32 30,Q 33 (.iaddr 1 (V 28) (V 30)),LD 34 33,M 7 32,M 8 34]
def Lg:List aA:=[M 35 4,M 36 8,M 37 7,QN (.mset true (V 35) (V 36) (V 37))]
def Lh:List aA:=[Q 38 (.arith .add (V 30) (I 1)),M 30 38]
@[simp]def aJO:=aC BM.eq_1<|aC BN.eq_1<|aC BO.eq_1<|aC BP.eq_1<|aC Ld.eq_1<|aC Lf.eq_1<|aC Lg.eq_1<|aT Lh.eq_1
def BQ:aS:=
 (aB (af Ld) (aB (.cond (V 31) .skip (.exit 2)) (aB (.block 3 (aB (aD 32 35 Lf) (aD 35 38 Lg))) (aD 38 39 Lh))))
@[simp]def aJP:=bY BQ.eq_1
def BR:List aA:=[M 39 6,M 40 4,M 2 39,M 3 40]
def Li:List aA:=[M 8 1,Q 9 (.len true (V 8)),Q 10 (.arith .gtr (V 9) (I 65535))]
def Lj:List aA:=[Q 4 (.mov (.cst .nils)),Q 5 (.mov (I 3))]
def Lk:List aA:=[M 12 0,M 13 1,Q 14 (.len true (V 13)),Q 15 (.call .std 107 [V 12,V 14]),M 11 15,EX 16 0 11,EX 17 1 11,M 6 16,M 7 17]
def Ll:List aA:=[M 18 6,M 19 1,Q 20 (.app 1 1 (V 18) (V 19)),M 4 20,Q 5 (.mov (I 0))]
@[simp]def aJQ:=aC BR.eq_1<|aC Li.eq_1<|aC Lj.eq_1<|aC Lk.eq_1<|aT Ll.eq_1
def sa:aX:=
 ⟨2,[.tmp 4,.tmp 5],
 (aB (af sM) (aB (aB (aD 8 10 Li) (.cond (V 10) (aB (af Lj) .ret) .skip)) (aB (.clr [(7,8),(11,18)] (af Lk)) (aB (aD 18 21 Ll) .ret)))),true⟩
def Lm:List aA:=[M 5 0,M 6 0,bj 7 6,FA 8 0 7,Q 9 (.load true 2 false (V 8)),M 10 1,Q 11 (.call .std 377 [V 9,V 10]),M 4 11,EX 12 0 4,EX 13 1 4,bj 14 5,FA 15 0 14,QN (.store 2 (V 15) (V 12))]
@[simp]def aJR:=aT Lm.eq_1
def sb:aX:=
 ⟨2,[],
 (aD 4 16 Lm),false⟩
def Ln:List aA:=[M 4 0,M 5 1,Q 6 (.call .pur 378 [V 5]),Q 7 (.call .std 333 [V 4,V 6])]
@[simp]def aJS:=aT Ln.eq_1
def z2:aX:=
 ⟨2,[],
 (aD 4 8 Ln),false⟩
def Lo:List aA:=[Q 3 (.alloc false [(.int .u32 0)]),QN (.store 1 (V 3) (.cst (.int .u32 4294967295)))]
def Lp:List aA:=[Q 7 (.mkfn 342 [V 3]),M 4 7]
def Lq:List aA:=[Q 12 (.iaddr 1 (V 8) (V 10)),LD 13 12,M 6 13]
def Lr:List aA:=[LD 14 3,M 15 6,Q 16 (.toInt .u32 (V 15)),Q 17 (.arith .xor (V 14) (V 16)),QN (.store 1 (V 3) (V 17))]
def Ls:List aA:=[Q 18 (.mov (I 0))]
@[simp]def Za:=aT Ls.eq_1
def Lt:List aA:=[M 20 4,Q 21 (.callv .std (V 20) [])]
def Lu:List aA:=[Q 22 (.arith .add (V 18) (I 1)),M 18 22]
@[simp]def aJT:=aC Lo.eq_1<|aC Lp.eq_1<|aC Lq.eq_1<|aC Lr.eq_1<|aC Lt.eq_1<|aT Lu.eq_1
def vv:aS:=
 (aB (.region [Q 19 (.arith .lss (V 18) (I 8))]) (aB (.cond (V 19) .skip (.exit 2)) (aB (.block 3 (aD 20 22 Lt)) (aD 22 23 Lu))))
@[simp]def aJU:=bY vv.eq_1
def Lv:List aA:=[Q 23 (.arith .add (V 10) (I 1)),M 10 23]
@[simp]def aJV:=aT Lv.eq_1
def vw:aS:=
 (aB (.region [Q 11 (.arith .lss (V 10) (V 9))]) (aB (.cond (V 11) .skip (.exit 0)) (aB (.block 1 (aB (aD 12 14 Lq) (aB (aD 14 18 Lr) (aB (af Ls) (.block 2 (.loop vv)))))) (aD 23 24 Lv))))
@[simp]def aJW:=bY vw.eq_1
def Lw:List aA:=[LD 24 3,Q 25 (.un .xor (V 24)),M 2 25]
@[simp]def aJX:=aT Lw.eq_1
def sd:aX:=
 ⟨1,[.tmp 2],
 (aB (.region [Q 2 (.mov (.cst (.int .u32 0)))]) (aB (af Lo) (aB (aD 7 8 Lp) (aB (aB (af BK) (.block 0 (.loop vw))) (aB (aD 24 26 Lw) .ret))))),false⟩
def Lx:List aA:=[M 8 0,Q 9 (.call .std 235 [V 8]),M 3 9]
def Ly:List aA:=[M 10 3,Q 11 (.len false (V 10)),Q 12 (.call .std 219 [V 11]),M 4 12]
def Lz:List aA:=[M 13 5,M 14 3,Q 15 (.len false (V 14)),Q 16 (.arith .lss (V 13) (V 15))]
def MA:List aA:=[M 19 4,M 20 3,M 21 5,Q 22 (.iaddr 1 (V 20) (V 21)),LD 23 22,Q 24 (.call .pur 220 [V 23]),Q 25 (.app 1 1 (V 19) (V 24)),M 4 25]
def MB:List aA:=[M 17 5,Q 18 (.arith .add (V 17) (I 1)),M 5 18]
@[simp]def aJY:=aC Lx.eq_1<|aC Ly.eq_1<|aC Lz.eq_1<|aC MA.eq_1<|aT MB.eq_1
def MC:aS:=
 (aB (aB (aD 13 16 Lz) (.cond (V 16) .skip (.exit 0))) (aB (.block 1 (aD 19 26 MA)) (aD 17 19 MB)))
@[simp]def aJZ:=bY MC.eq_1
def MD:List aA:=[M 26 4,M 27 0,Q 28 (.len false (V 27)),Q 29 (.call .std 219 [V 28]),Q 30 (.app 1 1 (V 26) (V 29)),M 4 30]
def ME:List aA:=[M 31 6,M 32 0,Q 33 (.len false (V 32)),Q 34 (.arith .lss (V 31) (V 33))]
def MF:List aA:=[M 37 4,M 38 0,M 39 6,Q 40 (.iaddr 1 (V 38) (V 39)),LD 41 40,Q 42 (.len false (V 41)),Q 43 (.call .std 219 [V 42]),Q 44 (.app 1 1 (V 37) (V 43)),M 4 44]
def MG:List aA:=[M 45 7,M 46 0,M 47 6,Q 48 (.iaddr 1 (V 46) (V 47)),LD 49 48,Q 50 (.len false (V 49)),Q 51 (.arith .lss (V 45) (V 50))]
def MH:List aA:=[M 54 4,M 55 3,M 56 0,M 57 6,Q 58 (.iaddr 1 (V 56) (V 57)),Q 59 (.load false 1 true (V 58)),M 60 7,Q 61 (.iaddr 2 (V 59) (V 60)),FA 62 0 61,Q 63 (.load false 1 true (V 62)),Q 64 (.call .std 236 [V 55,V 63]),Q 65 (.call .std 219 [V 64]),Q 66 (.app 1 1 (V 54) (V 65)),M 67 3,M 68 0,M 69 6,Q 70 (.iaddr 1 (V 68) (V 69)),Q 71 (.load false 1 true (V 70)),M 72 7,Q 73 (.iaddr 2 (V 71) (V 72)),FA 74 1 73,Q 75 (.load false 1 true (V 74)),Q 76 (.call .std 236 [V 67,V 75]),Q 77 (.call .std 219 [V 76]),Q 78 (.app 1 1 (V 66) (V 77)),M 4 78]
def MI:List aA:=[M 52 7,Q 53 (.arith .add (V 52) (I 1)),M 7 53]
@[simp]def aJ0:=aC MD.eq_1<|aC ME.eq_1<|aC MF.eq_1<|aC MG.eq_1<|aC MH.eq_1<|aT MI.eq_1
def MJ:aS:=
 (aB (aB (aD 45 51 MG) (.cond (V 51) .skip (.exit 4))) (aB (.block 5 (aD 54 79 MH)) (aD 52 54 MI)))
@[simp]def aJ1:=bY MJ.eq_1
def MK:List aA:=[M 35 6,Q 36 (.arith .add (V 35) (I 1)),M 6 36]
@[simp]def aJ2:=aT MK.eq_1
def ML:aS:=
 (aB (aB (aD 31 34 ME) (.cond (V 34) .skip (.exit 2))) (aB (.block 3 (aB (aD 37 45 MF) (aB (.region [Q 7 (.mov (I 0))]) (.block 4 (.loop MJ))))) (aD 35 37 MK)))
@[simp]def aJ3:=bY ML.eq_1
def MM:List aA:=[M 79 4,M 2 79]
@[simp]def aJ4:=aT MM.eq_1
def BS:aX:=
 ⟨1,[.tmp 2],
 (aB (.region [Q 2 (.mov (.cst .nils))]) (aB (aD 8 10 Lx) (aB (aD 10 13 Ly) (aB (aB (.region [Q 5 (.mov (I 0))]) (.block 0 (.loop MC))) (aB (aD 26 31 MD) (aB (aB (.region [Q 6 (.mov (I 0))]) (.block 2 (.loop ML))) (aB (aD 79 80 MM) .ret))))))),false⟩
def MN:List aA:=[M 4 0,Q 5 (.arith .gtr (V 4) (I 127))]
def MO:List aA:=[M 6 3,M 7 0,Q 8 (.arith .rem (V 7) (I 128)),Q 9 (.arith .add (V 8) (I 128)),Q 10 (.toInt .u8 (V 9)),Q 11 (.bsl false (.int .u8 0) 1 [(0,V 10)]),Q 12 (.app 1 1 (V 6) (V 11)),M 3 12]
def MP:List aA:=[M 13 0,Q 14 (.arith .quo (V 13) (I 128)),M 0 14]
@[simp]def aJ5:=aC MN.eq_1<|aC MO.eq_1<|aT MP.eq_1
def MQ:aS:=
 (aB (aB (aD 4 5 MN) (.cond (V 5) .skip (.exit 0))) (.block 1 (aB (aD 6 13 MO) (aD 13 15 MP))))
@[simp]def aJ6:=bY MQ.eq_1
def MS:List aA:=[M 15 3,M 16 0,Q 17 (.toInt .u8 (V 16)),Q 18 (.bsl false (.int .u8 0) 1 [(0,V 17)]),Q 19 (.app 1 1 (V 15) (V 18)),M 2 19]
@[simp]def aJ7:=aT MS.eq_1
def BT:aX:=
 ⟨1,[.tmp 2],
 (aB (.region [Q 2 (.mov (.cst .nils))]) (aB (.region [Q 3 (.mov (.cst .nils))]) (aB (.block 0 (.loop MQ)) (aB (aD 15 20 MS) .ret)))),true⟩
def MT:List aA:=[M 10 0,Q 11 (.call .std 330 [V 10]),M 4 11]
def MU:List aA:=[M 15 0,Q 16 (.len false (V 15)),Q 17 (.toInt .u64 (V 16)),M 18 0,Q 19 (.iaddr 2 (V 18) (I 0)),FA 20 0 19,Q 21 (.load false 1 true (V 20)),Q 22 (.toInt .u64 (V 21)),M 23 0,Q 24 (.iaddr 2 (V 23) (I 0)),FA 25 1 24,Q 26 (.load false 1 true (V 25)),Q 27 (.call .pur 331 [V 26]),Q 28 (.bsl false (.int .u64 0) 3 [(0,V 17),(1,V 22),(2,V 27)]),M 5 28]
def MV:List aA:=[M 29 6,M 30 0,Q 31 (.len false (V 30)),Q 32 (.arith .lss (V 29) (V 31))]
def MW:List aA:=[M 35 0,M 36 6,Q 37 (.iaddr 2 (V 35) (V 36)),FA 38 0 37,Q 39 (.load false 1 true (V 38)),M 40 0,M 41 6,Q 42 (.arith .sub (V 41) (I 1)),Q 43 (.iaddr 2 (V 40) (V 42)),FA 44 0 43,Q 45 (.load false 1 true (V 44)),Q 46 (.arith .sub (V 39) (V 45)),M 7 46]
def MX:List aA:=[M 47 6,Q 48 (.arith .eql (V 47) (I 1))]
def MY:List aA:=[M 49 5,M 50 7,Q 51 (.toInt .u64 (V 50)),Q 52 (.bsl false (.int .u64 0) 1 [(0,V 51)]),Q 53 (.app 1 8 (V 49) (V 52)),M 5 53]
def MZ:List aA:=[M 54 5,M 55 7,M 56 0,M 57 6,Q 58 (.arith .sub (V 57) (I 1)),Q 59 (.iaddr 2 (V 56) (V 58)),FA 60 0 59,Q 61 (.load false 1 true (V 60)),M 62 0,M 63 6,Q 64 (.arith .sub (V 63) (I 2)),Q 65 (.iaddr 2 (V 62) (V 64)),FA 66 0 65,Q 67 (.load false 1 true (V 66)),Q 68 (.arith .sub (V 61) (V 67)),Q 69 (.arith .sub (V 55) (V 68)),Q 70 (.call .pur 331 [V 69]),Q 71 (.bsl false (.int .u64 0) 1 [(0,V 70)]),Q 72 (.app 1 8 (V 54) (V 71)),M 5 72]
def Ma:List aA:=[M 73 5,M 74 0,M 75 6,Q 76 (.iaddr 2 (V 74) (V 75)),FA 77 1 76,Q 78 (.load false 1 true (V 77)),M 79 0,M 80 6,Q 81 (.arith .sub (V 80) (I 1)),Q 82 (.iaddr 2 (V 79) (V 81)),FA 83 1 82,Q 84 (.load false 1 true (V 83)),Q 85 (.arith .sub (V 78) (V 84)),Q 86 (.call .pur 331 [V 85]),Q 87 (.bsl false (.int .u64 0) 1 [(0,V 86)]),Q 88 (.app 1 8 (V 73) (V 87)),M 5 88]
def Mb:List aA:=[M 33 6,Q 34 (.arith .add (V 33) (I 1)),M 6 34]
@[simp]def aJ8:=aC MT.eq_1<|aC MU.eq_1<|aC MV.eq_1<|aC MW.eq_1<|aC MX.eq_1<|aC MY.eq_1<|aC MZ.eq_1<|aC Ma.eq_1<|aT Mb.eq_1
def Mc:aS:=
 (aB (aB (aD 29 32 MV) (.cond (V 32) .skip (.exit 0))) (aB (.block 1 (aB (aD 35 47 MW) (aB (aB (aD 47 48 MX) (.cond (V 48) (aD 49 54 MY) (aD 54 73 MZ))) (aD 73 89 Ma)))) (aD 33 35 Mb)))
@[simp]def aJ9:=bY Mc.eq_1
def Md:List aA:=[Q 89 (.build [.nils,(.int .i64 0)] []),Q 8 (.alloc false [.nils,(.int .i64 0)]),QN (.store 2 (V 8) (V 89))]
def Me:List aA:=[M 90 9,M 91 5,Q 92 (.len false (V 91)),Q 93 (.arith .lss (V 90) (V 92))]
def Mf:List aA:=[Q 97 (.load true 2 false (V 8)),M 98 5,M 99 9,Q 100 (.iaddr 1 (V 98) (V 99)),Q 101 (.load false 1 true (V 100)),Q 102 (.call .std 332 [V 97,V 101]),M 96 102,EX 103 0 96,EX 104 1 96,QN (.store 2 (V 8) (V 103))]
def Mg:List aA:=[M 94 9,Q 95 (.arith .add (V 94) (I 1)),M 9 95]
@[simp]def aKa:=aC Md.eq_1<|aC Me.eq_1<|aC Mf.eq_1<|aT Mg.eq_1
def Mh:aS:=
 (aB (aB (aD 90 93 Me) (.cond (V 93) .skip (.exit 2))) (aB (.block 3 (aD 96 105 Mf)) (aD 94 96 Mg)))
@[simp]def aKb:=bY Mh.eq_1
def Mi:List aA:=[FA 105 0 8,LD 106 105,M 2 106,Q 3 (.mov (I 0))]
@[simp]def aKc:=aT Mi.eq_1
def BU:aX:=
 ⟨1,[.tmp 2,.tmp 3],
 (aB (af vZ) (aB (aB (aD 10 12 MT) (aB (aD 12 13 AR) (.cond (V 13) (aB (aD 14 15 AS) .ret) .skip))) (aB (aD 15 29 MU) (aB (aB (.region [Q 6 (.mov (I 1))]) (.block 0 (.loop Mc))) (aB (aD 89 90 Md) (aB (aB (.region [Q 9 (.mov (I 0))]) (.block 2 (.loop Mh))) (aB (aD 105 107 Mi) .ret))))))),false⟩
def Mj:List aA:=[Q 3 (.mov (.cst (.int .u32 4294967295)))]
def BV:List aA:=[M 6 4,M 7 0,Q 8 (.len false (V 7)),Q 9 (.arith .lss (V 6) (V 8))]
def Mk:List aA:=[M 12 3,M 13 0,M 14 4,Q 15 (.iaddr 1 (V 13) (V 14)),LD 16 15,Q 17 (.toInt .u32 (V 16)),Q 18 (.arith .xor (V 12) (V 17)),M 3 18]
def Ml:List aA:=[M 19 5,Q 20 (.arith .lss (V 19) (I 8))]
def Mm:List aA:=[M 23 3,Q 24 (.arith .rem (V 23) (.cst (.int .u32 2))),Q 25 (.arith .eql (V 24) (.cst (.int .u32 1)))]
def Mn:List aA:=[M 26 3,Q 27 (.arith .quo (V 26) (.cst (.int .u32 2))),Q 28 (.arith .xor (V 27) (.cst (.int .u32 2197175160))),M 3 28]
def Mo:List aA:=[M 29 3,Q 30 (.arith .quo (V 29) (.cst (.int .u32 2))),M 3 30]
def BW:List aA:=[M 21 5,Q 22 (.arith .add (V 21) (I 1)),M 5 22]
@[simp]def aKd:=aC Mj.eq_1<|aC BV.eq_1<|aC Mk.eq_1<|aC Ml.eq_1<|aC Mm.eq_1<|aC Mn.eq_1<|aC Mo.eq_1<|aT BW.eq_1
def Mp:aS:=
 (aB (aB (aD 19 20 Ml) (.cond (V 20) .skip (.exit 2))) (aB (.block 3 (aB (aD 23 25 Mm) (.cond (V 25) (aD 26 29 Mn) (aD 29 31 Mo)))) (aD 21 23 BW)))
@[simp]def aKe:=bY Mp.eq_1
def BX:List aA:=[M 10 4,Q 11 (.arith .add (V 10) (I 1)),M 4 11]
@[simp]def aKf:=aT BX.eq_1
def Mq:aS:=
 (aB (aB (aD 6 9 BV) (.cond (V 9) .skip (.exit 0))) (aB (.block 1 (aB (aD 12 19 Mk) (aB (.region [Q 5 (.mov (I 0))]) (.block 2 (.loop Mp))))) (aD 10 12 BX)))
@[simp]def aKg:=bY Mq.eq_1
def Mr:List aA:=[M 31 3,Q 32 (.arith .sub (.cst (.int .u32 4294967295)) (V 31)),M 2 32]
@[simp]def aKh:=aT Mr.eq_1
def BY:aX:=
 ⟨1,[.tmp 2],
 (aB (.region [Q 2 (.mov (.cst (.int .u32 0)))]) (aB (af Mj) (aB (aB (.region [Q 4 (.mov (I 0))]) (.block 0 (.loop Mq))) (aB (aD 31 33 Mr) .ret)))),false⟩
def se:List aA:=[Q 1 (.box true (V 0)),Q 2 (.mov bR)]
def Ms:List aA:=[FA 3 0 1,LD 4 3,Q 5 (.arith .leq (I 0) (V 4)),M 6 5,QG (some 7) (.faddr 0 (V 1)) 6 true,QG (some 8) (.load false 1 false (V 7)) 6 true,QG (some 9) (.arith .leq (V 8) (I 1099511627776)) 6 true,Q 10 (.pick (V 6) (V 9) bR),M 11 10,QG (some 12) (.faddr 1 (V 1)) 11 true,QG (some 13) (.load false 1 false (V 12)) 11 true,QG (some 14) (.arith .leq (I (-1152921504606846976)) (V 13)) 11 true,Q 15 (.pick (V 11) (V 14) bR),M 16 15,QG (some 17) (.faddr 1 (V 1)) 16 true,QG (some 18) (.load false 1 false (V 17)) 16 true,QG (some 19) (.arith .leq (V 18) (I 1152921504606846976)) 16 true,Q 20 (.pick (V 16) (V 19) bR),M 2 20]
@[simp]def aKi:=aC se.eq_1<|aT Ms.eq_1
def sg:aX:=
 ⟨1,[.tmp 2],
 (aB (af se) (aB (aD 3 21 Ms) .ret)),false⟩
def Mt:List aA:=[M 8 5,M 9 0,Q 10 (.len false (V 9)),Q 11 (.arith .lss (V 8) (V 10)),M 12 11,QG (some 13) (.mov (V 5)) 12 true,QG (some 14) (.mov (V 1)) 12 true,QG (some 15) (.len false (V 14)) 12 true,QG (some 16) (.arith .lss (V 13) (V 15)) 12 true,Q 17 (.pick (V 12) (V 16) bR)]
def Mu:List aA:=[M 20 0,M 21 5,Q 22 (.iaddr 2 (V 20) (V 21)),FA 23 0 22,Q 24 (.load false 1 true (V 23)),M 25 1,M 26 5,Q 27 (.iaddr 2 (V 25) (V 26)),FA 28 0 27,Q 29 (.load false 1 true (V 28)),Q 30 (.call .pur 216 [V 24,V 29]),M 6 30]
def Mv:List aA:=[M 31 6,Q 32 (.arith .neq (V 31) (I 0))]
def Mw:List aA:=[M 33 6,M 4 33]
def Mx:List aA:=[M 34 0,M 35 5,Q 36 (.iaddr 2 (V 34) (V 35)),FA 37 1 36,Q 38 (.load false 1 true (V 37)),M 39 1,M 40 5,Q 41 (.iaddr 2 (V 39) (V 40)),FA 42 1 41,Q 43 (.load false 1 true (V 42)),Q 44 (.call .pur 216 [V 38,V 43]),M 7 44]
def My:List aA:=[M 45 7,Q 46 (.arith .neq (V 45) (I 0))]
def Mz:List aA:=[M 47 7,M 4 47]
def NA:List aA:=[M 18 5,Q 19 (.arith .add (V 18) (I 1)),M 5 19]
@[simp]def aKj:=aC Mt.eq_1<|aC Mu.eq_1<|aC Mv.eq_1<|aC Mw.eq_1<|aC Mx.eq_1<|aC My.eq_1<|aC Mz.eq_1<|aT NA.eq_1
def BZ:aS:=
 (aB (aB (aD 8 17 Mt) (.cond (V 17) .skip (.exit 0))) (aB (.block 1 (aB (aB (aD 20 31 Mu) (aB (aD 31 32 Mv) (.cond (V 32) (aB (aD 33 34 Mw) .ret) .skip))) (aB (aD 34 45 Mx) (aB (aD 45 46 My) (.cond (V 46) (aB (aD 47 48 Mz) .ret) .skip))))) (aD 18 20 NA)))
@[simp]def aKk:=bY BZ.eq_1
def NB:List aA:=[M 48 0,Q 49 (.len false (V 48)),M 50 1,Q 51 (.len false (V 50)),Q 52 (.arith .lss (V 49) (V 51))]
def NC:List aA:=[M 53 0,Q 54 (.len false (V 53)),M 55 1,Q 56 (.len false (V 55)),Q 57 (.arith .gtr (V 54) (V 56))]
@[simp]def aKl:=aC NB.eq_1<|aT NC.eq_1
def z28:aX:=
 ⟨2,[.tmp 4],
 (aB (.region [Q 4 (.mov (I 0))]) (aB (aB (.region [Q 5 (.mov (I 0))]) (.block 0 (.loop BZ))) (aB (aB (aD 48 52 NB) (.cond (V 52) (aB (.region [Q 4 (.mov (I (-1)))]) .ret) .skip)) (aB (aB (aD 53 57 NC) (.cond (V 57) (aB (.region [Q 4 (.mov (I 1))]) .ret) .skip)) (aB (.region [Q 4 (.mov (I 0))]) .ret))))),false⟩
def ND:List aA:=[FA 3 0 1,LD 4 3,Q 5 (.arith .geq (V 4) (I 0)),M 6 5,QG (some 7) (.faddr 0 (V 1)) 6 true,QG (some 8) (.load false 1 false (V 7)) 6 true,QG (some 9) (.arith .leq (V 8) (I 1099511627776)) 6 true,Q 10 (.pick (V 6) (V 9) bR),M 11 10,QG (some 12) (.faddr 1 (V 1)) 11 true,QG (some 13) (.load false 1 false (V 12)) 11 true,QG (some 14) (.arith .geq (V 13) (I (-1152921504606846976))) 11 true,Q 15 (.pick (V 11) (V 14) bR),M 16 15,QG (some 17) (.faddr 1 (V 1)) 16 true,QG (some 18) (.load false 1 false (V 17)) 16 true,QG (some 19) (.arith .leq (V 18) (I 1152921504606846976)) 16 true,Q 20 (.pick (V 16) (V 19) bR),M 2 20]
@[simp]def aKm:=aT ND.eq_1
def Ba:aX:=
 ⟨1,[.tmp 2],
 (aB (af se) (aB (aD 3 21 ND) .ret)),false⟩
def NE:List aA:=[M 8 0,bj 9 8,FA 10 2 9,LD 11 10]
def NF:List aA:=[M 13 0,bj 14 13,FA 15 0 14,LD 16 15,M 17 0,bj 18 17,FA 19 1 18,LD 20 19,Q 21 (.call .std 110 [V 16,V 20]),M 12 21,EX 22 0 12,EX 23 1 12,EX 24 2 12,M 5 22,M 6 23,M 7 24]
def NG:List aA:=[M 25 0,M 26 7,Q 27 (.arith .neq (V 26) (I 0)),M 28 27,QG (some 29) (.mov (V 5)) 28 false,QG (some 30) (.mov (V 1)) 28 false,QG (some 31) (.arith .gtr (V 29) (V 30)) 28 false,Q 32 (.pick (V 28) ck (V 31)),bj 33 25,FA 34 2 33,QN (.store 1 (V 34) (V 32))]
def NH:List aA:=[M 35 0,bj 36 35,FA 37 2 36,LD 38 37]
def NI:List aA:=[M 39 0,M 40 6,bj 41 39,FA 42 1 41,QN (.store 1 (V 42) (V 40))]
def NJ:List aA:=[M 43 5,M 4 43]
@[simp]def aKn:=aC NE.eq_1<|aC NF.eq_1<|aC NG.eq_1<|aC NH.eq_1<|aC NI.eq_1<|aT NJ.eq_1
def z8:aX:=
 ⟨2,[.tmp 4],
 (aB (.region [Q 4 (.mov (I 0))]) (aB (aB (aD 8 11 NE) (.cond (V 11) (aB (.region [Q 4 (.mov (I 0))]) .ret) .skip)) (aB (aD 12 25 NF) (aB (aB (aD 25 35 NG) (aB (aD 35 38 NH) (.cond (V 38) (aB (.region [Q 4 (.mov (I 0))]) .ret) .skip))) (aB (aD 39 43 NI) (aB (aD 43 44 NJ) .ret)))))),false⟩
def vy:List aA:=[Q 2 (.mov (.cst (.str [])))]
def NL:List aA:=[M 6 0,bj 7 6,FA 8 2 7,LD 9 8]
def NM:List aA:=[M 11 0,bj 12 11,FA 13 0 12,LD 14 13,M 15 0,bj 16 15,FA 17 1 16,LD 18 17,Q 19 (.call .std 111 [V 14,V 18]),M 10 19,EX 20 0 10,EX 21 1 10,EX 22 2 10,M 3 20,M 4 21,M 5 22]
def NN:List aA:=[M 23 0,M 24 5,Q 25 (.arith .neq (V 24) (I 0)),M 26 25,QG (some 27) (.mov (V 3)) 26 false,QG (some 28) (.len true (V 27)) 26 false,QG (some 29) (.arith .gtr (V 28) (I 64)) 26 false,Q 30 (.pick (V 26) ck (V 29)),bj 31 23,FA 32 2 31,QN (.store 1 (V 32) (V 30))]
def NO:List aA:=[M 33 0,bj 34 33,FA 35 2 34,LD 36 35]
def NP:List aA:=[M 37 0,M 38 4,bj 39 37,FA 40 1 39,QN (.store 1 (V 40) (V 38))]
def NQ:List aA:=[M 41 3,M 2 41]
@[simp]def aKo:=aC vy.eq_1<|aC NL.eq_1<|aC NM.eq_1<|aC NN.eq_1<|aC NO.eq_1<|aC NP.eq_1<|aT NQ.eq_1
def oO:aX:=
 ⟨1,[.tmp 2],
 (aB (af vy) (aB (aB (aD 6 9 NL) (.cond (V 9) (aB (af vy) .ret) .skip)) (aB (aD 10 23 NM) (aB (aB (aD 23 33 NN) (aB (aD 33 36 NO) (.cond (V 36) (aB (af vy) .ret) .skip))) (aB (aD 37 41 NP) (aB (aD 41 42 NQ) .ret)))))),false⟩
def Bb:List aA:=[Q 2 (.mov (I 0))]
def Bc:List aA:=[M 7 0,bj 8 7,FA 9 0 8,LD 10 9,M 11 0,bj 12 11,FA 13 1 12,LD 14 13,Q 15 (.call .std 110 [V 10,V 14]),M 6 15,EX 16 0 6,EX 17 1 6,EX 18 2 6,M 3 16,M 4 17,M 5 18]
def Bd:List aA:=[M 23 0,M 24 4,bj 25 23,FA 26 1 25,QN (.store 1 (V 26) (V 24))]
def Be:List aA:=[M 27 3,M 2 27]
def NR:List aA:=[Q 5 (.emp0),M 6 0,Q 7 (.gapp 1 1 (V 5) (V 6)),M 2 7]
@[simp]def aKp:=aC Bb.eq_1<|aC Bc.eq_1<|aC Bd.eq_1<|aC Be.eq_1<|aT NR.eq_1
def oP:aX:=
 ⟨1,[.tmp 2],
 (aB (.region [Q 2 (.mov (.cst .nils))]) (aB (aB (aD 3 4 BL) (.cond (V 4) (aB (.region [Q 2 (.mov (.cst .nils))]) .ret) .skip)) (aB (aD 5 8 NR) .ret))),false⟩
def NS:List aA:=[Q 2 (.mov (I 0)),Q 3 (.mov (I 0)),Q 4 (.mov (I 0)),Q 5 (.mov (I 0))]
def NT:List aA:=[M 9 0,Q 10 (.call .std 265 [V 9]),M 8 10,EX 11 0 8,EX 12 1 8,M 6 11,M 7 12]
def NU:List aA:=[M 13 7,Q 14 (.arith .neq (V 13) (I 0))]
def NV:List aA:=[M 15 7,Q 2 (.mov (I 0)),Q 3 (.mov (I 0)),Q 4 (.mov (I 0)),M 5 15]
def NW:List aA:=[M 16 6,Q 17 (.len false (V 16)),M 18 6,Q 19 (.iaddr 2 (V 18) (I 0)),FA 20 0 19,Q 21 (.load false 1 true (V 20)),M 22 6,M 23 6,Q 24 (.len false (V 23)),Q 25 (.arith .sub (V 24) (I 1)),Q 26 (.iaddr 2 (V 22) (V 25)),FA 27 0 26,Q 28 (.load false 1 true (V 27)),M 2 17,M 3 21,M 4 28,Q 5 (.mov (I 0))]
@[simp]def aKq:=aC NS.eq_1<|aC NT.eq_1<|aC NU.eq_1<|aC NV.eq_1<|aT NW.eq_1
def qF:aX:=
 ⟨1,[.tmp 2,.tmp 3,.tmp 4,.tmp 5],
 (aB (af NS) (aB (aD 8 13 NT) (aB (aB (aD 13 14 NU) (.cond (V 14) (aB (aD 15 16 NV) .ret) .skip)) (aB (aD 16 29 NW) .ret)))),false⟩
def NX:List aA:=[M 7 0,Q 8 (.eqn false .p (V 7)),M 6 8]
def NY:List aA:=[M 10 1,Q 11 (.arith .lss (V 10) (I 0)),M 12 11,QG (some 13) (.mov (V 1)) 12 false,QG (some 14) (.mov (V 0)) 12 false,QG (some 15) (.nilck (V 14)) 12 false,QG (some 16) (.faddr 0 (V 15)) 12 false,QG (some 17) (.load false 1 false (V 16)) 12 false,QG (some 18) (.len false (V 17)) 12 false,QG (some 19) (.arith .geq (V 13) (V 18)) 12 false,Q 20 (.pick (V 12) ck (V 19)),M 9 20]
def NZ:List aA:=[Q 4 (.mov (.cst .nils)),Q 5 (.mov (I 9))]
def Na:List aA:=[M 21 0,bj 22 21,FA 23 0 22,LD 24 23,M 25 1,Q 26 (.iaddr 1 (V 24) (V 25)),LD 27 26,Q 28 (.call .std 130 [V 27]),M 4 28,Q 5 (.mov (I 0))]
@[simp]def aKr:=aC NX.eq_1<|aC NY.eq_1<|aC NZ.eq_1<|aT Na.eq_1
def z7:aX:=
 ⟨2,[.tmp 4,.tmp 5],
 (aB (af sM) (aB (.block 0 (aB (aD 7 9 NX) (.cond (V 6) (aB (af Aw) .ret) (aB (aD 10 21 NY) (.cond (V 9) (aB (af NZ) .ret) .skip))))) (aB (aD 21 29 Na) .ret))),false⟩
def Bf:List aA:=[Q 2 (.mov (I 0))]
def vz:List aA:=[M 6 3,Q 7 (.arith .gtr (V 6) (.cst (.int .u64 1099511627776)))]
def Bg:List aA:=[M 10 3,Q 11 (.toInt .i64 (V 10)),M 2 11]
def Bh:List aA:=[Q 4 (.mov (I 0))]
def sh:List aA:=[M 9 5,M 10 1,Q 11 (.un .neg (V 10)),Q 12 (.arith .lss (V 9) (V 11)),M 13 12,QG (some 14) (.mov (V 5)) 13 false,QG (some 15) (.mov (V 1)) 13 false,QG (some 16) (.arith .gtr (V 14) (V 15)) 13 false,Q 17 (.pick (V 13) ck (V 16))]
def Bi:List aA:=[M 20 5,M 4 20]
def Bj:List aA:=[Q 2 (.mov (.cst (.int .u64 0)))]
def Bk:List aA:=[M 7 0,bj 8 7,FA 9 0 8,Q 10 (.load true 2 false (V 9)),M 11 0,bj 12 11,FA 13 2 12,LD 14 13,Q 15 (.call .std 380 [V 10,V 14]),M 6 15,EX 16 0 6,EX 17 1 6,EX 18 2 6,M 3 16,M 4 17,M 5 18]
def wB:List aA:=[M 19 5,Q 20 (.arith .neq (V 19) (I 0))]
def Bl:List aA:=[M 23 0,M 24 4,bj 25 23,FA 26 2 25,QN (.store 1 (V 26) (V 24))]
def Bm:List aA:=[M 27 3,M 2 27]
def Nb:List aA:=[M 5 0,Q 6 (.len true (V 5)),Q 7 (.mov (I 0))]
def Nc:List aA:=[M 9 7,M 3 9]
def Nd:List aA:=[M 10 0,M 11 3,Q 12 (.idxs (V 10) (V 11)),M 4 12]
def Nf:List aA:=[M 14 4,Q 15 (.arith .geq (V 14) (.cst (.int .u8 97))),M 16 15,QG (some 17) (.mov (V 4)) 16 true,QG (some 18) (.arith .leq (V 17) (.cst (.int .u8 122))) 16 true,Q 19 (.pick (V 16) (V 18) bR),M 13 19]
def Ng:List aA:=[M 20 4,Q 21 (.arith .geq (V 20) (.cst (.int .u8 65))),M 22 21,QG (some 23) (.mov (V 4)) 22 true,QG (some 24) (.arith .leq (V 23) (.cst (.int .u8 90))) 22 true,Q 25 (.pick (V 22) (V 24) bR),M 13 25]
def Nh:List aA:=[M 26 4,Q 27 (.arith .eql (V 26) (.cst (.int .u8 95))),M 13 27]
def Ni:List aA:=[M 29 3,Q 30 (.arith .gtr (V 29) (I 0)),M 31 30,QG (some 32) (.mov (V 4)) 31 true,QG (some 33) (.arith .geq (V 32) (.cst (.int .u8 48))) 31 true,Q 34 (.pick (V 31) (V 33) bR),M 35 34,QG (some 36) (.mov (V 4)) 35 true,QG (some 37) (.arith .leq (V 36) (.cst (.int .u8 57))) 35 true,Q 38 (.pick (V 35) (V 37) bR),M 28 38]
def Nj:List aA:=[Q 39 (.arith .add (V 7) (I 1)),M 7 39]
@[simp]def aKs:=aC Bf.eq_1<|aC vz.eq_1<|aC Bg.eq_1<|aC Bh.eq_1<|aC sh.eq_1<|aC Bi.eq_1<|aC Bj.eq_1<|aC Bk.eq_1<|aC wB.eq_1<|aC Bl.eq_1<|aC Bm.eq_1<|aC Nb.eq_1<|aC Nc.eq_1<|aC Nd.eq_1<|aC Nf.eq_1<|aC Ng.eq_1<|aC Nh.eq_1<|aC Ni.eq_1<|aT Nj.eq_1
def wC:aS:=
 (aB (.region [Q 8 (.arith .lss (V 7) (V 6))]) (aB (.cond (V 8) .skip (.exit 0)) (aB (.block 1 (aB (aD 9 10 Nc) (aB (aD 10 13 Nd) (.block 2 (aB (aB (aD 14 20 Nf) (.cond (V 13) .skip (aB (aD 20 26 Ng) (.cond (V 13) .skip (aD 26 28 Nh))))) (.cond (V 13) .skip (aB (aD 29 39 Ni) (.cond (V 28) .skip (aB (.region [Q 2 (.mov bR)]) .ret))))))))) (aD 39 40 Nj))))
@[simp]def aKt:=bY wC.eq_1
def Nk:List aA:=[M 40 0,Q 41 (.arith .neq (V 40) (.cst (.str []))),M 42 41,QG (some 43) (.mov (V 0)) 42 true,QG (some 44) (.len true (V 43)) 42 true,QG (some 45) (.arith .leq (V 44) (I 32)) 42 true,Q 46 (.pick (V 42) (V 45) bR),M 2 46]
@[simp]def aKu:=aT Nk.eq_1
def z57:aX:=
 ⟨1,[.tmp 2],
 (aB (.region [Q 2 (.mov bR)]) (aB (aB (aD 5 6 Nb) (.block 0 (.loop wC))) (aB (aD 40 47 Nk) .ret))),false⟩
def Nl:List aA:=[M 11 0,Q 12 (.len false (V 11)),Q 13 (.mov (I 0))]
def Nm:List aA:=[Q 14 (.arith .lss (V 13) (V 12))]
def Nn:List aA:=[M 15 13,Q 16 (.iaddr 2 (V 11) (V 13)),Q 17 (.load true 2 false (V 16)),Q 8 (.alloc false [(.str []),(.str [])]),M 7 15,QN (.store 2 (V 8) (V 17))]
def No:List aA:=[M 18 7,M 19 1,Q 20 (.len false (V 19)),Q 21 (.arith .geq (V 18) (V 20))]
def Np:List aA:=[M 22 1,M 23 7,Q 24 (.iaddr 2 (V 22) (V 23)),Q 25 (.load true 2 false (V 24)),Q 9 (.alloc false [(.str []),(.str [])]),QN (.store 2 (V 9) (V 25))]
def Nq:List aA:=[M 26 2,Q 27 (.load true 2 false (V 8)),Q 28 (.load true 2 false (V 9)),Q 29 (.callv .std (V 26) [V 27,V 28]),M 10 29]
def Nr:List aA:=[M 30 10,Q 31 (.arith .neq (V 30) (I 0))]
def Ns:List aA:=[M 32 10,M 6 32]
def Nt:List aA:=[Q 33 (.arith .add (V 13) (I 1)),M 13 33]
@[simp]def aKv:=aC Nl.eq_1<|aC Nm.eq_1<|aC Nn.eq_1<|aC No.eq_1<|aC Np.eq_1<|aC Nq.eq_1<|aC Nr.eq_1<|aC Ns.eq_1<|aT Nt.eq_1
def Bn:aS:=
 (aB (af Nm) (aB (.cond (V 14) .skip (.exit 0)) (aB (.block 1 (aB (aD 15 18 Nn) (aB (aB (aD 18 21 No) (.cond (V 21) (aB (.region [Q 6 (.mov (I 1))]) .ret) .skip)) (aB (aD 22 26 Np) (aB (aD 26 30 Nq) (aB (aD 30 31 Nr) (.cond (V 31) (aB (aD 32 33 Ns) .ret) .skip))))))) (aD 33 34 Nt))))
@[simp]def aKw:=bY Bn.eq_1
def Nu:List aA:=[M 34 0,Q 35 (.len false (V 34)),M 36 1,Q 37 (.len false (V 36)),Q 38 (.arith .lss (V 35) (V 37))]
@[simp]def aKx:=aT Nu.eq_1
def z0:aX:=
 ⟨3,[.tmp 6],
 (aB (.region [Q 6 (.mov (I 0))]) (aB (aB (af Nl) (.block 0 (.loop Bn))) (aB (aB (aD 34 38 Nu) (.cond (V 38) (aB (.region [Q 6 (.mov (I (-1)))]) .ret) .skip)) (aB (.region [Q 6 (.mov (I 0))]) .ret)))),false⟩
def Nv:List aA:=[Q 2 (.box true (V 0)),Q 3 (.box true (V 1)),Q 4 (.mov (I 0))]
def Nw:List aA:=[FA 5 0 2,Q 6 (.load false 1 true (V 5)),FA 7 0 3,Q 8 (.load false 1 true (V 7)),Q 9 (.call .pur 106 [V 6,V 8]),FA 10 1 2,Q 11 (.load false 1 true (V 10)),FA 12 1 3,Q 13 (.load false 1 true (V 12)),Q 14 (.call .pur 106 [V 11,V 13]),Q 15 (.bsl false (.int .i64 0) 2 [(0,V 9),(1,V 14)]),Q 16 (.call .std 105 [V 15]),M 4 16]
@[simp]def aKy:=aC Nv.eq_1<|aT Nw.eq_1
def si:aX:=
 ⟨2,[.tmp 4],
 (aB (af Nv) (aB (aD 5 17 Nw) .ret)),false⟩
def Nx:List aA:=[Q 10 (.iaddr 1 (V 6) (V 8)),LD 11 10,M 5 11]
def Ny:List aA:=[M 12 5,M 13 3,Q 14 (.arith .neq (V 12) (V 13))]
def Nz:List aA:=[M 15 5,M 2 15]
def OA:List aA:=[Q 16 (.arith .add (V 8) (I 1)),M 8 16]
@[simp]def aKz:=aC Nx.eq_1<|aC Ny.eq_1<|aC Nz.eq_1<|aT OA.eq_1
def OB:aS:=
 (aB (.region [Q 9 (.arith .lss (V 8) (V 7))]) (aB (.cond (V 9) .skip (.exit 0)) (aB (.block 1 (aB (aD 10 12 Nx) (aB (aD 12 14 Ny) (.cond (V 14) (aB (aD 15 16 Nz) .ret) .skip)))) (aD 16 17 OA))))
@[simp]def aKA:=bY OB.eq_1
def OC:List aA:=[M 17 3,M 2 17]
@[simp]def aKB:=aT OC.eq_1
def sj:aX:=
 ⟨1,[.tmp 2],
 (aB (.region [Q 2 (.mov (I 0))]) (aB (.region [Q 3 (.mov (I 0))]) (aB (aB (af AE) (.block 0 (.loop OB))) (aB (aD 17 18 OC) .ret)))),false⟩
def OD:List aA:=[M 7 0,Q 8 (.call .pur 217 [V 7]),M 5 8]
def OE:List aA:=[M 9 1,Q 10 (.call .pur 217 [V 9]),M 6 10]
def OF:List aA:=[M 14 0,M 15 1,Q 16 (.arith .lss (V 14) (V 15))]
def OG:List aA:=[M 17 0,M 18 1,Q 19 (.arith .gtr (V 17) (V 18))]
@[simp]def aKC:=aC OD.eq_1<|aC OE.eq_1<|aC OF.eq_1<|aT OG.eq_1
def z6:aX:=
 ⟨2,[.tmp 4],
 (aB (.region [Q 4 (.mov (I 0))]) (aB (aD 7 9 OD) (aB (aD 9 11 OE) (aB (aB (.region [M 11 5]) (.cond (V 11) (aB (aB (.region [M 12 6]) (.cond (V 12) (aB (.region [Q 4 (.mov (I 0))]) .ret) .skip)) (aB (.region [Q 4 (.mov (I (-1)))]) .ret)) .skip)) (aB (aB (.region [M 13 6]) (.cond (V 13) (aB (.region [Q 4 (.mov (I 1))]) .ret) .skip)) (aB (aB (aD 14 16 OF) (.cond (V 16) (aB (.region [Q 4 (.mov (I (-1)))]) .ret) .skip)) (aB (aB (aD 17 19 OG) (.cond (V 19) (aB (.region [Q 4 (.mov (I 1))]) .ret) .skip)) (aB (.region [Q 4 (.mov (I 0))]) .ret)))))))),false⟩
def OH:List aA:=[Q 1 (.box false (V 0)),Q 2 (.mov (.cst .nilf))]
def OI:List aA:=[Q 3 (.mkfn 362 [V 1]),M 2 3]
@[simp]def aKD:=aC OH.eq_1<|aT OI.eq_1
def z27:aX:=
 ⟨1,[.tmp 2],
 (aB (af OH) (aB (aD 3 4 OI) .ret)),false⟩
def Bo:List aA:=[Q 2 (.box true (V 0)),Q 4 (.alloc false [.nils,(.int .i64 0)]),Q 5 (.mov (I 0))]
def OJ:List aA:=[Q 9 (.load true 2 false (V 2)),Q 10 (.call .std 404 [V 9]),Q 11 (.un .not (V 10))]
def OK:List aA:=[Q 12 (.build [.nils,(.int .i64 0)] []),QN (.store 2 (V 4) (V 12)),Q 5 (.mov (I 2))]
def OL:List aA:=[Q 14 (.load true 2 false (V 2)),Q 15 (.call .std 405 [V 14]),M 13 15,EX 16 0 13,EX 17 1 13,M 6 16,M 7 17]
def OM:List aA:=[M 18 1,Q 19 (.call .pur 373 [V 18]),M 8 19]
def ON:List aA:=[M 20 6,M 21 8,Q 22 (.toInt .u64 (V 21)),Q 23 (.callv .std (V 20) [V 22,(I 7)])]
def OO:List aA:=[M 24 6,M 25 1,M 26 8,Q 27 (.callv .std (V 24) [V 25,V 26])]
def OP:List aA:=[M 28 7,Q 29 (.callv .std (V 28) []),QN (.store 2 (V 4) (V 29)),Q 5 (.mov (I 0))]
@[simp]def aKE:=aC Bo.eq_1<|aC OJ.eq_1<|aC OK.eq_1<|aC OL.eq_1<|aC OM.eq_1<|aC ON.eq_1<|aC OO.eq_1<|aT OP.eq_1
def z36:aX:=
 ⟨2,[.cell 4 true 2,.tmp 5],
 (aB (af Bo) (aB (aB (aD 9 11 OJ) (.cond (V 11) (aB (aD 12 13 OK) .ret) .skip)) (aB (aD 13 18 OL) (aB (aD 18 20 OM) (aB (aD 20 24 ON) (aB (aD 24 28 OO) (aB (aD 28 30 OP) .ret))))))),false⟩
def OQ:List aA:=[M 3 0,Q 4 (.arith .shl (V 3) (.cst (.int .u64 1))),Q 5 (.toInt .u64 (V 4)),M 6 0,Q 7 (.arith .shr (V 6) (.cst (.int .u64 63))),Q 8 (.toInt .u64 (V 7)),Q 9 (.arith .xor (V 5) (V 8)),M 2 9]
@[simp]def aKF:=aT OQ.eq_1
def sk:aX:=
 ⟨1,[.tmp 2],
 (aB (.region [Q 2 (.mov (.cst (.int .u64 0)))]) (aB (aD 3 10 OQ) .ret)),false⟩
def OR:List aA:=[LD 2 0,Q 3 (.arith .and (V 2) (.cst (.int .u32 1))),M 1 3]
def OS:List aA:=[LD 4 0,Q 5 (.arith .shr (V 4) (.cst (.int .u64 1))),M 6 1,Q 7 (.un .neg (V 6)),Q 8 (.arith .and (.cst (.int .u32 2197175160)) (V 7)),Q 9 (.arith .xor (V 5) (V 8)),QN (.store 1 (V 0) (V 9))]
@[simp]def aKG:=aC OR.eq_1<|aT OS.eq_1
def sm:aX:=
 ⟨1,[],
 (aB (aD 2 4 OR) (aD 4 10 OS)),false⟩
def OT:List aA:=[M 6 0,Q 7 (.call .std 139 [V 6]),M 3 7]
def OU:List aA:=[M 8 4,M 9 0,Q 10 (.len false (V 9)),Q 11 (.arith .lss (V 8) (V 10))]
def OV:List aA:=[M 14 5,M 15 0,M 16 4,Q 17 (.iaddr 1 (V 15) (V 16)),LD 18 17,Q 19 (.len false (V 18)),Q 20 (.arith .lss (V 14) (V 19))]
def OW:List aA:=[M 23 3,M 24 0,M 25 4,Q 26 (.iaddr 1 (V 24) (V 25)),LD 27 26,M 28 5,Q 29 (.iaddr 2 (V 27) (V 28)),FA 30 1 29,LD 31 30,Q 32 (.call .std 238 [V 23,V 31]),M 3 32]
@[simp]def aKH:=aC OT.eq_1<|aC OU.eq_1<|aC OV.eq_1<|aT OW.eq_1
def OX:aS:=
 (aB (aB (aD 14 20 OV) (.cond (V 20) .skip (.exit 2))) (aB (.block 3 (aD 23 33 OW)) (aD 21 23 BW)))
@[simp]def aKI:=bY OX.eq_1
def OY:List aA:=[M 12 4,Q 13 (.arith .add (V 12) (I 1)),M 4 13]
@[simp]def aKJ:=aT OY.eq_1
def OZ:aS:=
 (aB (aB (aD 8 11 OU) (.cond (V 11) .skip (.exit 0))) (aB (.block 1 (aB (.region [Q 5 (.mov (I 0))]) (.block 2 (.loop OX)))) (aD 12 14 OY)))
@[simp]def aKK:=bY OZ.eq_1
def Oa:List aA:=[M 33 3,M 2 33]
@[simp]def aKL:=aT Oa.eq_1
def Bp:aX:=
 ⟨1,[.tmp 2],
 (aB (.region [Q 2 (.mov (.cst .nils))]) (aB (aD 6 8 OT) (aB (aB (.region [Q 4 (.mov (I 0))]) (.block 0 (.loop OZ))) (aB (aD 33 34 Oa) .ret)))),false⟩
def Ob:List aA:=[M 3 0,Q 4 (.len true (V 3)),Q 5 (.call .std 219 [V 4]),M 6 0,Q 7 (.app 1 1 (V 5) (V 6)),M 2 7]
@[simp]def aKM:=aT Ob.eq_1
def Bq:aX:=
 ⟨1,[.tmp 2],
 (aB (.region [Q 2 (.mov (.cst .nils))]) (aB (aD 3 8 Ob) .ret)),false⟩
def Oc:List aA:=[M 6 5,M 7 0,Q 8 (.len false (V 7)),Q 9 (.arith .lss (V 6) (V 8))]
def Od:List aA:=[M 12 0,M 13 5,Q 14 (.iaddr 1 (V 12) (V 13)),LD 15 14,M 16 1,Q 17 (.arith .eql (V 15) (V 16))]
def Oe:List aA:=[M 18 5,M 4 18]
def Og:List aA:=[M 10 5,Q 11 (.arith .add (V 10) (I 1)),M 5 11]
@[simp]def aKN:=aC Oc.eq_1<|aC Od.eq_1<|aC Oe.eq_1<|aT Og.eq_1
def Oh:aS:=
 (aB (aB (aD 6 9 Oc) (.cond (V 9) .skip (.exit 0))) (aB (.block 1 (aB (aD 12 17 Od) (.cond (V 17) (aB (aD 18 19 Oe) .ret) .skip))) (aD 10 12 Og)))
@[simp]def aKO:=bY Oh.eq_1
def z46:aX:=
 ⟨2,[.tmp 4],
 (aB (.region [Q 4 (.mov (I 0))]) (aB (aB (.region [Q 5 (.mov (I 0))]) (.block 0 (.loop Oh))) (aB (.region [Q 4 (.mov (I 0))]) .ret))),false⟩
def Oi:List aA:=[M 3 0,Q 4 (.len false (V 3)),Q 5 (.arith .eql (V 4) (I 0)),M 6 5,QG (some 7) (.mov (V 0)) 6 false,QG (some 8) (.len false (V 7)) 6 false,QG (some 9) (.arith .gtr (V 8) (I 120)) 6 false,Q 10 (.pick (V 6) ck (V 9))]
def Oj:List aA:=[M 11 0,Q 12 (.call .std 257 [V 11]),M 2 12]
@[simp]def aKP:=aC Oi.eq_1<|aT Oj.eq_1
def z41:aX:=
 ⟨1,[.tmp 2],
 (aB (.region [Q 2 (.mov (I 0))]) (aB (aB (aD 3 10 Oi) (.cond (V 10) (aB (.region [Q 2 (.mov (I 2))]) .ret) .skip)) (aB (aD 11 13 Oj) .ret))),false⟩
def Ol:List aA:=[M 3 0,Q 4 (.arith .geq (V 3) (I 0))]
def Om:List aA:=[M 5 0,Q 6 (.toInt .u64 (V 5)),Q 7 (.arith .mul (.cst (.int .u64 2)) (V 6)),M 2 7]
def On:List aA:=[M 8 0,Q 9 (.arith .add (V 8) (I 1)),Q 10 (.un .neg (V 9)),Q 11 (.toInt .u64 (V 10)),Q 12 (.arith .mul (.cst (.int .u64 2)) (V 11)),Q 13 (.arith .add (V 12) (.cst (.int .u64 1))),M 2 13]
@[simp]def aKQ:=aC Ol.eq_1<|aC Om.eq_1<|aT On.eq_1
def z64:aX:=
 ⟨1,[.tmp 2],
 (aB (.region [Q 2 (.mov (.cst (.int .u64 0)))]) (aB (aB (aD 3 4 Ol) (.cond (V 4) (aB (aD 5 8 Om) .ret) .skip)) (aB (aD 8 14 On) .ret))),false⟩
def Oo:List aA:=[M 9 1,Q 10 (.call .pur 375 [V 9]),M 6 10]
def Oq:List aA:=[Q 12 (.load true 2 false (V 2)),M 13 6,Q 14 (.toInt .u64 (V 13)),Q 15 (.call .std 376 [V 12,V 14,(I 7)]),M 11 15,EX 16 0 11,EX 17 1 11,Q 7 (.alloc false [.nils,(.int .i64 0)]),QN (.store 2 (V 7) (V 16)),M 8 17]
def Ot:List aA:=[M 18 8,Q 19 (.arith .neq (V 18) (I 0))]
def Ou:List aA:=[Q 20 (.build [.nils,(.int .i64 0)] []),M 21 8,QN (.store 2 (V 4) (V 20)),M 5 21]
def Ov:List aA:=[Q 22 (.load true 2 false (V 7)),M 23 1,M 24 6,Q 25 (.call .std 376 [V 22,V 23,V 24]),EX 26 0 25,EX 27 1 25,QN (.store 2 (V 4) (V 26)),M 5 27]
@[simp]def aKR:=aC Oo.eq_1<|aC Oq.eq_1<|aC Ot.eq_1<|aC Ou.eq_1<|aT Ov.eq_1
def Br:aX:=
 ⟨2,[.cell 4 true 2,.tmp 5],
 (aB (af Bo) (aB (aD 9 11 Oo) (aB (aD 11 18 Oq) (aB (aB (aD 18 19 Ot) (.cond (V 19) (aB (aD 20 22 Ou) .ret) .skip)) (aB (aD 22 28 Ov) .ret))))),false⟩
def Ow:List aA:=[M 5 0,M 6 1,Q 7 (.arith .lss (V 5) (V 6))]
def Ox:List aA:=[M 8 0,M 9 1,Q 10 (.arith .gtr (V 8) (V 9))]
@[simp]def aKS:=aC Ow.eq_1<|aT Ox.eq_1
def sn:aX:=
 ⟨2,[.tmp 4],
 (aB (.region [Q 4 (.mov (I 0))]) (aB (aB (aD 5 7 Ow) (.cond (V 7) (aB (.region [Q 4 (.mov (I (-1)))]) .ret) .skip)) (aB (aB (aD 8 10 Ox) (.cond (V 10) (aB (.region [Q 4 (.mov (I 1))]) .ret) .skip)) (aB (.region [Q 4 (.mov (I 0))]) .ret)))),false⟩
def Oy:List aA:=[Q 4 (.mov (I 0)),Q 5 (.mov (I 0)),Q 6 (.mov (I 0))]
def Oz:List aA:=[M 10 1,Q 11 (.arith .lss (V 10) (I 0)),M 12 11,QG (some 13) (.mov (V 1)) 12 false,QG (some 14) (.mov (V 0)) 12 false,QG (some 15) (.len false (V 14)) 12 false,QG (some 16) (.arith .gtr (V 13) (V 15)) 12 false,Q 17 (.pick (V 12) ck (V 16))]
def PA:List aA:=[Q 4 (.mov (I 0)),Q 5 (.mov (I 0)),Q 6 (.mov (I 2))]
def PB:List aA:=[M 18 0,M 19 1,Q 20 (.slc 1 (some (V 19)) none (V 18)),Q 21 (.len false (V 20)),Q 22 (.mov (I 0))]
def PC:List aA:=[Q 23 (.arith .lss (V 22) (V 21))]
def PD:List aA:=[M 24 22,Q 25 (.iaddr 1 (V 20) (V 22)),LD 26 25,M 8 24,M 9 26]
def PE:List aA:=[M 27 8,Q 28 (.arith .eql (V 27) (I 8)),M 29 28,QG (some 30) (.mov (V 9)) 29 true,QG (some 31) (.arith .gtr (V 30) (.cst (.int .u8 127))) 29 true,Q 32 (.pick (V 29) (V 31) bR),M 33 32,QG (some 34) (.mov (V 8)) 33 false,QG (some 35) (.arith .gtr (V 34) (I 0)) 33 false,QG (some 36) (.mov (V 35)) 33 false,QG (some 37) (.mov (V 9)) 36 true,QG (some 38) (.arith .eql (V 37) (.cst (.int .u8 0))) 36 true,QG (some 39) (.pick (V 36) (V 38) bR) 33 false,Q 40 (.pick (V 33) ck (V 39))]
def PF:List aA:=[Q 4 (.mov (I 0)),Q 5 (.mov (I 0)),Q 6 (.mov (I 5))]
def PG:List aA:=[M 41 7,M 42 9,Q 43 (.arith .and (V 42) (.cst (.int .u8 127))),Q 44 (.toInt .u64 (V 43)),M 45 8,Q 46 (.arith .mul (I 7) (V 45)),Q 47 (.arith .shl (V 44) (V 46)),Q 48 (.arith .or (V 41) (V 47)),M 7 48]
def PH:List aA:=[M 49 9,Q 50 (.arith .lss (V 49) (.cst (.int .u8 128)))]
def PI:List aA:=[M 51 7,Q 52 (.toInt .i64 (V 51)),M 53 1,M 54 8,Q 55 (.arith .add (V 53) (V 54)),Q 56 (.arith .add (V 55) (I 1)),M 4 52,M 5 56,Q 6 (.mov (I 0))]
def PJ:List aA:=[Q 57 (.arith .add (V 22) (I 1)),M 22 57]
@[simp]def aKT:=aC Oy.eq_1<|aC Oz.eq_1<|aC PA.eq_1<|aC PB.eq_1<|aC PC.eq_1<|aC PD.eq_1<|aC PE.eq_1<|aC PF.eq_1<|aC PG.eq_1<|aC PH.eq_1<|aC PI.eq_1<|aT PJ.eq_1
def Bs:aS:=
 (aB (af PC) (aB (.cond (V 23) .skip (.exit 0)) (aB (.block 1 (aB (aD 24 27 PD) (aB (aB (aD 27 40 PE) (.cond (V 40) (aB (af PF) .ret) .skip)) (aB (aD 41 49 PG) (aB (aD 49 50 PH) (.cond (V 50) (aB (aD 51 57 PI) .ret) .skip)))))) (aD 57 58 PJ))))
@[simp]def aKU:=bY Bs.eq_1
def PK:List aA:=[Q 4 (.mov (I 0)),Q 5 (.mov (I 0)),Q 6 (.mov (I 4))]
@[simp]def aKV:=aT PK.eq_1
def so:aX:=
 ⟨2,[.tmp 4,.tmp 5,.tmp 6],
 (aB (af Oy) (aB (aB (aD 10 17 Oz) (.cond (V 17) (aB (af PA) .ret) .skip)) (aB (.region [Q 7 (.mov (.cst (.int .u64 0)))]) (aB (aB (aD 18 20 PB) (.block 0 (.loop Bs))) (aB (af PK) .ret))))),false⟩
def PL:List aA:=[Q 4 (.mov (.cst (.str []))),Q 5 (.mov (I 0)),Q 6 (.mov (I 0))]
def PM:List aA:=[M 11 0,M 12 1,Q 13 (.call .std 110 [V 11,V 12]),M 10 13,EX 14 0 10,EX 15 1 10,EX 16 2 10,M 7 14,M 8 15,M 9 16]
def PN:List aA:=[M 18 9,Q 19 (.arith .neq (V 18) (I 0)),M 17 19]
def PO:List aA:=[M 20 9,Q 4 (.mov (.cst (.str []))),Q 5 (.mov (I 0)),M 6 20]
def PQ:List aA:=[M 22 7,Q 23 (.arith .gtr (V 22) (I 65535)),M 21 23]
def PR:List aA:=[Q 4 (.mov (.cst (.str []))),Q 5 (.mov (I 0)),Q 6 (.mov (I 3))]
def PS:List aA:=[M 25 7,M 26 0,Q 27 (.len false (V 26)),M 28 8,Q 29 (.arith .sub (V 27) (V 28)),Q 30 (.arith .gtr (V 25) (V 29)),M 24 30]
def PT:List aA:=[Q 4 (.mov (.cst (.str []))),Q 5 (.mov (I 0)),Q 6 (.mov (I 4))]
def PU:List aA:=[M 31 0,M 32 8,M 33 8,M 34 7,Q 35 (.arith .add (V 33) (V 34)),Q 36 (.slc 1 (some (V 32)) (some (V 35)) (V 31)),Q 37 (.toStr (V 36)),M 38 8,M 39 7,Q 40 (.arith .add (V 38) (V 39)),M 4 37,M 5 40,Q 6 (.mov (I 0))]
@[simp]def aKW:=aC PL.eq_1<|aC PM.eq_1<|aC PN.eq_1<|aC PO.eq_1<|aC PQ.eq_1<|aC PR.eq_1<|aC PS.eq_1<|aC PT.eq_1<|aT PU.eq_1
def z26:aX:=
 ⟨2,[.tmp 4,.tmp 5,.tmp 6],
 (aB (af PL) (aB (aD 10 17 PM) (aB (.block 0 (aB (aD 18 20 PN) (.cond (V 17) (aB (aD 20 21 PO) .ret) (aB (aD 22 24 PQ) (.cond (V 21) (aB (af PR) .ret) (aB (aD 25 31 PS) (.cond (V 24) (aB (af PT) .ret) .skip))))))) (aB (aD 31 41 PU) .ret)))),false⟩
def PW:List aA:=[M 3 0,Q 4 (.arith .shr (V 3) (.cst (.int .u64 1))),Q 5 (.toInt .i64 (V 4)),M 6 0,Q 7 (.arith .and (V 6) (.cst (.int .u64 1))),Q 8 (.toInt .i64 (V 7)),Q 9 (.un .neg (V 8)),Q 10 (.arith .xor (V 5) (V 9)),M 2 10]
@[simp]def aKX:=aT PW.eq_1
def sr:aX:=
 ⟨1,[.tmp 2],
 (aB (.region [Q 2 (.mov (I 0))]) (aB (aD 3 11 PW) .ret)),false⟩
def PX:List aA:=[Q 2 (.box true (V 0)),Q 4 (.mov (.cst (.int .u64 0))),Q 5 (.mov (I 0)),Q 6 (.mov (I 0))]
def PY:List aA:=[Q 11 (.load true 2 false (V 2)),M 12 1,Q 13 (.call .std 406 [V 11,V 12,(I 7)]),M 10 13,EX 14 0 10,EX 15 1 10,M 7 14,M 8 15]
def PZ:List aA:=[M 17 8,Q 18 (.arith .neq (V 17) (I 0)),M 16 18]
def Pa:List aA:=[M 19 8,Q 4 (.mov (.cst (.int .u64 0))),Q 5 (.mov (I 0)),M 6 19]
def Pb:List aA:=[M 21 7,Q 22 (.arith .gtr (V 21) (.cst (.int .u64 64))),M 20 22]
def Bt:List aA:=[Q 4 (.mov (.cst (.int .u64 0))),Q 5 (.mov (I 0)),Q 6 (.mov (I 5))]
def Pc:List aA:=[Q 24 (.load true 2 false (V 2)),M 25 1,Q 26 (.arith .add (V 25) (I 7)),M 27 7,Q 28 (.toInt .i64 (V 27)),Q 29 (.call .std 406 [V 24,V 26,V 28]),M 23 29,EX 30 0 23,EX 31 1 23,M 9 30,M 8 31]
def Pd:List aA:=[M 33 8,Q 34 (.arith .neq (V 33) (I 0)),M 32 34]
def Pe:List aA:=[M 35 8,Q 4 (.mov (.cst (.int .u64 0))),Q 5 (.mov (I 0)),M 6 35]
def Pf:List aA:=[M 37 9,Q 38 (.call .pur 373 [V 37]),M 39 7,Q 40 (.toInt .i64 (V 39)),Q 41 (.arith .neq (V 38) (V 40)),M 36 41]
def Pg:List aA:=[M 42 9,M 43 1,Q 44 (.arith .add (V 43) (I 7)),M 45 7,Q 46 (.toInt .i64 (V 45)),Q 47 (.arith .add (V 44) (V 46)),M 4 42,M 5 47,Q 6 (.mov (I 0))]
@[simp]def aKY:=aC PX.eq_1<|aC PY.eq_1<|aC PZ.eq_1<|aC Pa.eq_1<|aC Pb.eq_1<|aC Bt.eq_1<|aC Pc.eq_1<|aC Pd.eq_1<|aC Pe.eq_1<|aC Pf.eq_1<|aT Pg.eq_1
def lc:aX:=
 ⟨2,[.tmp 4,.tmp 5,.tmp 6],
 (aB (af PX) (aB (aD 10 16 PY) (aB (.block 0 (aB (aD 17 19 PZ) (.cond (V 16) (aB (aD 19 20 Pa) .ret) (aB (aD 21 23 Pb) (.cond (V 20) (aB (af Bt) .ret) .skip))))) (aB (aD 23 32 Pc) (aB (.block 1 (aB (aD 33 35 Pd) (.cond (V 32) (aB (aD 35 36 Pe) .ret) (aB (aD 37 42 Pf) (.cond (V 36) (aB (af Bt) .ret) .skip))))) (aB (aD 42 48 Pg) .ret)))))),false⟩
def Ph:List aA:=[M 3 0,M 4 0,Q 5 (.arith .neq (V 3) (V 4)),M 2 5]
@[simp]def aKZ:=aT Ph.eq_1
def su:aX:=
 ⟨1,[.tmp 2],
 (aB (.region [Q 2 (.mov bR)]) (aB (aD 3 6 Ph) .ret)),false⟩
def Pi:List aA:=[FA 3 1 1,Q 4 (.load false 1 true (V 3)),Q 5 (.arith .lss (V 4) (I 0)),M 6 5,QG (some 7) (.faddr 0 (V 1)) 6 false,QG (some 8) (.load false 1 true (V 7)) 6 false,QG (some 9) (.len false (V 8)) 6 false,QG (some 10) (.faddr 1 (V 1)) 6 false,QG (some 11) (.load false 1 true (V 10)) 6 false,QG (some 12) (.call .pur 413 [V 11]) 6 false,QG (some 13) (.arith .neq (V 9) (V 12)) 6 false,Q 14 (.pick (V 6) ck (V 13))]
def Pj:List aA:=[FA 15 1 1,Q 16 (.load false 1 true (V 15)),Q 17 (.arith .rem (V 16) (I 8)),Q 18 (.arith .eql (V 17) (I 0)),M 19 18,QG (some 20) (.faddr 0 (V 1)) 19 false,QG (some 21) (.load false 1 true (V 20)) 19 false,QG (some 22) (.faddr 0 (V 1)) 19 false,QG (some 23) (.load false 1 true (V 22)) 19 false,QG (some 24) (.len false (V 23)) 19 false,QG (some 25) (.arith .sub (V 24) (I 1)) 19 false,QG (some 26) (.iaddr 1 (V 21) (V 25)) 19 false,QG (some 27) (.load false 1 true (V 26)) 19 false,QG (some 28) (.faddr 1 (V 1)) 19 false,QG (some 29) (.load false 1 true (V 28)) 19 false,QG (some 30) (.arith .rem (V 29) (I 8)) 19 false,QG (some 31) (.arith .shl (V 27) (V 30)) 19 false,QG (some 32) (.arith .eql (V 31) (.cst (.int .u8 0))) 19 false,Q 33 (.pick (V 19) ck (V 32)),M 2 33]
@[simp]def aK0:=aC Pi.eq_1<|aT Pj.eq_1
def z53:aX:=
 ⟨1,[.tmp 2],
 (aB (af se) (aB (aB (aD 3 14 Pi) (.cond (V 14) (aB (.region [Q 2 (.mov bR)]) .ret) .skip)) (aB (aD 15 34 Pj) .ret))),false⟩
def Pl:List aA:=[Q 1 (.box true (V 0)),Q 2 (.mov (.cst .nilf)),Q 3 (.mov (.cst .nilf))]
def Pm:List aA:=[FA 5 0 1,Q 6 (.load false 1 true (V 5)),Q 7 (.len false (V 6)),Q 8 (.arith .add (V 7) (I 17)),Q 9 (.mko 1 1 [(.int .u8 0)] (V 8)),FA 10 0 1,Q 11 (.load false 1 true (V 10)),Q 12 (.gapp 1 1 (V 9) (V 11)),FA 13 1 1,Q 14 (.load false 1 true (V 13)),Q 15 (.build [.nils,(.int .i64 0)] [(0,1,V 12),(1,1,V 14)]),Q 4 (.mov (.cst .und)),Q 4 (.nst 2 (V 15))]
def Pn:List aA:=[Q 16 (.mkfn 414 [V 4]),M 2 16]
def Po:List aA:=[M 17 2,Q 18 (.mkfn 415 [V 4]),M 2 17,M 3 18]
@[simp]def aK1:=aC Pl.eq_1<|aC Pm.eq_1<|aC Pn.eq_1<|aT Po.eq_1
def z44:aX:=
 ⟨1,[.tmp 2,.tmp 3],
 (aB (af Pl) (aB (aD 5 16 Pm) (aB (aD 16 17 Pn) (aB (aD 17 19 Po) .ret)))),true⟩
def Pp:List aA:=[M 3 0,Q 4 (.arith .geq (V 3) (.cst (.int .u64 4294967296)))]
def Pq:List aA:=[M 5 0,Q 6 (.arith .shr (V 5) (.cst (.int .u64 32))),M 0 6]
def Pr:List aA:=[M 7 0,Q 8 (.arith .geq (V 7) (.cst (.int .u64 65536)))]
def Pt:List aA:=[M 9 0,Q 10 (.arith .shr (V 9) (.cst (.int .u64 16))),M 0 10]
def Pu:List aA:=[M 11 2,Q 12 (.arith .add (V 11) (I 16)),M 2 12]
def Pv:List aA:=[M 13 0,Q 14 (.arith .geq (V 13) (.cst (.int .u64 256)))]
def Pw:List aA:=[M 15 0,Q 16 (.arith .shr (V 15) (.cst (.int .u64 8))),M 0 16]
def Px:List aA:=[M 17 2,Q 18 (.arith .add (V 17) (I 8)),M 2 18]
def wD:List aA:=[M 19 2,M 20 0,Q 21 (.toInt .u8 (V 20)),Q 22 (.idxs (.cst (.str [0,1,2,2,3,3,3,3,4,4,4,4,4,4,4,4,5,5,5,5,5,5,5,5,5,5,5,5,5,5,5,5,6,6,6,6,6,6,6,6,6,6,6,6,6,6,6,6,6,6,6,6,6,6,6,6,6,6,6,6,6,6,6,6,7,7,7,7,7,7,7,7,7,7,7,7,7,7,7,7,7,7,7,7,7,7,7,7,7,7,7,7,7,7,7,7,7,7,7,7,7,7,7,7,7,7,7,7,7,7,7,7,7,7,7,7,7,7,7,7,7,7,7,7,7,7,7,7,8,8,8,8,8,8,8,8,8,8,8,8,8,8,8,8,8,8,8,8,8,8,8,8,8,8,8,8,8,8,8,8,8,8,8,8,8,8,8,8,8,8,8,8,8,8,8,8,8,8,8,8,8,8,8,8,8,8,8,8,8,8,8,8,8,8,8,8,8,8,8,8,8,8,8,8,8,8,8,8,8,8,8,8,8,8,8,8,8,8,8,8,8,8,8,8,8,8,8,8,8,8,8,8,8,8,8,8,8,8,8,8,8,8,8,8,8,8,8,8,8,8,8,8,8,8,8,8])) (V 21)),Q 23 (.toInt .i64 (V 22)),Q 24 (.arith .add (V 19) (V 23)),M 2 24]
@[simp]def Zb:=aT wD.eq_1
@[simp]def aK2:=aC Pp.eq_1<|aC Pq.eq_1<|aC Pr.eq_1<|aC Pt.eq_1<|aC Pu.eq_1<|aC Pv.eq_1<|aC Pw.eq_1<|aT Px.eq_1
def sw:aX:=
 ⟨1,[.tmp 2],
 (aB (.region [Q 2 (.mov (I 0))]) (aB (aB (aD 3 4 Pp) (.cond (V 4) (aB (aD 5 7 Pq) (.region [Q 2 (.mov (I 32))])) .skip)) (aB (aB (aD 7 8 Pr) (.cond (V 8) (aB (aD 9 11 Pt) (aD 11 13 Pu)) .skip)) (aB (aB (aD 13 14 Pv) (.cond (V 14) (aB (aD 15 17 Pw) (aD 17 19 Px)) .skip)) (aB (aD 19 25 wD) .ret))))),false⟩
def Py:List aA:=[M 12 5,M 13 0,M 14 4,Q 15 (.iaddr 1 (V 13) (V 14)),LD 16 15,Q 17 (.len false (V 16)),Q 18 (.arith .lss (V 12) (V 17))]
def Pz:List aA:=[M 21 3,M 22 0,M 23 4,Q 24 (.iaddr 1 (V 22) (V 23)),LD 25 24,M 26 5,Q 27 (.iaddr 2 (V 25) (V 26)),FA 28 0 27,LD 29 28,Q 30 (.call .std 238 [V 21,V 29]),M 3 30]
def QA:List aA:=[M 19 5,Q 20 (.arith .add (V 19) (I 1)),M 5 20]
@[simp]def aK3:=aC Py.eq_1<|aC Pz.eq_1<|aT QA.eq_1
def QB:aS:=
 (aB (aB (aD 12 18 Py) (.cond (V 18) .skip (.exit 2))) (aB (.block 3 (aD 21 31 Pz)) (aD 19 21 QA)))
@[simp]def aK4:=bY QB.eq_1
def QC:aS:=
 (aB (aB (aD 6 9 BV) (.cond (V 9) .skip (.exit 0))) (aB (.block 1 (aB (.region [Q 5 (.mov (I 0))]) (.block 2 (.loop QB)))) (aD 10 12 BX)))
@[simp]def aK5:=bY QC.eq_1
def Bu:aX:=
 ⟨1,[.tmp 2],
 (aB (.region [Q 2 (.mov (.cst .nils))]) (aB (.region [Q 3 (.mov (.cst .nils))]) (aB (aB (.region [Q 4 (.mov (I 0))]) (.block 0 (.loop QC))) (aB (aD 31 32 Av) .ret)))),false⟩
def QD:List aA:=[M 8 7,M 9 0,Q 10 (.len false (V 9)),Q 11 (.arith .lss (V 8) (V 10))]
def QE:List aA:=[M 14 0,M 15 7,Q 16 (.iaddr 1 (V 14) (V 15)),LD 17 16,M 18 1,Q 19 (.arith .eql (V 17) (V 18))]
def QF:List aA:=[M 20 0,M 4 20]
def QH:List aA:=[M 21 6,Q 22 (.un .not (V 21)),M 23 22,QG (some 24) (.mov (V 1)) 23 true,QG (some 25) (.mov (V 0)) 23 true,QG (some 26) (.mov (V 7)) 23 true,QG (some 27) (.iaddr 1 (V 25) (V 26)) 23 true,QG (some 28) (.load false 1 false (V 27)) 23 true,QG (some 29) (.arith .lss (V 24) (V 28)) 23 true,Q 30 (.pick (V 23) (V 29) bR)]
def QI:List aA:=[M 31 5,M 32 1,Q 33 (.bsl false (.str []) 1 [(0,V 32)]),Q 34 (.app 1 16 (V 31) (V 33)),M 5 34]
def QJ:List aA:=[M 35 5,M 36 0,M 37 7,Q 38 (.iaddr 1 (V 36) (V 37)),LD 39 38,Q 40 (.bsl false (.str []) 1 [(0,V 39)]),Q 41 (.app 1 16 (V 35) (V 40)),M 5 41]
def QK:List aA:=[M 12 7,Q 13 (.arith .add (V 12) (I 1)),M 7 13]
@[simp]def aK6:=aC QD.eq_1<|aC QE.eq_1<|aC QF.eq_1<|aC QH.eq_1<|aC QI.eq_1<|aC QJ.eq_1<|aT QK.eq_1
def QL:aS:=
 (aB (aB (aD 8 11 QD) (.cond (V 11) .skip (.exit 0))) (aB (.block 1 (aB (aB (aD 14 19 QE) (.cond (V 19) (aB (aD 20 21 QF) .ret) .skip)) (aB (aB (aD 21 30 QH) (.cond (V 30) (aB (aD 31 35 QI) (.region [Q 6 (.mov ck)])) .skip)) (aD 35 42 QJ)))) (aD 12 14 QK)))
@[simp]def aK7:=bY QL.eq_1
def QM:List aA:=[M 42 6,Q 43 (.un .not (V 42))]
def QO:List aA:=[M 44 5,M 45 1,Q 46 (.bsl false (.str []) 1 [(0,V 45)]),Q 47 (.app 1 16 (V 44) (V 46)),M 5 47]
def QP:List aA:=[M 48 5,M 4 48]
@[simp]def aK8:=aC QM.eq_1<|aC QO.eq_1<|aT QP.eq_1
def Bv:aX:=
 ⟨2,[.tmp 4],
 (aB (.region [Q 4 (.mov (.cst .nils))]) (aB (.region [Q 5 (.mov (.cst .nils))]) (aB (.region [Q 6 (.mov bR)]) (aB (aB (.region [Q 7 (.mov (I 0))]) (.block 0 (.loop QL))) (aB (aB (aD 42 43 QM) (.cond (V 43) (aD 44 48 QO) .skip)) (aB (aD 48 49 QP) .ret)))))),false⟩
def QQ:List aA:=[M 4 0,Q 5 (.arith .gtr (V 4) (.cst (.int .u64 0)))]
def QR:List aA:=[M 6 3,Q 7 (.arith .add (V 6) (I 1)),M 3 7]
def QS:List aA:=[M 8 0,Q 9 (.arith .quo (V 8) (.cst (.int .u64 2))),M 0 9]
@[simp]def aK9:=aC QQ.eq_1<|aC QR.eq_1<|aT QS.eq_1
def QT:aS:=
 (aB (aB (aD 4 5 QQ) (.cond (V 5) .skip (.exit 0))) (.block 1 (aB (aD 6 8 QR) (aD 8 10 QS))))
@[simp]def aLa:=bY QT.eq_1
def QU:List aA:=[M 10 3,M 2 10]
@[simp]def aLb:=aT QU.eq_1
def z33:aX:=
 ⟨1,[.tmp 2],
 (aB (.region [Q 2 (.mov (I 0))]) (aB (.region [Q 3 (.mov (I 0))]) (aB (.block 0 (.loop QT)) (aB (aD 10 11 QU) .ret)))),false⟩
def QV:List aA:=[Q 3 (.box true (V 0)),Q 6 (.alloc false [.nils,(.int .i64 0)]),Q 7 (.mov (I 0))]
def QX:List aA:=[Q 10 (.load true 2 false (V 3)),Q 11 (.call .std 401 [V 10]),Q 12 (.un .not (V 11)),M 13 12,QG (some 14) (.mov (V 2)) 13 false,QG (some 15) (.arith .lss (V 14) (I 0)) 13 false,Q 16 (.pick (V 13) ck (V 15)),M 17 16,QG (some 18) (.mov (V 2)) 17 false,QG (some 19) (.arith .gtr (V 18) (I 64)) 17 false,Q 20 (.pick (V 17) ck (V 19))]
def QY:List aA:=[Q 21 (.build [.nils,(.int .i64 0)] []),QN (.store 2 (V 6) (V 21)),Q 7 (.mov (I 2))]
def QZ:List aA:=[M 22 1,Q 23 (.call .pur 375 [V 22]),M 24 2,Q 25 (.arith .gtr (V 23) (V 24))]
def Qa:List aA:=[Q 26 (.build [.nils,(.int .i64 0)] []),QN (.store 2 (V 6) (V 26)),Q 7 (.mov (I 3))]
def Qb:List aA:=[Q 27 (.emp0),FA 28 0 3,LD 29 28,Q 30 (.gapp 1 1 (V 27) (V 29)),M 8 30]
def Qc:List aA:=[M 31 9,M 32 2,Q 33 (.arith .lss (V 31) (V 32))]
def Qd:List aA:=[M 36 8,FA 37 1 3,Q 38 (.load false 1 true (V 37)),M 39 9,Q 40 (.arith .add (V 38) (V 39)),M 41 1,M 42 2,Q 43 (.arith .sub (V 42) (I 1)),M 44 9,Q 45 (.arith .sub (V 43) (V 44)),Q 46 (.call .pur 403 [V 41,V 45]),Q 47 (.call .std 402 [V 36,V 40,V 46]),M 8 47]
def Qe:List aA:=[M 34 9,Q 35 (.arith .add (V 34) (I 1)),M 9 35]
@[simp]def aLc:=aC QV.eq_1<|aC QX.eq_1<|aC QY.eq_1<|aC QZ.eq_1<|aC Qa.eq_1<|aC Qb.eq_1<|aC Qc.eq_1<|aC Qd.eq_1<|aT Qe.eq_1
def Qf:aS:=
 (aB (aB (aD 31 33 Qc) (.cond (V 33) .skip (.exit 0))) (aB (.block 1 (aD 36 48 Qd)) (aD 34 36 Qe)))
@[simp]def aLd:=bY Qf.eq_1
def Qg:List aA:=[M 48 8,FA 49 1 3,LD 50 49,M 51 2,Q 52 (.arith .add (V 50) (V 51)),Q 53 (.build [.nils,(.int .i64 0)] [(0,1,V 48),(1,1,V 52)]),QN (.store 2 (V 6) (V 53)),Q 7 (.mov (I 0))]
@[simp]def aLe:=aT Qg.eq_1
def Bw:aX:=
 ⟨3,[.cell 6 true 2,.tmp 7],
 (aB (af QV) (aB (aB (aD 10 20 QX) (.cond (V 20) (aB (aD 21 22 QY) .ret) .skip)) (aB (aB (aD 22 25 QZ) (.cond (V 25) (aB (aD 26 27 Qa) .ret) .skip)) (aB (aD 27 31 Qb) (aB (aB (.region [Q 9 (.mov (I 0))]) (.block 0 (.loop Qf))) (aB (aD 48 54 Qg) .ret)))))),false⟩
def Qh:List aA:=[Q 3 (.box true (V 0)),Q 6 (.mov (.cst (.int .u64 0))),Q 7 (.mov (I 0))]
def Qi:List aA:=[Q 10 (.load true 2 false (V 3)),Q 11 (.call .std 404 [V 10]),Q 12 (.un .not (V 11)),M 13 12,QG (some 14) (.mov (V 2)) 13 false,QG (some 15) (.arith .lss (V 14) (I 0)) 13 false,Q 16 (.pick (V 13) ck (V 15)),M 17 16,QG (some 18) (.mov (V 2)) 17 false,QG (some 19) (.arith .gtr (V 18) (I 64)) 17 false,Q 20 (.pick (V 17) ck (V 19)),M 21 20,QG (some 22) (.mov (V 1)) 21 false,QG (some 23) (.arith .lss (V 22) (I 0)) 21 false,Q 24 (.pick (V 21) ck (V 23)),M 25 24,QG (some 26) (.mov (V 1)) 25 false,QG (some 27) (.faddr 1 (V 3)) 25 false,QG (some 28) (.load false 1 false (V 27)) 25 false,QG (some 29) (.arith .gtr (V 26) (V 28)) 25 false,Q 30 (.pick (V 25) ck (V 29))]
def Qj:List aA:=[Q 6 (.mov (.cst (.int .u64 0))),Q 7 (.mov (I 2))]
def Qk:List aA:=[M 31 2,FA 32 1 3,LD 33 32,M 34 1,Q 35 (.arith .sub (V 33) (V 34)),Q 36 (.arith .gtr (V 31) (V 35))]
def Ql:List aA:=[Q 6 (.mov (.cst (.int .u64 0))),Q 7 (.mov (I 4))]
def Qm:List aA:=[M 37 2,Q 38 (.mov (I 0))]
def Qn:List aA:=[M 40 38,M 9 40]
def Qo:List aA:=[M 41 8,Q 42 (.arith .shl (V 41) (.cst (.int .u64 1))),FA 43 0 3,LD 44 43,M 45 1,M 46 9,Q 47 (.arith .add (V 45) (V 46)),Q 48 (.arith .quo (V 47) (I 8)),Q 49 (.iaddr 1 (V 44) (V 48)),LD 50 49,M 51 1,M 52 9,Q 53 (.arith .add (V 51) (V 52)),Q 54 (.arith .rem (V 53) (I 8)),Q 55 (.arith .sub (I 7) (V 54)),Q 56 (.arith .shr (V 50) (V 55)),Q 57 (.arith .and (V 56) (.cst (.int .u8 1))),Q 58 (.toInt .u64 (V 57)),Q 59 (.arith .or (V 42) (V 58)),M 8 59]
def Qp:List aA:=[Q 60 (.arith .add (V 38) (I 1)),M 38 60]
@[simp]def aLf:=aC Qh.eq_1<|aC Qi.eq_1<|aC Qj.eq_1<|aC Qk.eq_1<|aC Ql.eq_1<|aC Qm.eq_1<|aC Qn.eq_1<|aC Qo.eq_1<|aT Qp.eq_1
def Bx:aS:=
 (aB (af zV) (aB (.cond (V 39) .skip (.exit 0)) (aB (.block 1 (aB (aD 40 41 Qn) (aD 41 60 Qo))) (aD 60 61 Qp))))
@[simp]def aLg:=bY Bx.eq_1
def Qq:List aA:=[M 61 8,M 6 61,Q 7 (.mov (I 0))]
@[simp]def aLh:=aT Qq.eq_1
def oQ:aX:=
 ⟨3,[.tmp 6,.tmp 7],
 (aB (af Qh) (aB (aB (aD 10 30 Qi) (.cond (V 30) (aB (af Qj) .ret) .skip)) (aB (aB (aD 31 36 Qk) (.cond (V 36) (aB (af Ql) .ret) .skip)) (aB (.region [Q 8 (.mov (.cst (.int .u64 0)))]) (aB (aB (af Qm) (.block 0 (.loop Bx))) (aB (aD 61 62 Qq) .ret)))))),false⟩
def Qr:List aA:=[M 3 0,Q 4 (.arith .rem (V 3) (I 8)),Q 5 (.arith .eql (V 4) (I 0))]
def Qs:List aA:=[M 6 0,Q 7 (.arith .quo (V 6) (I 8)),M 2 7]
def Qt:List aA:=[M 8 0,Q 9 (.arith .quo (V 8) (I 8)),Q 10 (.arith .add (V 9) (I 1)),M 2 10]
@[simp]def aLi:=aC Qr.eq_1<|aC Qs.eq_1<|aT Qt.eq_1
def sx:aX:=
 ⟨1,[.tmp 2],
 (aB (.region [Q 2 (.mov (I 0))]) (aB (aB (aD 3 5 Qr) (.cond (V 5) (aB (aD 6 8 Qs) .ret) .skip)) (aB (aD 8 11 Qt) .ret))),false⟩
def Qu:List aA:=[M 6 1,Q 7 (.mov (I 0))]
def Qv:List aA:=[M 9 7,M 5 9]
def Qw:List aA:=[FA 10 1 2,LD 11 10,Q 12 (.arith .rem (V 11) (I 8)),Q 13 (.arith .eql (V 12) (I 0))]
def Qx:List aA:=[FA 14 0 2,LD 15 14,Q 16 (.bsl false (.int .u8 0) 1 [(0,(.cst (.int .u8 0)))]),Q 17 (.gapp 1 1 (V 15) (V 16)),FA 18 0 2,QN (.store 1 (V 18) (V 17))]
def By:List aA:=[M 19 0,M 20 1,Q 21 (.arith .sub (V 20) (I 1)),M 22 5,Q 23 (.arith .sub (V 21) (V 22)),Q 24 (.arith .shr (V 19) (V 23)),Q 25 (.arith .and (V 24) (.cst (.int .u64 1))),Q 26 (.arith .eql (V 25) (.cst (.int .u64 1)))]
@[simp]def Zc:=aT By.eq_1
def Bz:List aA:=[FA 27 0 2,LD 28 27,FA 29 1 2,LD 30 29,Q 31 (.arith .quo (V 30) (I 8)),Q 32 (.iaddr 1 (V 28) (V 31)),LD 33 32,FA 34 1 2,LD 35 34,Q 36 (.arith .rem (V 35) (I 8)),Q 37 (.arith .shr (.cst (.int .u8 128)) (V 36)),Q 38 (.arith .or (V 33) (V 37)),Q 39 (.iaddr 1 (V 28) (V 31)),QN (.store 1 (V 39) (V 38))]
def CA:List aA:=[FA 40 1 2,LD 41 40,Q 42 (.arith .add (V 41) (I 1)),FA 43 1 2,QN (.store 1 (V 43) (V 42))]
def CB:List aA:=[Q 44 (.arith .add (V 7) (I 1)),M 7 44]
@[simp]def aLj:=aC Qu.eq_1<|aC Qv.eq_1<|aC Qw.eq_1<|aC Qx.eq_1<|aC Bz.eq_1<|aC CA.eq_1<|aT CB.eq_1
def qG:aS:=
 (aB (.region [Q 8 (.arith .lss (V 7) (V 6))]) (aB (.cond (V 8) .skip (.exit 0)) (aB (.block 1 (aB (aD 9 10 Qv) (aB (aB (aD 10 13 Qw) (.cond (V 13) (aD 14 19 Qx) .skip)) (aB (aB (aD 19 26 By) (.cond (V 26) (aD 27 40 Bz) .skip)) (aD 40 44 CA))))) (aD 44 45 CB))))
@[simp]def aLk:=bY qG.eq_1
def oR:aX:=
 ⟨3,[],
 (aB (af Qu) (.block 0 (.loop qG))),false⟩
def Qy:List aA:=[Q 1 (.alloc false [.nils,(.int .i64 0)])]
def Qz:List aA:=[Q 2 (.load true 2 false (V 0)),QN (.store 2 (V 1) (V 2))]
@[simp]def aLl:=aC Qy.eq_1<|aT Qz.eq_1
def sy:aX:=
 ⟨1,[.cell 1 true 2],
 (aB (af Qy) (aB (aD 2 3 Qz) .ret)),false⟩
end Ps
