/- The functions' code, as the pure semantics has it: printed by program. -/
import Derived.Test.YtbjefjhmnojdoaaGreatCodeA
namespace Ps
open Go
set_option maxRecDepth 10000
set_option linter.defProp false
variable (T : bH) (K : List Kt) (fr : Fr) (S : St)
def PE:List aF:=[M 13 0,M 14 1,Q 15 (.call .std 110 [V 13,V 14]),M 12 15,EX 16 0 12,EX 17 1 12,EX 18 2 12,M 7 16,M 1 17,M 8 18]
def PF:List aF:=[M 19 8,Q 20 (.arith .eql (V 19) (I 0)),M 21 20,QG (some 22) (.mov (V 7)) 21 true,QG (some 23) (.arith .gtr (V 22) (I 1024)) 21 true,Q 24 (.pick (V 21) (V 23) au)]
def PG:List aF:=[M 25 8,Q 26 (.arith .eql (V 25) (I 0)),M 27 26,QG (some 28) (.mov (V 9)) 27 true,QG (some 29) (.len false (V 28)) 27 true,QG (some 30) (.mov (V 7)) 27 true,QG (some 31) (.arith .lss (V 29) (V 30)) 27 true,Q 32 (.pick (V 27) (V 31) au)]
def PH:List aF:=[M 34 0,M 35 1,Q 36 (.call .std 110 [V 34,V 35]),M 33 36,EX 37 0 33,EX 38 1 33,EX 39 2 33,M 11 37,M 1 38,M 8 39]
def PI:List aF:=[M 41 8,Q 42 (.arith .neq (V 41) (I 0)),M 40 42]
def PJ:List aF:=[M 44 11,M 45 10,Q 46 (.arith .sub (I 1099511627776) (V 45)),Q 47 (.arith .gtr (V 44) (V 46)),M 43 47]
def PK:List aF:=[M 48 9,Q 49 (.len false (V 48)),Q 50 (.arith .gtr (V 49) (I 0)),M 51 50,QG (some 52) (.mov (V 11)) 51 true,QG (some 53) (.arith .eql (V 52) (I 0)) 51 true,Q 54 (.pick (V 51) (V 53) au),M 43 54]
def PL:List aF:=[M 55 10,M 56 11,Q 57 (.arith .add (V 55) (V 56)),M 10 57]
def PM:List aF:=[M 58 9,M 59 10,Q 60 (.bsl false (.int .i64 0) 1 [(0,V 59)]),Q 61 (.app 1 8 (V 58) (V 60)),M 9 61]
@[simp]def aOO:=aH PE.eq_1<|aH PF.eq_1<|aH PG.eq_1<|aH PH.eq_1<|aH PI.eq_1<|aH PJ.eq_1<|aH PK.eq_1<|aH PL.eq_1<|aT PM.eq_1
def Bm:az:=
 (aE (aE (aG 25 32 PG) (.cond (V 32) .skip (.exit 0))) (.block 1 (aE (.region [Q 11 (.mov (I 0))]) (aE (aG 33 40 PH) (aE (.block 2 (aE (aG 41 43 PI) (.cond (V 40) (.exit 0) (aE (aE (aG 44 48 PJ) (.cond (V 43) .skip (aG 48 55 PK))) (.cond (V 43) (aE (.region [Q 8 (.mov (I 5))]) (.exit 0)) .skip))))) (aE (aG 55 58 PL) (aG 58 62 PM)))))))
@[simp]def aOP:=cL Bm.eq_1
def PN:List aF:=[M 62 8,Q 63 (.arith .neq (V 62) (I 0))]
def PO:List aF:=[M 64 8,Q 4 (.mov (.cst .nils)),Q 5 (.mov (I 0)),M 6 64]
def PP:List aF:=[M 65 9,M 66 1,M 4 65,M 5 66,Q 6 (.mov (I 0))]
@[simp]def aOQ:=aH PN.eq_1<|aH PO.eq_1<|aT PP.eq_1
def qy:ai:=
 ⟨2,[.tmp 4,.tmp 5,.tmp 6],
 (aE (ad pF) (.scope (aE (aG 12 19 PE) (aE (aE (aG 19 24 PF) (.cond (V 24) (.region [Q 8 (.mov (I 3))]) .skip)) (aE (.region [Q 9 (.mov (.cst .nils))]) (aE (.region [Q 10 (.mov (I 0))]) (aE .skip (aE (.block 0 (.loop Bm)) (aE (aE (aG 62 63 PN) (.cond (V 63) (aE (aG 64 65 PO) .ret) .skip)) (aE (aG 65 67 PP) .ret)))))))))),false⟩
def PQ:List aF:=[M 11 0,Q 12 (.len false (V 11)),Q 13 (.mov (I 0))]
def PR:List aF:=[Q 14 (.arith .lss (V 13) (V 12))]
def PS:List aF:=[M 15 13,M 5 15]
def PT:List aF:=[M 16 0,M 17 5,Q 18 (.iaddr 1 (V 16) (V 17)),Q 19 (.load false 1 true (V 18)),M 20 1,M 21 5,Q 22 (.iaddr 1 (V 20) (V 21)),Q 23 (.load false 1 true (V 22)),Q 24 (.arith .neq (V 19) (V 23))]
def PU:List aF:=[Q 25 (.arith .add (V 13) (I 1)),M 13 25]
@[simp]def aOR:=aH PQ.eq_1<|aH PR.eq_1<|aH PS.eq_1<|aH PT.eq_1<|aT PU.eq_1
def Bn:az:=
 (aE (ad PR) (aE (.cond (V 14) .skip (.exit 0)) (aE (.block 1 (aE (aG 15 16 PS) (aE (aG 16 24 PT) (.cond (V 24) (aE (.region [Q 4 (.mov au)]) .ret) .skip)))) (aG 25 26 PU))))
@[simp]def aOS:=cL Bn.eq_1
def z6:ai:=
 ⟨2,[.tmp 4],
 (aE (.region [Q 4 (.mov au)]) (aE (aE (aG 6 10 xO) (.cond (V 10) (aE (.region [Q 4 (.mov au)]) .ret) .skip)) (aE (aE (aG 11 12 PQ) (.block 0 (.loop Bn))) (aE (.region [Q 4 (.mov bh)]) .ret)))),false⟩
def Bo:List aF:=[M 6 0,Q 7 (.len false (V 6)),Q 8 (.mov (I 0))]
def PW:List aF:=[Q 10 (.iaddr 1 (V 6) (V 8)),LD 11 10,M 4 11]
def PX:List aF:=[M 12 4,Q 13 (.callv .std (V 12) []),M 5 13]
def PY:List aF:=[M 14 5,Q 15 (.arith .neq (V 14) (I 0))]
def PZ:List aF:=[M 16 5,M 2 16]
def Pa:List aF:=[Q 17 (.arith .add (V 8) (I 1)),M 8 17]
@[simp]def aOT:=aH Bo.eq_1<|aH PW.eq_1<|aH PX.eq_1<|aH PY.eq_1<|aH PZ.eq_1<|aT Pa.eq_1
def xq:az:=
 (aE (.region [Q 9 (.arith .lss (V 8) (V 7))]) (aE (.cond (V 9) .skip (.exit 0)) (aE (.block 1 (aE (aG 10 12 PW) (aE (aG 12 14 PX) (aE (aG 14 15 PY) (.cond (V 15) (aE (aG 16 17 PZ) .ret) .skip))))) (aG 17 18 Pa))))
@[simp]def aOU:=cL xq.eq_1
def tY:ai:=
 ⟨1,[.tmp 2],
 (aE (.region [Q 2 (.mov (I 0))]) (aE (aE (ad Bo) (.block 0 (.loop xq))) (aE (.region [Q 2 (.mov (I 0))]) .ret))),false⟩
def Pb:List aF:=[LD 3 0,LD 4 1,Q 5 (.call .std 77 [V 3,V 4]),M 2 5]
@[simp]def aOV:=aT Pb.eq_1
def tZ:ai:=
 ⟨2,[.tmp 2],
 (aE (.region [Q 2 (.mov (I 0))]) (aE (aG 3 6 Pb) .ret)),false⟩
def Bp:List aF:=[M 8 0,M 9 1,Q 10 (.call .std 194 [V 8,V 9]),M 7 10,EX 11 0 7,EX 12 1 7,M 5 11,M 6 12]
def Pc:List aF:=[M 14 6,Q 15 (.arith .eql (V 14) (I 0)),M 13 15]
def Pd:List aF:=[M 17 6,Q 18 (.arith .neq (V 17) (I 9)),M 16 18]
def Pe:List aF:=[M 19 6,M 4 19]
def Pf:List aF:=[M 21 0,bN 22 21,FA 23 2 22,LD 24 23,Q 25 (.mlen (V 24)),Q 26 (.arith .geq (V 25) (I 64)),M 20 26]
def Pg:List aF:=[M 27 0,M 28 1,Q 29 (.build [.nils,(.int .i64 0)] []),Q 30 (.box false (V 29)),Q 31 (.build [(.str []),(.str []),.nilp] [(1,1,V 28),(2,1,V 30)]),Q 32 (.call .std 195 [V 27,V 31]),M 4 32]
@[simp]def aOW:=aH Bp.eq_1<|aH Pc.eq_1<|aH Pd.eq_1<|aH Pe.eq_1<|aH Pf.eq_1<|aT Pg.eq_1
def lG:ai:=
 ⟨2,[.tmp 4],
 (aE (.region [Q 4 (.mov (I 0))]) (aE (.clr [(5,6),(7,13)] (ad Bp)) (aE (.block 0 (aE (aG 14 16 Pc) (.cond (V 13) (aE (.region [Q 4 (.mov (I 10))]) .ret) (aE (aG 17 19 Pd) (.cond (V 16) (aE (aG 19 20 Pe) .ret) (aE (aG 21 27 Pf) (.cond (V 20) (aE (.region [Q 4 (.mov (I 7))]) .ret) .skip))))))) (aE (aG 27 33 Pg) .ret)))),false⟩
def Ph:List aF:=[M 4 0,Q 5 (.eqn false .p (V 4)),M 6 5,QG (some 7) (.mov (V 0)) 6 false,QG (some 8) (.nilck (V 7)) 6 false,QG (some 9) (.faddr 2 (V 8)) 6 false,QG (some 10) (.load false 1 false (V 9)) 6 false,QG (some 11) (.eqn false .m (V 10)) 6 false,Q 12 (.pick (V 6) bh (V 11))]
def Pi:List aF:=[M 13 0,Q 14 (.call .std 196 [V 13]),M 3 14]
def Pj:List aF:=[M 15 3,Q 16 (.arith .neq (V 15) (I 0))]
def Pk:List aF:=[M 17 3,M 2 17]
def Pl:List aF:=[M 18 0,M 19 0,M 20 0,bN 21 20,FA 22 2 21,LD 23 22,Q 24 (.call .std 197 [V 23]),bN 25 18,FA 26 1 25,QN (.store 1 (V 26) (V 24)),bN 27 19,FA 28 3 27,QN (.store 1 (V 28) (.cst .nils))]
@[simp]def aOX:=aH Ph.eq_1<|aH Pi.eq_1<|aH Pj.eq_1<|aH Pk.eq_1<|aT Pl.eq_1
def z4:ai:=
 ⟨1,[.tmp 2],
 (aE (.region [Q 2 (.mov (I 0))]) (aE (aE (aG 4 12 Ph) (.cond (V 12) (aE (.region [Q 2 (.mov (I 1))]) .ret) .skip)) (aE (aE (aG 13 15 Pi) (aE (aG 15 16 Pj) (.cond (V 16) (aE (aG 17 18 Pk) .ret) .skip))) (aE (aG 18 29 Pl) (aE (.region [Q 2 (.mov (I 0))]) .ret))))),false⟩
def Bq:List aF:=[Q 2 (.mov (.cst .nils)),Q 3 (.mov (I 0))]
def Pm:List aF:=[M 11 0,M 12 5,Q 13 (.call .std 319 [V 11,V 12]),M 10 13,EX 14 0 10,EX 15 1 10,EX 16 2 10,M 6 14,M 7 15,M 8 16]
def Br:List aF:=[M 17 8,Q 18 (.arith .neq (V 17) (I 0))]
def Bs:List aF:=[M 19 4,M 20 5,M 2 19,M 3 20]
def Pn:List aF:=[M 22 6,Q 23 (.call .std 143 [V 22]),M 21 23,EX 24 0 21,EX 25 1 21,Q 9 (.alloc false [(.int .i64 0),.nils,.nils,.nils,(.int .i64 0),(.int .i64 0)]),QN (.store 6 (V 9) (V 24)),M 8 25]
def Bt:List aF:=[M 26 8,Q 27 (.arith .neq (V 26) (I 0))]
def Bu:List aF:=[M 28 4,M 29 5,M 2 28,M 3 29]
def Po:List aF:=[M 30 4,Q 31 (.load true 6 false (V 9)),Q 32 (.bsl false (.agg [(.int .i64 0),.nils,.nils,.nils,(.int .i64 0),(.int .i64 0)]) 1 [(0,V 31)]),Q 33 (.app 6 96 (V 30) (V 32)),M 34 7,M 4 33,M 5 34]
@[simp]def aOY:=aH Bq.eq_1<|aH Pm.eq_1<|aH Br.eq_1<|aH Bs.eq_1<|aH Pn.eq_1<|aH Bt.eq_1<|aH Bu.eq_1<|aT Po.eq_1
def xr:az:=
 (.block 1 (aE (aG 10 17 Pm) (aE (aE (aG 17 18 Br) (.cond (V 18) (aE (aG 19 21 Bs) .ret) .skip)) (aE (aG 21 26 Pn) (aE (aE (aG 26 27 Bt) (.cond (V 27) (aE (aG 28 30 Bu) .ret) .skip)) (aG 30 35 Po))))))
@[simp]def aOZ:=cL xr.eq_1
def qz:ai:=
 ⟨1,[.tmp 2,.tmp 3],
 (aE (ad Bq) (aE (.region [Q 4 (.mov (.cst .nils))]) (aE (.region [Q 5 (.mov (I 0))]) (.block 0 (.loop xr))))),false⟩
def Pp:List aF:=[Q 3 (.box false (V 0)),Q 4 (.box false (V 1)),Q 5 (.box false (V 2)),Q 6 (.mov (I 0))]
def Pq:List aF:=[LD 8 3,Q 9 (.call .std 90 [V 8]),Q 10 (.call .std 118 [V 9,(.cst (.str [116,109,112]))])]
def Pr:List aF:=[LD 11 3,Q 12 (.call .std 83 [V 11,(.cst (.str [116,109,112]))]),M 7 12]
def Pt:List aF:=[M 13 7,Q 14 (.arith .neq (V 13) (I 0))]
def Pu:List aF:=[M 15 7,M 6 15]
def Pv:List aF:=[Q 16 (.mkfn 320 [V 3]),Q 17 (.mkfn 321 [V 3,V 5]),Q 18 (.mkfn 322 [V 3]),Q 19 (.mkfn 323 [V 3,V 4]),LD 20 3,Q 21 (.mkbfn 79 [V 20]),Q 22 (.bsl false .nilf 5 [(0,V 16),(1,V 17),(2,V 18),(3,V 19),(4,V 21)]),Q 23 (.call .std 247 [V 22]),M 6 23]
@[simp]def aO0:=aH Pp.eq_1<|aH Pq.eq_1<|aH Pr.eq_1<|aH Pt.eq_1<|aH Pu.eq_1<|aT Pv.eq_1
def pG:ai:=
 ⟨3,[.tmp 6],
 (aE (ad Pp) (aE (aE (aG 8 10 Pq) (.cond (V 10) (aE (aG 11 13 Pr) (aE (aG 13 14 Pt) (.cond (V 14) (aE (aG 15 16 Pu) .ret) .skip))) .skip)) (aE (aG 16 24 Pv) .ret))),false⟩
def Pw:List aF:=[Q 3 (.box false (V 0)),Q 6 (.alloc false [(.int .i64 0),.nils,.nils,.nils,(.int .i64 0),(.bool false),(.int .i64 0)]),Q 7 (.mov (I 0))]
def Px:List aF:=[M 11 8,M 12 1,Q 13 (.len false (V 12)),Q 14 (.arith .lss (V 11) (V 13))]
def Py:List aF:=[Q 18 (.load true 7 false (V 3)),M 19 1,M 20 8,Q 21 (.iaddr 4 (V 19) (V 20)),FA 22 0 21,Q 23 (.load false 1 true (V 22)),M 24 1,M 25 8,Q 26 (.iaddr 4 (V 24) (V 25)),FA 27 1 26,Q 28 (.load false 1 true (V 27)),M 29 1,M 30 8,Q 31 (.iaddr 4 (V 29) (V 30)),FA 32 2 31,Q 33 (.load false 1 true (V 32)),M 34 2,Q 35 (.call .pur 86 [V 18,V 23,V 28,V 33,V 34]),M 17 35,EX 36 0 17,EX 37 1 17,Q 9 (.alloc false [(.int .i64 0),.nils,.nils,.nils,(.int .i64 0),(.bool false),(.int .i64 0)]),QN (.store 7 (V 9) (V 36)),M 10 37]
def Pz:List aF:=[Q 38 (.load true 7 false (V 9)),QN (.store 7 (V 3) (V 38))]
def QA:List aF:=[M 39 10,Q 40 (.arith .neq (V 39) (I 0))]
def QB:List aF:=[Q 41 (.load true 7 false (V 3)),M 42 10,QN (.store 7 (V 6) (V 41)),M 7 42]
def QC:List aF:=[M 15 8,Q 16 (.arith .add (V 15) (I 1)),M 8 16]
@[simp]def aO1:=aH Pw.eq_1<|aH Px.eq_1<|aH Py.eq_1<|aH Pz.eq_1<|aH QA.eq_1<|aH QB.eq_1<|aT QC.eq_1
def ta:az:=
 (aE (aE (aG 11 14 Px) (.cond (V 14) .skip (.exit 0))) (aE (.block 1 (aE (aG 17 38 Py) (aE (aG 38 39 Pz) (aE (aG 39 40 QA) (.cond (V 40) (aE (aG 41 43 QB) .ret) .skip))))) (aG 15 17 QC)))
@[simp]def aO2:=cL ta.eq_1
def QD:List aF:=[Q 43 (.load true 7 false (V 3)),QN (.store 7 (V 6) (V 43)),Q 7 (.mov (I 0))]
@[simp]def aO3:=aT QD.eq_1
def z64:ai:=
 ⟨3,[.cell 6 true 7,.tmp 7],
 (aE (ad Pw) (aE (aE (.region [Q 8 (.mov (I 0))]) (.block 0 (.loop ta))) (aE (aG 43 44 QD) .ret))),false⟩
def QE:List aF:=[M 11 0,M 12 5,Q 13 (.call .std 324 [V 11,V 12]),M 10 13,EX 14 0 10,EX 15 1 10,EX 16 2 10,M 6 14,M 7 15,M 8 16]
def QF:List aF:=[M 22 6,Q 23 (.call .std 325 [V 22]),M 21 23,EX 24 0 21,EX 25 1 21,Q 9 (.alloc false [(.int .i64 0),.nils,.nils,.nils,(.int .i64 0),(.int .i64 0)]),QN (.store 6 (V 9) (V 24)),M 8 25]
def QH:List aF:=[M 30 4,Q 31 (.load true 6 false (V 9)),Q 32 (.bsl false (.agg [(.int .i64 0),.nils,.nils,.nils,(.int .i64 0),(.int .i64 0)]) 1 [(0,V 31)]),Q 33 (.app 6 96 (V 30) (V 32)),M 4 33]
def QI:List aF:=[M 34 7,M 5 34]
@[simp]def aO4:=aH QE.eq_1<|aH QF.eq_1<|aH QH.eq_1<|aT QI.eq_1
def xu:az:=
 (.block 1 (aE (aG 10 17 QE) (aE (aE (aG 17 18 Br) (.cond (V 18) (aE (aG 19 21 Bs) .ret) .skip)) (aE (aG 21 26 QF) (aE (aE (aG 26 27 Bt) (.cond (V 27) (aE (aG 28 30 Bu) .ret) .skip)) (aE (aG 30 34 QH) (aG 34 35 QI)))))))
@[simp]def aO5:=cL xu.eq_1
def rB:ai:=
 ⟨1,[.tmp 2,.tmp 3],
 (aE (ad Bq) (aE (.region [Q 4 (.mov (.cst .nils))]) (aE (.region [Q 5 (.mov (I 0))]) (.block 0 (.loop xu))))),false⟩
def QJ:List aF:=[M 6 5,M 7 0,Q 8 (.len false (V 7)),Q 9 (.arith .lss (V 6) (V 8))]
def QK:List aF:=[M 12 0,M 13 5,Q 14 (.iaddr 2 (V 12) (V 13)),FA 15 0 14,LD 16 15,M 17 1,Q 18 (.arith .eql (V 16) (V 17))]
def QL:List aF:=[M 19 0,M 20 5,Q 21 (.iaddr 2 (V 19) (V 20)),FA 22 1 21,LD 23 22,M 4 23]
def QM:List aF:=[M 10 5,Q 11 (.arith .add (V 10) (I 1)),M 5 11]
@[simp]def aO6:=aH QJ.eq_1<|aH QK.eq_1<|aH QL.eq_1<|aT QM.eq_1
def Bv:az:=
 (aE (aE (aG 6 9 QJ) (.cond (V 9) .skip (.exit 0))) (aE (.block 1 (aE (aG 12 18 QK) (.cond (V 18) (aE (aG 19 24 QL) .ret) .skip))) (aG 10 12 QM)))
@[simp]def aO7:=cL Bv.eq_1
def Bw:List aF:=[Q 4 (.mov (I (-1)))]
@[simp]def aO8:=aT Bw.eq_1
def tc:ai:=
 ⟨2,[.tmp 4],
 (aE (.region [Q 4 (.mov (I 0))]) (aE (aE (.region [Q 5 (.mov (I 0))]) (.block 0 (.loop Bv))) (aE (ad Bw) .ret))),false⟩
def QO:List aF:=[Q 3 (.load true 7 false (V 1)),FA 4 3 1,LD 5 4,Q 6 (.len false (V 5)),Q 7 (.call .std 207 [V 3,V 6]),M 2 7]
@[simp]def aO9:=aT QO.eq_1
def td:ai:=
 ⟨1,[.tmp 2],
 (aE (ad Ba) (aE (aG 3 8 QO) .ret)),false⟩
def QP:List aF:=[Q 2 (.box true (V 0)),Q 3 (.box true (V 1)),Q 4 (.mov au)]
def QQ:List aF:=[FA 6 0 2,LD 7 6,FA 8 0 3,LD 9 8,Q 10 (.arith .neq (V 7) (V 9)),M 11 10,QG (some 12) (.faddr 4 (V 2)) 11 false,QG (some 13) (.load false 1 false (V 12)) 11 false,QG (some 14) (.faddr 4 (V 3)) 11 false,QG (some 15) (.load false 1 false (V 14)) 11 false,QG (some 16) (.arith .neq (V 13) (V 15)) 11 false,Q 17 (.pick (V 11) bh (V 16)),M 18 17,QG (some 19) (.faddr 5 (V 2)) 18 false,QG (some 20) (.load false 1 false (V 19)) 18 false,QG (some 21) (.faddr 5 (V 3)) 18 false,QG (some 22) (.load false 1 false (V 21)) 18 false,QG (some 23) (.arith .neq (V 20) (V 22)) 18 false,Q 24 (.pick (V 18) bh (V 23)),M 25 24,QG (some 26) (.faddr 3 (V 2)) 25 false,QG (some 27) (.load false 1 false (V 26)) 25 false,QG (some 28) (.faddr 3 (V 3)) 25 false,QG (some 29) (.load false 1 false (V 28)) 25 false,QG (some 30) (.call .std 175 [V 27,V 29]) 25 false,QG (some 31) (.un .not (V 30)) 25 false,Q 32 (.pick (V 25) bh (V 31)),M 33 32,QG (some 34) (.faddr 1 (V 2)) 33 false,QG (some 35) (.load false 1 false (V 34)) 33 false,QG (some 36) (.faddr 1 (V 3)) 33 false,QG (some 37) (.load false 1 false (V 36)) 33 false,QG (some 38) (.call .std 26 [V 35,V 37]) 33 false,QG (some 39) (.un .not (V 38)) 33 false,Q 40 (.pick (V 33) bh (V 39)),M 41 40,QG (some 42) (.faddr 1 (V 2)) 41 false,QG (some 43) (.load false 1 false (V 42)) 41 false,QG (some 44) (.len false (V 43)) 41 false,QG (some 45) (.faddr 1 (V 3)) 41 false,QG (some 46) (.load false 1 false (V 45)) 41 false,QG (some 47) (.len false (V 46)) 41 false,QG (some 48) (.arith .neq (V 44) (V 47)) 41 false,Q 49 (.pick (V 41) bh (V 48)),M 50 49,QG (some 51) (.faddr 2 (V 2)) 50 false,QG (some 52) (.load false 1 false (V 51)) 50 false,QG (some 53) (.len false (V 52)) 50 false,QG (some 54) (.faddr 2 (V 3)) 50 false,QG (some 55) (.load false 1 false (V 54)) 50 false,QG (some 56) (.len false (V 55)) 50 false,QG (some 57) (.arith .neq (V 53) (V 56)) 50 false,Q 58 (.pick (V 50) bh (V 57))]
def QR:List aF:=[M 59 5,FA 60 2 2,LD 61 60,Q 62 (.len false (V 61)),Q 63 (.arith .lss (V 59) (V 62))]
def QS:List aF:=[FA 66 2 2,Q 67 (.load false 1 true (V 66)),M 68 5,Q 69 (.iaddr 3 (V 67) (V 68)),Q 70 (.load true 3 true (V 69)),FA 71 2 3,Q 72 (.load false 1 true (V 71)),M 73 5,Q 74 (.iaddr 3 (V 72) (V 73)),Q 75 (.load true 3 true (V 74)),Q 76 (.eqs true 3 (V 70) (V 75))]
def QT:List aF:=[M 64 5,Q 65 (.arith .add (V 64) (I 1)),M 5 65]
@[simp]def aPa:=aH QP.eq_1<|aH QQ.eq_1<|aH QR.eq_1<|aH QS.eq_1<|aT QT.eq_1
def Bx:az:=
 (aE (aE (aG 59 63 QR) (.cond (V 63) .skip (.exit 0))) (aE (.block 1 (aE (aG 66 76 QS) (.cond (V 76) (aE (.region [Q 4 (.mov au)]) .ret) .skip))) (aG 64 66 QT)))
@[simp]def aPb:=cL Bx.eq_1
def te:ai:=
 ⟨2,[.tmp 4],
 (aE (ad QP) (aE (aE (aG 6 58 QQ) (.cond (V 58) (aE (.region [Q 4 (.mov au)]) .ret) .skip)) (aE (aE (.region [Q 5 (.mov (I 0))]) (.block 0 (.loop Bx))) (aE (.region [Q 4 (.mov bh)]) .ret)))),false⟩
def QU:List aF:=[Q 2 (.box true (V 0)),Q 4 (.mov (.cst .nils))]
def QV:List aF:=[FA 9 2 2,LD 10 9,M 5 10]
def QW:List aF:=[M 11 6,M 12 1,Q 13 (.arith .lss (V 11) (V 12))]
def QX:List aF:=[FA 16 3 2,LD 17 16,M 18 6,Q 19 (.iaddr 4 (V 17) (V 18)),Q 20 (.load true 4 false (V 19)),Q 7 (.alloc false [(.int .i64 0),(.str []),(.str []),(.int .i64 0)]),QN (.store 4 (V 7) (V 20))]
def QY:List aF:=[FA 21 0 7,LD 22 21]
def QZ:List aF:=[Q 24 (.arith .eql (V 22) (I 1)),M 23 24]
def Qa:List aF:=[M 25 5,FA 26 1 7,LD 27 26,FA 28 3 7,LD 29 28,Q 30 (.build [(.str []),(.int .i64 0)] [(0,1,V 27),(1,1,V 29)]),Q 31 (.call .std 295 [V 25,V 30]),M 5 31]
def Qb:List aF:=[Q 33 (.arith .eql (V 22) (I 2)),M 32 33]
def Qc:List aF:=[M 34 5,FA 35 1 7,LD 36 35,Q 37 (.call .std 205 [V 34,V 36]),M 8 37]
def Qd:List aF:=[M 38 5,FA 39 1 7,LD 40 39,Q 41 (.call .pur 296 [V 38,V 40]),FA 42 2 7,LD 43 42,M 44 8,Q 45 (.build [(.str []),(.int .i64 0)] [(0,1,V 43),(1,1,V 44)]),Q 46 (.call .std 295 [V 41,V 45]),M 5 46]
def Qe:List aF:=[Q 48 (.arith .eql (V 22) (I 3)),M 47 48]
def Qf:List aF:=[M 49 5,FA 50 1 7,LD 51 50,Q 52 (.call .std 296 [V 49,V 51]),M 5 52]
def Qg:List aF:=[M 14 6,Q 15 (.arith .add (V 14) (I 1)),M 6 15]
@[simp]def aPc:=aH QU.eq_1<|aH QV.eq_1<|aH QW.eq_1<|aH QX.eq_1<|aH QY.eq_1<|aH QZ.eq_1<|aH Qa.eq_1<|aH Qb.eq_1<|aH Qc.eq_1<|aH Qd.eq_1<|aH Qe.eq_1<|aH Qf.eq_1<|aT Qg.eq_1
def By:az:=
 (aE (aE (aG 11 13 QW) (.cond (V 13) .skip (.exit 0))) (aE (.block 1 (aE (aG 16 21 QX) (aE (aG 21 22 QY) (.block 2 (aE (aG 24 25 QZ) (.cond (V 23) (aG 25 32 Qa) (aE (aG 33 34 Qb) (.cond (V 32) (aE (aG 34 38 Qc) (aG 38 47 Qd)) (aE (aG 48 49 Qe) (.cond (V 47) (aG 49 53 Qf) .skip)))))))))) (aG 14 16 Qg)))
@[simp]def aPd:=cL By.eq_1
def Bz:List aF:=[M 53 5,M 4 53]
@[simp]def aPe:=aT Bz.eq_1
def tg:ai:=
 ⟨2,[.tmp 4],
 (aE (ad QU) (aE (aG 9 11 QV) (aE (aE (.region [Q 6 (.mov (I 0))]) (.block 0 (.loop By))) (aE (aG 53 54 Bz) .ret)))),false⟩
def Qh:List aF:=[FA 5 2 2,LD 6 5,M 4 6]
def Qi:List aF:=[M 7 4,Q 8 (.eqn false .p (V 7))]
def Qj:List aF:=[M 9 1,FA 10 0 2,LD 11 10,Q 12 (.mlk true false .nilp (V 9) (V 11)),M 4 12]
def Qk:List aF:=[M 13 1,FA 14 0 2,LD 15 14,QN (.mdel true (V 13) (V 15))]
def Ql:List aF:=[FA 16 1 2,LD 17 16,Q 18 (.arith .neq (V 17) (.cst (.str [])))]
def Qm:List aF:=[M 19 1,FA 20 1 2,LD 21 20,M 22 4,QN (.mset true (V 19) (V 21) (V 22))]
@[simp]def aPf:=aH Qh.eq_1<|aH Qi.eq_1<|aH Qj.eq_1<|aH Qk.eq_1<|aH Ql.eq_1<|aT Qm.eq_1
def nM:ai:=
 ⟨2,[],
 (aE (.region [Q 2 (.box true (V 0))]) (aE (aG 5 7 Qh) (aE (aE (aG 7 8 Qi) (.cond (V 8) (aE (aG 9 13 Qj) (aG 13 16 Qk)) .skip)) (aE (aG 16 18 Ql) (.cond (V 18) (aG 19 23 Qm) .skip))))),false⟩
def Qn:List aF:=[M 4 0,Q 5 (.call .std 293 [V 4]),M 3 5]
def Qo:List aF:=[M 6 3,Q 7 (.call .std 239 [V 6])]
def Qp:List aF:=[M 8 3,M 2 8]
@[simp]def aPg:=aH Qn.eq_1<|aH Qo.eq_1<|aT Qp.eq_1
def z1:ai:=
 ⟨1,[.tmp 2],
 (aE (.region [Q 2 (.mov (.cst .nils))]) (aE (aG 4 6 Qn) (aE (aG 6 8 Qo) (aE (aG 8 9 Qp) .ret)))),false⟩
def Qq:List aF:=[Q 1 (.box false (V 0)),Q 2 (.mov (.cst .nilf))]
def Qr:List aF:=[Q 3 (.mkfn 294 [V 1]),M 2 3]
@[simp]def aPh:=aH Qq.eq_1<|aT Qr.eq_1
def z20:ai:=
 ⟨1,[.tmp 2],
 (aE (ad Qq) (aE (aG 3 4 Qr) .ret)),false⟩
def Qs:List aF:=[M 3 0,Q 4 (.eqn false .m (V 3))]
def Qt:List aF:=[M 5 0,Q 6 (.mkif 4 (V 5)),Q 7 (.call .std 292 [V 6]),Q 8 (.assert 4 false .nilm (V 7)),M 2 8]
@[simp]def aPi:=aH Qs.eq_1<|aT Qt.eq_1
def z15:ai:=
 ⟨1,[.tmp 2],
 (aE (.region [Q 2 (.mov (.cst .nilm))]) (aE (aE (aG 3 4 Qs) (.cond (V 4) (aE (.region [Q 2 (.mov (.cst .nilm))]) .ret) .skip)) (aE (aG 5 9 Qt) .ret))),false⟩
def Qu:List aF:=[M 5 3,M 6 0,Q 7 (.len true (V 6)),Q 8 (.arith .lss (V 5) (V 7))]
def Qv:List aF:=[M 11 0,M 12 3,Q 13 (.idxs (V 11) (V 12)),M 4 13]
def Qw:List aF:=[M 14 4,Q 15 (.arith .lss (V 14) (.cst (.int .u8 97))),M 16 15,QG (some 17) (.mov (V 4)) 16 false,QG (some 18) (.arith .gtr (V 17) (.cst (.int .u8 122))) 16 false,Q 19 (.pick (V 16) bh (V 18)),M 20 19,QG (some 21) (.mov (V 4)) 20 true,QG (some 22) (.arith .lss (V 21) (.cst (.int .u8 48))) 20 true,QG (some 23) (.mov (V 22)) 20 true,QG (some 24) (.mov (V 4)) 23 false,QG (some 25) (.arith .gtr (V 24) (.cst (.int .u8 57))) 23 false,QG (some 26) (.pick (V 23) bh (V 25)) 20 true,Q 27 (.pick (V 20) (V 26) au),M 28 27,QG (some 29) (.mov (V 4)) 28 true,QG (some 30) (.arith .neq (V 29) (.cst (.int .u8 46))) 28 true,Q 31 (.pick (V 28) (V 30) au),M 32 31,QG (some 33) (.mov (V 4)) 32 true,QG (some 34) (.arith .neq (V 33) (.cst (.int .u8 45))) 32 true,Q 35 (.pick (V 32) (V 34) au)]
def Qx:List aF:=[M 9 3,Q 10 (.arith .add (V 9) (I 1)),M 3 10]
@[simp]def aPk:=aH Qu.eq_1<|aH Qv.eq_1<|aH Qw.eq_1<|aT Qx.eq_1
def CA:az:=
 (aE (aE (aG 5 8 Qu) (.cond (V 8) .skip (.exit 0))) (aE (.block 1 (aE (aG 11 14 Qv) (aE (aG 14 35 Qw) (.cond (V 35) (aE (.region [Q 2 (.mov au)]) .ret) .skip)))) (aG 9 11 Qx)))
@[simp]def aPl:=cL CA.eq_1
def CB:List aF:=[M 36 0,Q 37 (.arith .neq (V 36) (.cst (.str []))),M 38 37,QG (some 39) (.mov (V 0)) 38 true,QG (some 40) (.len true (V 39)) 38 true,QG (some 41) (.arith .leq (V 40) (I 24)) 38 true,Q 42 (.pick (V 38) (V 41) au),M 2 42]
@[simp]def aPm:=aT CB.eq_1
def th:ai:=
 ⟨1,[.tmp 2],
 (aE (.region [Q 2 (.mov au)]) (aE (aE (.region [Q 3 (.mov (I 0))]) (.block 0 (.loop CA))) (aE (aG 36 43 CB) .ret))),false⟩
def Qy:List aF:=[Q 1 (.box false (V 0)),Q 2 (.alloc false [(.int .i64 0),.nils,.nils,.nils,(.int .i64 0),(.bool false),(.int .i64 0)]),Q 3 (.mov (I 0))]
def Qz:List aF:=[FA 4 4 1,LD 5 4,Q 6 (.arith .eql (V 5) (I 0))]
def RA:List aF:=[FA 7 5 1,QN (.store 1 (V 7) bh)]
def RB:List aF:=[FA 8 5 1,LD 9 8]
def RC:List aF:=[Q 10 (.load true 7 false (V 1)),QN (.store 7 (V 2) (V 10)),Q 3 (.mov (I 6))]
def RG:List aF:=[FA 11 4 1,LD 12 11,Q 13 (.arith .gtr (V 12) (I 0))]
def RH:List aF:=[FA 14 4 1,LD 15 14,Q 16 (.arith .sub (V 15) (I 1)),FA 17 4 1,QN (.store 1 (V 17) (V 16))]
def RI:List aF:=[FA 18 6 1,LD 19 18,Q 20 (.arith .add (V 19) (I 1)),FA 21 6 1,QN (.store 1 (V 21) (V 20))]
def RJ:List aF:=[Q 22 (.load true 7 false (V 1)),QN (.store 7 (V 2) (V 22)),Q 3 (.mov (I 0))]
@[simp]def aPn:=aH Qy.eq_1<|aH Qz.eq_1<|aH RA.eq_1<|aH RB.eq_1<|aH RC.eq_1<|aH RG.eq_1<|aH RH.eq_1<|aH RI.eq_1<|aT RJ.eq_1
def nN:ai:=
 ⟨1,[.cell 2 true 7,.tmp 3],
 (aE (ad Qy) (aE (aE (aG 4 6 Qz) (.cond (V 6) (aG 7 8 RA) .skip)) (aE (aE (aG 8 9 RB) (.cond (V 9) (aE (aG 10 11 RC) .ret) .skip)) (aE (aE (aG 11 13 RG) (.cond (V 13) (aG 14 18 RH) .skip)) (aE (aG 18 22 RI) (aE (aG 22 23 RJ) .ret)))))),false⟩
def RK:List aF:=[Q 4 (.mov (.cst .nilp)),Q 5 (.mov (I 0))]
def RL:List aF:=[M 7 0,Q 8 (.eqn false .p (V 7)),M 9 8,QG (some 10) (.mov (V 0)) 9 false,QG (some 11) (.nilck (V 10)) 9 false,QG (some 12) (.faddr 2 (V 11)) 9 false,QG (some 13) (.load false 1 false (V 12)) 9 false,QG (some 14) (.eqn false .m (V 13)) 9 false,Q 15 (.pick (V 9) bh (V 14)),M 6 15]
def RM:List aF:=[Q 4 (.mov (.cst .nilp)),Q 5 (.mov (I 1))]
def RN:List aF:=[M 17 1,Q 18 (.call .pur 202 [V 17]),Q 19 (.un .not (V 18)),M 16 19]
def RO:List aF:=[Q 4 (.mov (.cst .nilp)),Q 5 (.mov (I 8))]
def RP:List aF:=[M 21 0,bN 22 21,FA 23 2 22,LD 24 23,M 25 1,Q 26 (.mlk true false .nilp (V 24) (V 25)),Q 27 (.eqn false .p (V 26)),M 20 27]
def RQ:List aF:=[Q 4 (.mov (.cst .nilp)),Q 5 (.mov (I 9))]
def RR:List aF:=[M 28 0,bN 29 28,FA 30 2 29,LD 31 30,M 32 1,Q 33 (.mlk true false .nilp (V 31) (V 32)),M 4 33,Q 5 (.mov (I 0))]
@[simp]def aPo:=aH RK.eq_1<|aH RL.eq_1<|aH RM.eq_1<|aH RN.eq_1<|aH RO.eq_1<|aH RP.eq_1<|aH RQ.eq_1<|aT RR.eq_1
def z24:ai:=
 ⟨2,[.tmp 4,.tmp 5],
 (aE (ad RK) (aE (.block 0 (aE (aG 7 16 RL) (.cond (V 6) (aE (ad RM) .ret) (aE (aG 17 20 RN) (.cond (V 16) (aE (ad RO) .ret) (aE (aG 21 28 RP) (.cond (V 20) (aE (ad RQ) .ret) .skip))))))) (aE (aG 28 34 RR) .ret))),false⟩
def RT:List aF:=[M 3 0,bN 4 3,FA 5 4 4,LD 6 5,Q 7 (.arith .eql (V 6) (I 0))]
def RU:List aF:=[M 8 0,bN 9 8,FA 10 6 9,QN (.store 1 (V 10) bh)]
def RV:List aF:=[M 11 0,bN 12 11,FA 13 6 12,LD 14 13]
def RW:List aF:=[M 15 0,bN 16 15,FA 17 4 16,LD 18 17,Q 19 (.arith .gtr (V 18) (I 0))]
def RX:List aF:=[M 20 0,bN 21 20,FA 22 4 21,LD 23 22,Q 24 (.arith .sub (V 23) (I 1)),bN 25 20,FA 26 4 25,QN (.store 1 (V 26) (V 24))]
def RY:List aF:=[M 27 0,bN 28 27,FA 29 5 28,LD 30 29,Q 31 (.arith .add (V 30) (I 1)),bN 32 27,FA 33 5 32,QN (.store 1 (V 33) (V 31))]
@[simp]def aPp:=aH RT.eq_1<|aH RU.eq_1<|aH RV.eq_1<|aH RW.eq_1<|aH RX.eq_1<|aT RY.eq_1
def nO:ai:=
 ⟨1,[.tmp 2],
 (aE (.region [Q 2 (.mov (I 0))]) (aE (aE (aG 3 7 RT) (.cond (V 7) (aG 8 11 RU) .skip)) (aE (aE (aG 11 14 RV) (.cond (V 14) (aE (.region [Q 2 (.mov (I 6))]) .ret) .skip)) (aE (aE (aG 15 19 RW) (.cond (V 19) (aG 20 27 RX) .skip)) (aE (aG 27 34 RY) (aE (.region [Q 2 (.mov (I 0))]) .ret)))))),false⟩
def RZ:List aF:=[Q 7 (.load true 6 false (V 1)),Q 8 (.call .std 183 [V 7]),M 4 8]
def Ra:List aF:=[M 9 4,Q 10 (.arith .neq (V 9) (I 0))]
def Rb:List aF:=[M 11 4,Q 2 (.mov (.cst .nils)),M 3 11]
def Rc:List aF:=[FA 12 0 1,LD 13 12,Q 14 (.call .std 219 [V 13]),M 5 14]
def Rd:List aF:=[FA 15 0 1,LD 16 15]
def Re:List aF:=[Q 18 (.arith .eql (V 16) (I 1)),M 17 18]
def Rf:List aF:=[M 19 5,FA 20 1 1,LD 21 20,Q 22 (.call .std 109 [V 21]),Q 23 (.app 1 1 (V 19) (V 22)),M 2 23,Q 3 (.mov (I 0))]
def Rg:List aF:=[Q 25 (.arith .eql (V 16) (I 2)),M 24 25]
def Rh:List aF:=[M 26 5,FA 27 2 1,LD 28 27,Q 29 (.len false (V 28)),Q 30 (.call .std 219 [V 29]),Q 31 (.app 1 1 (V 26) (V 30)),M 5 31]
def Ri:List aF:=[M 32 6,FA 33 2 1,LD 34 33,Q 35 (.len false (V 34)),Q 36 (.arith .lss (V 32) (V 35))]
def Rj:List aF:=[M 39 5,FA 40 2 1,Q 41 (.load false 1 true (V 40)),M 42 6,Q 43 (.iaddr 3 (V 41) (V 42)),FA 44 0 43,Q 45 (.load false 1 true (V 44)),Q 46 (.call .std 219 [V 45]),Q 47 (.app 1 1 (V 39) (V 46)),FA 48 2 1,Q 49 (.load false 1 true (V 48)),M 50 6,Q 51 (.iaddr 3 (V 49) (V 50)),FA 52 1 51,FA 53 0 52,Q 54 (.load false 1 true (V 53)),Q 55 (.call .std 219 [V 54]),Q 56 (.app 1 1 (V 47) (V 55)),FA 57 2 1,Q 58 (.load false 1 true (V 57)),M 59 6,Q 60 (.iaddr 3 (V 58) (V 59)),FA 61 1 60,FA 62 1 61,Q 63 (.load false 1 true (V 62)),Q 64 (.call .pur 326 [V 63]),Q 65 (.call .std 219 [V 64]),Q 66 (.app 1 1 (V 56) (V 65)),M 5 66]
def Rk:List aF:=[M 37 6,Q 38 (.arith .add (V 37) (I 1)),M 6 38]
@[simp]def aPq:=aH RZ.eq_1<|aH Ra.eq_1<|aH Rb.eq_1<|aH Rc.eq_1<|aH Rd.eq_1<|aH Re.eq_1<|aH Rf.eq_1<|aH Rg.eq_1<|aH Rh.eq_1<|aH Ri.eq_1<|aH Rj.eq_1<|aT Rk.eq_1
def CC:az:=
 (aE (aE (aG 32 36 Ri) (.cond (V 36) .skip (.exit 1))) (aE (.block 2 (aG 39 67 Rj)) (aG 37 39 Rk)))
@[simp]def aPr:=cL CC.eq_1
def Rl:List aF:=[M 67 5,M 2 67,Q 3 (.mov (I 0))]
def Rm:List aF:=[M 68 5,FA 69 3 1,Q 70 (.load false 1 true (V 69)),Q 71 (.call .std 327 [V 70]),Q 72 (.app 1 1 (V 68) (V 71)),FA 73 4 1,Q 74 (.load false 1 true (V 73)),Q 75 (.call .std 219 [V 74]),Q 76 (.app 1 1 (V 72) (V 75)),FA 77 5 1,Q 78 (.load false 1 true (V 77)),Q 79 (.call .std 219 [V 78]),Q 80 (.app 1 1 (V 76) (V 79)),M 2 80,Q 3 (.mov (I 0))]
@[simp]def aPs:=aH Rl.eq_1<|aT Rm.eq_1
def mO:ai:=
 ⟨1,[.tmp 2,.tmp 3],
 (aE (ad BM) (aE (aE (aG 7 9 RZ) (aE (aG 9 10 Ra) (.cond (V 10) (aE (aG 11 12 Rb) .ret) .skip))) (aE (aG 12 15 Rc) (aE (aE (aG 15 16 Rd) (.block 0 (aE (aG 18 19 Re) (.cond (V 17) (aE (aG 19 24 Rf) .ret) (aE (aG 25 26 Rg) (.cond (V 24) (aE (aG 26 32 Rh) (aE (aE (.region [Q 6 (.mov (I 0))]) (.block 1 (.loop CC))) (aE (aG 67 68 Rl) .ret))) .skip)))))) (aE (aG 68 81 Rm) .ret))))),false⟩
def Rn:List aF:=[M 5 0,Q 6 (.len false (V 5)),Q 7 (.arith .quo (V 6) (I 256)),Q 8 (.toInt .u8 (V 7)),M 9 0,Q 10 (.len false (V 9)),Q 11 (.arith .rem (V 10) (I 256)),Q 12 (.toInt .u8 (V 11)),Q 13 (.bsl false (.int .u8 0) 2 [(0,V 8),(1,V 12)]),M 14 0,Q 15 (.app 1 1 (V 13) (V 14)),M 3 15]
def Ro:List aF:=[M 16 3,Q 17 (.call .std 259 [V 16]),M 4 17]
def Rp:List aF:=[M 18 3,M 19 4,Q 20 (.arith .rem (V 19) (.cst (.int .u32 256))),Q 21 (.toInt .u8 (V 20)),M 22 4,Q 23 (.arith .quo (V 22) (.cst (.int .u32 256))),Q 24 (.arith .rem (V 23) (.cst (.int .u32 256))),Q 25 (.toInt .u8 (V 24)),M 26 4,Q 27 (.arith .quo (V 26) (.cst (.int .u32 65536))),Q 28 (.arith .rem (V 27) (.cst (.int .u32 256))),Q 29 (.toInt .u8 (V 28)),M 30 4,Q 31 (.arith .quo (V 30) (.cst (.int .u32 16777216))),Q 32 (.toInt .u8 (V 31)),Q 33 (.bsl false (.int .u8 0) 4 [(0,V 21),(1,V 25),(2,V 29),(3,V 32)]),Q 34 (.app 1 1 (V 18) (V 33)),M 2 34]
@[simp]def aPt:=aH Rn.eq_1<|aH Ro.eq_1<|aT Rp.eq_1
def z63:ai:=
 ⟨1,[.tmp 2],
 (aE (.region [Q 2 (.mov (.cst .nils))]) (aE (aG 5 16 Rn) (aE (aG 16 18 Ro) (aE (aG 18 35 Rp) .ret)))),false⟩
def Rq:List aF:=[M 7 1,Q 8 (.len false (V 7)),Q 9 (.arith .gtr (V 8) (I 65535))]
def CD:List aF:=[Q 4 (.mov (.cst .nils)),Q 5 (.mov (I 3))]
def Rr:List aF:=[M 10 0,M 11 1,Q 12 (.len false (V 11)),Q 13 (.arith .add (V 12) (I 6)),Q 14 (.call .std 218 [V 10,V 13]),M 15 1,Q 16 (.len false (V 15)),Q 17 (.arith .shr (V 16) (.cst (.int .u64 8))),Q 18 (.toInt .u8 (V 17)),M 19 1,Q 20 (.len false (V 19)),Q 21 (.toInt .u8 (V 20)),Q 22 (.bsl false (.int .u8 0) 2 [(0,V 18),(1,V 21)]),Q 23 (.app 1 1 (V 14) (V 22)),M 24 1,Q 25 (.app 1 1 (V 23) (V 24)),M 6 25]
def Rs:List aF:=[M 26 6,M 27 6,M 28 0,Q 29 (.len false (V 28)),Q 30 (.slc 1 (some (V 29)) none (V 27)),Q 31 (.call .std 328 [V 26,V 30]),M 4 31,Q 5 (.mov (I 0))]
@[simp]def aPu:=aH Rq.eq_1<|aH CD.eq_1<|aH Rr.eq_1<|aT Rs.eq_1
def ti:ai:=
 ⟨2,[.tmp 4,.tmp 5],
 (aE (ad pE) (aE (aE (aG 7 9 Rq) (.cond (V 9) (aE (ad CD) .ret) .skip)) (aE (aG 10 26 Rr) (aE (aG 26 32 Rs) .ret)))),false⟩
def Rt:List aF:=[M 9 0,M 10 1,Q 11 (.call .std 194 [V 9,V 10]),M 8 11,EX 12 0 8,EX 13 1 8,M 5 12,M 6 13]
def Ru:List aF:=[M 16 6,M 4 16]
def Rv:List aF:=[M 17 0,Q 18 (.call .std 196 [V 17]),M 7 18]
def Rw:List aF:=[M 19 7,Q 20 (.arith .neq (V 19) (I 0))]
def Rx:List aF:=[M 21 7,M 4 21]
def Ry:List aF:=[M 22 5,M 23 5,bN 24 23,FA 25 0 24,LD 26 25,Q 27 (.len false (V 26)),bN 28 22,FA 29 1 28,QN (.store 1 (V 29) (V 27))]
@[simp]def aPv:=aH Rt.eq_1<|aH Ru.eq_1<|aH Rv.eq_1<|aH Rw.eq_1<|aH Rx.eq_1<|aT Ry.eq_1
def nP:ai:=
 ⟨2,[.tmp 4],
 (aE (.region [Q 4 (.mov (I 0))]) (aE (aG 8 14 Rt) (aE (aE (aG 14 15 Bj) (.cond (V 15) (aE (aG 16 17 Ru) .ret) .skip)) (aE (aE (aG 17 19 Rv) (aE (aG 19 20 Rw) (.cond (V 20) (aE (aG 21 22 Rx) .ret) .skip))) (aE (aG 22 30 Ry) (aE (.region [Q 4 (.mov (I 0))]) .ret)))))),false⟩
def Rz:List aF:=[M 3 0,Q 4 (.eqn false .s (V 3))]
def SE:List aF:=[Q 5 (.bsl false (.int .u8 0) 0 []),M 6 0,Q 7 (.app 1 1 (V 5) (V 6)),M 2 7]
@[simp]def aPw:=aH Rz.eq_1<|aT SE.eq_1
def z5:ai:=
 ⟨1,[.tmp 2],
 (aE (.region [Q 2 (.mov (.cst .nils))]) (aE (aE (aG 3 4 Rz) (.cond (V 4) (aE (.region [Q 2 (.mov (.cst .nils))]) .ret) .skip)) (aE (aG 5 8 SE) .ret))),false⟩
def SF:List aF:=[M 5 0,Q 6 (.len false (V 5)),Q 7 (.arith .gtr (V 6) (I 8))]
def xw:List aF:=[M 8 0,Q 9 (.len false (V 8)),Q 10 (.mov (I 0))]
def SG:List aF:=[M 12 10,Q 13 (.iaddr 2 (V 8) (V 10)),Q 14 (.load true 2 false (V 13)),Q 4 (.alloc false [(.str []),(.str [])]),M 3 12,QN (.store 2 (V 4) (V 14))]
def SH:List aF:=[FA 16 0 4,LD 17 16,Q 18 (.call .pur 121 [V 17]),Q 19 (.un .not (V 18)),M 15 19]
def SI:List aF:=[FA 21 1 4,LD 22 21,Q 23 (.arith .eql (V 22) (.cst (.str []))),M 20 23]
def SJ:List aF:=[FA 25 1 4,LD 26 25,Q 27 (.len true (V 26)),Q 28 (.arith .gtr (V 27) (I 64)),M 24 28]
def SK:List aF:=[M 30 3,Q 31 (.arith .gtr (V 30) (I 0)),M 32 31,QG (some 33) (.faddr 0 (V 4)) 32 true,QG (some 34) (.load false 1 false (V 33)) 32 true,QG (some 35) (.mov (V 0)) 32 true,QG (some 36) (.mov (V 3)) 32 true,QG (some 37) (.arith .sub (V 36) (I 1)) 32 true,QG (some 38) (.iaddr 2 (V 35) (V 37)) 32 true,QG (some 39) (.faddr 0 (V 38)) 32 true,QG (some 40) (.load false 1 true (V 39)) 32 true,QG (some 41) (.arith .leq (V 34) (V 40)) 32 true,Q 42 (.pick (V 32) (V 41) au),M 29 42]
def SL:List aF:=[Q 43 (.arith .add (V 10) (I 1)),M 10 43]
@[simp]def aPx:=aH SF.eq_1<|aH xw.eq_1<|aH SG.eq_1<|aH SH.eq_1<|aH SI.eq_1<|aH SJ.eq_1<|aH SK.eq_1<|aT SL.eq_1
def xx:az:=
 (aE (.region [Q 11 (.arith .lss (V 10) (V 9))]) (aE (.cond (V 11) .skip (.exit 0)) (aE (.block 1 (aE (aG 12 15 SG) (.block 2 (aE (aG 16 20 SH) (.cond (V 15) (aE (.region [Q 2 (.mov (I 8))]) .ret) (aE (aG 21 24 SI) (.cond (V 20) (aE (.region [Q 2 (.mov (I 2))]) .ret) (aE (aG 25 29 SJ) (.cond (V 24) (aE (.region [Q 2 (.mov (I 3))]) .ret) (aE (aG 30 43 SK) (.cond (V 29) (aE (.region [Q 2 (.mov (I 13))]) .ret) .skip))))))))))) (aG 43 44 SL))))
@[simp]def aPy:=cL xx.eq_1
def tj:ai:=
 ⟨1,[.tmp 2],
 (aE (.region [Q 2 (.mov (I 0))]) (aE (aE (aG 5 7 SF) (.cond (V 7) (aE (.region [Q 2 (.mov (I 3))]) .ret) .skip)) (aE (aE (ad xw) (.block 0 (.loop xx))) (aE (.region [Q 2 (.mov (I 0))]) .ret)))),false⟩
def SM:List aF:=[M 5 0,Q 6 (.len false (V 5)),Q 7 (.arith .lss (V 6) (I 1)),M 8 7,QG (some 9) (.mov (V 0)) 8 false,QG (some 10) (.len false (V 9)) 8 false,QG (some 11) (.arith .gtr (V 10) (I 64)) 8 false,Q 12 (.pick (V 8) bh (V 11))]
def CE:List aF:=[M 13 0,Q 14 (.len false (V 13)),Q 15 (.mov (I 0))]
def CF:List aF:=[Q 16 (.arith .lss (V 15) (V 14))]
def SN:List aF:=[Q 17 (.iaddr 3 (V 13) (V 15)),Q 18 (.load true 3 false (V 17)),Q 4 (.alloc false [(.int .i64 0),(.int .i64 0),(.int .i64 0)]),QN (.store 3 (V 4) (V 18))]
def SO:List aF:=[FA 19 0 4,LD 20 19,Q 21 (.arith .lss (V 20) (I 0)),M 22 21,QG (some 23) (.faddr 0 (V 4)) 22 false,QG (some 24) (.load false 1 false (V 23)) 22 false,QG (some 25) (.arith .gtr (V 24) (I 1099511627776)) 22 false,Q 26 (.pick (V 22) bh (V 25))]
def SP:List aF:=[FA 27 1 4,Q 28 (.load true 2 false (V 27)),Q 29 (.bsl false (.agg [(.int .i64 0),(.int .i64 0)]) 1 [(0,V 28)]),Q 30 (.call .std 154 [V 29]),Q 31 (.arith .neq (V 30) (I 0))]
def SQ:List aF:=[Q 32 (.arith .add (V 15) (I 1)),M 15 32]
@[simp]def aPz:=aH SM.eq_1<|aH CE.eq_1<|aH CF.eq_1<|aH SN.eq_1<|aH SO.eq_1<|aH SP.eq_1<|aT SQ.eq_1
def CG:az:=
 (aE (ad CF) (aE (.cond (V 16) .skip (.exit 0)) (aE (.block 1 (aE (aG 17 19 SN) (aE (aE (aG 19 26 SO) (.cond (V 26) (aE (.region [Q 2 (.mov (I 2))]) .ret) .skip)) (aE (aG 27 31 SP) (.cond (V 31) (aE (.region [Q 2 (.mov (I 11))]) .ret) .skip))))) (aG 32 33 SQ))))
@[simp]def aPA:=cL CG.eq_1
def z29:ai:=
 ⟨1,[.tmp 2],
 (aE (.region [Q 2 (.mov (I 0))]) (aE (aE (aG 5 12 SM) (.cond (V 12) (aE (.region [Q 2 (.mov (I 2))]) .ret) .skip)) (aE (aE (ad CE) (.block 0 (.loop CG))) (aE (.region [Q 2 (.mov (I 0))]) .ret)))),false⟩
def SS:List aF:=[FA 4 3 1,LD 5 4,Q 6 (.call .std 318 [V 5]),M 3 6]
def ST:List aF:=[M 7 3,Q 8 (.arith .neq (V 7) (I 0))]
def SU:List aF:=[M 9 3,M 2 9]
def SV:List aF:=[FA 11 3 1,LD 12 11,Q 13 (.len false (V 12)),Q 14 (.arith .eql (V 13) (I 0)),M 10 14]
def SW:List aF:=[FA 16 4 1,LD 17 16,Q 18 (.arith .lss (V 17) (I 0)),M 19 18,QG (some 20) (.faddr 5 (V 1)) 19 false,QG (some 21) (.load false 1 false (V 20)) 19 false,QG (some 22) (.arith .gtr (V 21) (I 1099511627776)) 19 false,Q 23 (.pick (V 19) bh (V 22)),M 15 23]
def SY:List aF:=[FA 25 4 1,LD 26 25,FA 27 5 1,LD 28 27,Q 29 (.arith .gtr (V 26) (V 28)),M 24 29]
@[simp]def aPB:=aH SS.eq_1<|aH ST.eq_1<|aH SU.eq_1<|aH SV.eq_1<|aH SW.eq_1<|aT SY.eq_1
def pH:ai:=
 ⟨1,[.tmp 2],
 (aE (ad xp) (aE (aE (aG 4 7 SS) (aE (aG 7 8 ST) (.cond (V 8) (aE (aG 9 10 SU) .ret) .skip))) (aE (.block 0 (aE (aG 11 15 SV) (.cond (V 10) (aE (.region [Q 2 (.mov (I 2))]) .ret) (aE (aG 16 24 SW) (.cond (V 15) (aE (.region [Q 2 (.mov (I 11))]) .ret) (aE (aG 25 30 SY) (.cond (V 24) (aE (.region [Q 2 (.mov (I 13))]) .ret) .skip))))))) (aE (.region [Q 2 (.mov (I 0))]) .ret)))),false⟩
def SZ:List aF:=[M 5 0,Q 6 (.len false (V 5)),M 7 1,Q 8 (.arith .add (V 6) (V 7)),Q 9 (.mks 1 1 (V 8)),M 10 0,Q 11 (.app 1 1 (V 9) (V 10)),M 4 11]
@[simp]def aPC:=aT SZ.eq_1
def tk:ai:=
 ⟨2,[.tmp 4],
 (aE (.region [Q 4 (.mov (.cst .nils))]) (aE (aG 5 12 SZ) .ret)),true⟩
def Sa:List aF:=[M 8 1,Q 9 (.len true (V 8)),Q 10 (.arith .gtr (V 9) (I 65535))]
def Sb:List aF:=[M 12 0,M 13 1,Q 14 (.len true (V 13)),Q 15 (.call .std 107 [V 12,V 14]),M 11 15,EX 16 0 11,EX 17 1 11,M 6 16,M 7 17]
def Sc:List aF:=[M 18 6,M 19 1,Q 20 (.app 1 1 (V 18) (V 19)),M 4 20,Q 5 (.mov (I 0))]
@[simp]def aPD:=aH Sa.eq_1<|aH Sb.eq_1<|aT Sc.eq_1
def z28:ai:=
 ⟨2,[.tmp 4,.tmp 5],
 (aE (ad pE) (aE (aE (aG 8 10 Sa) (.cond (V 10) (aE (ad CD) .ret) .skip)) (aE (.clr [(7,8),(11,18)] (ad Sb)) (aE (aG 18 21 Sc) .ret)))),true⟩
def Sd:List aF:=[M 5 0,Q 6 (.len false (V 5)),Q 7 (.arith .gtr (V 6) (I 1024))]
def Se:List aF:=[M 12 10,Q 13 (.iaddr 1 (V 8) (V 10)),LD 14 13,M 3 12,M 4 14]
def Sf:List aF:=[M 16 4,Q 17 (.arith .lss (V 16) (I 0)),M 18 17,QG (some 19) (.mov (V 4)) 18 false,QG (some 20) (.arith .gtr (V 19) (I 1099511627776)) 18 false,Q 21 (.pick (V 18) bh (V 20)),M 15 21]
def Sg:List aF:=[M 23 3,Q 24 (.arith .gtr (V 23) (I 0)),M 25 24,QG (some 26) (.mov (V 4)) 25 true,QG (some 27) (.mov (V 0)) 25 true,QG (some 28) (.mov (V 3)) 25 true,QG (some 29) (.arith .sub (V 28) (I 1)) 25 true,QG (some 30) (.iaddr 1 (V 27) (V 29)) 25 true,QG (some 31) (.load false 1 false (V 30)) 25 true,QG (some 32) (.arith .leq (V 26) (V 31)) 25 true,Q 33 (.pick (V 25) (V 32) au),M 22 33]
def Sh:List aF:=[Q 34 (.arith .add (V 10) (I 1)),M 10 34]
@[simp]def aPE:=aH Sd.eq_1<|aH Se.eq_1<|aH Sf.eq_1<|aH Sg.eq_1<|aT Sh.eq_1
def xy:az:=
 (aE (.region [Q 11 (.arith .lss (V 10) (V 9))]) (aE (.cond (V 11) .skip (.exit 0)) (aE (.block 1 (aE (aG 12 15 Se) (.block 2 (aE (aG 16 22 Sf) (.cond (V 15) (aE (.region [Q 2 (.mov (I 2))]) .ret) (aE (aG 23 34 Sg) (.cond (V 22) (aE (.region [Q 2 (.mov (I 13))]) .ret) .skip))))))) (aG 34 35 Sh))))
@[simp]def aPF:=cL xy.eq_1
def z36:ai:=
 ⟨1,[.tmp 2],
 (aE (.region [Q 2 (.mov (I 0))]) (aE (aE (aG 5 7 Sd) (.cond (V 7) (aE (.region [Q 2 (.mov (I 3))]) .ret) .skip)) (aE (aE (ad xw) (.block 0 (.loop xy))) (aE (.region [Q 2 (.mov (I 0))]) .ret)))),false⟩
def CH:List aF:=[Q 4 (.mov (I 0)),Q 5 (.mov (I 0)),Q 6 (.mov (I 0))]
def Si:List aF:=[M 10 1,Q 11 (.arith .lss (V 10) (I 0)),M 12 11,QG (some 13) (.mov (V 1)) 12 false,QG (some 14) (.mov (V 0)) 12 false,QG (some 15) (.len false (V 14)) 12 false,QG (some 16) (.arith .gtr (V 13) (V 15)) 12 false,Q 17 (.pick (V 12) bh (V 16))]
def CI:List aF:=[Q 4 (.mov (I 0)),Q 5 (.mov (I 0)),Q 6 (.mov (I 2))]
def Sj:List aF:=[M 18 0,M 19 1,Q 20 (.slc 1 (some (V 19)) none (V 18)),Q 21 (.len false (V 20)),Q 22 (.mov (I 0))]
def Sk:List aF:=[Q 23 (.arith .lss (V 22) (V 21))]
def Sl:List aF:=[M 24 22,Q 25 (.iaddr 1 (V 20) (V 22)),LD 26 25,M 8 24,M 9 26]
def Sm:List aF:=[M 27 8,Q 28 (.arith .eql (V 27) (I 8)),M 29 28,QG (some 30) (.mov (V 9)) 29 true,QG (some 31) (.arith .gtr (V 30) (.cst (.int .u8 127))) 29 true,Q 32 (.pick (V 29) (V 31) au),M 33 32,QG (some 34) (.mov (V 8)) 33 false,QG (some 35) (.arith .gtr (V 34) (I 0)) 33 false,QG (some 36) (.mov (V 35)) 33 false,QG (some 37) (.mov (V 9)) 36 true,QG (some 38) (.arith .eql (V 37) (.cst (.int .u8 0))) 36 true,QG (some 39) (.pick (V 36) (V 38) au) 33 false,Q 40 (.pick (V 33) bh (V 39))]
def xz:List aF:=[Q 4 (.mov (I 0)),Q 5 (.mov (I 0)),Q 6 (.mov (I 5))]
def Sn:List aF:=[M 41 7,M 42 9,Q 43 (.arith .and (V 42) (.cst (.int .u8 127))),Q 44 (.toInt .u64 (V 43)),M 45 8,Q 46 (.arith .mul (I 7) (V 45)),Q 47 (.arith .shl (V 44) (V 46)),Q 48 (.arith .or (V 41) (V 47)),M 7 48]
def So:List aF:=[M 49 9,Q 50 (.arith .lss (V 49) (.cst (.int .u8 128)))]
def Sp:List aF:=[M 51 7,Q 52 (.toInt .i64 (V 51)),M 53 1,M 54 8,Q 55 (.arith .add (V 53) (V 54)),Q 56 (.arith .add (V 55) (I 1)),M 4 52,M 5 56,Q 6 (.mov (I 0))]
def Sq:List aF:=[Q 57 (.arith .add (V 22) (I 1)),M 22 57]
@[simp]def aPG:=aH CH.eq_1<|aH Si.eq_1<|aH CI.eq_1<|aH Sj.eq_1<|aH Sk.eq_1<|aH Sl.eq_1<|aH Sm.eq_1<|aH xz.eq_1<|aH Sn.eq_1<|aH So.eq_1<|aH Sp.eq_1<|aT Sq.eq_1
def CJ:az:=
 (aE (ad Sk) (aE (.cond (V 23) .skip (.exit 0)) (aE (.block 1 (aE (aG 24 27 Sl) (aE (aE (aG 27 40 Sm) (.cond (V 40) (aE (ad xz) .ret) .skip)) (aE (aG 41 49 Sn) (aE (aG 49 50 So) (.cond (V 50) (aE (aG 51 57 Sp) .ret) .skip)))))) (aG 57 58 Sq))))
@[simp]def aPH:=cL CJ.eq_1
def CK:List aF:=[Q 4 (.mov (I 0)),Q 5 (.mov (I 0)),Q 6 (.mov (I 4))]
@[simp]def aPI:=aT CK.eq_1
def tl:ai:=
 ⟨2,[.tmp 4,.tmp 5,.tmp 6],
 (aE (ad CH) (aE (aE (aG 10 17 Si) (.cond (V 17) (aE (ad CI) .ret) .skip)) (aE (.region [Q 7 (.mov (.cst (.int .u64 0)))]) (aE (aE (aG 18 20 Sj) (.block 0 (.loop CJ))) (aE (ad CK) .ret))))),false⟩
def CL:List aF:=[Q 4 (.mov (.cst (.str []))),Q 5 (.mov (I 0)),Q 6 (.mov (I 0))]
def Sr:List aF:=[M 11 0,M 12 1,Q 13 (.call .std 110 [V 11,V 12]),M 10 13,EX 14 0 10,EX 15 1 10,EX 16 2 10,M 7 14,M 8 15,M 9 16]
def Ss:List aF:=[M 18 9,Q 19 (.arith .neq (V 18) (I 0)),M 17 19]
def Su:List aF:=[M 20 9,Q 4 (.mov (.cst (.str []))),Q 5 (.mov (I 0)),M 6 20]
def Sv:List aF:=[M 22 7,Q 23 (.arith .gtr (V 22) (I 65535)),M 21 23]
def CN:List aF:=[Q 4 (.mov (.cst (.str []))),Q 5 (.mov (I 0)),Q 6 (.mov (I 3))]
def Sw:List aF:=[M 25 7,M 26 0,Q 27 (.len false (V 26)),M 28 8,Q 29 (.arith .sub (V 27) (V 28)),Q 30 (.arith .gtr (V 25) (V 29)),M 24 30]
def CO:List aF:=[Q 4 (.mov (.cst (.str []))),Q 5 (.mov (I 0)),Q 6 (.mov (I 4))]
def Sy:List aF:=[M 31 0,M 32 8,M 33 8,M 34 7,Q 35 (.arith .add (V 33) (V 34)),Q 36 (.slc 1 (some (V 32)) (some (V 35)) (V 31)),Q 37 (.toStr (V 36)),M 38 8,M 39 7,Q 40 (.arith .add (V 38) (V 39)),M 4 37,M 5 40,Q 6 (.mov (I 0))]
@[simp]def aPJ:=aH CL.eq_1<|aH Sr.eq_1<|aH Ss.eq_1<|aH Su.eq_1<|aH Sv.eq_1<|aH CN.eq_1<|aH Sw.eq_1<|aH CO.eq_1<|aT Sy.eq_1
def z33:ai:=
 ⟨2,[.tmp 4,.tmp 5,.tmp 6],
 (aE (ad CL) (aE (aG 10 17 Sr) (aE (.block 0 (aE (aG 18 20 Ss) (.cond (V 17) (aE (aG 20 21 Su) .ret) (aE (aG 22 24 Sv) (.cond (V 21) (aE (ad CN) .ret) (aE (aG 25 31 Sw) (.cond (V 24) (aE (ad CO) .ret) .skip))))))) (aE (aG 31 41 Sy) .ret)))),false⟩
def TA:List aF:=[M 6 0,Q 7 (.call .std 196 [V 6]),M 5 7]
def TB:List aF:=[M 8 5,Q 9 (.arith .neq (V 8) (I 0))]
def TC:List aF:=[M 10 5,M 4 10]
def TD:List aF:=[Q 11 (.load true 3 true (V 3)),M 12 0,bN 13 12,FA 14 2 13,LD 15 14,Q 16 (.call .std 198 [V 11,V 15])]
def TE:List aF:=[M 17 0,M 18 0,bN 19 18,FA 20 3 19,LD 21 20,Q 22 (.load true 3 true (V 3)),Q 23 (.bsl false (.agg [(.str []),(.str []),.nilp]) 1 [(0,V 22)]),Q 24 (.app 3 40 (V 21) (V 23)),bN 25 17,FA 26 3 25,QN (.store 1 (V 26) (V 24))]
@[simp]def aPK:=aH TA.eq_1<|aH TB.eq_1<|aH TC.eq_1<|aH TD.eq_1<|aT TE.eq_1
def pI:ai:=
 ⟨2,[.tmp 4],
 (aE (ad BZ) (aE (aE (aG 6 8 TA) (aE (aG 8 9 TB) (.cond (V 9) (aE (aG 10 11 TC) .ret) .skip))) (aE (aG 11 17 TD) (aE (aG 17 27 TE) (aE (.region [Q 4 (.mov (I 0))]) .ret))))),false⟩
def CP:List aF:=[M 9 1,Q 10 (.arith .lss (V 9) (I 0)),M 11 10,QG (some 12) (.mov (V 1)) 11 false,QG (some 13) (.mov (V 0)) 11 false,QG (some 14) (.len false (V 13)) 11 false,QG (some 15) (.arith .gtr (V 12) (V 14)) 11 false,Q 16 (.pick (V 11) bh (V 15))]
def CQ:List aF:=[Q 4 (.mov (.cst .nils)),Q 5 (.mov (I 0)),Q 6 (.mov (I 2))]
def TF:List aF:=[M 17 0,M 18 1,Q 19 (.slc 1 (some (V 18)) none (V 17)),M 7 19]
def TG:List aF:=[M 20 7,Q 21 (.len false (V 20)),Q 22 (.arith .lss (V 21) (I 6))]
def tm:List aF:=[Q 4 (.mov (.cst .nils)),Q 5 (.mov (I 0)),Q 6 (.mov (I 4))]
def TH:List aF:=[M 23 7,Q 24 (.iaddr 1 (V 23) (I 0)),Q 25 (.load false 1 true (V 24)),Q 26 (.toInt .i64 (V 25)),Q 27 (.arith .shl (V 26) (.cst (.int .u64 8))),M 28 7,Q 29 (.iaddr 1 (V 28) (I 1)),Q 30 (.load false 1 true (V 29)),Q 31 (.toInt .i64 (V 30)),Q 32 (.arith .or (V 27) (V 31)),M 8 32]
def TI:List aF:=[M 33 8,M 34 7,Q 35 (.len false (V 34)),Q 36 (.arith .sub (V 35) (I 6)),Q 37 (.arith .gtr (V 33) (V 36))]
def TJ:List aF:=[M 38 7,M 39 8,Q 40 (.arith .add (I 2) (V 39)),Q 41 (.slc 1 none (some (V 40)) (V 38)),Q 42 (.call .std 328 [(.cst .nils),V 41]),Q 43 (.toStr (V 42)),M 44 7,M 45 8,Q 46 (.arith .add (I 2) (V 45)),M 47 8,Q 48 (.arith .add (I 6) (V 47)),Q 49 (.slc 1 (some (V 46)) (some (V 48)) (V 44)),Q 50 (.toStr (V 49)),Q 51 (.arith .neq (V 43) (V 50))]
def tn:List aF:=[Q 4 (.mov (.cst .nils)),Q 5 (.mov (I 0)),Q 6 (.mov (I 5))]
def TK:List aF:=[M 52 7,M 53 8,Q 54 (.arith .add (I 2) (V 53)),Q 55 (.slc 1 (some (I 2)) (some (V 54)) (V 52)),Q 56 (.call .std 218 [V 55,(I 0)]),M 57 1,Q 58 (.arith .add (V 57) (I 6)),M 59 8,Q 60 (.arith .add (V 58) (V 59)),M 4 56,M 5 60,Q 6 (.mov (I 0))]
@[simp]def aPL:=aH CP.eq_1<|aH CQ.eq_1<|aH TF.eq_1<|aH TG.eq_1<|aH tm.eq_1<|aH TH.eq_1<|aH TI.eq_1<|aH TJ.eq_1<|aH tn.eq_1<|aT TK.eq_1
def nQ:ai:=
 ⟨2,[.tmp 4,.tmp 5,.tmp 6],
 (aE (ad pF) (aE (aE (aG 9 16 CP) (.cond (V 16) (aE (ad CQ) .ret) .skip)) (aE (aG 17 20 TF) (aE (aE (aG 20 22 TG) (.cond (V 22) (aE (ad tm) .ret) .skip)) (aE (aG 23 33 TH) (aE (aE (aG 33 37 TI) (.cond (V 37) (aE (ad tm) .ret) .skip)) (aE (aE (aG 38 51 TJ) (.cond (V 51) (aE (ad tn) .ret) .skip)) (aE (aG 52 61 TK) .ret)))))))),false⟩
def TL:List aF:=[M 5 0,M 6 1,Q 7 (.call .std 221 [V 5,V 6]),Q 8 (.arith .geq (V 7) (I 0)),M 4 8]
@[simp]def aPM:=aT TL.eq_1
def z0:ai:=
 ⟨2,[.tmp 4],
 (aE (.region [Q 4 (.mov au)]) (aE (aG 5 9 TL) .ret)),false⟩
def TM:List aF:=[M 15 6,M 4 15]
def TN:List aF:=[M 16 0,M 17 1,Q 18 (.build [(.str []),(.str []),.nilp] [(0,1,V 17)]),Q 19 (.call .std 195 [V 16,V 18]),M 4 19]
@[simp]def aPN:=aH TM.eq_1<|aT TN.eq_1
def z8:ai:=
 ⟨2,[.tmp 4],
 (aE (.region [Q 4 (.mov (I 0))]) (aE (aE (.clr [(5,6),(7,13)] (ad Bp)) (aE (aG 13 14 Be) (.cond (V 14) (aE (aG 15 16 TM) .ret) .skip))) (aE (aG 16 20 TN) .ret))),false⟩
def TO:List aF:=[LD 2 0,Q 3 (.call .std 77 [V 2,(.cst (.str [116,109,112]))]),M 1 3]
@[simp]def aPO:=aT TO.eq_1
def tp:ai:=
 ⟨1,[.tmp 1],
 (aE (.region [Q 1 (.mov (I 0))]) (aE (aG 2 4 TO) .ret)),false⟩
def TP:List aF:=[LD 3 0,LD 4 1,Q 5 (.call .std 78 [V 3,(.cst (.str [116,109,112])),V 4]),M 2 5]
@[simp]def aPP:=aT TP.eq_1
def tq:ai:=
 ⟨2,[.tmp 2],
 (aE (.region [Q 2 (.mov (I 0))]) (aE (aG 3 6 TP) .ret)),false⟩
def TQ:List aF:=[LD 2 0,Q 3 (.call .std 84 [V 2,(.cst (.str [116,109,112]))]),M 1 3]
@[simp]def aPQ:=aT TQ.eq_1
def tr:ai:=
 ⟨1,[.tmp 1],
 (aE (.region [Q 1 (.mov (I 0))]) (aE (aG 2 4 TQ) .ret)),false⟩
def TR:List aF:=[LD 3 0,LD 4 1,Q 5 (.call .std 82 [V 3,(.cst (.str [116,109,112])),V 4]),M 2 5]
@[simp]def aPR:=aT TR.eq_1
def tu:ai:=
 ⟨2,[.tmp 2],
 (aE (.region [Q 2 (.mov (I 0))]) (aE (aG 3 6 TR) .ret)),false⟩
def TS:List aF:=[M 10 0,M 11 1,Q 12 (.call .std 194 [V 10,V 11]),M 9 12,EX 13 0 9,EX 14 1 9,M 7 13,M 8 14]
def TT:List aF:=[M 15 8,Q 16 (.arith .neq (V 15) (I 0)),M 17 16,QG (some 18) (.mov (V 8)) 17 true,QG (some 19) (.arith .neq (V 18) (I 9)) 17 true,Q 20 (.pick (V 17) (V 19) au)]
def TU:List aF:=[M 22 2,Q 23 (.call .pur 202 [V 22]),Q 24 (.un .not (V 23))]
def TV:List aF:=[M 25 8,Q 26 (.arith .neq (V 25) (I 0))]
def TW:List aF:=[M 27 8,M 6 27]
def TX:List aF:=[M 28 0,M 29 1,M 30 2,Q 31 (.build [(.str []),(.str []),.nilp] [(0,1,V 29),(1,1,V 30)]),Q 32 (.call .std 195 [V 28,V 31]),M 6 32]
@[simp]def aPS:=aH TS.eq_1<|aH TT.eq_1<|aH TU.eq_1<|aH TV.eq_1<|aH TW.eq_1<|aT TX.eq_1
def z7:ai:=
 ⟨3,[.tmp 6],
 (aE (.region [Q 6 (.mov (I 0))]) (aE (.clr [(7,8),(9,15)] (ad TS)) (aE (aE (aG 15 20 TT) (.cond (V 20) (aE (aG 21 22 BY) .ret) .skip)) (aE (aE (aG 22 24 TU) (.cond (V 24) (aE (.region [Q 6 (.mov (I 8))]) .ret) .skip)) (aE (aE (aG 25 26 TV) (.cond (V 26) (aE (aG 27 28 TW) .ret) .skip)) (aE (aG 28 33 TX) .ret)))))),false⟩
def TY:List aF:=[M 17 0,Q 18 (.len false (V 17)),M 19 1,Q 20 (.arith .sub (V 18) (V 19)),Q 21 (.arith .lss (V 20) (I 6))]
def TZ:List aF:=[M 22 0,M 23 1,Q 24 (.iaddr 1 (V 22) (V 23)),Q 25 (.load false 1 true (V 24)),Q 26 (.toInt .i64 (V 25)),Q 27 (.arith .mul (V 26) (I 256)),M 28 0,M 29 1,Q 30 (.arith .add (V 29) (I 1)),Q 31 (.iaddr 1 (V 28) (V 30)),Q 32 (.load false 1 true (V 31)),Q 33 (.toInt .i64 (V 32)),Q 34 (.arith .add (V 27) (V 33)),M 7 34]
def Ta:List aF:=[M 35 7,M 36 0,Q 37 (.len false (V 36)),M 38 1,Q 39 (.arith .sub (V 37) (V 38)),Q 40 (.arith .sub (V 39) (I 6)),Q 41 (.arith .gtr (V 35) (V 40))]
def Tb:List aF:=[Q 42 (.bsl false (.int .u8 0) 0 []),M 43 0,M 44 1,Q 45 (.arith .add (V 44) (I 2)),M 46 1,Q 47 (.arith .add (V 46) (I 2)),M 48 7,Q 49 (.arith .add (V 47) (V 48)),Q 50 (.slc 1 (some (V 45)) (some (V 49)) (V 43)),Q 51 (.app 1 1 (V 42) (V 50)),M 8 51]
def Tc:List aF:=[M 52 8,Q 53 (.call .std 255 [V 52]),Q 54 (.toStr (V 53)),M 55 0,M 56 1,M 57 1,Q 58 (.arith .add (V 57) (I 6)),M 59 7,Q 60 (.arith .add (V 58) (V 59)),Q 61 (.slc 1 (some (V 56)) (some (V 60)) (V 55)),Q 62 (.toStr (V 61)),Q 63 (.arith .neq (V 54) (V 62))]
def Td:List aF:=[M 64 8,M 65 1,Q 66 (.arith .add (V 65) (I 6)),M 67 7,Q 68 (.arith .add (V 66) (V 67)),M 4 64,M 5 68,Q 6 (.mov (I 0))]
@[simp]def aPT:=aH TY.eq_1<|aH TZ.eq_1<|aH Ta.eq_1<|aH Tb.eq_1<|aH Tc.eq_1<|aT Td.eq_1
def nR:ai:=
 ⟨2,[.tmp 4,.tmp 5,.tmp 6],
 (aE (ad pF) (aE (aE (aG 9 16 CP) (.cond (V 16) (aE (ad CQ) .ret) .skip)) (aE (aE (aG 17 21 TY) (.cond (V 21) (aE (ad tm) .ret) .skip)) (aE (aG 22 35 TZ) (aE (aE (aG 35 41 Ta) (.cond (V 41) (aE (ad tm) .ret) .skip)) (aE (aG 42 52 Tb) (aE (aE (aG 52 63 Tc) (.cond (V 63) (aE (ad tn) .ret) .skip)) (aE (aG 64 69 Td) .ret)))))))),false⟩
def Te:List aF:=[Q 2 (.alloc false [(.int .i64 0),.nils,.nils,.nils,(.int .i64 0),(.int .i64 0)]),Q 3 (.mov (I 0))]
def Tf:List aF:=[M 9 0,Q 10 (.call .std 374 [V 9]),M 8 10,EX 11 0 8,EX 12 1 8,Q 4 (.alloc false [(.int .i64 0),.nils,.nils,.nils,(.int .i64 0),(.int .i64 0)]),QN (.store 6 (V 4) (V 11)),M 5 12]
def Tg:List aF:=[M 13 5,Q 14 (.un .not (V 13))]
def Th:List aF:=[Q 15 (.build [(.int .i64 0),.nils,.nils,.nils,(.int .i64 0),(.int .i64 0)] []),QN (.store 6 (V 2) (V 15)),Q 3 (.mov (I 5))]
def Ti:List aF:=[Q 17 (.load true 6 false (V 4)),Q 18 (.call .std 254 [V 17]),M 16 18,EX 19 0 16,EX 20 1 16,M 6 19,M 7 20]
def Tj:List aF:=[M 21 7,Q 22 (.arith .neq (V 21) (I 0)),M 23 22,QG (some 24) (.mov (V 6)) 23 false,QG (some 25) (.toStr (V 24)) 23 false,QG (some 26) (.mov (V 0)) 23 false,QG (some 27) (.toStr (V 26)) 23 false,QG (some 28) (.arith .neq (V 25) (V 27)) 23 false,Q 29 (.pick (V 23) bh (V 28))]
def Tk:List aF:=[Q 30 (.build [(.int .i64 0),.nils,.nils,.nils,(.int .i64 0),(.int .i64 0)] []),QN (.store 6 (V 2) (V 30)),Q 3 (.mov (I 5))]
def Tl:List aF:=[Q 31 (.load true 6 false (V 4)),QN (.store 6 (V 2) (V 31)),Q 3 (.mov (I 0))]
@[simp]def aPU:=aH Te.eq_1<|aH Tf.eq_1<|aH Tg.eq_1<|aH Th.eq_1<|aH Ti.eq_1<|aH Tj.eq_1<|aH Tk.eq_1<|aT Tl.eq_1
def mP:ai:=
 ⟨1,[.cell 2 true 6,.tmp 3],
 (aE (ad Te) (aE (aG 8 13 Tf) (aE (aE (aG 13 14 Tg) (.cond (V 14) (aE (aG 15 16 Th) .ret) .skip)) (aE (aG 16 21 Ti) (aE (aE (aG 21 29 Tj) (.cond (V 29) (aE (aG 30 31 Tk) .ret) .skip)) (aE (aG 31 32 Tl) .ret)))))),false⟩
def Tm:List aF:=[M 17 0,M 18 5,Q 19 (.iaddr 1 (V 17) (V 18)),Q 20 (.load false 1 true (V 19)),M 21 1,M 22 5,Q 23 (.iaddr 1 (V 21) (V 22)),Q 24 (.load false 1 true (V 23)),Q 25 (.arith .neq (V 20) (V 24))]
@[simp]def aPV:=aT Tm.eq_1
def CR:az:=
 (aE (aE (aG 11 14 BR) (.cond (V 14) .skip (.exit 0))) (aE (.block 1 (aE (aG 17 25 Tm) (.cond (V 25) (aE (.region [Q 4 (.mov au)]) .ret) .skip))) (aG 15 17 BS)))
@[simp]def aPW:=cL CR.eq_1
def tv:ai:=
 ⟨2,[.tmp 4],
 (aE (.region [Q 4 (.mov au)]) (aE (aE (aG 6 10 xO) (.cond (V 10) (aE (.region [Q 4 (.mov au)]) .ret) .skip)) (aE (aE (.region [Q 5 (.mov (I 0))]) (.block 0 (.loop CR))) (aE (.region [Q 4 (.mov bh)]) .ret)))),false⟩
def Tn:List aF:=[M 5 0,M 6 1,Q 7 (.call .std 102 [V 5,V 6]),Q 8 (.arith .eql (V 7) (I 0)),M 4 8]
@[simp]def aPX:=aT Tn.eq_1
def tx:ai:=
 ⟨2,[.tmp 4],
 (aE (.region [Q 4 (.mov au)]) (aE (aG 5 9 Tn) .ret)),false⟩
def To:List aF:=[Q 3 (.box true (V 1)),Q 4 (.mov (.cst .nils))]
def Tp:List aF:=[M 8 7,M 9 0,Q 10 (.len false (V 9)),Q 11 (.arith .lss (V 8) (V 10))]
def Tq:List aF:=[M 14 6,Q 15 (.un .not (V 14)),M 16 15,QG (some 17) (.faddr 0 (V 3)) 16 true,QG (some 18) (.load false 1 true (V 17)) 16 true,QG (some 19) (.mov (V 0)) 16 true,QG (some 20) (.mov (V 7)) 16 true,QG (some 21) (.iaddr 2 (V 19) (V 20)) 16 true,QG (some 22) (.faddr 0 (V 21)) 16 true,QG (some 23) (.load false 1 true (V 22)) 16 true,QG (some 24) (.arith .lss (V 18) (V 23)) 16 true,Q 25 (.pick (V 16) (V 24) au)]
def Tr:List aF:=[M 26 5,Q 27 (.load true 2 false (V 3)),Q 28 (.bsl false (.agg [(.str []),(.int .i64 0)]) 1 [(0,V 27)]),Q 29 (.app 2 24 (V 26) (V 28)),M 5 29]
def tz:List aF:=[M 30 0,M 31 7,Q 32 (.iaddr 2 (V 30) (V 31)),FA 33 0 32,Q 34 (.load false 1 true (V 33)),FA 35 0 3,Q 36 (.load false 1 true (V 35)),Q 37 (.arith .neq (V 34) (V 36))]
@[simp]def yA:=aT tz.eq_1
def uB:List aF:=[M 38 5,M 39 0,M 40 7,Q 41 (.iaddr 2 (V 39) (V 40)),Q 42 (.load true 2 false (V 41)),Q 43 (.bsl false (.agg [(.str []),(.int .i64 0)]) 1 [(0,V 42)]),Q 44 (.app 2 24 (V 38) (V 43)),M 5 44]
def uC:List aF:=[M 12 7,Q 13 (.arith .add (V 12) (I 1)),M 7 13]
@[simp]def aPY:=aH To.eq_1<|aH Tp.eq_1<|aH Tq.eq_1<|aH Tr.eq_1<|aH uB.eq_1<|aT uC.eq_1
def pJ:az:=
 (aE (aE (aG 8 11 Tp) (.cond (V 11) .skip (.exit 0))) (aE (.block 1 (aE (aE (aG 14 25 Tq) (.cond (V 25) (aE (aG 26 30 Tr) (.region [Q 6 (.mov bh)])) .skip)) (aE (aG 30 37 tz) (.cond (V 37) (aG 38 45 uB) .skip)))) (aG 12 14 uC)))
@[simp]def aPZ:=cL pJ.eq_1
def CS:List aF:=[M 45 6,Q 46 (.un .not (V 45))]
def CT:List aF:=[M 47 5,Q 48 (.load true 2 false (V 3)),Q 49 (.bsl false (.agg [(.str []),(.int .i64 0)]) 1 [(0,V 48)]),Q 50 (.app 2 24 (V 47) (V 49)),M 5 50]
def CU:List aF:=[M 51 5,M 4 51]
@[simp]def aP0:=aH CS.eq_1<|aH CT.eq_1<|aT CU.eq_1
def uD:ai:=
 ⟨2,[.tmp 4],
 (aE (ad To) (aE (.region [Q 5 (.mov (.cst .nils))]) (aE (.region [Q 6 (.mov au)]) (aE (aE (.region [Q 7 (.mov (I 0))]) (.block 0 (.loop pJ))) (aE (aE (aG 45 46 CS) (.cond (V 46) (aG 47 51 CT) .skip)) (aE (aG 51 52 CU) .ret)))))),false⟩
def Ts:List aF:=[M 7 6,M 8 0,Q 9 (.len false (V 8)),Q 10 (.arith .lss (V 7) (V 9))]
def Tt:List aF:=[M 13 0,M 14 6,Q 15 (.iaddr 2 (V 13) (V 14)),FA 16 0 15,LD 17 16,M 18 1,Q 19 (.arith .neq (V 17) (V 18))]
def Tu:List aF:=[M 20 5,M 21 0,M 22 6,Q 23 (.iaddr 2 (V 21) (V 22)),Q 24 (.load true 2 false (V 23)),Q 25 (.bsl false (.agg [(.str []),(.int .i64 0)]) 1 [(0,V 24)]),Q 26 (.app 2 24 (V 20) (V 25)),M 5 26]
def Tv:List aF:=[M 11 6,Q 12 (.arith .add (V 11) (I 1)),M 6 12]
@[simp]def aP1:=aH Ts.eq_1<|aH Tt.eq_1<|aH Tu.eq_1<|aT Tv.eq_1
def yB:az:=
 (aE (aE (aG 7 10 Ts) (.cond (V 10) .skip (.exit 0))) (aE (.block 1 (aE (aG 13 19 Tt) (.cond (V 19) (aG 20 27 Tu) .skip))) (aG 11 13 Tv)))
@[simp]def aP2:=cL yB.eq_1
def yC:List aF:=[M 27 5,M 4 27]
@[simp]def aP3:=aT yC.eq_1
def z26:ai:=
 ⟨2,[.tmp 4],
 (aE (.region [Q 4 (.mov (.cst .nils))]) (aE (.region [Q 5 (.mov (.cst .nils))]) (aE (aE (.region [Q 6 (.mov (I 0))]) (.block 0 (.loop yB))) (aE (aG 27 28 yC) .ret)))),false⟩
def CV:List aF:=[M 5 0,Q 6 (.len true (V 5)),Q 7 (.mov (I 0))]
def CW:List aF:=[M 9 7,M 3 9]
def CX:List aF:=[M 10 0,M 11 3,Q 12 (.idxs (V 10) (V 11)),M 4 12]
def Tw:List aF:=[M 13 4,Q 14 (.arith .geq (V 13) (.cst (.int .u8 97))),M 15 14,QG (some 16) (.mov (V 4)) 15 true,QG (some 17) (.arith .leq (V 16) (.cst (.int .u8 122))) 15 true,Q 18 (.pick (V 15) (V 17) au),M 19 18,QG (some 20) (.mov (V 4)) 19 false,QG (some 21) (.arith .geq (V 20) (.cst (.int .u8 48))) 19 false,QG (some 22) (.mov (V 21)) 19 false,QG (some 23) (.mov (V 4)) 22 true,QG (some 24) (.arith .leq (V 23) (.cst (.int .u8 57))) 22 true,QG (some 25) (.pick (V 22) (V 24) au) 19 false,Q 26 (.pick (V 19) bh (V 25)),M 27 26,QG (some 28) (.mov (V 4)) 27 false,QG (some 29) (.arith .eql (V 28) (.cst (.int .u8 46))) 27 false,Q 30 (.pick (V 27) bh (V 29)),M 31 30,QG (some 32) (.mov (V 4)) 31 false,QG (some 33) (.arith .eql (V 32) (.cst (.int .u8 45))) 31 false,Q 34 (.pick (V 31) bh (V 33)),Q 35 (.un .not (V 34))]
def Tx:List aF:=[Q 36 (.arith .add (V 7) (I 1)),M 7 36]
@[simp]def aP4:=aH CV.eq_1<|aH CW.eq_1<|aH CX.eq_1<|aH Tw.eq_1<|aT Tx.eq_1
def yD:az:=
 (aE (.region [Q 8 (.arith .lss (V 7) (V 6))]) (aE (.cond (V 8) .skip (.exit 0)) (aE (.block 1 (aE (aG 9 10 CW) (aE (aG 10 13 CX) (aE (aG 13 35 Tw) (.cond (V 35) (aE (.region [Q 2 (.mov au)]) .ret) .skip))))) (aG 36 37 Tx))))
@[simp]def aP5:=cL yD.eq_1
def Tz:List aF:=[M 37 0,Q 38 (.arith .neq (V 37) (.cst (.str []))),M 39 38,QG (some 40) (.mov (V 0)) 39 true,QG (some 41) (.len true (V 40)) 39 true,QG (some 42) (.arith .leq (V 41) (I 24)) 39 true,Q 43 (.pick (V 39) (V 42) au),M 2 43]
@[simp]def aP6:=aT Tz.eq_1
def uE:ai:=
 ⟨1,[.tmp 2],
 (aE (.region [Q 2 (.mov au)]) (aE (aE (aG 5 6 CV) (.block 0 (.loop yD))) (aE (aG 37 44 Tz) .ret))),false⟩
def UA:List aF:=[FA 4 0 1,LD 5 4,Q 6 (.arith .lss (V 5) (I 1)),M 7 6,QG (some 8) (.faddr 0 (V 1)) 7 false,QG (some 9) (.load false 1 false (V 8)) 7 false,QG (some 10) (.arith .gtr (V 9) (I 3)) 7 false,Q 11 (.pick (V 7) bh (V 10)),M 12 11,QG (some 13) (.faddr 0 (V 1)) 12 false,QG (some 14) (.load false 1 false (V 13)) 12 false,QG (some 15) (.arith .neq (V 14) (I 1)) 12 false,QG (some 16) (.mov (V 15)) 12 false,QG (some 17) (.faddr 1 (V 1)) 16 true,QG (some 18) (.load false 1 false (V 17)) 16 true,QG (some 19) (.len false (V 18)) 16 true,QG (some 20) (.arith .gtr (V 19) (I 0)) 16 true,QG (some 21) (.pick (V 16) (V 20) au) 12 false,Q 22 (.pick (V 12) bh (V 21)),M 23 22,QG (some 24) (.faddr 0 (V 1)) 23 false,QG (some 25) (.load false 1 false (V 24)) 23 false,QG (some 26) (.arith .neq (V 25) (I 2)) 23 false,QG (some 27) (.mov (V 26)) 23 false,QG (some 28) (.faddr 2 (V 1)) 27 true,QG (some 29) (.load false 1 false (V 28)) 27 true,QG (some 30) (.len false (V 29)) 27 true,QG (some 31) (.arith .gtr (V 30) (I 0)) 27 true,QG (some 32) (.pick (V 27) (V 31) au) 23 false,Q 33 (.pick (V 23) bh (V 32)),M 34 33,QG (some 35) (.faddr 0 (V 1)) 34 false,QG (some 36) (.load false 1 false (V 35)) 34 false,QG (some 37) (.arith .neq (V 36) (I 3)) 34 false,QG (some 38) (.mov (V 37)) 34 false,QG (some 39) (.faddr 3 (V 1)) 38 true,QG (some 40) (.load false 1 false (V 39)) 38 true,QG (some 41) (.len false (V 40)) 38 true,QG (some 42) (.arith .gtr (V 41) (I 0)) 38 true,QG (some 43) (.mov (V 42)) 38 true,QG (some 44) (.faddr 4 (V 1)) 43 false,QG (some 45) (.load false 1 false (V 44)) 43 false,QG (some 46) (.arith .neq (V 45) (I 0)) 43 false,QG (some 47) (.pick (V 43) bh (V 46)) 38 true,QG (some 48) (.mov (V 47)) 38 true,QG (some 49) (.faddr 5 (V 1)) 48 false,QG (some 50) (.load false 1 false (V 49)) 48 false,QG (some 51) (.arith .neq (V 50) (I 0)) 48 false,QG (some 52) (.pick (V 48) bh (V 51)) 38 true,QG (some 53) (.pick (V 38) (V 52) au) 34 false,Q 54 (.pick (V 34) bh (V 53))]
def UB:List aF:=[FA 55 0 1,LD 56 55]
def UC:List aF:=[Q 58 (.arith .eql (V 56) (I 1)),M 57 58]
def UD:List aF:=[FA 59 1 1,LD 60 59,Q 61 (.call .std 98 [V 60]),M 2 61]
def UE:List aF:=[Q 63 (.arith .eql (V 56) (I 2)),M 62 63]
def UF:List aF:=[FA 64 2 1,LD 65 64,Q 66 (.call .std 281 [V 65]),M 2 66]
def UG:List aF:=[FA 67 3 1,LD 68 67,Q 69 (.call .std 282 [V 68]),M 3 69]
def UH:List aF:=[M 71 3,Q 72 (.arith .neq (V 71) (I 0)),M 70 72]
def UI:List aF:=[M 73 3,M 2 73]
def UJ:List aF:=[FA 75 3 1,LD 76 75,Q 77 (.len false (V 76)),Q 78 (.arith .eql (V 77) (I 0)),M 74 78]
def UK:List aF:=[FA 80 4 1,LD 81 80,Q 82 (.arith .lss (V 81) (I 0)),M 83 82,QG (some 84) (.faddr 5 (V 1)) 83 false,QG (some 85) (.load false 1 false (V 84)) 83 false,QG (some 86) (.arith .gtr (V 85) (I 1099511627776)) 83 false,Q 87 (.pick (V 83) bh (V 86)),M 79 87]
def UL:List aF:=[FA 89 4 1,LD 90 89,FA 91 5 1,LD 92 91,Q 93 (.arith .gtr (V 90) (V 92)),M 88 93]
@[simp]def aP7:=aH UA.eq_1<|aH UB.eq_1<|aH UC.eq_1<|aH UD.eq_1<|aH UE.eq_1<|aH UF.eq_1<|aH UG.eq_1<|aH UH.eq_1<|aH UI.eq_1<|aH UJ.eq_1<|aH UK.eq_1<|aT UL.eq_1
def z46:ai:=
 ⟨1,[.tmp 2],
 (aE (ad xp) (aE (aE (aG 4 54 UA) (.cond (V 54) (aE (.region [Q 2 (.mov (I 2))]) .ret) .skip)) (aE (aE (aG 55 56 UB) (.block 0 (aE (aG 58 59 UC) (.cond (V 57) (aE (aG 59 62 UD) .ret) (aE (aG 63 64 UE) (.cond (V 62) (aE (aG 64 67 UF) .ret) .skip)))))) (aE (aG 67 70 UG) (aE (.block 1 (aE (aG 71 73 UH) (.cond (V 70) (aE (aG 73 74 UI) .ret) (aE (aG 75 79 UJ) (.cond (V 74) (aE (.region [Q 2 (.mov (I 2))]) .ret) (aE (aG 80 88 UK) (.cond (V 79) (aE (.region [Q 2 (.mov (I 11))]) .ret) (aE (aG 89 94 UL) (.cond (V 88) (aE (.region [Q 2 (.mov (I 13))]) .ret) .skip))))))))) (aE (.region [Q 2 (.mov (I 0))]) .ret)))))),false⟩
def UM:List aF:=[M 4 0,Q 5 (.arith .gtr (V 4) (I 127))]
def UN:List aF:=[M 6 3,M 7 0,Q 8 (.arith .rem (V 7) (I 128)),Q 9 (.arith .add (V 8) (I 128)),Q 10 (.toInt .u8 (V 9)),Q 11 (.bsl false (.int .u8 0) 1 [(0,V 10)]),Q 12 (.app 1 1 (V 6) (V 11)),M 3 12]
def UO:List aF:=[M 13 0,Q 14 (.arith .quo (V 13) (I 128)),M 0 14]
@[simp]def aP8:=aH UM.eq_1<|aH UN.eq_1<|aT UO.eq_1
def CY:az:=
 (aE (aE (aG 4 5 UM) (.cond (V 5) .skip (.exit 0))) (.block 1 (aE (aG 6 13 UN) (aG 13 15 UO))))
@[simp]def aP9:=cL CY.eq_1
def UP:List aF:=[M 15 3,M 16 0,Q 17 (.toInt .u8 (V 16)),Q 18 (.bsl false (.int .u8 0) 1 [(0,V 17)]),Q 19 (.app 1 1 (V 15) (V 18)),M 2 19]
@[simp]def aQa:=aT UP.eq_1
def rC:ai:=
 ⟨1,[.tmp 2],
 (aE (.region [Q 2 (.mov (.cst .nils))]) (aE (.region [Q 3 (.mov (.cst .nils))]) (aE (.block 0 (.loop CY)) (aE (aG 15 20 UP) .ret)))),true⟩
end Ps
