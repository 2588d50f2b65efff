/- block.Open of bytes whose sum does not fit. -/
import Derived.Test.YtpjmpaidcidjgaaGreatDoorTieXKt
import Derived.Test.YtpjmpaidcidjgaaGreatDoorSimVKt
import Derived.Test.YtpjmpaidcidjgaaGreatDoorAbbKt
import Derived.Test.YtpjmpaidcidjgaaGreatDoorCMKt
namespace Ps
open Go Go.Proofs
def UF:List aA:=[Q 21 (.build [] []),Q 22 (.mkif 11 (V 21))]++(QN (.pan (V 22))::[])
def Ay:aT:=
 ⟨1,[.tmp 2],
 (.seq (.region Cy) (.seq (.clr [(6,19)] (.region Cz)) (.seq (.seq (.clr [(19,20)] (.region DA)) (.cond (V 20) (.clr [(21,23)] (.region UF)) .skip)) (.seq (.clr [(23,27)] (.region DB)) (.seq (.clr [(27,28)] (.region DC)) .ret))))),false⟩
def UG:List aA:=[M 4 0]++(Q 5 (.wc [] (.cst (.fn 338 [])) [(V 4)])::[M 3 5])
def UH:List aA:=[Q 8 (.build [] []),Q 9 (.mkif 11 (V 8))]++(QN (.pan (V 9))::[])
def Az:aT:=
 ⟨1,[.tmp 2],
 (.seq (.region Cs) (.seq (.clr [(4,6)] (.region UG)) (.seq (.seq (.clr [(6,7)] (.region Ct)) (.cond (V 7) (.clr [(8,10)] (.region UH)) .skip)) (.seq (.clr [(10,12)] (.region Cu)) .ret)))),false⟩
def UI:List aA:=[M 6 0]++(Q 7 (.wc [] (.cst (.fn 338 [])) [(V 6)])::[Q 8 (.call .pur 379 [(V 7)]),M 5 8])
def UJ:List aA:=[Q 18 (.build [] []),Q 19 (.mkif 11 (V 18))]++(QN (.pan (V 19))::[])
def BA:aT:=
 ⟨2,[.tmp 4],
 (.seq (.region Cv) (.seq (.clr [(6,9)] (.region UI)) (.seq (.seq (.clr [(9,17)] (.region Cw)) (.cond (V 17) (.clr [(18,20)] (.region UJ)) .skip)) (.seq (.clr [(20,21)] (.region Cx)) .ret)))),false⟩
def UK:List aA:=[M 24 4]++(Q 25 (.wc [] (.cst (.fn 338 [])) [(V 24)])::[M 7 25])
def UL:List aA:=[M 53 5]++(Q 54 (.wc [] (V 53) [])::[FA 55 0 10,QN (.store 1 (V 55) (V 54))])
def UM:List aA:=[M 58 5]++(Q 59 (.wc [] (V 58) [])::[M 8 59])
def UN:List aA:=[M 38 8,M 39 6]++(Q 40 (.wc [] (V 39) [(I 1099511627776)])::[Q 41 (.arith .add (V 38) (V 40)),M 8 41])
def UO:List aA:=[M 67 6]++(Q 68 (.wc [] (V 67) [(I 2305843009213693952)])::[FA 69 1 10,QN (.store 1 (V 69) (V 68))])
def UP:aN:=
 (.seq (.region Lo) (.seq (.cond (V 35) .skip (.exit 0)) (.seq (.block 1 (.seq (.clr [(36,37)] (.region Lp)) (.seq (.region Lq) (.seq (.seq (.region Lr) (.block 2 (.seq (.clr [(52,53)] (.region Ls)) (.cond (V 51) (.clr [(53,56)] (.region UL)) (.seq (.clr [(57,58)] (.region Lt)) (.cond (V 56) (.seq (.clr [(58,60)] (.region UM)) (.clr [(60,67)] (.region Lu))) (.seq (.clr [(38,42)] (.region UN)) (.clr [(42,51)] (.region Lv))))))))) (.seq (.clr [(67,70)] (.region UO)) (.seq (.seq (.clr [(70,71)] (.region Lw)) (.cond (V 71) (.clr [(72,82)] (.region Lx)) .skip)) (.seq (.seq (.clr [(82,92)] (.region Ly)) (.cond (V 92) (.seq (.region Lz) .ret) .skip)) (.clr [(93,97)] (.region MA))))))))) (.clr [(97,98)] (.region MB)))))
def UQ:aT:=
 ⟨2,[],
 (.seq (.region HA) (.seq (.clr [(6,7)] (.region HB)) (.cond (V 7) (.seq (.seq (.clr [(3,4),(8,13)] (.region HC)) (.seq (.clr [(13,14)] (.region HD)) (.cond (V 14) (.clr [(15,16)] (.region HE)) .skip))) (.region HF)) .skip))),false⟩
def BB:dg:=
 ⟨1,[.cell 2 false 1,.cell 3 false 1],
 [(.region Lh)],
 ⟨some 12,.mkfn 335 [(.tmp 2),(.tmp 3)],none⟩,12,
 (.seq (.clr [(13,20)] (.region Li)) (.seq (.clr [(20,24)] (.region Lj)) (.seq (.clr [(24,26)] (.region UK)) (.seq (.seq (.clr [(26,31)] (.region Lk)) (.cond (V 31) (.seq (.region Ll) .ret) .skip)) (.seq (.region Lm) (.seq (.seq (.clr [(32,33)] (.region Ln)) (.block 0 (.loop UP))) (.seq (.seq (.clr [(98,108)] (.region MC)) (.seq (.clr [(108,125)] (.region MD)) (.cond (V 125) (.seq (.region ME) .ret) .skip))) (.seq (.clr [(126,127)] (.region MF)) .ret)))))))),false,some (335,UQ)⟩
def BC:List aA:=[M 6 0,bL 7 6,FA 8 1 7,LD 9 8,Q 10 (.build [(.int .i64 0)] [(0,1,(V 9))]),Q 11 (.mkif 3 (V 10))]++(QN (.pan (V 11))::[])
def oh:aT:=
 ⟨2,[],
 (.seq (.clr [(4,5)] (.region rW)) (.cond (V 5) (.clr [(6,12)] (.region BC)) .skip)),false⟩
def UR:List aA:=[M 19 0,M 20 5,Q 21 (.arith .eql (V 20) (I 0))]++(Q 22 (.wc [] (.cst (.fn 160 [])) [(V 19),(V 21)])::[])
def BD:aT:=
 ⟨1,[.tmp 2],
 (.seq (.region Ce) (.seq (.clr [(6,19)] (.region Cf)) (.seq (.clr [(19,23)] (.region UR)) (.seq (.clr [(23,27)] (.region Cg)) (.seq (.clr [(27,28)] (.region Ch)) .ret))))),false⟩
def US:List aA:=[M 4 0]++(Q 5 (.wc [] (.cst (.fn 271 [])) [(V 4)])::[M 3 5])
def UT:List aA:=[M 6 0,M 7 3,M 8 0,bL 9 8,FA 10 0 9,LD 11 10,Q 12 (.len false (V 11)),M 13 0,bL 14 13,FA 15 1 14,LD 16 15,Q 17 (.arith .sub (V 12) (V 16)),Q 18 (.arith .leq (V 7) (V 17))]++(Q 19 (.wc [] (.cst (.fn 160 [])) [(V 6),(V 18)])::[])
def BE:aT:=
 ⟨1,[.tmp 2],
 (.seq (.region Kz) (.seq (.clr [(4,6)] (.region US)) (.seq (.clr [(6,20)] (.region UT)) (.seq (.clr [(20,28)] (.region LA)) (.seq (.clr [(28,43)] (.region LB)) .ret))))),false⟩
def UU:List aA:=[M 9 0]++(Q 10 (.wc [] (.cst (.fn 271 [])) [(V 9)])::[M 3 10])
def UV:List aA:=[M 11 0,M 12 3,Q 13 (.arith .geq (V 12) (I 1)),M 14 13,QG (some 15) (.mov (V 3)) 14 true,QG (some 16) (.arith .leq (V 15) (I 65536)) 14 true,Q 17 (.pick (V 14) (V 16) bO)]++(Q 18 (.wc [] (.cst (.fn 160 [])) [(V 11),(V 17)])::[])
def UW:List aA:=[M 23 0]++(Q 24 (.wc [] (.cst (.fn 162 [])) [(V 23)])::[Q 25 (.call .std 201 [(V 24)]),Q 26 (.build [.nils,(.int .i64 0),(.int .i64 0),(.int .i64 0)] [(0,1,(V 25))]),Q 7 (.alloc false [.nils,(.int .i64 0),(.int .i64 0),(.int .i64 0)]),QN (.store 4 (V 7) (V 26))])
def UX:List aA:=[M 38 0,M 39 8,Q 40 (.arith .eql (V 39) (I 0)),M 41 40,QG (some 42) (.faddr 2 (V 7)) 41 true,QG (some 43) (.load false 1 false (V 42)) 41 true,QG (some 44) (.mov (V 5)) 41 true,QG (some 45) (.arith .gtr (V 43) (V 44)) 41 true,Q 46 (.pick (V 41) (V 45) bO),M 47 46,QG (some 48) (.faddr 1 (V 7)) 47 true,QG (some 49) (.load false 1 false (V 48)) 47 true,QG (some 50) (.arith .eql (V 49) (I 120)) 47 true,QG (some 51) (.mov (V 50)) 47 true,QG (some 52) (.mov (V 6)) 51 false,QG (some 53) (.mov (V 3)) 51 false,QG (some 54) (.arith .sub (V 53) (I 1)) 51 false,QG (some 55) (.arith .eql (V 52) (V 54)) 51 false,QG (some 56) (.pick (V 51) cN (V 55)) 47 true,Q 57 (.pick (V 47) (V 56) bO)]++(Q 58 (.wc [] (.cst (.fn 160 [])) [(V 38),(V 57)])::[])
def UY:aN:=
 (.seq (.region LJ) (.seq (.cond (V 21) .skip (.exit 0)) (.seq (.block 1 (.seq (.clr [(22,23)] (.region LK)) (.seq (.clr [(23,27)] (.region UW)) (.seq (.region LL) (.seq (.clr [(27,38)] (.region LM)) (.seq (.clr [(38,59)] (.region UX)) (.seq (.clr [(59,61)] (.region LN)) (.clr [(61,65)] (.region LO))))))))) (.clr [(65,66)] (.region LP)))))
def BF:aT:=
 ⟨1,[.tmp 2],
 (.seq (.region LF) (.seq (.clr [(9,11)] (.region UU)) (.seq (.clr [(11,19)] (.region UV)) (.seq (.region LG) (.seq (.region LH) (.seq (.seq (.region LI) (.block 0 (.loop UY))) (.seq (.clr [(66,67)] (.region LQ)) .ret))))))),false⟩
def BG:List aA:=[M 11 4,M 12 0,Q 13 (.len false (V 12)),Q 14 (.arith .geq (V 13) (I 8)),M 15 14,QG (some 16) (.mov (V 0)) 15 true,QG (some 17) (.slc 1 none (some (I 4)) (V 16)) 15 true,QG (some 18) (.toStr (V 17)) 15 true,QG (some 19) (.arith .eql (V 18) (.cst (.str [71,66,75,49]))) 15 true,Q 20 (.pick (V 15) (V 19) bO)]++(Q 21 (.wc [] (.cst (.fn 160 [])) [(V 11),(V 20)])::[])
def BH:List aA:=[M 22 4,M 23 0,M 24 0,Q 25 (.len false (V 24)),Q 26 (.arith .sub (V 25) (I 4)),Q 27 (.slc 1 (some (V 26)) none (V 23)),Q 28 (.toStr (V 27)),M 29 0,M 30 0,Q 31 (.len false (V 30)),Q 32 (.arith .sub (V 31) (I 4)),Q 33 (.slc 1 none (some (V 32)) (V 29)),Q 34 (.call .std 161 [(V 33)]),Q 35 (.toStr (V 34)),Q 36 (.arith .eql (V 28) (V 35))]++(Q 37 (.wc [] (.cst (.fn 160 [])) [(V 22),(V 36)])::[])
def UZ:List aA:=[M 50 4]++(Q 51 (.wc [] (.cst (.fn 162 [])) [(V 50)])::[Q 52 (.call .std 133 [(V 51)]),M 49 52,EX 53 0 49,EX 54 1 49,M 5 53,M 6 54])
def Ua:List aA:=[M 55 4,M 56 6,Q 57 (.arith .eql (V 56) (I 0))]++(Q 58 (.wc [] (.cst (.fn 160 [])) [(V 55),(V 57)])::[])
def Ub:List aA:=[Q 66 (.loadb 2 false 1 (V 2)),Q 67 (.loadb 2 false 1 (V 2)),bL 68 67,FA 69 1 68,Q 70 (.loadb 61 false 1 (V 69)),M 71 4]++(Q 72 (.wc [2,61] (.cst (.fn 163 [])) [(V 71)])::[Q 73 (.bsl false .nils 1 [(0,(V 72))]),Q 74 (.app 1 24 (V 70) (V 73)),bL 75 66,FA 76 1 75,QN (.store 1 (V 76) (V 74))])
def Uc:List aA:=[M 78 4,M 79 4,bL 80 79,FA 81 1 80,LD 82 81,M 83 4,bL 84 83,FA 85 0 84,LD 86 85,Q 87 (.len false (V 86)),Q 88 (.arith .eql (V 82) (V 87)),M 89 88,QG (some 90) (.load false 1 false (V 2)) 89 true,QG (some 91) (.call .std 164 [(V 90)]) 89 true,QG (some 92) (.arith .leq (V 91) (I 65536)) 89 true,Q 93 (.pick (V 89) (V 92) bO),M 94 93,QG (some 95) (.mov (V 4)) 94 true,QG (some 96) (.load false 1 false (V 2)) 94 true,QG (some 97) (.call .std 165 [(V 95),(V 96)]) 94 true,Q 98 (.pick (V 94) (V 97) bO)]++(Q 99 (.wc [] (.cst (.fn 160 [])) [(V 78),(V 98)])::[])
def Ud:aN:=
 (.seq (.region Hz) (.seq (.cond (V 65) .skip (.exit 0)) (.seq (.block 1 (.clr [(66,77)] (.region Ub))) (.clr [(77,78)] (.region IA)))))
def uq:aT:=
 ⟨2,[],
 (.seq (.region Gy) (.seq (.seq (.clr [(7,8)] (.region vc)) (.cond (V 8) .ret .skip)) (.seq (.region vd) (.seq (.seq (.clr [(9,14)] (.region ve)) (.seq (.clr [(14,19)] (.region vf)) (.cond (V 19) (.seq (.region vg) .ret) .skip))) (.clr [(20,21)] (.region Gz)))))),false⟩
def nE:dg:=
 ⟨1,[.cell 2 false 1,.cell 3 false 1],
 [(.region vz)],
 ⟨some 7,.mkfn 158 [(.tmp 2),(.tmp 3)],none⟩,7,
 (.seq (.clr [(8,11)] (.region wB)) (.seq (.clr [(11,22)] (.region BG)) (.seq (.clr [(22,38)] (.region BH)) (.seq (.clr [(38,49)] (.region Hw)) (.seq (.clr [(49,55)] (.region UZ)) (.seq (.clr [(55,59)] (.region Ua)) (.seq (.clr [(59,61)] (.region Hx)) (.seq (.seq (.clr [(62,63)] (.region Hy)) (.block 0 (.loop Ud))) (.seq (.clr [(78,100)] (.region Uc)) (.seq (.clr [(100,101)] (.region IB)) .ret)))))))))),false,some (158,uq)⟩
end Ps
set_option linter.defProp false
namespace Ps
open Go Go.Proofs
def Ue:tie.P.funcs[tie.fnOf 338]?=some Tryz.f76:=Tryz.func76
def Uf:eY tie Tryz.f76 Ay=true:=by kernel_rfl
def Ug:tie.P.funcs[tie.fnOf 337]?=some Tryz.f75:=Tryz.func75
def Uh:eY tie Tryz.f75 BA=true:=by kernel_rfl
def Ui:tie.P.funcs[tie.fnOf 336]?=some Tryz.f74:=Tryz.func74
def Uj:eY tie Tryz.f74 Az=true:=by kernel_rfl
def Uk:tie.P.funcs[tie.fnOf 265]?=some Tryz.f45:=Tryz.func45
def Ul:iY tie Tryz.f45 BB=true:=by kernel_rfl
def BI:tie.P.funcs[tie.fnOf 160]?=some Tryz.f37:=Tryz.func37
def BJ:eY tie Tryz.f37 oh=true:=by kernel_rfl
def Um:tie.P.funcs[tie.fnOf 271]?=some Tryz.f69:=Tryz.func69
def Un:eY tie Tryz.f69 BD=true:=by kernel_rfl
def func162:tie.P.funcs[tie.fnOf 162]?=some Tryz.f39:=Tryz.func39
def Uo:eY tie Tryz.f39 BE=true:=by kernel_rfl
def Up:tie.P.funcs[tie.fnOf 163]?=some Tryz.f41:=Tryz.func41
def Uq:eY tie Tryz.f41 BF=true:=by kernel_rfl
def BK:tie.P.funcs[tie.fnOf 66]?=some Tryz.f14:=Tryz.func14
def BL:iY tie Tryz.f14 nE=true:=by kernel_rfl
end Ps
set_option linter.defProp false
namespace Ps
set_option linter.unusedSimpArgs false
set_option linter.unusedVariables false
open Go Go.Proofs
set_option maxRecDepth 100000
def WN{X:Tie}{T:aM}(fn:Func)(c:aT):eY (X.withT T) fn c=eY X fn c:=by kernel_rfl
def WO{X:Tie}{T:aM}(fn:Func)(c:dg):iY (X.withT T) fn c=iY X fn c:=by kernel_rfl
def kj:bY tie1:=ue
def jr:tie1.T=T1:=rfl
def eg(n:Int):PV:=.iface 3 (.agg [.int .i64 n])
def NS{S:St}{v:PV}(hf:v.free=true)(hz:v.frz=v):ac false S S v=(v,S):=tP rfl rfl hf hz (fun _ _=>jL)
def WP:tie1.P.funcs[tie1.fnOf 160]?=some Tryz.f37:=BI
def WQ:eY tie1 Tryz.f37 oh=true:=(WN _ _).trans BJ
def WR:tie1.P.funcs[tie1.fnOf 66]?=some Tryz.f14:=BK
def WS:iY tie1 Tryz.f14 nE=true:=(WO _ _).trans BL
def WT{ok:Bool}{r:Nat}{bv:PV}{a:Nat}{S:St}(ho:S.objs[r]?=some [bv,.int .i64 (a:Int)]) :
  ca tie1 160 [.ptr r 0,.bool ok] S (fun q=>(ok=true→q=.ret (.tup []) S)∧(ok=false→q=.pan (eg a) S)):=by
 have main:∀PP:Wx→Fr→St→Prop,(ok=true→∀fr,PP .norm fr S)→(ok=false→∀fr,PP (.pan (eg a)) fr S)→W tie1 oh.body (bX [.ptr r 0,.bool ok]) S PP:=by
  intro PP k1 k2;unfold oh;simp only;refine iE kj rfl ?_
  cases ok with
  |true=>
   simp -implicitDefEqProofs [jr,rW]
   exact qR (b:=false) (by simp) (yo (k1 rfl _))
  |false=>
   simp -implicitDefEqProofs [jr,rW];refine qR (b:=true) (by simp) (qS (qQ kj ?_));unfold BC;refine qT rfl ?_;simp -implicitDefEqProofs [jr,dG ho,dD,aQ,ff,bB,bz,bW,qL];exact k2 rfl _
 refine tK kj WP WQ rfl (main _ (fun h fr=>⟨[],rfl,?_⟩) (fun h fr=>?_))
 ·show _∧_;have hf:ac false S S (.tup [])=(.tup [],S):=NS rfl rfl;have e:Rs.ret (ac false S S (bP [])).1 (ac false S S (bP [])).2=.ret (.tup []) S:=by simp only[bP,hf]
  exact⟨fun _=>e,fun h2=>by rw[h]at h2;cases h2⟩
 ·have hf:ac false S S (eg a)=(eg a,S):=NS rfl rfl;have e:Rs.pan (ac false S S (eg a)).1 (ac false S S (eg a)).2=.pan (eg a) S:=by rw[hf]
  exact⟨fun h2=>(by rw[h]at h2;cases h2),fun _=>e⟩
def xP{d t1 t2:Nat}{fr:Fr}{S:St}{r a:Nat}{bv:PV}{ok:Bool}{Pst:Wo→Prop}(ho:S.objs[r]?=some [bv,.int .i64 (a:Int)])(h1:fr t1=.ptr r 0)(h2:fr t2=.bool ok)(k1:ok=false→Pst (.pan (eg a) S))(k2:ok=true→Pst (.norm (upd fr d (.tup [])) S)) :
  bz tie1 (Q d (.wc [] (.cst (.fn 160 [])) [(.tmp t1),(.tmp t2)])::[]) fr S Pst:=by
 refine Pp (by simp[jR,h1,h2]) (WT (ok:=ok) ho) ?_ ?_
 ·intro u S4 hq;refine⟨fun q hq=>(by cases hq),?_⟩
  cases ok with
  |true=>
   have:=hq.1 rfl;cases this
   exact k2 rfl
  |false=>have:=hq.2 rfl;cases this
 ·intro u S4 hq
  cases ok with
  |true=>have:=hq.1 rfl;cases this
  |false=>
   have:=hq.2 rfl;cases this;exact k1 rfl
structure xQ(S S':St):Prop where
 grows:aV S S'
 hx:∃xv,S'.objs[S.objs.length]?=some [xv]
 he:S'.objs[S.objs.length+1]?=some [.int .i64 0]
def NT{S S4:St}(h:aV S S4){n k:Nat}(hn:S.objs.length≤n)(hk:S.tips.length≤k):aV S ⟨S4.objs.take n,S4.tips.take k⟩:=by
 obtain⟨o,t,rfl⟩:=h;refine⟨o.take (n-S.objs.length),t.take (k-S.tips.length),?_⟩;simp only[St.mk.injEq];rw[zX,zX,jX hn,jX hk];exact⟨rfl,rfl⟩
def WU{S S3 S4:St}(hg3:aV S S3)(hg:aV S S4):∃X,ac false S3 S4 (.tup [])=(.tup [],X)∧aV S X∧∀i,i<S3.objs.length→X.objs[i]?=S4.objs[i]?:=by
 have h3:S.objs.length≤S3.objs.length∧S.tips.length≤S3.tips.length:=by obtain⟨o,t,rfl⟩:=hg3;simp
 unfold ac;have hs:aj S4.objs S3.objs.length dJ (.tup [])=some (.tup []):=pX rfl;rw[if_neg (by decide),hs];simp only;by_cases hq:PV.beqLL (S4.objs.take S3.objs.length) S3.objs=true
 ·rw[if_pos hq];have e:=jL hq;refine⟨_,rfl,?_,fun i hi=>?_⟩
  ·have:=NT hg h3.1 h3.2;rw[e]at this;exact this
  ·simp only;rw[←e,cT hi]
 ·rw[if_neg hq];split
  ·refine⟨_,rfl,?_,fun i hi=>?_⟩
   ·have:=NT hg h3.1 (k:=S4.tips.length) (by obtain⟨o,t,rfl⟩:=hg;simp)
    rwa [il]at this
   ·simp only;rw[cT hi]
  ·exact⟨_,rfl,hg,fun i hi=>rfl⟩
def WV{m:Int}{fr:Fr}{t:Nat}(h:fr t=eg m):aQ fr (.asrI [3,2] (.tmp t))=some (.tup [eg m,.bool true]):=by
 simp[aQ,ev,h,eg]
def WW{S S3:St}{fr3:Fr}{m:Int}(h:xQ S S3)(f2:fr3 2=.ptr S.objs.length 0)(f3:fr3 3=.ptr (S.objs.length+1) 0) :
  ∃S4 vs,mg tie1 uq [.ptr S.objs.length 0,.ptr (S.objs.length+1) 0] (eg m) S3 S4∧bb fr3 S4 [.cell 2 false 1,.cell 3 false 1]=some vs∧ac false S S4 (bP vs)=(.tup [.nilp,.int .i64 5],S):=by
 obtain⟨hg,⟨lv,hl⟩,he⟩:=h;have hn0:S.objs.length<S3.objs.length:=(aL.1 hl).1;have hn1:S.objs.length+1<S3.objs.length:=(aL.1 he).1;obtain⟨S5,hS5⟩:∃S5:St,S5=⟨((S3.objs++[[PV.int .i64 m]]).set S.objs.length [.nilp]).set (S.objs.length+1) [.int .i64 5],S3.tips⟩:=⟨_,rfl⟩
 have hg5:aV S S5:=by
  rw[hS5];exact iy (S0:=S) (S:=⟨(S3.objs++[[PV.int .i64 m]]).set S.objs.length [.nilp],S3.tips⟩) (iy (S0:=S) (S:=⟨S3.objs++[[PV.int .i64 m]],S3.tips⟩) (hg.objs [[.int .i64 m]]) (aR S.objs.length) [.nilp]) (Nat.le_succ S.objs.length) _
 have k0:S5.objs[S.objs.length]?=some [.nilp]:=by
  rw[hS5];simp only;rw[bq (by omega),dd (by simp;omega)]
 have k1:S5.objs[S.objs.length+1]?=some [.int .i64 5]:=by
  rw[hS5];simp only;rw[dd (by simp;omega)]
 obtain⟨X,x1,x2,x3⟩:=WU hg hg5;have hl':(S3.objs++[[PV.int .i64 m]])[S.objs.length]?=some [lv]:=by rw[aw hn0];exact hl
 have hq1:((S3.objs++[[PV.int .i64 m]]).set S.objs.length [.nilp])[S.objs.length+1]?=some [.int .i64 0]:=by rw[bq (by omega),aw hn1];exact he
 have has:aS T1 159 [eg m,.iface 2 (.ptr S3.objs.length 0)] ⟨S3.objs++[[PV.int .i64 0]],S3.tips⟩=some (.bool true,⟨S3.objs++[[PV.int .i64 m]],S3.tips⟩):=by
  refine kQ TV ?_;simp[eg,iI,bB]
 refine⟨X,[.nilp,.int .i64 5],⟨some 6,some 2,.tmp 6,_,rfl,rfl,?_⟩,?_,?_⟩
 ·have hgi:fH false .i (eg m)=some (.bool false):=rfl;have hpa:∀fr:Fr,fr 10=eg m→aQ fr (.asrI [3,2] (.tmp 10))=some (.tup [eg m,.bool true]):=fun fr h=>WV h;simp -implicitDefEqProofs [jr,vc,vd,ve,vf,vg,ev,hgi,fe,aH,cR,hpa,has,hl',hq1,bB];exact⟨[],rfl,by show X=(ac false S3 _ (.tup [])).2;rw[←hS5,x1]⟩
 ·have y0:=(x3 _ hn0).trans k0;have y1:=(x3 _ hn1).trans k1;simp[bb,hI,f2,f3,y0,y1,dD]
 ·show ac false S X (.tup [.nilp,.int .i64 5])=_;rw[gE x2 rfl];rfl
def WX{S:St}{v:PV}{b:List UInt8}(hv:bM 1 v (aJ b))(hb:b.length≤67108864)(c1:8≤b.length)(c3:b.drop (b.length-4)≠dE (b.take (b.length-4))) :
  ca tie1 66 [v] S (fun q=>q=.ret (.tup [.nilp,.int .i64 5]) S):=by
 obtain⟨S1,hS1⟩:∃S1:St,S1=⟨S.objs++[[.nilp],[.int .i64 0]],S.tips⟩:=⟨_,rfl⟩;have hvl:=hv.len;rw[bo]at hvl;obtain⟨o1,o2⟩:=hv.one
 refine Pe kj WR WS (c:=nE) (S1:=S1) (S2:=S1) (fr1:=upd (upd (bX [v]) 2 (.ptr S.objs.length 0)) 3 (.ptr (S.objs.length+1) 0))
  (fr2:=upd (upd (upd (bX [v]) 2 (.ptr S.objs.length 0)) 3 (.ptr (S.objs.length+1) 0)) 7 (.fn 158 [.ptr S.objs.length 0,.ptr (S.objs.length+1) 0])) (cf:=158) (rc:=uq) (caps:=[.ptr S.objs.length 0,.ptr (S.objs.length+1) 0]) rfl rfl ⟨_,_,fun K=>?_,rfl,rfl⟩ rfl rfl ?_
 ·simp -implicitDefEqProofs [jr,vz,aH,cR,hS1]
 have hg1:aV S S1:=⟨[[.nilp],[.int .i64 0]],[],by rw[hS1];simp⟩;have h1l:S1.objs.length=S.objs.length+2:=by rw[hS1];simp
 have h1x:S1.objs[S.objs.length]?=some [.nilp]:=by rw[hS1];simp
 have h1e:S1.objs[S.objs.length+1]?=some [.int .i64 0]:=by rw[hS1];simp
 have main:∀PP:Wx→Fr→St→Prop,(∀(m:Int) (fr3:Fr) (S3:St),xQ S S3→fr3 2=.ptr S.objs.length 0→fr3 3=.ptr (S.objs.length+1) 0→PP (.pan (eg m)) fr3 S3) →
   W tie1 nE.rest (upd (upd (upd (bX [v]) 2 (.ptr S.objs.length 0)) 3 (.ptr (S.objs.length+1) 0)) 7 (.fn 158 [.ptr S.objs.length 0,.ptr (S.objs.length+1) 0])) S1 PP:=by
  intro PP hP;unfold nE;simp only;refine iE kj rfl ?_;simp -implicitDefEqProofs [jr,wB,aQ,ff,bB,o1,o2,aH,cR,h1l];obtain⟨r,hr⟩:∃r,r=S.objs.length+2:=⟨_,rfl⟩;rw[←hr];obtain⟨S2,hS2⟩:∃S2:St,S2=⟨S1.objs++[[v,.int .i64 0]],S1.tips⟩:=⟨_,rfl⟩;rw[←hS2];have hg2:aV S S2:=by rw[hS2];exact hg1.obj _
  have h2r:S2.objs[r]?=some [v,.int .i64 ((0:Nat):Int)]:=by rw[hS2,hr,←h1l];simp
  have h2x:S2.objs[S.objs.length]?=some [.nilp]:=by rw[hS2];simp only;rw[aw (by omega)];exact h1x
  have h2e:S2.objs[S.objs.length+1]?=some [.int .i64 0]:=by rw[hS2];simp only;rw[aw (by omega)];exact h1e
  have hop2:xQ S S2:=⟨hg2,⟨_,h2x⟩,h2e⟩;refine lN (qS (qQ kj ?_));unfold BG;refine qT rfl ?_;have hc1:(8:Int)≤(b.length:Int):=by omega
  obtain⟨z1,z2⟩:=hv.slc (k:=4) (j:=.i64) (by rw[bo];omega);have z1:dk 1 none (some (.int .i64 4)) v=some (nQ v 4):=z1;have htk4:(aJ b).take 4=aJ (b.take 4):=by simp only[aJ,oQ]
  rw[htk4]at z2;have z3:fI (nQ v 4)=some (.str (b.take 4)):=uI z2.isl;by_cases c2:b.take 4=fN
  rotate_left
  ·have hc2:(b.take 4==[71,66,75,49])=false:=by rw[beq_eq_false_iff_ne];exact c2
   generalize b.take 4=b4 at z3 hc2;simp -implicitDefEqProofs [jr,hvl,hc1,c1,z1,z3,hc2];exact xP (ok:=false) h2r (by simp) (by simp) (fun _=>hP _ _ _ hop2 (by simp[fT]) (by simp[fT])) (fun h=>by cases h)
  have hc2:(b.take 4==[71,66,75,49])=true:=by rw[beq_iff_eq];exact c2
  generalize b.take 4=b4 at z3 hc2;simp -implicitDefEqProofs [jr,hvl,hc1,c1,z1,z3,hc2];refine xP (ok:=true) h2r (by simp) (by simp) (fun h=>by cases h) (fun _=>?_);clear z1 z2 z3 hc2 htk4;simp only;have hw4:IntKind.i64.wrap ((b.length:Int)-4)=((b.length-4:Nat):Int):=by rw[bT]<;>omega
  obtain⟨lv,y1,y2⟩:=hv.isl.lo (lo:=b.length-4) (k:=.i64) (by rw[bo];omega);have hdr:(aJ b).drop (b.length-4)=aJ (b.drop (b.length-4)):=by simp only[aJ,qj]
  rw[hdr]at y2;have y3:fI lv=some (.str (b.drop (b.length-4))):=uI y2;obtain⟨z1,z2⟩:=hv.slc (k:=b.length-4) (j:=.i64) (by rw[bo];omega);have htk:(aJ b).take (b.length-4)=aJ (b.take (b.length-4)):=by simp only[aJ,oQ]
  rw[htk]at z2;obtain⟨bv,hbv⟩:∃bv,bv=nQ v (b.length-4):=⟨_,rfl⟩;rw[←hbv]at z1 z2;obtain⟨c,hc⟩:∃c,c=b.take (b.length-4):=⟨_,rfl⟩;have hcl:c.length=b.length-4:=by rw[hc,iG];omega
  rw[←hc]at z2 c3;have hs4:∀S,aS T1 161 [bv] S=some (.sl none (aJ (dE c)) [],S):=fun S=>Ai z2.reads (by omega) S;have y4:fI (.sl none (aJ (dE c)) [])=some (.str (dE c)):=uI (nA _).isl;refine lN (qS (qQ kj ?_));unfold BH;refine qT rfl ?_;have hc3:(b.drop (b.length-4)==dE c)=false:=by rw[beq_eq_false_iff_ne];exact c3
  generalize b.drop (b.length-4)=bd at y3 hc3;generalize dE c=sc at hs4 y4 hc3;simp -implicitDefEqProofs [jr,hvl,hw4,y1,y3,z1,hs4,y4,hc3];exact xP (ok:=false) h2r (by simp) (by simp) (fun _=>hP _ _ _ hop2 (by simp[fT]) (by simp[fT])) (fun h=>by cases h)
 refine main _ ?_;intro m fr3 S3 hop f2 f3;obtain⟨S4,vs,k1,k2,k3⟩:=WW (m:=m) hop f2 f3;refine⟨S4,vs,k1,k2,?_⟩;have e:Rs.ret (ac false S S4 (bP vs)).1 (ac false S S4 (bP vs)).2=.ret (.tup [.nilp,.int .i64 5]) S:=by rw[k3]
 exact e
end Ps
