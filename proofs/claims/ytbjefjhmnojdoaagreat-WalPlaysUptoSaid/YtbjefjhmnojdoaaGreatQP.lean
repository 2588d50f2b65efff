/- A log and a disk, and the document's, are opened. -/
import Derived.Test.YtbjefjhmnojdoaaGreatDefs
import Derived.Test.YtbjefjhmnojdoaaGreatWP
import Derived.Test.YtbjefjhmnojdoaaGreatWK
set_option linter.defProp false
namespace Ps
set_option linter.unusedSimpArgs false
set_option linter.unusedVariables false
open Go
def EM:T.fn 148=some (.code pD):=rfl
def aEU:T.fn 150=some (.code tV):=rfl
def aEV:T.fn 61=some (.code tP):=rfl
def aEW:T.fn 62=some (.code tQ):=rfl
def EN:T.fn 147=some (.code z44):=rfl
def At.setx{S:St}{o K:Nat}{D:Dk}(h:At S o K D){lo:Nat}{c:List PV}(h1:lo≠o)(h2:¬iN D lo):At ⟨S.objs.set lo c,S.tips⟩ o K D where
 obj:=by rw[ak h1];exact h.obj
 base:=by rw[ak (fun e=>h2 (.inl e))];exact h.base
 live:=by rw[ak (fun e=>h2 (.inr (.inl e)))];exact h.live
 wv:=h.wv
 file:=fun f hf=>by
  obtain⟨q1,q2⟩:=h.file f hf;refine⟨?_,q2⟩;rw[ak (fun e=>h2 (.inr (.inr (by rw[e];exact hf))))];exact q1
 inb:=h.inb
 inw:=h.inw
 nd:=h.nd
 tw:=h.tw
 tf:=h.tf
 hist:=h.hist
 nb:=h.nb
 nw:=h.nw
 rm:=h.rm
 cnt:=h.cnt
 dn:=h.dn
 lf:=h.lf
structure Wp(o lo:Nat)(S S':St)(D D':Dk):Prop where
 obj:∀(i:Nat) (c:List PV),S.objs[i]?=some c→i≠o→i≠lo→¬iN D i→S'.objs[i]?=some c
 own:∀i,i<S.objs.length→i≠o→¬iN D i→¬iN D' i
def bj.toL{o lo:Nat}{S S':St}{D D':Dk}(h:bj o S S' D D'):Wp o lo S S' D D':=⟨fun i c hc hi _ hn=>h.o.obj i c hc hi hn,h.o.own⟩
def aEX{S:St}{lo o n size:Nat}{D:Dk}{name:Nm}(lg:iq S lo o D name n size):aO T 61 [.ptr lo 0] S=some (.int .i64 (n:Int),S):=by
 have hob:=lg.obj;have e0:eg false .p (.ptr lo 0)=some (.bool false):=rfl;refine aW aEV rfl ?_;simp -implicitDefEqProofs [tP,e0,aU hob,q1,fC]
def aEY{S:St}{lo o n size:Nat}{D:Dk}{name:Nm}(lg:iq S lo o D name n size):aO T 62 [.ptr lo 0] S=some (.int .i64 (size:Int),S):=by
 have hob:=lg.obj;have e0:eg false .p (.ptr lo 0)=some (.bool false):=rfl;refine aW aEW rfl ?_;simp -implicitDefEqProofs [tQ,e0,aU hob,q1,fC]
def aEZ{S:St}{o K lo n size:Nat}{D:Dk}{name:Nm}(h:At S o K D)(hK:K≤1000000)(lg:iq S lo o D name n size)(hn:name.length≤maxLen) :
  ∃(e:Int) (S':St) (D':Dk),aO T 150 [.ptr lo 0] S=some (.int .i64 e,S')∧At S' o (K+2) D'∧bj o S S' D D'∧fG D 5 name [] [] e D':=by
 have hob:=lg.obj;have e0:eg false .p (.ptr lo 0)=some (.bool false):=rfl;obtain⟨e,S',D',d1,d2,d3,d4⟩:=Dy h (by omega) hn [] [];have hfin:=ph uK rfl d1;refine⟨e,S',D',aW aEU rfl ?_,d2,d3,d4⟩;simp -implicitDefEqProofs [tV,e0,aU hob,q1,d1,hfin]
def aE0{S:St}{o lo n size:Nat}{D:Dk}{name:Nm}(lg:iq S lo o D name n size){r:bq}{cs:List PV}(hr:dG r cs)(hz:cH r≠0) :
  aO T 148 [.ptr lo 0,.agg cs] S=some (.int .i64 (cH r:Int),S):=by
 have hob:=lg.obj;obtain⟨c6,c1⟩:=mA hr;have hp:=jm c6;have e0:eg false .p (.ptr lo 0)=some (.bool false):=rfl;have a1:=Yn hr hz S;have he':(((cH r:Nat):Int) != 0)=true:=by simp;omega
 refine aW EM rfl ?_;simp -implicitDefEqProofs [pD,aI,c1,hp,e0,a1,he',fC]
def aE1{S:St}{o K lo n size:Nat}{D:Dk}{name:Nm}(h:At S o K D)(hK:K≤1000000)(lg:iq S lo o D name n size)(hnm:name.length≤maxLen)(hn:n≤100000000)(hsz:size≤100000000){r:bq}{cs:List PV}(hr:dG r cs)(hz:cH r=0) :
  ∃(e:Int) (S':St) (D':Dk),aO T 148 [.ptr lo 0,.agg cs] S=some (.int .i64 e,S')∧At S' o (K+2) D'∧Wp o lo S S' D D'∧fG D 2 name [] (eo (bW r)) e D' ∧
   iq S' lo o D' name (if e=0 then n+1 else n) (if e=0 then size+(eo (bW r)).length else size):=by
 have hob:=lg.obj;obtain⟨c6,c1⟩:=mA hr;have hp:=jm c6;have e0:eg false .p (.ptr lo 0)=some (.bool false):=rfl;obtain⟨v1,a1,a2⟩:=Yp hr hz S;have hrl:=Fh hz;obtain⟨v2,b1,b2⟩:=aBA a2.isl (by omega) S;have hfl:=DB (bW r);have hlen:=b2.isl.len;rw[bO]at hlen;obtain⟨e,S1,D1,d1,d2,d3,d4⟩:=uq h (by omega) hnm [] hlen b2.isl.appd;have hfin:=ph rH rfl d1;by_cases he:e=0
 ·subst he;have lg1:=lg.fra d3;have hob1:=lg1.obj;have w1:IntKind.i64.wrap ((n:Int)+1)=(n:Int)+1:=bJ (by omega) (by omega);have w2:IntKind.i64.wrap ((size:Int)+((eo (bW r)).length:Int))=(size:Int)+((eo (bW r)).length:Int):=bJ (by omega) (by omega);have hat:=d2.setx (c:=[.ptr o 0,.str name,.int .i64 ((n:Int)+1),.int .i64 ((size:Int)+((eo (bW r)).length:Int))]) lg1.ne lg1.own;have hlt:=(aS.1 hob1).1
  have hdone:D1.done=D.done+1:=by
   rcases zB d4 with⟨_,q,_⟩|q
   ·exact absurd rfl q
   ·exact q
  have hfin:=rG h hat hdone (n:=0);refine⟨0,_,D1,aW EM rfl ?_,hat,⟨fun i c hc hi hi2 hn=>?_,d3.o.own⟩,d4,⟨?_,lg1.ne,lg1.own⟩⟩
  ·simp -implicitDefEqProofs [pD,aI,c1,hp,e0,a1,b1,aU hob,q1,d1,aU hob1,hob1,w1,aR,da hob1,uH hob1,hlen,w2,hfin]
  ·simp only;rw[ak (Ne.symm hi2)];exact d3.o.obj i c hc hi hn
  ·simp only[fY hlt,if_true]
   push_cast;rfl
 ·have heb:(e != 0)=true:=by simpa using he
  refine⟨e,S1,D1,aW EM rfl ?_,d2,d3.toL,d4,by rw[if_neg he,if_neg he];exact lg.fra d3⟩;simp -implicitDefEqProofs [pD,aI,c1,hp,e0,a1,b1,aU hob,q1,d1,heb,hfin]
end Ps
set_option linter.defProp false
namespace Ps
set_option linter.unusedSimpArgs false
set_option linter.unusedVariables false
open Go
def uu(o:List (List PV))(a b c d x:List PV):(o++[a,b,c,d]).set o.length x=o++[x,b,c,d]:=by simp
def uw(o:List (List PV))(a b c d x:List PV):(o++[a,b,c,d]).set (o.length+1) x=o++[a,x,c,d]:=by simp
def uy(o:List (List PV))(a b c d x:List PV):(o++[a,b,c,d]).set (o.length+2) x=o++[a,b,x,d]:=by simp
def uz(o:List (List PV))(a b c d x:List PV):(o++[a,b,c,d]).set (o.length+3) x=o++[a,b,c,x]:=by simp
def vA(o:List (List PV))(a b c d:List PV):(o++[a,b,c,d])[o.length]?=some a:=by simp
def vB(o:List (List PV))(a b c d:List PV):(o++[a,b,c,d])[o.length+1]?=some b:=by simp
def vC(o:List (List PV))(a b c d:List PV):(o++[a,b,c,d])[o.length+2]?=some c:=by simp
def vD(o:List (List PV))(a b c d:List PV):(o++[a,b,c,d])[o.length+3]?=some d:=by simp
def vE(o:List (List PV))(t:List (Nat×Nat))(a b c d:List PV)(ag:Bool)(n off:Nat):cS ⟨o++[a,b,c,d],t⟩ ag n (.ptr o.length off)=ae ag n (a.drop off):=aU (by simp:(o++[a,b,c,d])[o.length]?=some a)
def vF(o:List (List PV))(t:List (Nat×Nat))(a b c d:List PV)(ag:Bool)(n off:Nat):cS ⟨o++[a,b,c,d],t⟩ ag n (.ptr (o.length+1) off)=ae ag n (b.drop off):=aU (by simp:(o++[a,b,c,d])[o.length+1]?=some b)
def oI(o:List (List PV))(t:List (Nat×Nat))(a b c d:List PV)(ag:Bool)(n off:Nat):cS ⟨o++[a,b,c,d],t⟩ ag n (.ptr (o.length+2) off)=ae ag n (c.drop off):=aU (by simp:(o++[a,b,c,d])[o.length+2]?=some c)
def oJ(o:List (List PV))(t:List (Nat×Nat))(a b c d:List PV)(ag:Bool)(n off:Nat):cS ⟨o++[a,b,c,d],t⟩ ag n (.ptr (o.length+3) off)=ae ag n (d.drop off):=aU (by simp:(o++[a,b,c,d])[o.length+3]?=some d)
def EO{S S1 S2:St}{r v w x:PV}{fr:Fr}{raw ag ag2:Bool}{t n t2 n2 u:Nat}(h:cS S1 ag n (fr t)=some v)(h2:cS S1 ag2 n2 (fr t2)=some w)(hu:fr u=x)(k:ac raw S S1 (.tup [v,w,x])=(r,S2)):gM [.cell t ag n,.cell t2 ag2 n2,.tmp u] raw S r S2 fr S1:=
 ⟨[v,w,x],by subst hu;rw[←yU]at h h2;simp only[eN,h,h2];rfl,k⟩
def EP{R:RD}{K:Nat}(h:R.Wf K){S S':St}(hg:aP S S')(nm:Nm)(a b e:Int) :
  ac false S S' (.tup [R.v,.agg [.str nm,.int .i64 a,.int .i64 b],.int .i64 e])=(.tup [R.v,.agg [.str nm,.int .i64 a,.int .i64 b],.int .i64 e],S):=by
 rw[cN hg (by simp[PV.free,PV.freeL,h.free])];simp[PV.frz,PV.frzL,h.frz]
set_option maxRecDepth 20000 in
set_option maxHeartbeats 4000000 in
def aE2{R:RD}{K:Nat}(hR:R.Wf K){r:bq}{cs:List PV}(hr:dG r cs)(hz:cH r≠0)(nm:Nm)(a b:Int)(S:St) :
  aO T 147 [R.v,.agg [.str nm,.int .i64 a,.int .i64 b],.agg cs] S=some (.tup [R.v,.agg [.str nm,.int .i64 a,.int .i64 b],.int .i64 (cH r:Int)],S):=by
 obtain⟨c6,c1⟩:=mA hr;have hp:=jm c6;have o1:=hR.fs.one.1;have o2:=hR.bs.one.1;have o3:=hR.ws.one.1;have plus1:S.objs.length+1+1=S.objs.length+2:=rfl;have plus2:S.objs.length+2+1=S.objs.length+3:=rfl;have a1:=Yl hr hz ⟨S.objs++[R.c,[.str nm,.int .i64 a,.int .i64 b],dE,[.str [],.int .i64 0,.int .i64 0]],S.tips⟩;have he':(((cH r:Nat):Int) != 0)=true:=by simp;omega
 have hf:=EP hR ((aP.refl S).objs [R.c,[.str nm,.int .i64 a,.int .i64 b],R.c,[.str nm,.int .i64 a,.int .i64 b]]) nm a b (cH r:Int);generalize ((cH r:Nat):Int)=z at *;simp only[RD.v,RD.c,dE]at hf a1 ⊢;refine aW EN rfl ?_;simp -implicitDefEqProofs [-Zz,z44,plus1,plus2,c1,hp,a1,he',jc,aI,o1,o2,o3,aR,aQ,bK,ah,ek,uu,uw,uy,uz,vA,vB,vC,vD,vE,vF,oI,oJ];refine EO ?_ ?_ ?_ hf<;>simp[oI,oJ,ah,ek]
set_option maxRecDepth 20000 in
set_option maxHeartbeats 4000000 in
def aE3{S0:St}{o K:Nat}{D D':Dk}{R:RD}(h:At S0 o K D)(hrel:cQ D R)(hR:R.Wf K)(hK:K≤1000000){name:Nm}(hnm:name.length≤maxLen){r:bq}{cs:List PV}(hr:dG r cs)(hz:cH r=0){e:Int}(hd:fG D 2 name [] (eo (bW r)) e D'){n size:Nat}(hn:n≤100000000)(hsz:size≤100000000)(S:St) :
  ∃R',aO T 147 [R.v,.agg [.str name,.int .i64 (n:Int),.int .i64 (size:Int)],.agg cs] S=some (.tup [R'.v,.agg [.str name,.int .i64 ((if e=0 then n+1 else n:Nat):Int),.int .i64 ((if e=0 then size+(eo (bW r)).length else size:Nat):Int)],.int .i64 e],S)∧cQ D' R'∧R'.Wf (K+2):=by
 obtain⟨c6,c1⟩:=mA hr;have hp:=jm c6;have o1:=hR.fs.one.1;have o2:=hR.bs.one.1;have o3:=hR.ws.one.1;have plus1:S.objs.length+1+1=S.objs.length+2:=rfl;have plus2:S.objs.length+2+1=S.objs.length+3:=rfl;obtain⟨S1,hS1⟩:∃S1:St,S1=⟨S.objs++[R.c,[.str name,.int .i64 (n:Int),.int .i64 (size:Int)],dE,[.str [],.int .i64 0,.int .i64 0]],S.tips⟩:=⟨_,rfl⟩;obtain⟨v1,a1,a2⟩:=Ym hr hz S1;have hrl:=Fh hz;obtain⟨v2,b1,b2⟩:=Wj a2.isl (by omega) S1;have hfl:=DB (bW r);have hlen:=b2.isl.len;rw[bO]at hlen;obtain⟨R',hc,hr',hR'⟩:=ur h hrel hR (by omega) (by omega) hd hnm (Nat.zero_le _) (fun S=>b2.isl.appdS) hlen (by unfold maxLen;omega) S1;have p1:=hR'.fs.one.1;have p2:=hR'.bs.one.1;have p3:=hR'.ws.one.1;rw[hS1]at a1 b1 hc;refine⟨R',?_,hr',hR'⟩;by_cases he:e=0
 ·subst he;simp only[if_true];have w1:IntKind.i64.wrap ((n:Int)+1)=(n:Int)+1:=bJ (by omega) (by omega);have w2:IntKind.i64.wrap ((size:Int)+((eo (bW r)).length:Int))=(size:Int)+((eo (bW r)).length:Int):=bJ (by omega) (by omega)
  push_cast
  have hf:=EP hR' ((aP.refl S).objs [R'.c,[.str name,.int .i64 ((n:Int)+1),.int .i64 ((size:Int)+((eo (bW r)).length:Int))],R'.c,[.str name,.int .i64 ((n:Int)+1),.int .i64 ((size:Int)+((eo (bW r)).length:Int))]]) name ((n:Int)+1) ((size:Int)+((eo (bW r)).length:Int)) 0;simp only[RD.v,RD.c,dE]at hf a1 b1 hc ⊢;refine aW EN rfl ?_;simp -implicitDefEqProofs [-Mt,-Mx,z44,plus1,plus2,c1,hp,a1,b1,hc,jc,aI,o1,o2,o3,p1,p2,p3,aR,aQ,bK,ah,ek,q1,uu,uw,uy,uz,vA,vB,vC,vD,vE,vF,oI,oJ];simp -implicitDefEqProofs [plus1,plus2,hlen,w1,w2,jc,aI,o1,o2,o3,p1,p2,p3,aR,aQ,bK,ah,ek,q1,uu,uw,uy,uz,vA,vB,vC,vD,vE,vF,oI,oJ];refine EO ?_ ?_ ?_ hf<;>simp[oI,oJ,ah,ek]
 ·have heb:(e==0)=false:=by simpa using he
  rw[if_neg he,if_neg he];have hf:=EP hR' ((aP.refl S).objs [R'.c,[.str name,.int .i64 (n:Int),.int .i64 (size:Int)],R'.c,[.str name,.int .i64 (n:Int),.int .i64 (size:Int)]]) name (n:Int) (size:Int) e;simp only[RD.v,RD.c,dE]at hf a1 b1 hc ⊢;refine aW EN rfl ?_;simp -implicitDefEqProofs [-Mt,-Mx,z44,plus1,plus2,c1,hp,a1,b1,hc,jc,aI,o1,o2,o3,p1,p2,p3,aR,aQ,bK,ah,ek,q1,uu,uw,uy,uz,vA,vB,vC,vD,vE,vF,oI,oJ];simp -implicitDefEqProofs [-aAa,plus1,plus2,hlen,heb,jc,aI,o1,o2,o3,p1,p2,p3,aR,aQ,bK,ah,ek,q1,uu,uw,uy,uz,vA,vB,vC,vD,vE,vF,oI,oJ];refine EO ?_ ?_ ?_ hf<;>simp[oI,oJ,ah,ek]
end Ps
set_option linter.defProp false
namespace Ps
set_option linter.unusedSimpArgs false
set_option linter.unusedVariables false
open Go
def aE4:T.fn 60=some (.code tN):=rfl
def aE5:T.fn 93=some (.code tX):=rfl
def aE6{S:St}{o K:Nat}{D:Dk}(h:At S o K D):aO T 93 [.ptr o 0] S=some (.int .i64 D.done,S):=by
 have hob:=h.obj;have e0:eg false .p (.ptr o 0)=some (.bool false):=rfl;refine aW aE5 rfl ?_;simp -implicitDefEqProofs [tX,e0,aU hob,ax,q1,fC]
def aE7{S:St}{o K:Nat}{D:Dk}{R:RD}(h:At S o K D)(hK:K≤1048570)(hr:cQ D R){K2:Nat}(hR:R.Wf K2)(hK2:K2≤1048570):aO T 60 [.ptr o 0,R.v] S=some (.bool true,S):=by
 have o1:=hR.fs.one.1;have o2:=hR.bs.one.1;have o3:=hR.ws.one.1;have hl:=Uh h hK;obtain⟨v,w1,w2⟩:=aBZ hR hK2 (S:=S);have hrd:=Ur D;have hnm:pU R=gU D:=aCk h hr;rw[hnm]at w2;have hnl:=h.namesLen;have hmax:(gU D).length≤maxLen:=by unfold maxLen;omega
 have hd:=aE6 h;have hct:=hr.count;have hlen:=hrd.len;rw[List.length_map]at hlen;have hlen2:=w2.len;rw[List.length_map]at hlen2;simp only[RD.v,RD.c]at w1 ⊢;rw[hct]at w1 ⊢;refine aW aE4 rfl ?_;simp -implicitDefEqProofs [tN,aI,o1,o2,o3,ah,Cd,hl,w1,hlen,hlen2,hd];refine lP (gU D).length (fun i fr S'=>fr 0=.ptr o 0∧fr 3=.ref [.int .i64 R.room,R.fv,R.bv,R.wv,.int .i64 R.left,.bool R.dark,.int .i64 D.done]∧fr 5=pM D∧fr 6=v∧fr 7=.int .i64 (i:Int)∧S'=S) ?_ ?_ 0 (Nat.zero_le _) _ _ ⟨by simp,by simp,by simp,by simp,by simp,rfl⟩
 ·rintro i fr S' hi ⟨f0,f3,f5,f6,f7,rfl⟩ k;have hw:=lQ hi hmax;have hx:=hrd.get i (by simpa using hi) .i64;have hy:=w2.reads.get i (by simpa using hi) .i64;have hgx:((gU D).map PV.str)[i]'(by simpa using hi)=.str (gU D)[i]:=by simp
  rw[hgx,ZQ]at hx hy;have hn:=h.namesMax _ (jy hi);obtain⟨n,hn0⟩:∃n,n=(gU D)[i]:=⟨_,rfl⟩;rw[←hn0]at hx hy hn;have r1:=Uc h hn;have r2:=VQ hR hK2 hn (fun e he=>(DX h hr e he).2) (S:=S');obtain⟨e1,e2⟩:=Wn h hr n;have s1:=mZ (zF h n).1;have s2:=mZ (DM hR n).isl;rw[e2]at s2;rw[e1]at r2
  have hL:∀(fr':Fr),fr' 0=.ptr o 0→fr' 3=.ref [.int .i64 R.room,R.fv,R.bv,R.wv,.int .i64 R.left,.bool R.dark,.int .i64 D.done]→fr' 5=pM D→fr' 6=v→fr' 7=.int .i64 ((i:Int)+1)→Ok (aJ T (.lp BK::.blk 0::[.code (.seq (.region BL) .ret)]) fr' S') _:=fun fr' g0 g3 g5 g6 g7=>
   k fr' _ ⟨g0,g3,g5,g6,by simpa using g7,rfl⟩
  clear k;simp only[RD.v,RD.c]at r2;rw[hct]at r2;generalize eU R n=rv at r2 s2;generalize iP D n=rw' at r1 s1;generalize df D n=re at r1 r2;generalize bE D n=bb at s1 s2;rw[af];simp -implicitDefEqProofs [f0,f3,f5,f6,f7,hlen,hi,hx,hy,Cd,ah,r1,r2,s1,s2];exact hL _ (by simp[f0]) (by simp[f3]) (by simp[f5]) (by simp[f6]) (by simp[hw])
 ·rintro fr S' ⟨f0,f3,f5,f6,f7,rfl⟩;rw[af];simp -implicitDefEqProofs [f0,f3,f5,f6,f7,hlen]
end Ps
set_option linter.defProp false
namespace Ps
set_option linter.unusedSimpArgs false
set_option linter.unusedVariables false
open Go
def aMv:T.fn 146=some (.code tT):=rfl
def jp:List PV→List bq→Prop
 | [],[]=>True
 |e::es,r::rs=>(∃cs,e=.agg cs∧dG r cs)∧jp es rs
 |_,_=>False
def dz.c:∀{es:List PV} {rs:List bq},dz es rs→jp es rs
 | [],[],_=>trivial
 |e::es,r::rs,h=>by
  obtain⟨cs,h1,h2⟩:=h.1
  exact⟨⟨cs,h1,h2.c⟩,h.2.c⟩
 | [],_::_,h=>by cases h
 |_::_,[],h=>by cases h
theorem jp.snoc:∀{es:List PV} {rs:List bq} {cs:List PV} {r:bq},jp es rs→dG r cs→jp (es++[.agg cs]) (rs++[r])
 | [],[],cs,r,_,h=>⟨⟨cs,rfl,h⟩,trivial⟩
 |e::es,q::rs,cs,r,h,k=>⟨h.1,h.2.snoc k⟩
 | [],_::_,_,_,h,_=>by cases h
 |_::_,[],_,_,h,_=>by cases h
theorem jp.len:∀{es:List PV} {rs:List bq},jp es rs→es.length=rs.length
 | [],[],_=>rfl
 |x::es,q::rs,h=>by simp only[bV,h.2.len]
 | [],_::_,h=>by cases h
 |_::_,[],h=>by cases h
def jp.get:∀{es:List PV} {rs:List bq},jp es rs→∀(i:Nat) (h1:i<es.length) (h2:i<rs.length),∃cs,es[i]=.agg cs∧dG rs[i] cs
 | [],[],_,i,h1,_=>by simp at h1
 |x::es,q::rs,h,0,_,_=>h.1
 |x::es,q::rs,h,i+1,h1,h2=>by
  have:=h.2.get i (by simpa using h1) (by simpa using h2)
  simpa using this
 | [],_::_,h,_,_,_=>by cases h
 |_::_,[],h,_,_,_=>by cases h
def aMw{es fs:List PV}{rs:List bq}{av bv:PV}(ha:bT 6 av es)(hb:bT 6 bv fs)(h1:jp es rs)(h2:jp fs rs)(hz:∀r∈rs,cH r=0)(hl:rs.length≤1000000){K:List Kt}{Q:Fr→St→Prop}{S:St} :
  ∀(n i:Nat),n+i=rs.length→∀(fr:Fr),fr 0=av→fr 1=bv→fr 5=.int .i64 (i:Int)→(∀fr',Ok (aJ T K fr' S) Q)→Ok (aJ T (.lp xP::.blk 0::K) fr S) Q:=by
 intro n
 induction n with
 |zero=>
  intro i hi fr q0 q1' q5 k;have hlen:=ha.len;rw[h1.len,←hi,dN]at hlen;rw[af];simp -implicitDefEqProofs [q0,q1',q5,hlen]
  exact k _
 |succ n ih=>
  intro i hi fr q0 q1' q5 k;have hlt:i<rs.length:=by omega
  have hlen:=ha.len;rw[h1.len]at hlen;obtain⟨cs,g1,g2⟩:=h1.get i (by rw[h1.len];exact hlt) hlt;obtain⟨ds,g3,g4⟩:=h2.get i (by rw[h2.len];exact hlt) hlt;have ga:=ha.get i (by rw[h1.len];exact hlt) .i64;have gb:=hb.get i (by rw[h2.len];exact hlt) .i64;rw[g1,ZR]at ga;rw[g3,ZR]at gb;have p1:=jm (mA g2).1;have p2:=jm (mA g4).1;have hr:=hz rs[i] (jy hlt);obtain⟨_,l2,l3⟩:=aMu hr;have hs:=aMs g2 g4 ⟨l2,l3⟩ S;have hw:=dR (a:=i) (by omega);have hlt':(i:Int)<(rs.length:Int):=by omega
  have hL:∀fr',fr' 0=av→fr' 1=bv→fr' 5=.int .i64 ((i+1:Nat):Int)→Ok (aJ T (.lp xP::.blk 0::K) fr' S) Q:=fun fr' z0 z1 z5=>ih (i+1) (by omega) fr' z0 z1 z5 k;clear k ih;rw[af];simp -implicitDefEqProofs [q0,q1',q5,hlen,hlt,hlt',ga,gb,p1,p2,hs];exact hL _ (by simp[q0]) (by simp[q1']) (by simp[hw])
def ZP{es fs:List PV}{rs:List bq}{av bv:PV}(ha:bT 6 av es)(hb:bT 6 bv fs)(h1:jp es rs)(h2:jp fs rs)(hz:∀r∈rs,cH r=0)(hl:rs.length≤1000000)(S:St):aO T 146 [av,bv] S=some (.bool true,S):=by
 have l1:=ha.len;have l2:=hb.len;rw[h1.len]at l1;rw[h2.len]at l2;have fb:∀b,ac false S S (.bool b)=(.bool b,S):=fun b=>aD1 (aP.refl S);refine aW aMv rfl ?_;simp -implicitDefEqProofs [tT,l1,l2];refine aMw ha hb h1 h2 hz hl rs.length 0 (by omega) _ (by simp) (by simp) (by simp) (fun fr'=>?_);simp -implicitDefEqProofs [fb]
end Ps
set_option linter.defProp false
namespace Ps
set_option linter.unusedSimpArgs false
set_option linter.unusedVariables false
open Go
def Wq:T.fn 58=some (.code z3):=rfl
def dK(o:Nat)(lv:PV)(R:RD)(rn:Nm)(N Sz:Int)(op:Bool):List PV:=[.ptr o 0,lv,.int .i64 R.room,R.fv,R.bv,R.wv,.int .i64 R.left,.bool R.dark,.int .i64 R.count,.str rn,.int .i64 N,.int .i64 Sz,.bool op]
def kl(S:St)(pp o:Nat)(D:Dk)(name:Nm)(B:Nat)(lv:PV)(rn:Nm)(N Sz:Int)(op:Bool):Prop:=
 (op=false∧lv=.nilp)∨(op=true∧∃lo n size:Nat,lv=.ptr lo 0∧lo≠pp∧iq S lo o D name n size∧rn=name∧N=n∧Sz=size∧n≤B∧size≤B)
structure eO(S:St)(pp o K B:Nat)(D:Dk)(R:RD)(name:Nm)(lv:PV)(rn:Nm)(N Sz:Int)(op:Bool):Prop where
 obj:S.objs[pp]?=some (dK o lv R rn N Sz op)
 ne:pp≠o
 own:¬iN D pp
 at_:At S o K D
 rel:cQ D R
 wf:R.Wf K
 log:kl S pp o D name B lv rn N Sz op
theorem Wr{s:List UInt8}:∀(k i:Nat),∀r∈(cM s k i).1,cH r=0
 |0,i,r,h=>by simp[cM]at h
 |k+1,i,r,h=>by
  simp only[cM]at h;split at h
  ·cases h
  ·split at h
   ·cases h
   ·rename_i q hq;rcases cX.1 h with rfl|h
    ·exact(DE hq).1
    ·exact Wr k _ r h
def aE8{S:St}{o K:Nat}{D D':Dk}{name:Nm}{e:Int}{rs:List bq}{n:Nat}(hA:At S o K D)(h:ld o name K D e rs n D'):(∀r∈rs,cH r=0)∧rs.length≤1000000∧n≤4194304∧(e≠0→rs=[]):=by
 have hb:=(zF hA name).2;have h1:=Wl (s:=bE D name) ((bE D name).length+1) 0 (Nat.zero_le _);have h2:=EI (s:=bE D name) ((bE D name).length+1) 0 (Nat.zero_le _);have h3:=Wr (s:=bE D name) ((bE D name).length+1) 0
 cases h<;>first
  |exact⟨by simp,by simp,by omega,fun _=>rfl⟩
  |exact⟨h3,by show(cM (bE D name) ((bE D name).length+1) 0).1.length≤1000000;omega,by show(cM (bE D name) ((bE D name).length+1) 0).2≤4194304;omega,fun h=>absurd rfl h⟩
def lr{a b c d e f g:PV}{l:List PV}:ae true 7 (a::b::c::d::e::f::g::l)=some (.agg [a,b,c,d,e,f,g]):=by simp[ae]
def Ws{a b c:PV}{l:List PV}:ae true 3 (a::b::c::l)=some (.agg [a,b,c]):=by simp[ae]
def zI(o:List (List PV))(a b x:List PV):(o++[a,b]).set o.length x=o++[x,b]:=by simp
def zJ(o:List (List PV))(a b x:List PV):(o++[a,b]).set (o.length+1) x=o++[a,x]:=by simp
def zK(o:List (List PV))(a b:List PV):(o++[a,b])[o.length]?=some a:=by simp
def zL(o:List (List PV))(a b:List PV):(o++[a,b])[o.length+1]?=some b:=by simp
def zM(o:List (List PV))(t:List (Nat×Nat))(a b:List PV)(ag:Bool)(n off:Nat):cS ⟨o++[a,b],t⟩ ag n (.ptr o.length off)=ae ag n (a.drop off):=aU (by simp:(o++[a,b])[o.length]?=some a)
def zN(o:List (List PV))(t:List (Nat×Nat))(a b:List PV)(ag:Bool)(n off:Nat):cS ⟨o++[a,b],t⟩ ag n (.ptr (o.length+1) off)=ae ag n (b.drop off):=aU (by simp:(o++[a,b])[o.length+1]?=some b)
set_option maxRecDepth 20000 in
set_option maxHeartbeats 4000000 in
def EQ{S:St}{pp o K B:Nat}{D:Dk}{R:RD}{name:Nm}{lv:PV}{rn:Nm}{N Sz:Int}{op:Bool}(h:eO S pp o K B D R name lv rn N Sz op)(hK:K≤900000)(hn:name.length≤maxLen)(hlv:lv.one=true∧lv.cells=[lv]) :
  ∃S' D' R' lv' rn' N' Sz' op',aO T 58 [.ptr pp 0,.str name] S=some (.bool true,S')∧eO S' pp o (K+12) 4194304 D' R' name lv' rn' N' Sz' op':=by
 obtain⟨e,rs,n,r,S1,D1,c1,hO,hA1,hF1,hTo⟩:=aEK h.at_ hK hn;have hob:=h.obj;have p1:=hF1.o.obj _ _ hob h.ne h.own;have own1:=hF1.o.own _ (aS.1 hob).1 h.ne h.own;have hlt:=(aS.1 p1).1;obtain⟨r2,S2,c2,hst,R',v,es,rfl,hr',hR',w2,w3,w4,w5⟩:=aET h.at_ hO h.rel h.wf hK hn S1;subst hst;obtain⟨va1,va2,va3,va4⟩:=aE8 h.at_ hO;have o1:=hR'.fs.one.1;have o2:=hR'.bs.one.1;have o3:=hR'.ws.one.1;have y1:=h.wf.fs.one.1;have y2:=h.wf.bs.one.1;have y3:=h.wf.ws.one.1;have n8:¬S2.objs.length=pp:=by omega
 have n9:¬S2.objs.length+1=pp:=by omega
 have pa:∀x,(S2.objs++x)[pp]?=some (dK o lv R rn N Sz op):=fun x=>by rw[bP hlt];exact p1
 have ps:∀(x:List (List PV)) (y:List PV),((S2.objs++x).set pp y)[pp]?=some y:=fun x y=>fY (by rw[List.length_append];omega);have pl:∀(x:List (List PV)) (y:List PV) (t:List (Nat×Nat)) (ag:Bool) (k off:Nat),cS ⟨(S2.objs++x).set pp y,t⟩ ag k (.ptr pp off)=ae ag k (y.drop off):=fun x y t ag k off=>aU (ps x y)
 have fin:∀(lv':PV) (rn':Nm) (N' Sz':Int) (op':Bool) (x:List (List PV)),kl S2 pp o D1 name 4194304 lv' rn' N' Sz' op'→eO ⟨(S2.objs++x).set pp (dK o lv' R' rn' N' Sz' op'),S2.tips⟩ pp o (K+12) 4194304 D1 R' name lv' rn' N' Sz' op':=by
  intro lv' rn' N' Sz' op' x hl;have hg:At ⟨S2.objs++x,S2.tips⟩ o (K+12) D1:=by have:=hA1.grown x [];rw[cI]at this;exact this
  refine⟨ps _ _,h.ne,own1,hg.setx (lo:=pp) h.ne own1,hr',hR',?_⟩;rcases hl with hl|⟨q1,lo,n,size,q2,q3,q4,q5⟩
  ·exact .inl hl
  ·refine .inr ⟨q1,lo,n,size,q2,q3,⟨?_,q4.ne,q4.own⟩,q5⟩;simp only;rw[ak (Ne.symm q3),bP (aS.1 q4.obj).1];exact q4.obj
 have zeroS:eO S pp o K B D R name lv rn N Sz op:=h;rcases hTo with⟨he,rfl⟩|⟨he,lo,v1,es1,rfl,hlo,hlg,u2,u3,u4,u5⟩
 ·have hrs:=va4 he;subst hrs;have hes:es=[]:=by cases es with|nil=>rfl|cons=>cases w3
  subst hes;have hrl:jM e name [] n=[.str [],.int .i64 0,.int .i64 0]:=by unfold jM;rw[if_neg he]
  rw[hrl]at c2;have heb:(e==0)=false:=by simpa using he
  have hsa:=ZP (es:=[]) (fs:=[]) (rs:=[]) (av:=.nils) (bv:=v) (ma 6) w2.reads trivial trivial (by simp) (by simp);refine⟨_,D1,R',.nilp,[],0,0,false,aW Wq rfl ?_,fin .nilp [] 0 0 false [R'.c,[.str [],.int .i64 0,.int .i64 0]] (.inl ⟨rfl,rfl⟩)⟩;simp only[RD.v,RD.c,dK]at *;simp -implicitDefEqProofs [z3,aU hob,q1,c1,aU p1,lr,c2,heb,hsa,jc,n8,n9,pa,ps,pl,aI,o1,o2,o3,y1,y2,y3,hlv,aR,ah,ek,zI,zJ,zK,zL,zM,zN,ac]
 ·subst he;have hrl:jM 0 name rs n=[.str name,.int .i64 (rs.length:Int),.int .i64 (n:Int)]:=rfl;rw[hrl]at c2;have hsa:=ZP u2.reads w2.reads u3.c w3.c va1 va2;have hlp:lo≠pp:=by have:=(aS.1 hob).1;omega
  refine⟨_,D1,R',.ptr lo 0,name,(rs.length:Int),(n:Int),true,aW Wq rfl ?_,fin (.ptr lo 0) name (rs.length:Int) (n:Int) true [R'.c,[.str name,.int .i64 (rs.length:Int),.int .i64 (n:Int)]] (.inr ⟨rfl,lo,rs.length,n,rfl,hlp,hlg,rfl,rfl,rfl,by omega,va3⟩)⟩;have e0:eg true .p (.ptr lo 0)=some (.bool true):=rfl;simp only[RD.v,RD.c,dK]at *;generalize ((rs.length:Nat):Int)=rl at *;generalize ((n:Nat):Int)=rz at *;simp -implicitDefEqProofs [z3,aU hob,q1,c1,aU p1,lr,c2,e0,hsa,jc,n8,n9,pa,ps,pl,aI,o1,o2,o3,y1,y2,y3,hlv,aR,ah,ek,zI,zJ,zK,zL,zM,zN,ac]
end Ps
