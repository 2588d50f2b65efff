/- The law WalPlays. -/
import Derived.Test.YtbjefjhmnojdoaaGreatDefs
import Derived.Test.YtbjefjhmnojdoaaGreatQP
import Derived.Test.YtbjefjhmnojdoaaGreatRow
import Derived.Test.YtbjefjhmnojdoaaGreatWP
namespace Ps
set_option linter.unusedSimpArgs false
set_option linter.unusedVariables false
open Go
theorem pn:T.fn 59=some (.code kB):=rfl
structure fA where
 kind:Int
 r:bq
 vl:PV
 vr:PV
 vi:PV
 b:List UInt8
 bv:PV
 n:Int
 kept:List Int
 kv:PV
def fA.cs(a:fA):List PV:=[.int .i64 a.r.kind,a.vl,a.vr,a.vi,.int .i64 a.r.low,.int .i64 a.r.high]
def fA.cells(a:fA):List PV:=[.int .i64 a.kind,.int .i64 a.r.kind,a.vl,a.vr,a.vi,.int .i64 a.r.low,.int .i64 a.r.high,a.bv,.int .i64 a.n,a.kv]
structure fA.Wf(a:fA):Prop where
 rec_:dG a.r a.cs
 lens:a.r.labs.length≤100000000∧a.r.rows.length≤100000000∧a.r.ids.length≤100000000
 len:cz false a.bv=some (.int .i64 a.b.length)
 app:gI 1 a.bv=some (aL a.b)
 bmax:a.b.length≤maxLen
 kept:bT 1 a.kv (a.kept.map (.int .i64))
 n:a.n≤9223372036854775807
 one:a.vl.one=true∧a.vr.one=true∧a.vi.one=true∧a.bv.one=true∧a.kv.one=true
 free:a.vl.free=true∧a.vr.free=true∧a.vi.free=true∧a.bv.free=true
 frz:a.vl.frz=a.vl∧a.vr.frz=a.vr∧a.vi.frz=a.vi∧a.bv.frz=a.bv
theorem ER{D D1 D2:Dk}{k:Int}(hk:k=2∨k=5){n to:Nm}{b:List UInt8}{r r2:Int}(h1:fG D k n to b r D1)(h2:fG D k n to b r2 D2):r2=r∧∀R,cQ D1 R→cQ D2 R:=by
 have ha:∀(a:iB D n b=0),k=2→eJ D k n to b=0:=fun a e=>by simp[eJ,e,a]
 have hs:∀(a:cP D n=0),k=5→eJ D k n to b=0:=fun a e=>by simp[eJ,e,a]
 cases h1 with
 |refuse q=>
  cases h2 with
  |refuse q2=>exact⟨rfl,fun _ h=>h⟩
  |dark q2 _=>exact absurd q2 q
  |create e=>omega
  |append e a=>exact absurd (ha a e) q
  |rename e=>omega
  |remove e=>omega
  |sync e a=>exact absurd (hs a e) q
  |syncdir e=>omega
 |dark q q6=>
  cases h2 with
  |refuse q2=>exact absurd q q2
  |dark q2 _=>exact⟨rfl,fun _ h=>h⟩
  |create e=>omega
  |append e a s=>rw[q6]at s;cases s
  |rename e=>omega
  |remove e=>omega
  |sync e a s=>rw[q6]at s;cases s
  |syncdir e=>omega
 |create e=>omega
 |append e a s f v hf=>
  cases h2 with
  |refuse q2=>exact absurd (ha a e) q2
  |dark _ q6=>rw[s]at q6;cases q6
  |create e=>omega
  |append _ _ _ f2 v2 hf2=>
   rw[hf]at hf2;cases hf2
   exact⟨rfl,fun R h=>⟨h.room,h.left,h.dark,h.count,h.nd,h.fl,h.base,h.wait,h.nm⟩⟩
  |rename e=>omega
  |remove e=>omega
  |sync e2=>omega
  |syncdir e=>omega
 |rename e=>omega
 |remove e=>omega
 |sync e a s f hf=>
  cases h2 with
  |refuse q2=>exact absurd (hs a e) q2
  |dark _ q6=>rw[s]at q6;cases q6
  |create e=>omega
  |append e2=>omega
  |rename e=>omega
  |remove e=>omega
  |sync _ _ _ f2 hf2=>
   rw[hf]at hf2;cases hf2
   exact⟨rfl,fun R h=>h⟩
  |syncdir e=>omega
 |syncdir e=>omega
theorem kl.mono{S:St}{pp o:Nat}{D:Dk}{name:Nm}{B B':Nat}{lv:PV}{rn:Nm}{N Sz:Int}{op:Bool}(h:kl S pp o D name B lv rn N Sz op)(hB:B≤B'):kl S pp o D name B' lv rn N Sz op:=by
 rcases h with h|⟨q1,lo,n,size,q2,q3,q4,q5,q6,q7,q8,q9⟩
 ·exact .inl h
 ·exact .inr ⟨q1,lo,n,size,q2,q3,q4,q5,q6,q7,by omega,by omega⟩
theorem eO.mono{S:St}{pp o K K' B B':Nat}{D:Dk}{R:RD}{name:Nm}{lv:PV}{rn:Nm}{N Sz:Int}{op:Bool}(h:eO S pp o K B D R name lv rn N Sz op)(hK:K≤K')(hB:B≤B'):eO S pp o K' B' D R name lv rn N Sz op:=
 ⟨h.obj,h.ne,h.own,h.at_.mono hK,h.rel,h.wf.mono hK,h.log.mono hB⟩
theorem kl.lv1{S:St}{pp o:Nat}{D:Dk}{name:Nm}{B:Nat}{lv:PV}{rn:Nm}{N Sz:Int}{op:Bool}(h:kl S pp o D name B lv rn N Sz op):lv.one=true∧lv.cells=[lv]:=by
 rcases h with⟨_,rfl⟩|⟨_,lo,n,size,rfl,_⟩<;>exact⟨rfl,rfl⟩
theorem eO.setR{S:St}{pp o K B:Nat}{D:Dk}{R:RD}{name:Nm}{lv:PV}{rn:Nm}{N Sz:Int}{op:Bool}(h:eO S pp o K B D R name lv rn N Sz op)(c:List PV)(x:List (List PV)) :
  At ⟨(S.objs++x).set pp c,S.tips⟩ o K D∧kl ⟨(S.objs++x).set pp c,S.tips⟩ pp o D name B lv rn N Sz op∧((S.objs++x).set pp c)[pp]?=some c:=by
 have hlt:=(aS.1 h.obj).1;have hg:At ⟨S.objs++x,S.tips⟩ o K D:=by have:=h.at_.grown x [];rw[cI]at this;exact this
 refine⟨hg.setx (lo:=pp) h.ne h.own,?_,fY (by rw[List.length_append];omega)⟩;rcases h.log with hl|⟨q1,lo,n,size,q2,q3,q4,q5⟩
 ·exact .inl hl
 ·refine .inr ⟨q1,lo,n,size,q2,q3,⟨?_,q4.ne,q4.own⟩,q5⟩;simp only;rw[ak (Ne.symm q3),bP (aS.1 q4.obj).1];exact q4.obj
theorem kl.fra{S S':St}{pp o:Nat}{D D':Dk}{name:Nm}{B:Nat}{lv:PV}{rn:Nm}{N Sz:Int}{op:Bool}(h:kl S pp o D name B lv rn N Sz op)(f:bj o S S' D D'):kl S' pp o D' name B lv rn N Sz op:=by
 rcases h with h|⟨q1,lo,n,size,q2,q3,q4,q5⟩
 ·exact .inl h
 ·exact .inr ⟨q1,lo,n,size,q2,q3,q4.fra f,q5⟩
def po(S:St)(pp o K B:Nat)(name:Nm)(a:fA):Prop:=
 ∃S' D' R' lv' rn' N' Sz' op',aO T 59 [.ptr pp 0,.agg a.cells,.str name] S=some (.bool true,S')∧eO S' pp o (K+16) (B+70000) D' R' name lv' rn' N' Sz' op'
section
variable {S : St} {pp o K B : Nat} {D : Dk} {R : RD} {name : Nm} {lv : PV} {rn : Nm} {N Sz : Int} {op : Bool} {a : fA}
set_option maxRecDepth 20000 in
set_option maxHeartbeats 4000000 in
theorem aE9(h:eO S pp o K B D R name lv rn N Sz op)(hK:K≤800000)(hB:4194304≤B)(hn:name.length≤maxLen)(ha:a.Wf)(hk:a.kind=3):po S pp o K B name a:=by
 obtain⟨lv0,l1,c1⟩:=aCd h.wf (by omega) ha.kept (aCf h.at_ h.rel _) (dirs:=a.n) (S:=S);have hR':=VZ h.wf a.n a.kept l1;obtain⟨R',hRe⟩:∃R',R'=lU R a.n a.kept lv0:=⟨_,rfl⟩;obtain⟨hA1,hl1,hp1⟩:=h.setR (dK o lv R' rn N Sz op) [];rw[cI]at hA1 hl1 hp1;obtain⟨S1,hS1⟩:∃S1:St,S1=⟨S.objs.set pp (dK o lv R' rn N Sz op),S.tips⟩:=⟨_,rfl⟩;rw[←hS1]at hA1 hl1;have hp1:S1.objs[pp]?=some (dK o lv R' rn N Sz op):=by rw[hS1];exact hp1
 obtain⟨li',fv',S2,c2,hA2,hF2,_⟩:=aBc hA1 (by omega) (dirs:=a.n) ha.kept;have hrel:=aCo h.at_ h.rel a.n a.kept (li':=li') (fv':=fv') (lv:=lv0);rw[←hRe]at c1 hR' hrel
 have hP2:eO S2 pp o K B (fK D li' fv' a.n a.kept) R' name lv rn N Sz op:=
  ⟨hF2.o.obj _ _ hp1 h.ne h.own,h.ne,hF2.o.own _ (aS.1 hp1).1 h.ne h.own,hA2,hrel,hR',hl1.fra hF2⟩
 obtain⟨S',D',R2,lv',rn',N',Sz',op',c3,hP3⟩:=EQ hP2 (by omega) hn h.log.lv1;refine⟨S',D',R2,lv',rn',N',Sz',op',aW pn rfl ?_,hP3.mono (by omega) (by omega)⟩;obtain⟨x1,x2,x3,x4,x5⟩:=ha.one;have hob:=h.obj;have o1:=hR'.fs.one.1;have o2:=hR'.bs.one.1;have o3:=hR'.ws.one.1;have y1:=h.wf.fs.one.1;have y2:=h.wf.bs.one.1;have y3:=h.wf.ws.one.1;simp only[RD.v,RD.c,dK,fA.cells]at *;simp -implicitDefEqProofs [kB,x1,x2,x3,x4,x5,hk,aU hob,hob,q1,lr,c1,aI,o1,o2,o3,y1,y2,y3,aR];rw[←hS1];simp -implicitDefEqProofs [aU hp1,q1,c2,c3,ac]
set_option maxRecDepth 20000 in
set_option maxHeartbeats 4000000 in
theorem aFa(h:eO S pp o K B D R name lv rn N Sz op)(ha:a.Wf)(hk:a.kind=4):po S pp o K B name a:=by
 obtain⟨c1,hA1,hF1⟩:=aAB h.at_ ha.n;obtain⟨S1,hS1⟩:∃S1:St,S1=⟨S.objs.set o (ax (jD D a.n)),S.tips⟩:=⟨_,rfl⟩;rw[←hS1]at c1 hA1 hF1;have hp1:=hF1.o.obj _ _ h.obj h.ne h.own;have own1:=hF1.o.own _ (aS.1 h.obj).1 h.ne h.own;have hP1:eO S1 pp o K B (jD D a.n) (lT R a.n) name lv rn N Sz op→True:=fun _=>trivial;have c2:=aBY h.wf ha.n (S:=S1);have hR':=VP h.wf ha.n;have hrel:=aCn h.rel a.n;obtain⟨R',hRe⟩:∃R',R'=lT R a.n:=⟨_,rfl⟩;rw[←hRe]at c2 hR' hrel;have hlt:=(aS.1 hp1).1
 have hP2:eO ⟨S1.objs.set pp (dK o lv R' rn N Sz op),S1.tips⟩ pp o K B (jD D a.n) R' name lv rn N Sz op:=by
  refine⟨fY hlt,h.ne,own1,hA1.setx (lo:=pp) h.ne own1,hrel,hR',?_⟩;rcases h.log.fra hF1 with hl|⟨q1,lo,n,size,q2,q3,q4,q5⟩
  ·exact .inl hl
  ·refine .inr ⟨q1,lo,n,size,q2,q3,⟨?_,q4.ne,q4.own⟩,q5⟩;simp only;rw[ak (Ne.symm q3)];exact q4.obj
 refine⟨_,_,R',lv,rn,N,Sz,op,aW pn rfl ?_,hP2.mono (by omega) (by omega)⟩;obtain⟨x1,x2,x3,x4,x5⟩:=ha.one;have hob:=h.obj;have o1:=hR'.fs.one.1;have o2:=hR'.bs.one.1;have o3:=hR'.ws.one.1;have y1:=h.wf.fs.one.1;have y2:=h.wf.bs.one.1;have y3:=h.wf.ws.one.1;simp only[RD.v,RD.c,dK,fA.cells]at *;simp -implicitDefEqProofs [kB,x1,x2,x3,x4,x5,hk,aU hob,q1,c1,aU hp1,hp1,lr,c2,aI,o1,o2,o3,y1,y2,y3,aR,ac]
set_option maxRecDepth 20000 in
set_option maxHeartbeats 4000000 in
theorem aFb(h:eO S pp o K B D R name lv rn N Sz op)(hK:K≤800000)(hB:4194304≤B)(hn:name.length≤maxLen)(ha:a.Wf)(hk:a.kind=5):po S pp o K B name a:=by
 obtain⟨r,Sx,Dx,_,_,_,dx⟩:=uq h.at_ (by omega) hn [] ha.len ha.app;obtain⟨R',c1,hr1,hR'⟩:=ur h.at_ h.rel h.wf (by omega) (by omega) dx hn (Nat.zero_le _) (fun S=>appdS ha.app) ha.len ha.bmax bk;have cp:=iH c1 (by simp[PV.free,PV.freeL,hR'.free]) (by simp[PV.frz,PV.frzL,hR'.frz]);obtain⟨hA1,hl1,hp1⟩:=h.setR (dK o lv R' rn N Sz op) [R'.c];obtain⟨S1,hS1⟩:∃S1:St,S1=⟨(S.objs++[R'.c]).set pp (dK o lv R' rn N Sz op),S.tips⟩:=⟨_,rfl⟩;rw[←hS1]at hA1 hl1;have hp1:S1.objs[pp]?=some (dK o lv R' rn N Sz op):=by rw[hS1];exact hp1
 obtain⟨r2,S2,D2,c2,hA2,hF2,d2⟩:=uq hA1 (by omega) hn [] ha.len ha.app;obtain⟨e2,hsame⟩:=ER (.inl rfl) dx d2;subst e2
 have hP2:eO S2 pp o (K+2) B D2 R' name lv rn N Sz op:=
  ⟨hF2.o.obj _ _ hp1 h.ne h.own,h.ne,hF2.o.own _ (aS.1 hp1).1 h.ne h.own,hA2,hsame R' hr1,hR',hl1.fra hF2⟩
 obtain⟨S',D',R2,lv',rn',N',Sz',op',c3,hP3⟩:=EQ hP2 (by omega) hn h.log.lv1;refine⟨S',D',R2,lv',rn',N',Sz',op',aW pn rfl ?_,hP3.mono (by omega) (by omega)⟩;obtain⟨x1,x2,x3,x4,x5⟩:=ha.one;obtain⟨f1,f2,f3,f4⟩:=ha.free;obtain⟨g1,g2,g3,g4⟩:=ha.frz;have hob:=h.obj;have hlt:=(aS.1 hob).1;have pa:∀x,(S.objs++x)[pp]?=some (dK o lv R rn N Sz op):=fun x=>by rw[bP hlt];exact hob
 have o1:=hR'.fs.one.1;have o2:=hR'.bs.one.1;have o3:=hR'.ws.one.1;have y1:=h.wf.fs.one.1;have y2:=h.wf.bs.one.1;have y3:=h.wf.ws.one.1;have w1:=h.wf.fs.free;have w2:=h.wf.bs.free;have w3:=h.wf.ws.free;have w4:=h.wf.fs.frz;have w5:=h.wf.bs.frz;have w6:=h.wf.ws.frz;simp only[RD.v,RD.c,dK,fA.cells]at *;simp -implicitDefEqProofs [-Zs,kB,x1,x2,x3,x4,x5,f4,g4,w1,w2,w3,w4,w5,w6,hk,aU hob,hob,pa,q1,lr,ah,cp,aI,o1,o2,o3,y1,y2,y3,aR];rw[←hS1];simp -implicitDefEqProofs [aU hp1,q1,c2,c3,ac]
end
end Ps
namespace Ps
set_option linter.unusedSimpArgs false
set_option linter.unusedVariables false
open Go
theorem zO{a b c d e f:PV}{l:List PV}:ae true 6 (a::b::c::d::e::f::l)=some (.agg [a,b,c,d,e,f]):=by simp[ae]
theorem zP{f:Nat}{args:List PV}{S:St}{r:PV}(h:aO T f args S=some (r,S)):cd (aO T) .keep f args S=some (r,S):=by
 simp only[cd,pN,h,if_true,iy,vm]
section
variable {S : St} {pp o K B : Nat} {D : Dk} {R : RD} {name : Nm} {lv : PV} {rn : Nm} {N Sz : Int} {op : Bool} {a : fA}
theorem aFc(x:List UInt8):cz false (.sl none (aL x) [])=some (.int .i64 x.length)∧gI 1 (.sl none (aL x) [])=some (aL x):=by
 have h:bG 1 (.sl none (aL x) []) (aL x):=.inr ⟨none,[],rfl,fun e he=>Uq (s:=x) (by simpa using he)⟩;have:=h.len;rw[bO]at this;exact⟨this,h.appd⟩
set_option maxRecDepth 20000 in
set_option maxHeartbeats 8000000 in
theorem aFd(h:eO S pp o K B D R name lv rn N Sz op)(hK:K≤800000)(hB:B≤50000000)(hn:name.length≤maxLen)(ha:a.Wf)(hk:a.kind=1)(hop:op=true):po S pp o K B name a:=by
 rcases h.log with⟨q,_⟩|⟨_,lo,n,size,hlv,hlp,hlg,hrn,hN,hSz,hnB,hsB⟩
 ·rw[hop]at q;cases q
 subst hlv hrn hN hSz hop;obtain⟨x1,x2,x3,x4,x5⟩:=ha.one;obtain⟨f1,f2,f3,f4⟩:=ha.free;obtain⟨g1,g2,g3,g4⟩:=ha.frz;have hob:=h.obj;have hlt:=(aS.1 hob).1;have y1:=h.wf.fs.one.1;have y2:=h.wf.bs.one.1;have y3:=h.wf.ws.one.1;have w1:=h.wf.fs.free;have w2:=h.wf.bs.free;have w3:=h.wf.ws.free;have w4:=h.wf.fs.frz;have w5:=h.wf.bs.frz;have w6:=h.wf.ws.frz;have n10:¬S.objs.length+1=pp:=by omega
 have pa:∀x,(S.objs++x)[pp]?=some (dK o (.ptr lo 0) R rn (n:Int) (size:Int) true):=fun x=>by rw[bP hlt];exact hob
 have ps:∀(x:List (List PV)) (y:List PV),((S.objs++x).set pp y)[pp]?=some y:=fun x y=>fY (by rw[List.length_append];omega);by_cases hz:cH a.r=0
 ·have hrl:=Fh hz;have hfl:=DB (bW a.r);obtain⟨b1,b2⟩:=aFc (eo (bW a.r));obtain⟨e,Sx,Dx,_,_,_,dx⟩:=uq h.at_ (by omega) hn [] b1 b2;obtain⟨R',c1,hr1,hR'⟩:=aE3 h.at_ h.rel h.wf (by omega) hn ha.rec_ hz dx (n:=n) (size:=size) (by omega) (by omega) bk;have cp:=iH c1 (by simp[PV.free,PV.freeL,hR'.free]) (by simp[PV.frz,PV.frzL,hR'.frz]);obtain⟨n2,hn2⟩:∃n2:Nat,n2=if e=0 then n+1 else n:=⟨_,rfl⟩
  obtain⟨s2,hs2⟩:∃s2:Nat,s2=if e=0 then size+(eo (bW a.r)).length else size:=⟨_,rfl⟩
  have hb2:n2≤B+70000∧s2≤B+70000:=by
   rw[hn2,hs2];split<;>omega
  rw[←hn2,←hs2]at cp;obtain⟨hA1,hl1,hp1⟩:=h.setR (dK o (.ptr lo 0) R' rn (n2:Int) (s2:Int) true) [R'.c,[.str rn,.int .i64 (n2:Int),.int .i64 (s2:Int)]];obtain⟨S1,hS1⟩:∃S1:St,S1=⟨(S.objs++[R'.c,[.str rn,.int .i64 (n2:Int),.int .i64 (s2:Int)]]).set pp (dK o (.ptr lo 0) R' rn (n2:Int) (s2:Int) true),S.tips⟩:=⟨_,rfl⟩;rw[←hS1]at hA1 hl1;have hp1:S1.objs[pp]?=some (dK o (.ptr lo 0) R' rn (n2:Int) (s2:Int) true):=by rw[hS1];exact hp1
  have hlg1:iq S1 lo o D rn n size:=by
   rcases hl1 with⟨q,_⟩|⟨_,lo1,n1,size1,q2,q3,q4,_,q6,q7,_⟩
   ·cases q
   ·cases q2;have:n1=n:=by omega
    subst this;have:size1=size:=by omega
    subst this;exact q4
  obtain⟨ds,c3,hds⟩:=ZM ha.rec_ ha.lens S1;have c3:=zP c3;obtain⟨e2,S2,D2,c2,hA2,hF2,d2,hlg2⟩:=aE1 hA1 (by omega) hlg1 hn (by omega) (by omega) hds hz;obtain⟨ee,hsame⟩:=ER (.inl rfl) dx d2;subst ee;rw[←hn2,←hs2]at hlg2
  have hP2:eO S2 pp o (K+2) (B+70000) D2 R' rn (.ptr lo 0) rn (n2:Int) (s2:Int) true:=
   ⟨hF2.obj _ _ hp1 h.ne (Ne.symm hlp) h.own,h.ne,hF2.own _ (aS.1 hp1).1 h.ne h.own,hA2,hsame R' hr1,hR',.inr ⟨rfl,lo,n2,s2,rfl,hlp,hlg2,rfl,rfl,rfl,hb2.1,hb2.2⟩⟩
  refine⟨S2,D2,R',_,_,_,_,_,aW pn rfl ?_,hP2.mono (by omega) (aj _)⟩;have o1:=hR'.fs.one.1;have o2:=hR'.bs.one.1;have o3:=hR'.ws.one.1;generalize ((n2:Nat):Int)=n2i at *;generalize ((s2:Nat):Int)=s2i at *;simp only[RD.v,RD.c,dK,fA.cells,fA.cs]at *;simp -implicitDefEqProofs [-KN,kB,x1,x2,x3,x4,x5,f1,f2,f3,g1,g2,g3,w1,w2,w3,w4,w5,w6,hk,aU hob,hob,pa,ps,q1,zO,lr,Ws,ah,ek,cp,jc,n10,aI,o1,o2,o3,y1,y2,y3,aR,zI,zJ,zK,zL,zM,zN];rw[←hS1];simp -implicitDefEqProofs [aU hp1,q1,zO,c2,c3,ac]
 ·have c1:=aE2 h.wf ha.rec_ hz rn (n:Int) (size:Int) bk;have cp:=iH c1 (by simp[PV.free,PV.freeL,h.wf.free]) (by simp[PV.frz,PV.frzL,h.wf.frz]);obtain⟨hA1,hl1,hp1⟩:=h.setR (dK o (.ptr lo 0) R rn (n:Int) (size:Int) true) [R.c,[.str rn,.int .i64 (n:Int),.int .i64 (size:Int)]];obtain⟨S1,hS1⟩:∃S1:St,S1=⟨(S.objs++[R.c,[.str rn,.int .i64 (n:Int),.int .i64 (size:Int)]]).set pp (dK o (.ptr lo 0) R rn (n:Int) (size:Int) true),S.tips⟩:=⟨_,rfl⟩;rw[←hS1]at hA1 hl1;have hp1:S1.objs[pp]?=some (dK o (.ptr lo 0) R rn (n:Int) (size:Int) true):=by rw[hS1];exact hp1
  have hlg1:iq S1 lo o D rn n size:=by
   rcases hl1 with⟨q,_⟩|⟨_,lo1,n1,size1,q2,q3,q4,_,q6,q7,_⟩
   ·cases q
   ·cases q2;have:n1=n:=by omega
    subst this;have:size1=size:=by omega
    subst this;exact q4
  obtain⟨ds,c3,hds⟩:=ZM ha.rec_ ha.lens S1;have c3:=zP c3;have c2:=aE0 hlg1 hds hz;have hP2:eO S1 pp o K B D R rn (.ptr lo 0) rn (n:Int) (size:Int) true:=⟨hp1,h.ne,h.own,hA1,h.rel,h.wf,hl1⟩;refine⟨S1,D,R,_,_,_,_,_,aW pn rfl ?_,hP2.mono (by omega) (by omega)⟩;generalize ((n:Nat):Int)=n2i at *;generalize ((size:Nat):Int)=s2i at *;generalize ((cH a.r:Nat):Int)=re at *;simp only[RD.v,RD.c,dK,fA.cells,fA.cs]at *;simp -implicitDefEqProofs [-KN,kB,x1,x2,x3,x4,x5,f1,f2,f3,g1,g2,g3,w1,w2,w3,w4,w5,w6,hk,aU hob,hob,pa,ps,q1,zO,lr,Ws,ah,ek,cp,jc,n10,aI,y1,y2,y3,aR,zI,zJ,zK,zL,zM,zN];rw[←hS1];simp -implicitDefEqProofs [aU hp1,q1,zO,c2,c3,ac]
set_option maxRecDepth 20000 in
set_option maxHeartbeats 8000000 in
theorem aFe(h:eO S pp o K B D R name lv rn N Sz op)(hK:K≤800000)(hn:name.length≤maxLen)(ha:a.Wf)(hk:a.kind=2)(hop:op=true):po S pp o K B name a:=by
 rcases h.log with⟨q,_⟩|⟨_,lo,n,size,hlv,hlp,hlg,hrn,hN,hSz,hnB,hsB⟩
 ·rw[hop]at q;cases q
 subst hlv hrn hN hSz hop;obtain⟨x1,x2,x3,x4,x5⟩:=ha.one;have hob:=h.obj;have hlt:=(aS.1 hob).1;have y1:=h.wf.fs.one.1;have y2:=h.wf.bs.one.1;have y3:=h.wf.ws.one.1;have pa:∀x,(S.objs++x)[pp]?=some (dK o (.ptr lo 0) R rn (n:Int) (size:Int) true):=fun x=>by rw[bP hlt];exact hob
 obtain⟨e,Sx,Dx,_,_,_,dx⟩:=Dy h.at_ (by omega) hn [] [];obtain⟨R',c1,hr1,hR'⟩:=ur h.at_ h.rel h.wf (by omega) (by omega) dx hn (Nat.zero_le _) EK rfl (Nat.zero_le _) S;obtain⟨hA1,hl1,hp1⟩:=h.setR (dK o (.ptr lo 0) R' rn (n:Int) (size:Int) true) [R'.c];obtain⟨S1,hS1⟩:∃S1:St,S1=⟨(S.objs++[R'.c]).set pp (dK o (.ptr lo 0) R' rn (n:Int) (size:Int) true),S.tips⟩:=⟨_,rfl⟩;rw[←hS1]at hA1 hl1;have hp1:S1.objs[pp]?=some (dK o (.ptr lo 0) R' rn (n:Int) (size:Int) true):=by rw[hS1];exact hp1
 have hlg1:iq S1 lo o D rn n size:=by
  rcases hl1 with⟨q,_⟩|⟨_,lo1,n1,size1,q2,q3,q4,_,q6,q7,_⟩
  ·cases q
  ·cases q2;have:n1=n:=by omega
   subst this;have:size1=size:=by omega
   subst this;exact q4
 obtain⟨e2,S2,D2,c2,hA2,hF2,d2⟩:=aEZ hA1 (by omega) hlg1 hn;obtain⟨ee,hsame⟩:=ER (.inr rfl) dx d2;subst ee
 have hP2:eO S2 pp o (K+2) B D2 R' rn (.ptr lo 0) rn (n:Int) (size:Int) true:=
  ⟨hF2.o.obj _ _ hp1 h.ne h.own,h.ne,hF2.o.own _ (aS.1 hp1).1 h.ne h.own,hA2,hsame R' hr1,hR',hl1.fra hF2⟩
 refine⟨S2,D2,R',_,_,_,_,_,aW pn rfl ?_,hP2.mono (by omega) (by omega)⟩;have o1:=hR'.fs.one.1;have o2:=hR'.bs.one.1;have o3:=hR'.ws.one.1;generalize ((n:Nat):Int)=n2i at *;generalize ((size:Nat):Int)=s2i at *;simp only[RD.v,RD.c,dK,fA.cells,fA.cs]at *;simp -implicitDefEqProofs [-Zv,-Zu,kB,x1,x2,x3,x4,x5,hk,aU hob,hob,pa,q1,lr,ah,c1,aI,o1,o2,o3,y1,y2,y3,aR];rw[←hS1];simp -implicitDefEqProofs [aU hp1,q1,c2,ac]
set_option maxRecDepth 20000 in
set_option maxHeartbeats 4000000 in
theorem Wt(h:eO S pp o K B D R name lv rn N Sz op)(ha:a.Wf)(hk:a.kind≠3∧a.kind≠4∧a.kind≠5)(hop:op=false∨(a.kind≠1∧a.kind≠2)):po S pp o K B name a:=by
  obtain⟨x1,x2,x3,x4,x5⟩:=ha.one;have hob:=h.obj;have k3:(a.kind==3)=false:=by rw[beq_eq_false_iff_ne];exact hk.1
  have k4:(a.kind==4)=false:=by rw[beq_eq_false_iff_ne];exact hk.2.1
  have k5:(a.kind==5)=false:=by rw[beq_eq_false_iff_ne];exact hk.2.2
  refine⟨S,D,R,lv,rn,N,Sz,op,aW pn rfl ?_,h.mono (by omega) (by omega)⟩;simp only[RD.v,RD.c,dK,fA.cells,fA.cs]at *
  cases hb:op with
  |false=>
    rw[hb]at hob
    simp -implicitDefEqProofs [-Zt,kB,x1,x2,x3,x4,x5,k3,k4,k5,aU hob,q1,aI,ac]
  |true=>
    rw[hb]at hob hop
    have hk2 : a.kind ≠ 1 ∧ a.kind ≠ 2 := by rcases hop with h|h;· cases h
                                             · exact h
    have k1:(a.kind==1)=false:=by rw[beq_eq_false_iff_ne];exact hk2.1
    have k2:(a.kind==2)=false:=by rw[beq_eq_false_iff_ne];exact hk2.2
    simp -implicitDefEqProofs [kB,x1,x2,x3,x4,x5,k1,k2,k3,k4,k5,aU hob,q1,aI,ac]
theorem aFf(h:eO S pp o K B D R name lv rn N Sz op)(hK:K≤800000)(hB:4194304≤B)(hB2:B≤50000000)(hn:name.length≤maxLen)(ha:a.Wf):po S pp o K B name a:=by
 by_cases h3:a.kind=3
 ·exact aE9 h hK hB hn ha h3
 by_cases h4:a.kind=4
 ·exact aFa h ha h4
 by_cases h5:a.kind=5
 ·exact aFb h hK hB hn ha h5
 cases hop:op with
 |false=>subst hop;exact Wt h ha ⟨h3,h4,h5⟩ (.inl rfl)
 |true=>
  subst hop;by_cases h1:a.kind=1
  ·exact aFd h hK hB2 hn ha h1 rfl
  by_cases h2:a.kind=2
  ·exact aFe h hK hn ha h2 rfl
  exact Wt h ha ⟨h3,h4,h5⟩ (.inr ⟨h1,h2⟩)
end
end Ps
set_option linter.defProp false
namespace Ps
set_option linter.unusedSimpArgs false
set_option linter.unusedVariables false
open Go
def aFg:T.fn 13=some (.code qj):=rfl
abbrev eP:Ty:=.st (.pair (.int .i64) (.pair mm (.pair (.sl (.int .u8)) (.pair (.int .i64) (.pair (.sl (.int .i64)) .unit)))))
def ES(x:(Ty.sl (.int .u8)).den):List UInt8:=match x with|none=>[]|some q=>q.1.map fun n=>UInt8.ofNat (Int.toNat n)
def Wu(x:(Ty.sl (.int .i64)).den):List Int:=match x with|none=>[]|some q=>q.1
def vG(x:eP.den):fA:=⟨x.1,oZ x.2.1,(Ty.sl gm).pv x.2.1.2.1,(Ty.sl kT).pv x.2.1.2.2.1,(Ty.sl (.int .i64)).pv x.2.1.2.2.2.1,ES x.2.2.1,(Ty.sl (.int .u8)).pv x.2.2.1,x.2.2.2.1,Wu x.2.2.2.2.1,(Ty.sl (.int .i64)).pv x.2.2.2.2.1⟩
def vH(x:(Ty.sl eP).den):List fA:=match x with|none=>[]|some q=>q.1.map vG
def oK(a:fA):PV:=.agg a.cells
def vI{e:Ty}(x:(Ty.sl e).den):((Ty.sl e).pv x).one=true∧((Ty.sl e).pv x).cells=[(Ty.sl e).pv x]:=by
 cases x with
 |none=>exact⟨rfl,rfl⟩
 |some q=>exact⟨rfl,rfl⟩
def zQ{e:Ty}(he:∀y:e.den,(e.pv y).free=true∧(e.pv y).frz=e.pv y)(x:(Ty.sl e).den):((Ty.sl e).pv x).free=true∧((Ty.sl e).pv x).frz=(Ty.sl e).pv x:=by
 cases x with
 |none=>exact⟨rfl,rfl⟩
 |some q=>
  obtain⟨es,sp⟩:=q
  have h1:∀l:List e.den,PV.freeL (l.map fun y=>e.pv y)=true:=fun l=>by
   induction l with
   |nil=>rfl
   |cons y l ih=>simp only[dS,PV.freeL,(he y).1,ih,sZ]
  have h2:∀l:List e.den,PV.frzL (l.map fun y=>e.pv y)=l.map fun y=>e.pv y:=fun l=>by
   induction l with
   |nil=>rfl
   |cons y l ih=>simp only[dS,PV.frzL,(he y).2,ih]
  refine⟨?_,?_⟩
  ·show(PV.sl none (es.map fun y=>e.pv y) (sp.map fun y=>e.pv y)).free=true;simp only[PV.free,aV];exact⟨h1 es,h1 sp⟩
  ·show(PV.sl none (es.map fun y=>e.pv y) (sp.map fun y=>e.pv y)).frz=PV.sl none (es.map fun y=>e.pv y) (sp.map fun y=>e.pv y);simp only[PV.frz,h2 es,h2 sp]
def aFh{x:(Ty.sl (.int .u8)).den}(h:(Ty.sl (.int .u8)).wf x):bG 1 ((Ty.sl (.int .u8)).pv x) (aL (ES x))∧(ES x).length≤maxLen:=by
 cases x with
 |none=>exact⟨.inl ⟨rfl,rfl⟩,Nat.zero_le _⟩
 |some q=>
  obtain⟨es,sp⟩:=q
  have key:∀l:List Int,(∀n∈l,(Lit.int .u8 n).wf=true)→aL (l.map fun n=>UInt8.ofNat n.toNat)=l.map fun n=>PV.int .u8 n:=by
   intro l hl
   induction l with
   |nil=>rfl
   |cons n l ih=>
    have hn:=hl n (by simp);simp only[Lit.wf,aV,decide_eq_true_eq]at hn;have h1:0≤n∧n≤255:=by simpa[IntKind.min,IntKind.max,IntKind.signed,IntKind.bits]using hn
    have h2:((UInt8.ofNat n.toNat).toNat:Int)=n:=by
     have:n.toNat<256:=by omega
     simp[sq this];omega
    simp only[aL,dS,h2]at ih ⊢;rw[ih (fun m hm=>hl m (by simp[hm]))]
  refine⟨.inr ⟨none,sp.map fun n=>PV.int .u8 n,?_,?_⟩,?_⟩
  ·show PV.sl none (es.map fun n=>PV.int .u8 n) (sp.map fun n=>PV.int .u8 n)=_;rw[←key es h.2.1];rfl
  ·intro e he;rcases dA.1 he with he|he
   ·simp only[aL,cD]at he;obtain⟨_,_,rfl⟩:=he;rfl
   ·obtain⟨n,_,rfl⟩:=cD.1 he;rfl
  ·have h1:es.length+sp.length≤maxLen:=h.1;exact Nat.le_trans (Ah (List.length_map ..)) (Nat.le_trans (Ag _ _) h1)
def aFi(x:(Ty.sl (.int .i64)).den):bT 1 ((Ty.sl (.int .i64)).pv x) ((Wu x).map (.int .i64)):=by
 cases x with
 |none=>exact ma 1
 |some q=>
  obtain⟨es,sp⟩:=q;exact oG (es:=es.map (.int .i64)) (fun e he=>by obtain⟨_,_,rfl⟩:=cD.1 he;rfl)
def aFj{x:eP.den}(h:eP.wf x)(hb:eP.bulk x≤1048576):(vG x).Wf:=by
 obtain⟨k,r,b,i,kp,u⟩:=x;obtain⟨h1,h2,h3,h4,h5,_⟩:=h
 have hb2:mm.bulk r≤1048576:=by
  have:1+(mm.bulk r+((Ty.sl (.int .u8)).bulk b+(1+((Ty.sl (.int .i64)).bulk kp+0))))+1≤1048576:=hb;omega
 obtain⟨⟨cs,e1,e2⟩,l1,l2,l3⟩:=aMt h2 hb2;obtain⟨i1,i2⟩:=aFh h3;have hi:(Lit.int .i64 i).wf=true:=h4;simp only[Lit.wf,aV,decide_eq_true_eq]at hi;have hi2:=hi.2;simp[IntKind.max,IntKind.signed,IntKind.bits]at hi2;have hl:=i1.len;rw[bO]at hl;obtain⟨rk,rl,rr,ri,ra,rb,ru⟩:=r
 have ecs:(vG (k,(rk,rl,rr,ri,ra,rb,ru),b,i,kp,u)).cs=cs:=by
  have q:∀(e:Ty) (y:(Ty.sl e).den),(Ty.sl e).emb y=[(Ty.sl e).pv y]:=fun e y=>by cases y<;>rfl
  have e3:mm.pv (rk,rl,rr,ri,ra,rb,ru)=.agg ([PV.int .i64 rk]++((Ty.sl gm).emb rl++((Ty.sl kT).emb rr++((Ty.sl (.int .i64)).emb ri++([PV.int .i64 ra]++([PV.int .i64 rb]++[])))))):=rfl;rw[e3,q,q,q]at e1;exact PV.agg.inj e1
 have f1:=zQ (e:=gm) (fun y=>⟨rfl,rfl⟩) rl;have f2:=zQ (e:=kT) (fun y=>⟨rfl,rfl⟩) rr;have f3:=zQ (e:=.int .i64) (fun y=>⟨rfl,rfl⟩) ri;have f4:=zQ (e:=.int .u8) (fun y=>⟨rfl,rfl⟩) b
 exact {
  rec_:=by rw[ecs];exact e2
  lens:=⟨Nat.le_trans l1 (by decide),Nat.le_trans l2 (by decide),Nat.le_trans l3 (by decide)⟩
  len:=hl
  app:=i1.appd
  bmax:=i2
  kept:=aFi kp
  n:=hi2
  one:=⟨(vI _).1,(vI _).1,(vI _).1,(vI _).1,(vI _).1⟩
  free:=⟨f1.1,f2.1,f3.1,f4.1⟩
  frz:=⟨f1.2,f2.2,f3.2,f4.2⟩}
def aFk(x:eP.den):eP.pv x=oK (vG x):=by
 obtain⟨k,⟨rk,rl,rr,ri,ra,rb,ru⟩,b,i,kp,u⟩:=x;have q:∀(e:Ty) (y:(Ty.sl e).den),(Ty.sl e).emb y=[(Ty.sl e).pv y]:=fun e y=>by cases y<;>rfl
 show PV.agg ([PV.int .i64 k]++(([PV.int .i64 rk]++((Ty.sl gm).emb rl++((Ty.sl kT).emb rr++((Ty.sl (.int .i64)).emb ri++([PV.int .i64 ra]++([PV.int .i64 rb]++[]))))))++((Ty.sl (.int .u8)).emb b++([PV.int .i64 i]++((Ty.sl (.int .i64)).emb kp++[])))))=_;rw[q,q,q,q,q];rfl
def aFl{x:(Ty.sl eP).den}:bT 10 ((Ty.sl eP).pv x) ((vH x).map oK):=by
 cases x with
 |none=>exact ma 10
 |some q=>
  obtain⟨es,sp⟩:=q
  have he:(Ty.sl eP).pv (some (es,sp))=.sl none ((es.map vG).map oK) (sp.map fun x=>eP.pv x):=by
   show PV.sl none (es.map fun x=>eP.pv x) (sp.map fun x=>eP.pv x)=_;rw[oo]
   congr 1
   exact om (fun x _=>aFk x)
  rw[he];refine oG (fun e he=>?_);obtain⟨x,_,rfl⟩:=cD.1 he;rfl
theorem Wv:∀{l:List Nat} {n:Nat},n∈l→n≤l.sum
 |a::l,n,h=>by
  simp only[GN];rcases cX.1 h with rfl|h
  ·omega
  ·have:=Wv h;omega
def aFm{x:(Ty.sl eP).den}(h:(Ty.sl eP).wf x)(hb:(Ty.sl eP).bulk x≤1048576):(vH x).length≤maxLen∧∀a∈vH x,a.Wf:=by
 cases x with
 |none=>exact⟨Nat.zero_le _,fun y hy=>by simp[vH]at hy⟩
 |some q=>
  obtain⟨es,sp⟩:=q;refine⟨by simp only[vH,List.length_map];exact Nat.le_trans (Ag _ _) h.1,fun y hy=>?_⟩;obtain⟨x,hx,rfl⟩:=cD.1 hy;refine aFj (h.2.1 x hx) ?_;have h1:(es.map (Ty.bulk eP)).sum+(sp.map (Ty.bulk eP)).sum+1≤1048576:=hb;have h2:=Wv (cD.2 ⟨x,hx,rfl⟩:eP.bulk x∈es.map (Ty.bulk eP));omega
def ET:eu T 57 []=some (.bool true):=iH (Df 3000 aD0) rfl rfl
def aFn{room:Int}(h:room<1∨4194304<room):eu T 17 [.int .i64 room]=some (.tup [.agg [.int .i64 0,.nils,.nils,.nils,.int .i64 0,.bool false,.int .i64 0],.int .i64 2]):=by
 refine iH ?_ rfl rfl
 have hf:ac false bk ⟨bk.objs++[[.int .i64 0,.nils,.nils,.nils,.int .i64 0,.bool false,.int .i64 0]],bk.tips⟩ (.tup [.agg [.int .i64 0,.nils,.nils,.nils,.int .i64 0,.bool false,.int .i64 0],.int .i64 2])=(.tup [.agg [.int .i64 0,.nils,.nils,.nils,.int .i64 0,.bool false,.int .i64 0],.int .i64 2],bk):=
  cN ((aP.refl bk).objs [_]) rfl
 refine aW VN rfl ?_;by_cases h1:room<1
 ·simp -implicitDefEqProofs [oz,aI,aR,aQ,bK,ah,h1];exact fM (by simp[ah]<;>rfl) (by simp<;>rfl) hf
 ·have h2:4194304<room:=by omega
  simp -implicitDefEqProofs [oz,aI,aR,aQ,bK,ah,h1,h2];exact fM (by simp[ah]<;>rfl) (by simp<;>rfl) hf
set_option maxRecDepth 20000 in
set_option maxHeartbeats 8000000 in
def aFo{al:List fA}{v:PV}(hv:bT 10 v (al.map oK))(hl:al.length≤maxLen)(hw:∀a∈al,a.Wf){name:Nm}(hn:name.length≤maxLen){KK:List Kt}{Q:Fr→St→Prop}
  (hK:∀fr S,Ok (aJ T KK fr S) Q)
  (fr0:Fr)(S0:St){D0:Dk}{R0:RD}{lv0:PV}{rn0:Nm}{N0 Sz0:Int}{op0:Bool}(g1:fr0 1=.str name)(g2:fr0 2=v)(g11:fr0 11=.ptr 4 0)(g12:fr0 12=.int .i64 0)(h0:eO S0 4 2 12 4194304 D0 R0 name lv0 rn0 N0 Sz0 op0) :
  Ok (aJ T (.lp wy::.blk 0::KK) fr0 S0) Q:=by
 have hlen:=hv.len;rw[List.length_map]at hlen;refine lP (min al.length 40) (fun i fr S=>fr 1=.str name∧fr 2=v∧fr 11=.ptr 4 0∧fr 12=.int .i64 (i:Int)∧∃D R lv rn N Sz op,eO S 4 2 (12+16*i) (4194304+70000*i) D R name lv rn N Sz op) ?_ ?_ 0 (Nat.zero_le _) _ _ ⟨g1,g2,g11,by simpa using g12,D0,R0,lv0,rn0,N0,Sz0,op0,h0⟩
 ·rintro i fr S hi ⟨f1,f2,f11,f12,D,R,lv,rn,N,Sz,op,h⟩ k;have hi1:i<al.length:=by omega
  have hi2:(i:Int)<40:=by omega
  have hwr:=lQ hi1 hl;have hg:=hv.get i (by simpa using hi1) .i64;have hgx:(al.map oK)[i]'(by simpa using hi1)=oK al[i]:=by simp
  rw[hgx]at hg;have haw:=hw _ (jy hi1);obtain⟨a,ha0⟩:∃a,a=al[i]:=⟨_,rfl⟩;rw[←ha0]at hg haw;obtain⟨S1,D1,R1,lv1,rn1,N1,Sz1,op1,c1,h1⟩:=aFf h (by omega) (by omega) (by omega) hn haw;have c2:=aE7 h1.at_ (by omega) h1.rel h1.wf (by omega);have hp1:=h1.obj
  have hL:∀(fr':Fr),fr' 1=.str name→fr' 2=v→fr' 11=.ptr 4 0→fr' 12=.int .i64 ((i:Int)+1)→Ok (aJ T (.lp wy::.blk 0::KK) fr' S1) Q:=by
   intro fr' z1 z2 mN pH;refine k fr' S1 ⟨z1,z2,mN,by simpa using pH,D1,R1,lv1,rn1,N1,Sz1,op1,h1.mono (by omega) (by omega)⟩
  clear k;have pt:ae true 10 a.cells=some (.agg a.cells):=rfl;have hcell:(oK a).cells=a.cells:=rfl;rw[hcell]at hg;rcases h1.log with⟨q1,q2⟩|⟨q1,lo,n,size,q2,q3,q4,q5,q6,q7,q8,q9⟩
  ·subst q1 q2;simp only[RD.v,RD.c,dK]at *;rw[af];simp -implicitDefEqProofs [f1,f2,f11,f12,hlen,hi1,hi2,hg,pt,c1,aU hp1,Ps.q1,lr,c2];exact hL _ (by simp[f1]) (by simp[f2]) (by simp[f11]) (by simp[hwr])
  ·subst q1 q2 q5 q6 q7;have l1:=zP (aEX q4);have l2:=zP (aEY q4);simp only[RD.v,RD.c,dK]at *;generalize ((n:Nat):Int)=ni at *;generalize ((size:Nat):Int)=si at *;rw[af];simp -implicitDefEqProofs [f1,f2,f11,f12,hlen,hi1,hi2,hg,pt,c1,aU hp1,Ps.q1,lr,c2,l1,l2];exact hL _ (by simp[f1]) (by simp[f2]) (by simp[f11]) (by simp[hwr])
 ·rintro fr S ⟨f1,f2,f11,f12,_⟩;have hL:∀fr':Fr,Ok (aJ T KK fr' S) Q:=fun fr'=>hK fr' S;clear hK;rw[af];by_cases h40:al.length≤40
  ·have e:min al.length 40=al.length:=by omega
   rw[e]at f12;simp -implicitDefEqProofs [f1,f2,f11,f12,hlen];exact hL _
  ·have e:min al.length 40=40:=by omega
   rw[e]at f12;have h40':40<al.length:=by omega
   have h40i:(40:Int)<(al.length:Int):=by omega
   simp -implicitDefEqProofs [f1,f2,f11,f12,hlen,h40',h40i];exact hL _
set_option maxRecDepth 20000 in
set_option maxHeartbeats 8000000 in
def aFp(room:Int){name:Nm}(hn:name.length≤maxLen){al:List fA}{lv:PV}(hl:bT 10 lv (al.map oK))(l1:al.length≤maxLen)(l2:∀a∈al,a.Wf):aO T 13 [.int .i64 room,.str name,lv] bk=some (.bool true,bk):=by
 refine aW aFg rfl ?_;have hz:iY T 57 []=some (.bool true):=(qM rfl).trans ET;by_cases hr:room<1∨4194304<room
 ·have hn:=aAZ (S:=bk) hr;have hn2:=aFn hr;simp -implicitDefEqProofs [-Zp,qj,hn,hn2,aI,aR,aQ,bK,hz,ET]
  all_goals first|exact ZX rfl|skip
 ·have hr1:1≤room:=by omega
  have hr2:room≤4194304:=by omega
  have hnw:aO T 16 [.int .i64 room] bk=some (.tup [.ptr 2 0,.int .i64 0],⟨[[],[],[.int .i64 room,.map 0,.map 1,.nils,.int .i64 (-1),.int .i64 0,.bool false]],[]⟩):=aA1 hr1 hr2;have hA:=aA0 (S:=bk) hr1 hr2;have hn2:=aBX ⟨hr1,hr2⟩;have hwf:=VO ⟨hr1,hr2⟩;have hrel:cQ (fj room 0) (fq room):=aCp 0 1 _ _ _
  have hA0:At ⟨[[],[],ax (fj room 0),(fq room).c,dK 2 .nilp (fq room) [] 0 0 false],[]⟩ 2 0 (fj room 0):=by
   have:=hA.grown [(fq room).c,dK 2 .nilp (fq room) [] 0 0 false] [];exact this
  have hP:eO ⟨[[],[],ax (fj room 0),(fq room).c,dK 2 .nilp (fq room) [] 0 0 false],[]⟩ 4 2 0 4194304 (fj room 0) (fq room) name .nilp [] 0 0 false:=
   ⟨rfl,by decide,by simp[iN,fj],hA0,hrel,hwf,.inl ⟨rfl,rfl⟩⟩
  obtain⟨S1,D1,R1,lv1,rn1,N1,Sz1,op1,c1,h1⟩:=EQ hP (by omega) hn ⟨rfl,rfl⟩;simp only[fq,RD.v,RD.c]at hn2
  have hL:=fun(fr:Fr) (g1:fr 1=.str name) (g2:fr 2=lv) (g11:fr 11=.ptr 4 0) (g12:fr 12=.int .i64 0) (KK:List Kt) (Q:Fr→St→Prop) (hK:∀fr S,Ok (aJ T KK fr S) Q)=>
   aFo hl l1 l2 hn hK fr S1 g1 g2 g11 g12 h1
  obtain⟨SX,hSX⟩:∃SX:St,SX=⟨[[],[],ax (fj room 0),(fq room).c,dK 2 .nilp (fq room) [] 0 0 false],[]⟩:=⟨_,rfl⟩;rw[←hSX]at c1;have hSX':SX=⟨[[],[],[.int .i64 room,.map 0,.map 1,.nils,.int .i64 (-1),.int .i64 0,.bool false],[.int .i64 room,.nils,.nils,.nils,.int .i64 (-1),.bool false,.int .i64 0],[.ptr 2 0,.nilp,.int .i64 room,.nils,.nils,.nils,.int .i64 (-1),.bool false,.int .i64 0,.str [],.int .i64 0,.int .i64 0,.bool false]],[]⟩:=hSX;have hld:cS ⟨[[],[],[.int .i64 room,.map 0,.map 1,.nils,.int .i64 (-1),.int .i64 0,.bool false],[.int .i64 room,.nils,.nils,.nils,.int .i64 (-1),.bool false,.int .i64 0]],[]⟩ true 7 (.ptr 3 0)=some (.agg [.int .i64 room,.nils,.nils,.nils,.int .i64 (-1),.bool false,.int .i64 0]):=rfl;simp -implicitDefEqProofs [-Zq,qj,hnw,hn2,hld,aI,aR,aQ,bK];rw[←hSX'];simp -implicitDefEqProofs [-Zr,c1];refine hL _ (by simp) (by simp) (by simp) (by simp) _ _ (fun fr S=>?_)
  simp -implicitDefEqProofs [hz,ET]
  all_goals first|exact ZX rfl|skip
def law_WalPlays(xs:pq [.int .i64,.str,.sl eP])(h:zR [.int .i64,.str,.sl eP] xs)(hb:vK [.int .i64,.str,.sl eP] xs≤1048576):∃S',aO T 13 (rZ [.int .i64,.str,.sl eP] xs) bk=some (.bool true,S'):=by
 obtain⟨room,name,l,u⟩:=xs;obtain⟨h1,h2,h3,_⟩:=h
 have hb2:(Ty.sl eP).bulk l≤1048576:=by
  have:(Ty.int .i64).bulk room+((Ty.str).bulk name+((Ty.sl eP).bulk l+0))≤1048576:=hb;omega
 obtain⟨l1,l2⟩:=aFm h3 hb2;have hl:=aFl (x:=l);refine⟨bk,?_⟩;show aO T 13 [.int .i64 room,.str name,(Ty.sl eP).pv l] bk=_;exact aFp room h2 hl l1 l2
end Ps
