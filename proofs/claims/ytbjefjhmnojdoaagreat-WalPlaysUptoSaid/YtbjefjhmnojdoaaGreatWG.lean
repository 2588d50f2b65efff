/- Numbers and posting lists read, both. -/
import Derived.Test.YtbjefjhmnojdoaaGreatDefs
import Derived.Test.YtbjefjhmnojdoaaGreatWE
set_option linter.defProp false
namespace Ps
set_option linter.unusedSimpArgs false
set_option linter.unusedVariables false
open Go
def Yn{r:bq}{cs:List PV}(h:dG r cs)(hr:cH r≠0)(S:St):aO T 142 [.agg cs] S=some (.tup [.nils,.int .i64 (cH r)],S):=by
 have hc:=fun S=>AF h S;obtain⟨⟨vl,vr,vi,rfl,h1,h2,h3⟩,hlens⟩:=h;have hal:([.int .i64 r.kind,vl,vr,vi,.int .i64 r.low,.int .i64 r.high]:List PV).all PV.one=true:=jk h1 h2 h3;have eS:∀(a b c d e f:PV),ae true 6 [a,b,c,d,e,f]=some (.agg [a,b,c,d,e,f]):=fun a b c d e f=>by simp[ae]
 refine aW AG rfl ?_;simp -implicitDefEqProofs [-List.all_eq_true,-Zw,ka,hal,aI,ba,eS,hc];refine bX (fun _=>?_) (fun a=>absurd a (by simpa using hr));simp
 try (rw[cN (aP.refl S) rfl];rfl)
def oY{sz:Nat}{v:PV}{es:List PV}(h:bG sz v es):v.cells=[v]:=by
 rcases h with⟨rfl,_⟩|⟨tip,sp,rfl,_⟩<;>rfl
def FW:bG 1 .nils (aL []):=.inl ⟨rfl,rfl⟩
def FX(tip:Option (Nat×Nat))(l:List Int):bG 1 (.sl tip (nV l) []) (nV l):=.inr ⟨tip,[],rfl,fun e he=>vg l e (by simpa using he)⟩
def aLK{r:bq}{cs:List PV}(h:dG r cs)(hr:cH r=0)(k1:r.kind=1)(z:eV r.labs=0)(S:St):∃v',aO T 142 [.agg cs] S=some (.tup [v',.int .i64 0],S)∧fF v' (bW r):=by
 have hc:∀S,aO T 179 [.agg cs] S=some (.int .i64 0,S):=fun S=>by rw[AF h S,hr];rfl
 obtain⟨⟨vl,vr,vi,rfl,h1,h2,h3⟩,hlens⟩:=h;have hal:([.int .i64 r.kind,vl,vr,vi,.int .i64 r.low,.int .i64 r.high]:List PV).all PV.one=true:=jk h1 h2 h3;have eS:∀(a b c d e f:PV),ae true 6 [a,b,c,d,e,f]=some (.agg [a,b,c,d,e,f]):=fun a b c d e f=>by simp[ae]
 have hk:((r.kind.toNat:Nat):Int)=r.kind:=by omega
 have uk:=cu (n:=r.kind.toNat) (by omega);obtain⟨v1,S1,a1,a2,a3⟩:=oE FW (n:=r.kind.toNat) (by omega) (by simp) (aP.refl S);rw[hk]at a1;have b1:(r.kind==1)=true:=by simpa using k1
 have he:bW r=aN r.kind.toNat++ew r.labs:=by unfold bW;rw[if_pos k1]
 have hR:=mY.1 z;obtain⟨cc,co⟩:=lA a2;have key:=eB (T:=T) (f:=142) (c:=ka) AG (args:=[.agg [.int .i64 r.kind,vl,vr,vi,.int .i64 r.low,.int .i64 r.high]]) (S:=S) rfl (R:=fun x S2=>S2=S∧∃v',x=.tup [v',.int .i64 0]∧fF v' (bW r)) ?_
 ·obtain⟨x,S2,q1,rfl,v',rfl,q2⟩:=key;exact⟨v',q1,q2⟩
 have ha1:bB S 1 ⟨S1.objs++[[v1]],S1.tips⟩ v1 (aL (aN r.kind.toNat)):=by simpa using a2.objs [[v1]]
 obtain⟨v2,c1,c2⟩:=aDF (ha1.isSl (gn _)) (by omega) h1.reads hlens.2.2.2 hlens.1 hR ⟨S1.objs++[[v1]],S1.tips⟩;simp -implicitDefEqProofs [-List.all_eq_true,ka,hal,aI,aR,ba,eS,hc,a1,b1,cc,co,c1,oY c2.isl,kz c2.isl]
 have hfin:ac false S ⟨S1.objs++[[v2]],S1.tips⟩ (.tup [v2,.int .i64 0])=(.tup [v2,.int .i64 0],S):=by
  rw[cN (a2.grows.obj [v2]) (by simp[PV.free,PV.freeL,c2.free])];simp[PV.frz,PV.frzL,c2.frz]
 have hol:(St.mk (S1.objs++[[v2]]) S1.tips).objs[S1.objs.length]?=some [v2]:=by simp
 simp -implicitDefEqProofs [aU hol,hfin];rw[he];exact c2
def aLL{r:bq}{cs:List PV}(h:dG r cs)(hr:cH r=0)(k3:r.kind=3)(z:ec r.ids=0)(z1:0≤r.low)(z2:r.low≤r.high)(z3:r.high≤1099511627776)(S:St):∃v',aO T 142 [.agg cs] S=some (.tup [v',.int .i64 0],S)∧fF v' (bW r):=by
 have hc:∀S,aO T 179 [.agg cs] S=some (.int .i64 0,S):=fun S=>by rw[AF h S,hr];rfl
 obtain⟨⟨vl,vr,vi,rfl,h1,h2,h3⟩,hlens⟩:=h;have hal:([.int .i64 r.kind,vl,vr,vi,.int .i64 r.low,.int .i64 r.high]:List PV).all PV.one=true:=jk h1 h2 h3;have eS:∀(a b c d e f:PV),ae true 6 [a,b,c,d,e,f]=some (.agg [a,b,c,d,e,f]):=fun a b c d e f=>by simp[ae]
 have hk:((r.kind.toNat:Nat):Int)=r.kind:=by omega
 have uk:=cu (n:=r.kind.toNat) (by omega);obtain⟨v1,S1,a1,a2,a3⟩:=oE FW (n:=r.kind.toNat) (by omega) (by simp) (aP.refl S);rw[hk]at a1;have b1:(r.kind==1)=false:=by rw[k3];rfl
 have b2:(r.kind==2)=false:=by rw[k3];rfl
 obtain⟨cc,co⟩:=lA a2;have key:=eB (T:=T) (f:=142) (c:=ka) AG (args:=[.agg [.int .i64 r.kind,vl,vr,vi,.int .i64 r.low,.int .i64 r.high]]) (S:=S) rfl (R:=fun x S2=>S2=S∧∃v',x=.tup [v',.int .i64 0]∧fF v' (bW r)) ?_
 ·obtain⟨x,S2,q1,rfl,v',rfl,q2⟩:=key;exact⟨v',q1,q2⟩
 have ha1:bB S 1 ⟨S1.objs++[[v1]],S1.tips⟩ v1 (aL (aN r.kind.toNat)):=by simpa using a2.objs [[v1]]
 obtain⟨v2,c1,c2⟩:=aLC (ha1.isSl (gn _)) (by omega) h3.reads z ⟨S1.objs++[[v1]],S1.tips⟩;have n1:((r.low.toNat:Nat):Int)=r.low:=by omega
 have n2:((r.high.toNat:Nat):Int)=r.high:=by omega
 have hp:(ck r.ids).length≤20000:=by
  obtain⟨p1,p2⟩:=qI z;have q1:=FT r.ids 0 (by omega) p2;have q2:=cu (n:=r.ids.length) (by omega);unfold ck;rw[List.length_append];omega
 have hvl:bG 1 (PV.sl (some (S1.tips.length,2)) [PV.int IntKind.i64 r.low,PV.int IntKind.i64 r.high] []) (nV ([r.low.toNat,r.high.toNat].map Int.ofNat)):=by
  have:=FX (some (S1.tips.length,2)) ([r.low.toNat,r.high.toNat].map Int.ofNat);simpa[nV,n1,n2]using this
 have g2:aP S ⟨S1.objs++[[v2]],S1.tips++[(2,1)]⟩:=(a2.grows.obj [v2]).arr _;have hol:(St.mk (S1.objs++[[v2]]) (S1.tips++[(2,1)])).objs[S1.objs.length]?=some [v2]:=by simp
 have hid:∀id n es sp,v2=.sl (some (id,n)) es sp→id<(St.mk (S1.objs++[[v2]]) (S1.tips++[(2,1)])).tips.length:=by
  intro id n es sp e;have:=c2.frz;rw[e]at this;simp[PV.frz]at this
 obtain⟨S3,v3,d1,d2,d3⟩:=FV (S0:=S) (i:=S1.objs.length) hvl.reads (by simp) (by simp;omega) (by rw[a3];exact aj _) (by simp) hol g2 c2.isl hid (by simp only[List.length_append,bV,cT];omega);simp -implicitDefEqProofs [-List.all_eq_true,ka,hal,aI,aR,bL,bR,ba,eS,hc,a1,b1,b2,cc,co,c1,oY c2.isl,kz c2.isl,d1,aU d2];have he:aN r.kind.toNat++ck r.ids++[r.low.toNat,r.high.toNat].flatMap aN=bW r:=by unfold bW;rw[if_neg (by omega),if_neg (by omega)];simp
 rw[he]at d3;have hfin:=vj d3;simp[hfin];exact jK d3
def Yo{S0 S:St}{sz:Nat}{v:PV}{es:List PV}(h:bB S0 sz S v es):∀id n es' sp,v=.sl (some (id,n)) es' sp→id<S.tips.length:=by
 intro id n es' sp e;rcases h.acc with⟨a,_⟩|⟨j,_,a,b⟩
 ·rw[a]at e;cases e
 ·rw[a]at e;cases e;exact(aS.1 b).1
def aLM{l:List cg}{vr:PV}(hv:bT 3 vr (l.map dC))(hl:l.length≤64)(hok:∀x∈l,mi x){i:Nat}{S0:St}(hi:S0.objs.length≤i){K:List Kt}{Q:Fr→St→Prop}:∀(r p:List cg) (s:List UInt8) (v:PV),l=p++r→s.length+27*r.length≤67000000→∀(fr:Fr) (S:St),
  fr 5=.ptr i 0→fr 7=.fn 240 [.ptr i 0]→fr 56=vr→fr 57=.int .i64 l.length→fr 58=.int .i64 p.length→S.objs[i]?=some [v]→bB S0 1 S v (aL s) →
  (∀fr' S' v',fr' 5=.ptr i 0→S'.objs[i]?=some [v']→bB S0 1 S' v' (aL (s++r.flatMap dY))→Ok (aJ T K fr' S') Q) →
  Ok (aJ T (.lp BN::.blk 1::K) fr S) Q:=by
 intro r
 induction r with
 |nil=>
  intro p s v e hs fr S h5 h7 h56 h57 h58 ho ha k;rw[cI]at e;subst e;rw[af];simp -implicitDefEqProofs [h57,h58]
  exact k _ _ v (by simp[h5]) ho (by simpa using ha)
 |cons x r ih=>
  intro p s v e hs fr S h5 h7 h56 h57 h58 ho ha k;have hlt:p.length<l.length:=by rw[e];simp
  have hg:=sP hv e (k:=.i64);have hw:=dR (a:=p.length) (by omega);have hx:=hok x (by rw[e];simp);obtain⟨x1,x2,x3⟩:=hx;obtain⟨m1,m2,m3,m4⟩:=sR x3;simp only[bV]at hs;have hz:=aLx m3 m4;have n1:((x.1.toNat:Nat):Int)=x.1:=by omega
  have n2:((x.2.1.toNat:Nat):Int)=x.2.1:=by omega
  have u1:=cu (n:=x.1.toNat) (by omega);have u2:=cu (n:=x.2.1.toNat) (by omega);have u3:=cu (n:=dX x.2.2) (qH m3 m4);have hil:i<S.objs.length:=(aS.1 ho).1
  have hvl:bG 1 (PV.sl (some (S.tips.length,3)) [PV.int IntKind.i64 x.1,PV.int IntKind.i64 x.2.1,PV.int IntKind.i64 (dX x.2.2:Nat)] []) (nV ([x.1.toNat,x.2.1.toNat,dX x.2.2].map Int.ofNat)):=by
   have:=FX (some (S.tips.length,3)) ([x.1.toNat,x.2.1.toNat,dX x.2.2].map Int.ofNat);simpa[nV,n1,n2]using this
  have ho2:(St.mk (S.objs++[[PV.int IntKind.i64 x.1,PV.int IntKind.i64 x.2.1,PV.int IntKind.i64 x.2.2]]) (S.tips++[(3,1)])).objs[i]?=some [v]:=by
   simp only;rw[bP hil];exact ho
  have ha2:=(ha.objs [[PV.int IntKind.i64 x.1,PV.int IntKind.i64 x.2.1,PV.int IntKind.i64 x.2.2]]).arrs [(3,1)]
  obtain⟨S3,v3,d1,d2,d3⟩:=FV (S0:=S0) (i:=i) hvl.reads (by simp) (by
   intro y hy;have hzl:=qH m3 m4;simp only[cX,kY,or_false]at hy;omega) hi (by simp) ho2 ha2.grows (ha2.isSl (gn _)) (Yo ha2) (by simp only[bV,cT];omega)
  rw[af];simp -implicitDefEqProofs [h5,h7,h56,h57,h58,hlt,hg,ba,jR,sO,hw,aI,aR,bL,bR,hz,d1];refine ih (p++[x]) (s++aN x.1.toNat++aN x.2.1.toNat++aN (dX x.2.2)) v3 (by simp[e]) (by simp only[List.length_append];omega) _ S3 (by simp[h5]) (by simp[h7]) (by simp[h56]) (by simp[h57]) (by simp[hw]) d2 (by simpa using d3) (fun fr' S' v' g1 g2 g3=>k fr' S' v' g1 g2 ?_);simpa[dY]using g3
def aLN{r:bq}{cs:List PV}(h:dG r cs)(hr:cH r=0)(k2:r.kind=2)(z:hY r.rows=0)(S:St):∃v',aO T 142 [.agg cs] S=some (.tup [v',.int .i64 0],S)∧fF v' (bW r):=by
 have hc:∀S,aO T 179 [.agg cs] S=some (.int .i64 0,S):=fun S=>by rw[AF h S,hr];rfl
 obtain⟨⟨vl,vr,vi,rfl,h1,h2,h3⟩,hlens⟩:=h;have hal:([.int .i64 r.kind,vl,vr,vi,.int .i64 r.low,.int .i64 r.high]:List PV).all PV.one=true:=jk h1 h2 h3;have eS:∀(a b c d e f:PV),ae true 6 [a,b,c,d,e,f]=some (.agg [a,b,c,d,e,f]):=fun a b c d e f=>by simp[ae]
 have l2:=h2.len;rw[List.length_map]at l2;have hk:((r.kind.toNat:Nat):Int)=r.kind:=by omega
 have uk:=cu (n:=r.kind.toNat) (by omega);obtain⟨v1,S1,a1,a2,a3⟩:=oE FW (n:=r.kind.toNat) (by omega) (by simp) (aP.refl S);rw[hk]at a1;have b1:(r.kind==1)=false:=by rw[k2];rfl
 have b2:(r.kind==2)=true:=by simpa using k2
 obtain⟨y1,y2,y3⟩:=sS z;have he:bW r=aN r.kind.toNat++(aN r.rows.length++r.rows.flatMap dY):=by unfold bW;rw[if_neg (by omega),if_pos k2]
 obtain⟨cc,co⟩:=lA a2;have key:=eB (T:=T) (f:=142) (c:=ka) AG (args:=[.agg [.int .i64 r.kind,vl,vr,vi,.int .i64 r.low,.int .i64 r.high]]) (S:=S) rfl (R:=fun x S2=>S2=S∧∃v',x=.tup [v',.int .i64 0]∧fF v' (bW r)) ?_
 ·obtain⟨x,S2,q1,rfl,v',rfl,q2⟩:=key;exact⟨v',q1,q2⟩
 have ha1:bB S 1 ⟨S1.objs++[[v1]],S1.tips++[(1,1)]⟩ v1 (aL (aN r.kind.toNat)):=by simpa using (a2.objs [[v1]]).arrs [(1,1)]
 have hol:(St.mk (S1.objs++[[v1]]) (S1.tips++[(1,1)])).objs[S1.objs.length]?=some [v1]:=by simp
 have hvl:bG 1 (PV.sl (some (S1.tips.length,1)) [PV.int IntKind.i64 (r.rows.length:Nat)] []) (nV ([r.rows.length].map Int.ofNat)):=by
  have:=FX (some (S1.tips.length,1)) ([r.rows.length].map Int.ofNat);simpa[nV]using this
 obtain⟨S3,v3,d1,d2,d3⟩:=FV (S0:=S) (i:=S1.objs.length) hvl.reads (by simp) (by
  intro y hy;simp only[cX,kY,or_false]at hy;omega) (by rw[a3];exact aj _) (by simp) hol ha1.grows (ha1.isSl (gn _)) (Yo ha1) (by simp only[bV,cT];omega)
 have u2:=cu (n:=r.rows.length) (by omega);simp -implicitDefEqProofs [-List.all_eq_true,ka,hal,aI,aR,bL,bR,ba,eS,hc,a1,b1,b2,cc,co,l2,d1];refine aLM h2.reads y1 y3 (i:=S1.objs.length) (S0:=S) (by rw[a3];exact aj _) r.rows [] (aN r.kind.toNat++aN r.rows.length) v3 rfl (by simp only[List.length_append];omega) _ S3 (by simp) (by simp) (by simp) (by simp) (by simp) d2 (by simpa using d3) (fun fr' S' v' g5 g1 g2=>?_);rw[iv,←he]at g2;have hfin:=vj g2;simp -implicitDefEqProofs [g5,aU g1,ba,hfin];exact jK g2
def Yp{r:bq}{cs:List PV}(h:dG r cs)(hr:cH r=0)(S:St):∃v',aO T 142 [.agg cs] S=some (.tup [v',.int .i64 0],S)∧fF v' (bW r):=by
 rcases FU hr with⟨k1,z⟩|⟨k2,z⟩|⟨k3,z,z1,z2,z3⟩
 ·exact aLK h hr k1 z S
 ·exact aLN h hr k2 z S
 ·exact aLL h hr k3 z z1 z2 z3 S
end Ps
set_option linter.defProp false
namespace Ps
set_option linter.unusedSimpArgs false
set_option linter.unusedVariables false
open Go
def Yq:T.fn 243=some (.code mN):=rfl
def aLO:T.fn 244=some (.code qx):=rfl
def aLP:T.fn 245=some (.code qy):=rfl
def aLQ:T.fn 400=some (.code nH):=rfl
def aLR:T.fn 399=some (.code z32):=rfl
def bM(s:List UInt8)(i:Nat)(bad:Bool):Nat×Nat×Bool:=if bad=true then(0,i,true)else if(bD s i).2.2≠0 then(0,i,true)else((bD s i).1,(bD s i).2.1,false)
def Yr{S:St}{i:Nat}{x:List PV}{k:IntKind}{n:Int}:ac false S ⟨S.objs.set i x,S.tips⟩ (.int k n)=(.int k n,⟨S.objs.set i x,S.tips⟩):=ZY (by simp) rfl rfl rfl (fun _ _ h=>oS h)
def aLS{α:Type}{l:List α}{i:Nat}{x:α}(h:l[i]?=some x):l.set i x=l:=by
 apply mr;intro k;by_cases hk:i=k
 ·subst hk;have:=(aS.1 h).1;rw[fY this,h]
 ·rw[ak hk]
def qJ{s:List UInt8}{v:PV}(hv:bG 1 v (aL s))(hs:s.length≤67108864){S:St}{i p:Nat}{bad:Bool}(ho:S.objs[i]?=some [v,.int .i64 (p:Int),.bool bad]) :
  aO T 243 [.ptr i 0] S=some (.int .i64 ((bM s p bad).1:Int),⟨S.objs.set i [v,.int .i64 ((bM s p bad).2.1:Int),.bool (bM s p bad).2.2],S.tips⟩):=by
 cases bad with
 |true=>
  have hr:bM s p true=(0,p,true):=rfl;rw[hr];simp only;rw[aLS ho];refine aW Yq rfl ?_
  simp -implicitDefEqProofs [mN,aU ho,ba]
 |false=>
  have hg:=ui hv hs (i:=(p:Int)) S;obtain⟨⟨n,nx,e⟩,hu⟩:∃q,bD s p=q:=⟨_,rfl⟩;rw[hu]at hg;simp only[hT]at hg;have h1:=kz hv;have h2:=oY hv;refine aW Yq rfl ?_;by_cases he:e=0
  ·subst he;have hr:bM s p false=(n,nx,false):=by simp[bM,hu]
   rw[hr];simp -implicitDefEqProofs [mN,aU ho,ba,hg,aI,aR,ho];exact Yr
  ·have hr:bM s p false=(0,p,true):=by simp[bM,hu,he]
   have hne:((e:Int) != 0)=true:=by simpa using he
   rw[hr];simp -implicitDefEqProofs [mN,aU ho,ba,hg,aI,aR,ho,hne];exact Yr
def ir(n:Nat):Int:=if n%2=1 then -((n/2:Nat):Int)-1 else((n/2:Nat):Int)
def aLT{n:Nat}(h:n<9223372036854775808):eu T 244 [.int .i64 (n:Int)]=some (.int .i64 (ir n)):=by
 refine iH ?_ rfl rfl;refine aW aLO rfl ?_;have hm:(n:Int).tmod 2=((n%2:Nat):Int):=by rw[oe (by omega)];omega
 have hd:(n:Int).tdiv 2=((n/2:Nat):Int):=by rw[vv (by omega)];omega
 have w1:IntKind.i64.wrap ((n/2:Nat):Int)=((n/2:Nat):Int):=bJ (by omega) (by omega);have w1':IntKind.i64.wrap ((n:Int)/2)=(n:Int)/2:=bJ (by omega) (by omega);have w2:IntKind.i64.wrap (-((n:Int)/2)) = -((n:Int)/2):=bJ (by omega) (by omega);have w3:IntKind.i64.wrap (-((n:Int)/2)-1) = -((n:Int)/2)-1:=bJ (by omega) (by omega);by_cases hn:n%2=1
 ·have hb:((n:Int)%2==1)=true:=by simp only[beq_iff_eq];omega
  simp -implicitDefEqProofs [qx,ir,hn,hm,hd,w1,w1',w2,w3,hb]
 ·have hb:((n:Int)%2==1)=false:=by
   rw[jw];simp only[ne_eq,beq_iff_eq];omega
  simp -implicitDefEqProofs [qx,ir,hn,hm,hd,w1,w1',w2,w3,hb]
def pR(s:List UInt8):Nat→Nat→Int→List Int→List Int×Nat×Nat
 |0,i,_,l=>(l,i,0)
 |m+1,i,last,l=>
  if(bD s i).2.2≠0 then([],0,(bD s i).2.2)else
  if 1099511627776-last<((bD s i).1:Int)∨(0<l.length∧(bD s i).1=0)then([],0,5)else
  pR s m (bD s i).2.1 (last+((bD s i).1:Int)) (l++[last+((bD s i).1:Int)])
def dv(s:List UInt8)(i:Int):List Int×Nat×Nat:=
 if(bD s i).2.2≠0 then([],0,(bD s i).2.2)else if 1024<(bD s i).1 then([],0,3)else pR s (bD s i).1 (bD s i).2.1 0 []
def aLU{s:List UInt8}:∀(m i:Nat) (last:Int) (l:List Int),(pR s m i last l).1.length≤l.length+m:=by
 intro m
 induction m with
 |zero=>intro i last l;simp[pR]
 |succ m ih=>
  intro i last l;rw[pR];split
  ·simp
  ·split
   ·simp
   ·have:=ih (bD s i).2.1 (last+((bD s i).1:Int)) (l++[last+((bD s i).1:Int)]);simp only[List.length_append,bV,cT]at this;omega
def Ys{s:List UInt8}{i:Int}:(dv s i).1.length≤1024:=by
 unfold dv;split
 ·simp
 ·split
  ·simp
  ·have:=aLU (s:=s) (bD s i).1 (bD s i).2.1 0 [];simp only[cT]at this;omega
structure sT(v:PV)(l:List Int):Prop where
 isl:bG 1 v (nV l)
 free:v.free=true
 frz:v.frz=v
def FY{S0 S:St}{v:PV}{l:List Int}(ha:bB S0 1 S v (nV l)):sT (bo v (nV l)) l:=by
 refine⟨lZ ha (vg _),?_,?_⟩
 ·rcases ha.acc with⟨h,_⟩|⟨id,_,h,_⟩
  ·rw[h];rfl
  ·rw[h];simp[bo,PV.free,FO,PV.freeL]
 ·rcases ha.acc with⟨h,_⟩|⟨id,_,h,_⟩
  ·rw[h];rfl
  ·rw[h];simp[bo,PV.frz,FP,PV.frzL]
def Yt:sT .nils []:=⟨.inl ⟨rfl,rfl⟩,rfl,rfl⟩
def aLV{s:List UInt8}{v:PV}(hv:bG 1 v (aL s))(hs:s.length≤67108864){N:Nat}(hN:N≤1024){S0:St}{K:List Kt}{Q:Fr→St→Prop}:∀(m i:Nat) (last:Int) (l:List Int),l.length+m=N→0≤last→last≤1099511627776→∀(fr:Fr) (S:St),
  fr 0=v→fr 1=.int .i64 (i:Int)→fr 7=.int .i64 (N:Int)→fr 8=.int .i64 0→fr 10=.int .i64 last→bB S0 1 S (fr 9) (nV l) →
  ((pR s m i last l).2.2=0→∀fr' S',fr' 1=.int .i64 ((pR s m i last l).2.1:Int)→fr' 8=.int .i64 0→bB S0 1 S' (fr' 9) (nV (pR s m i last l).1)→Ok (aJ T K fr' S') Q) →
  ((pR s m i last l).2.2≠0→∀fr' S',aP S0 S'→fr' 8=.int .i64 ((pR s m i last l).2.2:Int)→Ok (aJ T K fr' S') Q) →
  Ok (aJ T (.lp Bm::.blk 0::K) fr S) Q:=by
 intro m
 induction m with
 |zero=>
  intro i last l hl hl0 hl1 fr S h0 h1 h7 h8 h10 ha k1 k2;have hlen:=(ha.isSl (vg _)).len;rw[gS]at hlen;have hlt:¬(l.length:Int)<(N:Int):=by omega
  rw[af];simp -implicitDefEqProofs [h7,h8,hlen,hlt]
  exact k1 rfl _ _ (by simp[h1,pR]) (by simp[h8]) (by simpa[pR]using ha)
 |succ m ih=>
  intro i last l hl hl0 hl1 fr S h0 h1 h7 h8 h10 ha k1 k2;have hlen:=(ha.isSl (vg _)).len;rw[gS]at hlen;have hlt:(l.length:Int)<(N:Int):=by omega
  have hg:=ui hv hs (i:=(i:Int)) S;rw[pR]at k1 k2;obtain⟨⟨d,nx,e⟩,hu⟩:∃q,bD s i=q:=⟨_,rfl⟩;rw[hu]at hg k1 k2;simp only[hT]at hg k1 k2;have hok:=kK (s:=s) (i:=(i:Int));rw[hu]at hok;have hwm:IntKind.i64.wrap (1099511627776-last)=1099511627776-last:=bJ (by omega) (by omega);rw[af];by_cases he:e=0
  ·subst he;obtain⟨o1,o2⟩:=hok rfl;simp only at o1 o2;rw[if_neg (by decide)]at k1 k2;by_cases hb1:1099511627776-last<(d:Int)
   ·rw[if_pos (.inl hb1)]at k2;simp -implicitDefEqProofs [h0,h1,h7,h8,h10,hlen,hlt,hg,hwm,hb1];exact k2 (by decide) _ _ ha.grows (by simp)
   ·simp -implicitDefEqProofs [h0,h1,h7,h8,h10,hlen,hlt,hg,hwm,hb1];refine bX (fun c=>?_) (fun c=>?_)
    ·have hc:0<l.length∧d=0:=by simpa using c
     rw[if_pos (.inr hc)]at k2;exact k2 (by decide) _ _ ha.grows (by simp)
    ·have hc:¬(0<l.length∧d=0):=by
      rintro⟨q1,q2⟩;subst q2;simp[q1]at c
     rw[if_neg (fun z=>z.elim hb1 hc)]at k1 k2;have hwl:IntKind.i64.wrap (last+(d:Int))=last+(d:Int):=bJ (by omega) (by omega);obtain⟨v',S',f1,f2,f3⟩:=(ha.arrs [(1,1)]).app (bytes:=8) [PV.int .i64 (last+(d:Int))] (by rw[gS];simp;omega);simp -implicitDefEqProofs [h10,hwl,aI,bL,bR,f1];refine ih nx (last+(d:Int)) (l++[last+(d:Int)]) (by simp;omega) (by omega) (by omega) _ S' (by simp[h0]) (by simp) (by simp[h7]) (by simp) (by simp[hwl]) (by rw[FQ];simpa[nV]using f2) k1 k2
  ·rw[if_pos he]at k1 k2;have hne:((e:Int) != 0)=true:=by simpa using he
   simp -implicitDefEqProofs [h0,h1,h7,h8,h10,hlen,hlt,hg,hne];exact k2 he _ _ ha.grows (by simp)
def sU(x:List Int×Nat×Nat)(r:PV):Prop:=∃v',r=.tup [v',.int .i64 (x.2.1:Int),.int .i64 (x.2.2:Int)]∧sT v' x.1
def FZ{S S':St}{v:PV}{l:List Int}{a b:PV}(ha:bB S 1 S' v (nV l))(hf:a.free=true)(hfb:b.free=true)(hz:a.frz=a)(hzb:b.frz=b):ac false S S' (.tup [v,a,b])=(.tup [bo v (nV l),a,b],S):=by
 have hf1:v.free=true∧v.frz=bo v (nV l):=by
  rcases ha.acc with⟨h,_⟩|⟨id,_,h,_⟩
  ·rw[h];exact⟨rfl,rfl⟩
  ·rw[h];exact⟨by simp[PV.free,FO,PV.freeL],by simp[bo,PV.frz,FP,PV.frzL]⟩
 rw[cN ha.grows (by simp[PV.free,PV.freeL,hf1.1,hf,hfb])];simp[PV.frz,PV.frzL,hf1.2,hz,hzb]
def aLW{s:List UInt8}{v:PV}(hv:bG 1 v (aL s))(hs:s.length≤67108864){i:Int}(S:St):∃r,aO T 245 [v,.int .i64 i] S=some (r,S)∧sU (dv s i) r:=by
 have key:=eB (T:=T) (f:=245) (c:=qy) aLP (args:=[v,.int .i64 i]) (S:=S) rfl (R:=fun r S2=>S2=S∧sU (dv s i) r) ?_
 ·obtain⟨r,S2,h1,rfl,h2⟩:=key;exact⟨r,h1,h2⟩
 have hg:=ui hv hs (i:=i) S;have hok:=kK (s:=s) (i:=i);generalize hR:dv s i=R;unfold dv at hR;obtain⟨⟨n,nx,e⟩,hu⟩:∃q,bD s i=q:=⟨_,rfl⟩;rw[hu]at hg hok;simp only[hT]at hg hok;simp only[hu]at hR
 have fin_no:∀(S':St) (e:Nat),R=([],0,e)→aP S S'→(ac false S S' (.tup [.nils,.int .i64 0,.int .i64 (e:Int)])).2=S∧sU R (ac false S S' (.tup [.nils,.int .i64 0,.int .i64 (e:Int)])).1:=by
  intro S' e hR hg;rw[cN hg rfl];exact⟨rfl,.nils,by rw[hR];rfl,by rw[hR];exact Yt⟩
 simp -implicitDefEqProofs [qy,hg];refine bX (fun c=>?_) (fun c=>?_)
 ·obtain⟨h1,h2⟩:e=0∧1024<n:=by simp at c;omega
  subst h1;rw[if_neg (by decide),if_pos h2]at hR;simp -implicitDefEqProofs;rw[af];simp -implicitDefEqProofs;exact fin_no S 3 hR.symm (aP.refl S)
 ·by_cases he:e=0
  ·subst he;have hn:¬1024<n:=by simp at c;omega
   rw[if_neg (by decide),if_neg hn]at hR;simp -implicitDefEqProofs;refine aLV hv hs (N:=n) (by omega) (S0:=S) n nx 0 [] (by simp) (by omega) (by omega) _ S (by simp) (by simp) (by simp) (by simp) (by simp) (by simpa[nV]using ip 1 (aP.refl S)) (fun hz fr' S' g1 g8 ha=>?_) (fun hz fr' S' hgr g8=>?_)
   ·have hf:=FZ (a:=.int .i64 ((pR s n nx 0 []).2.1:Int)) (b:=.int .i64 0) ha rfl rfl rfl rfl;simp -implicitDefEqProofs [g1,g8,hf];refine⟨bo (fr' 9) (nV (pR s n nx 0 []).1),?_,?_⟩
    ·rw[←hR,hz];rfl
    ·rw[←hR];exact FY ha
   ·have hne2:(((pR s n nx 0 []).2.2:Int) != 0)=true:=by simpa using hz
    simp -implicitDefEqProofs [g8,hne2]
    have hR':R=([],0,(pR s n nx 0 []).2.2):=by
     rw[←hR]
     have:∀(m i:Nat) (last:Int) (l:List Int),(pR s m i last l).2.2≠0→pR s m i last l=([],0,(pR s m i last l).2.2):=by
      intro m
      induction m with
      |zero=>intro i last l h;exact absurd rfl h
      |succ m ih=>
       intro i last l h;rw[pR]at h ⊢;split
       ·rfl
       ·rename_i q;rw[if_neg q]at h;split
        ·rfl
        ·rename_i q2;rw[if_neg q2]at h;exact ih _ _ _ h
     exact this _ _ _ _ hz
    exact fin_no S' _ hR' hgr
  ·have hneb:((e:Int)==0)=false:=by simpa using he
   have hne2:((e:Int) != 0)=true:=by simpa using he
   rw[if_pos he]at hR;rw[af];simp -implicitDefEqProofs [hneb,hne2];exact fin_no S _ hR.symm (aP.refl S)
def aLX{s:List UInt8}{v:PV}(hv:bG 1 v (aL s))(hs:s.length≤67108864){N:Nat}(hN:N≤1024){S0:St}{K:List Kt}{Q:Fr→St→Prop}:∀(m i:Nat) (last:Int) (l:List Int),l.length+m=N→0≤last→last≤1099511627776→∀(fr:Fr) (S:St),
  fr 0=v→fr 1=.int .i64 (i:Int)→fr 7=.int .i64 (N:Int)→fr 11=.int .i64 (l.length:Int)→fr 10=.int .i64 last→bB S0 1 S (fr 9) (nV l) →
  ((pR s m i last l).2.2=0→∀fr' S',fr' 1=.int .i64 ((pR s m i last l).2.1:Int)→bB S0 1 S' (fr' 9) (nV (pR s m i last l).1)→Ok (aJ T K fr' S') Q) →
  ((pR s m i last l).2.2≠0→∀fr' S',aP S0 S'→fr' 4=.nils→fr' 5=.int .i64 0→fr' 6=.int .i64 ((pR s m i last l).2.2:Int)→Q fr' S') →
  Ok (aJ T (.lp BG::.blk 0::K) fr S) Q:=by
 intro m
 induction m with
 |zero=>
  intro i last l hl hl0 hl1 fr S h0 h1 h7 h11 h10 ha k1 k2;have hlt:¬(l.length:Int)<(N:Int):=by omega
  rw[af];simp -implicitDefEqProofs [h7,h11,hlt]
  exact k1 rfl _ _ (by simp[h1,pR]) (by simpa[pR]using ha)
 |succ m ih=>
  intro i last l hl hl0 hl1 fr S h0 h1 h7 h11 h10 ha k1 k2;have hlt:(l.length:Int)<(N:Int):=by omega
  have hg:=uj hv hs (i:=(i:Int)) S;rw[pR]at k1 k2;obtain⟨⟨d,nx,e⟩,hu⟩:∃q,bD s i=q:=⟨_,rfl⟩;rw[hu]at hg k1 k2;simp only[hT]at hg k1 k2;have hok:=kK (s:=s) (i:=(i:Int));rw[hu]at hok;have hwm:IntKind.i64.wrap (1099511627776-last)=1099511627776-last:=bJ (by omega) (by omega);have hw:=dR (a:=l.length) (by omega);rw[af];by_cases he:e=0
  ·subst he;obtain⟨o1,o2⟩:=hok rfl;simp only at o1 o2;rw[if_neg (by decide)]at k1 k2;simp -implicitDefEqProofs [h0,h1,h7,h11,h10,hlt,hg,hwm];refine bX (fun c=>?_) (fun c=>?_)
   ·have hc:1099511627776-last<(d:Int)∨(0<l.length∧d=0):=by simpa using c
    rw[if_pos hc]at k2;simp -implicitDefEqProofs;exact k2 (by decide) _ _ ha.grows (by simp) (by simp) (by simp)
   ·have hc:¬(1099511627776-last<(d:Int)∨(0<l.length∧d=0)):=by
     intro z;have:(decide (1099511627776-last<(d:Int))||(decide (0<l.length)&&decide (d=0)))=true:=by simpa using z
     simp at c;rcases z with z|⟨z1,z2⟩
     ·omega
     ·have:=c.2 z1;omega
    rw[if_neg hc]at k1 k2;have hwl:IntKind.i64.wrap (last+(d:Int))=last+(d:Int):=bJ (by omega) (by omega);obtain⟨v',S',f1,f2,f3⟩:=(ha.arrs [(1,1)]).app (bytes:=8) [PV.int .i64 (last+(d:Int))] (by rw[gS];simp;omega);simp -implicitDefEqProofs [h10,h11,hwl,hw,aI,bL,bR,f1];refine ih nx (last+(d:Int)) (l++[last+(d:Int)]) (by simp;omega) (by omega) (by omega) _ S' (by simp[h0]) (by simp) (by simp[h7]) (by simp[hw]) (by simp[hwl]) (by rw[FQ];simpa[nV]using f2) k1 k2
  ·rw[if_pos he]at k1 k2;have hne:((e:Int) != 0)=true:=by simpa using he
   simp -implicitDefEqProofs [h0,h1,h7,h11,h10,hlt,hg,hne];exact k2 he _ _ ha.grows (by simp) (by simp) (by simp)
def aLY{s:List UInt8}:∀(m i:Nat) (last:Int) (l:List Int),(pR s m i last l).2.2≠0→pR s m i last l=([],0,(pR s m i last l).2.2):=by
 intro m
 induction m with
 |zero=>intro i last l h;exact absurd rfl h
 |succ m ih=>
  intro i last l h;rw[pR]at h ⊢;split
  ·rfl
  ·rename_i q;rw[if_neg q]at h;split
   ·rfl
   ·rename_i q2;rw[if_neg q2]at h;exact ih _ _ _ h
def aLZ{s:List UInt8}{v:PV}(hv:bG 1 v (aL s))(hs:s.length≤67108864){i:Int}(S:St):∃r,aO T 400 [v,.int .i64 i] S=some (r,S)∧sU (dv s i) r:=by
 have key:=eB (T:=T) (f:=400) (c:=nH) aLQ (args:=[v,.int .i64 i]) (S:=S) rfl (R:=fun r S2=>S2=S∧sU (dv s i) r) ?_
 ·obtain⟨r,S2,h1,rfl,h2⟩:=key;exact⟨r,h1,h2⟩
 have hg:=uj hv hs (i:=i) S;have hok:=kK (s:=s) (i:=i);generalize hR:dv s i=R;unfold dv at hR;obtain⟨⟨n,nx,e⟩,hu⟩:∃q,bD s i=q:=⟨_,rfl⟩;rw[hu]at hg hok;simp only[hT]at hg hok;simp only[hu]at hR
 have fin_no:∀(S':St) (e:Nat),R=([],0,e)→aP S S'→(ac false S S' (.tup [.nils,.int .i64 0,.int .i64 (e:Int)])).2=S∧sU R (ac false S S' (.tup [.nils,.int .i64 0,.int .i64 (e:Int)])).1:=by
  intro S' e hR hg;rw[cN hg rfl];exact⟨rfl,.nils,by rw[hR];rfl,by rw[hR];exact Yt⟩
 by_cases he:e=0
 ·subst he;rw[if_neg (by decide)]at hR;by_cases hn:1024<n
  ·have hn':(1024:Int)<(n:Int):=by omega
   rw[if_pos hn]at hR;simp -implicitDefEqProofs [nH,hg,hn'];exact fin_no S 3 hR.symm (aP.refl S)
  ·have hn':¬(1024:Int)<(n:Int):=by omega
   rw[if_neg hn]at hR;simp -implicitDefEqProofs [nH,hg,hn'];refine aLX hv hs (N:=n) (by omega) (S0:=S) n nx 0 [] (by simp) (by omega) (by omega) _ S (by simp) (by simp) (by simp) (by simp) (by simp) (by simpa[nV]using ip 1 (aP.refl S)) (fun hz fr' S' g1 ha=>?_) (fun hz fr' S' hgr g4 g5 g6=>?_)
   ·have hf:=FZ (a:=.int .i64 ((pR s n nx 0 []).2.1:Int)) (b:=.int .i64 0) ha rfl rfl rfl rfl;simp -implicitDefEqProofs [g1,hf];refine⟨bo (fr' 9) (nV (pR s n nx 0 []).1),?_,?_⟩
    ·rw[←hR,hz];rfl
    ·rw[←hR];exact FY ha
   ·have hR':R=([],0,(pR s n nx 0 []).2.2):=by rw[←hR];exact aLY _ _ _ _ hz
    simp only[g4,g5,g6];exact fin_no S' _ hR' hgr
 ·have hne2:((e:Int) != 0)=true:=by simpa using he
  rw[if_pos he]at hR;simp -implicitDefEqProofs [nH,hg,hne2];exact fin_no S _ hR.symm (aP.refl S)
def fy(s:List UInt8):Nat→Nat→List Int→Option (List Int×Nat)
 |0,i,l=>some (l,i)
 |m+1,i,l=>if(bD s i).2.2≠0 then none else fy s m (bD s i).2.1 (l++[((bD s i).1:Int)])
def vk:Option (List Int×Nat)→PV→Prop
 |none,r=>r=.tup [.nils,.int .i64 0,.bool false]
 |some (l,i),r=>∃v',r=.tup [v',.int .i64 (i:Int),.bool true]∧sT v' l
def aL0{s:List UInt8}{v:PV}(hv:bG 1 v (aL s))(hs:s.length≤67108864){N:Nat}(hN:N≤1024){S0:St}{K:List Kt}{Q:Fr→St→Prop}:∀(m i:Nat) (l:List Int),l.length+m=N→∀(fr:Fr) (S:St),
  fr 0=v→fr 1=.int .i64 (i:Int)→fr 2=.int .i64 (N:Int)→fr 10=.int .i64 (l.length:Int)→bB S0 1 S (fr 9) (nV l) →
  (∀q,fy s m i l=some q→∀fr' S',fr' 1=.int .i64 (q.2:Int)→bB S0 1 S' (fr' 9) (nV q.1)→Ok (aJ T K fr' S') Q) →
  (fy s m i l=none→∀fr' S',aP S0 S'→fr' 6=.nils→fr' 7=.int .i64 0→fr' 8=.bool false→Q fr' S') →
  Ok (aJ T (.lp BD::.blk 0::K) fr S) Q:=by
 intro m
 induction m with
 |zero=>
  intro i l hl fr S h0 h1 h2 h10 ha k1 k2;have hlt:¬(l.length:Int)<(N:Int):=by omega
  rw[af];simp -implicitDefEqProofs [h2,h10,hlt]
  exact k1 (l,i) rfl _ _ (by simp[h1]) (by simpa using ha)
 |succ m ih=>
  intro i l hl fr S h0 h1 h2 h10 ha k1 k2;have hlt:(l.length:Int)<(N:Int):=by omega
  have hg:=uj hv hs (i:=(i:Int)) S;rw[fy]at k1 k2;obtain⟨⟨d,nx,e⟩,hu⟩:∃q,bD s i=q:=⟨_,rfl⟩;rw[hu]at hg k1 k2;simp only[hT]at hg k1 k2;have hw:=dR (a:=l.length) (by omega);rw[af];by_cases he:e=0
  ·subst he;rw[if_neg (by decide)]at k1 k2;obtain⟨v',S',f1,f2,f3⟩:=(ha.arrs [(1,1)]).app (bytes:=8) [PV.int .i64 (d:Int)] (by rw[gS];simp;omega);simp -implicitDefEqProofs [h0,h1,h2,h10,hlt,hg,hw,aI,bL,bR,f1];refine ih nx (l++[(d:Int)]) (by simp;omega) _ S' (by simp[h0]) (by simp) (by simp[h2]) (by simp[hw]) (by rw[FQ];simpa[nV]using f2) k1 k2
  ·rw[if_pos he]at k1 k2;have hne:((e:Int) != 0)=true:=by simpa using he
   simp -implicitDefEqProofs [h0,h1,h2,h10,hlt,hg,hne];exact k2 rfl _ _ ha.grows (by simp) (by simp) (by simp)
def AH{s:List UInt8}{v:PV}(hv:bG 1 v (aL s))(hs:s.length≤67108864){N:Nat}(hN:N≤1024)(i:Nat)(S:St):∃r,aO T 399 [v,.int .i64 (i:Int),.int .i64 (N:Int)] S=some (r,S)∧vk (fy s N i []) r:=by
 have key:=eB (T:=T) (f:=399) (c:=z32) aLR (args:=[v,.int .i64 (i:Int),.int .i64 (N:Int)]) (S:=S) rfl (R:=fun r S2=>S2=S∧vk (fy s N i []) r) ?_
 ·obtain⟨r,S2,h1,rfl,h2⟩:=key;exact⟨r,h1,h2⟩
 simp -implicitDefEqProofs [z32];refine aL0 hv hs hN (S0:=S) N i [] (by simp) _ S (by simp) (by simp) (by simp) (by simp) (by simpa[nV]using ip 1 (aP.refl S)) (fun q hq fr' S' g1 ha=>?_) (fun hq fr' S' hgr g6 g7 g8=>?_)
 ·have hf:=FZ (a:=.int .i64 (q.2:Int)) (b:=.bool true) ha rfl rfl rfl rfl;simp -implicitDefEqProofs [g1,hf];rw[hq];exact⟨_,rfl,FY ha⟩
 ·have hf:ac false S S' (.tup [.nils,.int .i64 0,.bool false])=(.tup [.nils,.int .i64 0,.bool false],S):=by rw[cN hgr rfl];rfl
  rw[hq];simp only[g6,g7,g8,hf];exact⟨trivial,rfl⟩
end Ps
