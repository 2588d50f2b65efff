/- The disk: its state, in plain words; the first functions. -/
import Derived.Test.YtbjefjhmnojdoaaGreatDefs
import Derived.Test.YtbjefjhmnojdoaaGreatWK
import Derived.Test.YtbjefjhmnojdoaaGreatQD
import Derived.Test.YtbjefjhmnojdoaaGreatTie
import Derived.Test.YtbjefjhmnojdoaaGreatOk
import Derived.Test.YtbjefjhmnojdoaaGreatRow
set_option linter.defProp false
namespace Ps
set_option linter.unusedSimpArgs false
set_option linter.unusedVariables false
open Go
theorem ZF:∀{l:List PV},l.all PV.one=true→(PV.frzL l).all PV.one=true
 | [],_=>rfl
 |v::l,h=>by
  simp only[mq,aV]at h;simp only[PV.frzL,mq,aV];exact⟨by rw[XV];exact h.1,ZF h.2⟩
theorem ZG:∀(l:List PV),(PV.frzL l).length=l.length
 | []=>rfl
 |v::l=>by simp[PV.frzL,ZG l]
def jo(s:List UInt8):bq×Bool:=if(bD s 0).2.2≠0 then(sW,false)else iI s (bD s 0).1 (bD s 0).2.1
def ZH(s:List UInt8)(x:PV):Prop:=∃cs ok,x=.tup [.agg cs,.bool ok]∧ok=(jo s).2∧cs.length=6∧cs.all PV.one=true∧PV.freeL cs=true∧PV.frzL cs=cs∧((jo s).2=true→dG (jo s).1 cs)
def aMk{s:List UInt8}{v:PV}(hv:bG 1 v (aL s))(hs:s.length≤67108864)(S:St):∃x,aO T 374 [v] S=some (x,S)∧ZH s x:=by
 have key:=eB (T:=T) (f:=374) (c:=qf) aMe (args:=[v]) (S:=S) rfl (R:=fun r S2=>S2=S∧ZH s r) ?_
 ·obtain⟨r,S2,h1,rfl,h2⟩:=key;exact⟨r,h1,h2⟩
 rw[aMi];obtain⟨S1,hS1⟩:∃S1:St,S1=⟨S.objs++[bu],S.tips⟩:=⟨_,rfl⟩;have hlen1:S1.objs.length=S.objs.length+1:=by rw[hS1];simp
 have oa1:S1.objs[S.objs.length]?=some [.int .i64 0,.nils,.nils,.nils,.int .i64 0,.int .i64 0]:=by rw[hS1];simp[bu]
 have hg1:aP S S1:=by rw[hS1];exact(aP.refl S).obj _
 have hS1':St.mk (S.objs++[[.int .i64 0,.nils,.nils,.nils,.int .i64 0,.int .i64 0]]) S.tips=S1:=by rw[hS1];simp[bu]
 obtain⟨y,s1,s2⟩:=AH hv hs (N:=1) (by omega) 0 S1;have s1':aO T 399 [v,.int .i64 0,.int .i64 1] S1=some (y,S1):=s1;have hpt:ae true 6 bu=some (.agg bu):=rfl;unfold fy at s2;have hok:=kK (s:=s) (i:=((0:Nat):Int));have hrp:jo s=if(bD s ((0:Nat):Int)).2.2≠0 then(sW,false)else iI s (bD s ((0:Nat):Int)).1 (bD s ((0:Nat):Int)).2.1:=rfl
 obtain⟨⟨n,nx,e⟩,hN⟩:∃q,bD s ((0:Nat):Int)=q:=⟨_,rfl⟩;rw[hN]at s2 hok hrp;simp only at s2 hok hrp;by_cases he:e=0
 ·subst he;rw[if_neg (by decide)]at s2 hrp;simp only[fy,eE]at s2;obtain⟨v',rfl,s3⟩:=s2;have hg0:=Fd s3;obtain⟨o1,o2⟩:=hok rfl;simp -implicitDefEqProofs [hS1',s1',hg0,ba,aI,aQ,bK,aR]
  refine aMj hv hs (a:=S.objs.length) (j:=S1.objs.length) (k:=n) (p:=nx) o2 (by omega) (S0:=S) (by simp) (by simp) (by simp) (by simp) (by simp only;rw[bP (by omega)];exact oa1) (by simp) (hg1.obj _) (aj _) (by omega)
   (fun fr' S' cs ok g2 g3 hok' go gg h6 hal hfl hr=>?_)
  have hp:ae true 6 cs=some (.agg cs):=jm h6
  have hf:ac false S S' (.tup [.agg cs,.bool ok])=(.tup [.agg (PV.frzL cs),.bool ok],S):=by
   rw[cN gg (by simp[PV.free,PV.freeL,hfl])];simp[PV.frz,PV.frzL]
  simp[g2,g3,go,hp,hf];exact⟨PV.frzL cs,ok,rfl,by rw[hok',hrp],by rw[ZG,h6],ZF hal,mC _ hfl,mB _,fun z=>by rw[hrp]at z ⊢;exact hr z⟩
 ·rw[if_pos he]at s2 hrp;simp only[vk]at s2;subst s2;have hlt:S.objs.length<S1.objs.length:=by omega
  simp -implicitDefEqProofs [hS1',s1',aI,aQ,bK,aR,oa1];have hp:ae true 6 [.int .i64 0,.nils,.nils,.nils,.int .i64 0,.int .i64 0]=some (.agg bu):=rfl
  have hf:ac false S ⟨S1.objs.set S.objs.length [.int .i64 0,.nils,.nils,.nils,.int .i64 0,.int .i64 0],S1.tips⟩ (.tup [.agg bu,.bool false])=(.tup [.agg bu,.bool false],S):=by
   rw[cN (hg1.set (aj _)) rfl];rfl
  simp[hlt,hp,hf];exact⟨bu,false,rfl,by rw[hrp],rfl,rfl,rfl,rfl,fun z=>by rw[hrp]at z;cases z⟩
theorem ZI{w:List UInt8}:∀(l:List Nat) (p:List UInt8) (l0:List Int),(∀x∈l,x<9223372036854775808)→fy (p++(l.flatMap aN++w)) l.length p.length l0=some (l0++l.map Int.ofNat,(p++l.flatMap aN).length)
 | [],p,l0,_=>by simp[fy]
 |n::l,p,l0,h=>by
  have a:=kL (p:=p) (w:=l.flatMap aN++w) (n:=n) (h n (by simp));have ih:=ZI (w:=w) l (p++aN n) (l0++[(n:Int)]) (fun y hy=>h y (by simp[hy]));have e:p++((n::l).flatMap aN++w)=p++(aN n++(l.flatMap aN++w)):=by simp
  have e2:p++(aN n++(l.flatMap aN++w))=(p++aN n)++(l.flatMap aN++w):=by simp
  rw[←e2]at ih;rw[e,bV,fy,a];simp only;rw[if_neg (by decide),show p.length+(aN n).length=(p++aN n).length by simp,ih];simp
def jS(x:cg):List Nat:=[x.1.toNat,x.2.1.toNat,dX x.2.2]
theorem ZJ:∀l:List cg,(l.flatMap jS).flatMap aN=l.flatMap dY
 | []=>rfl
 |x::l=>by simp[jS,dY,ZJ l]
theorem ZK:∀l:List cg,(∀x∈l,mi x)→jn ((l.flatMap jS).map Int.ofNat)=l
 | [],_=>rfl
 |(a,b,c)::l,h=>by
  obtain⟨x1,x2,x3⟩:=h (a,b,c) (by simp);obtain⟨m1,m2,m3,m4⟩:=sR x3;have n1:((a.toNat:Nat):Int)=a:=by simp only at x1;omega
  have n2:((b.toNat:Nat):Int)=b:=by simp only at m1;omega
  have ih:=ZK l (fun y hy=>h y (by simp[hy]));simp[jS,jn,Yz];exact⟨⟨by omega,by omega⟩,by simpa using ih⟩
theorem ZL:∀l:List cg,(l.flatMap jS).length=3*l.length
 | []=>rfl
 |x::l=>by
  simp only[fB,List.length_append,ZL l,jS,bV,cT];omega
def Fe{r:bq}(h:cH r=0):jo (bW r)=(r,true):=by
 rcases AN h with⟨l,rfl,z⟩|⟨l,rfl,z⟩|⟨l,x,y,rfl,z,z1,z2,z3⟩
 ·have he:bW ⟨1,l,[],[],0,0⟩=aN 1++ew l:=by simp[bW]
  have a:=kL (p:=[]) (w:=ew l) (n:=1) (by omega);have b:=WT (p:=aN 1) (w:=[]) z;simp only[cI]at b;have a':bD (aN 1++ew l) 0=(1,(aN 1).length,0):=by simpa using a
  rw[he];unfold jo;rw[a'];simp only;rw[if_neg (by decide)];unfold iI;rw[if_pos rfl,b];simp
 ·obtain⟨y1,y2,y3⟩:=sS z;have he:bW ⟨2,[],l,[],0,0⟩=aN 2++(aN l.length++((l.flatMap jS).flatMap aN++[])):=by simp[bW,ZJ]
  have a:=kL (p:=[]) (w:=aN l.length++((l.flatMap jS).flatMap aN++[])) (n:=2) (by omega);have b:=kL (p:=aN 2) (w:=(l.flatMap jS).flatMap aN++[]) (n:=l.length) (by omega)
  have c:=ZI (w:=[]) (l.flatMap jS) (aN 2++aN l.length) [] (fun q hq=>by
   obtain⟨x,hx,hqx⟩:=mE.1 hq;obtain⟨x1,x2,x3⟩:=y3 x hx;obtain⟨m1,m2,m3,m4⟩:=sR x3;have:=qH m3 m4;simp only[jS,cX,kY,or_false]at hqx;omega)
  have e2:aN 2++(aN l.length++((l.flatMap jS).flatMap aN++[]))=(aN 2++aN l.length)++((l.flatMap jS).flatMap aN++[]):=by simp
  rw[←e2]at c;have a':bD (aN 2++(aN l.length++((l.flatMap jS).flatMap aN++[]))) 0=(2,(aN 2).length,0):=by simpa using a
  rw[he];unfold jo;rw[a'];simp only;rw[if_neg (by decide)];unfold iI;rw[if_neg (by decide),if_pos rfl,b];simp only;rw[if_neg (by omega),←ZL,show(aN 2).length+(aN l.length).length=(aN 2++aN l.length).length by simp,c];simp only[eE];rw[ZK l y3]
 ·have n1:((x.toNat:Nat):Int)=x:=by omega
  have n2:((y.toNat:Nat):Int)=y:=by omega
  have he:bW ⟨3,[],[],l,x,y⟩=aN 3++(ck l++(aN x.toNat++(aN y.toNat++[]))):=by simp[bW]
  have a:=kL (p:=[]) (w:=ck l++(aN x.toNat++(aN y.toNat++[]))) (n:=3) (by omega);have b:=ZC (p:=aN 3) (w:=aN x.toNat++(aN y.toNat++[])) z;have c:=kL (p:=aN 3++ck l) (w:=aN y.toNat++[]) (n:=x.toNat) (by omega);have d:=kL (p:=aN 3++ck l++aN x.toNat) (w:=[]) (n:=y.toNat) (by omega);have e2:aN 3++(ck l++(aN x.toNat++(aN y.toNat++[])))=(aN 3++ck l)++(aN x.toNat++(aN y.toNat++[])):=by simp
  have e3:aN 3++(ck l++(aN x.toNat++(aN y.toNat++[])))=(aN 3++ck l++aN x.toNat)++(aN y.toNat++[]):=by simp
  rw[←e2]at c;rw[←e3]at d;have a':bD (aN 3++(ck l++(aN x.toNat++(aN y.toNat++[])))) 0=(3,(aN 3).length,0):=by simpa using a
  rw[he];unfold jo;rw[a'];simp only;rw[if_neg (by decide)];unfold iI;rw[if_neg (by decide),if_neg (by decide),if_pos rfl,b];simp only;rw[c];simp only;rw[show(aN 3++ck l).length+(aN x.toNat).length=(aN 3++ck l++aN x.toNat).length by simp;omega,d];simp[n1,n2]
def Ff(s:List UInt8)(x:PV):Prop:=
 (∃r cs,cH r=0∧bW r=s∧dG r cs∧PV.freeL cs=true∧PV.frzL cs=cs∧x=.tup [.agg cs,.int .i64 0])∨((∀r,cH r=0→bW r≠s)∧x=.tup [.agg bu,.int .i64 5])
def aMl{s:List UInt8}{v:PV}(hv:bG 1 v (aL s))(hs:s.length≤67108864)(S:St):∃x,aO T 325 [v] S=some (x,S)∧Ff s x:=by
 have key:=eB (T:=T) (f:=325) (c:=mP) aMf (args:=[v]) (S:=S) rfl (R:=fun r S2=>S2=S∧Ff s r) ?_
 ·obtain⟨r,S2,h1,rfl,h2⟩:=key;exact⟨r,h1,h2⟩
 obtain⟨S1,hS1⟩:∃S1:St,S1=⟨S.objs++[bu],S.tips⟩:=⟨_,rfl⟩;have hlen1:S1.objs.length=S.objs.length+1:=by rw[hS1];simp
 have oa1:S1.objs[S.objs.length]?=some [.int .i64 0,.nils,.nils,.nils,.int .i64 0,.int .i64 0]:=by rw[hS1];simp[bu]
 have hg1:aP S S1:=by rw[hS1];exact(aP.refl S).obj _
 have hS1':St.mk (S.objs++[[.int .i64 0,.nils,.nils,.nils,.int .i64 0,.int .i64 0]]) S.tips=S1:=by rw[hS1];simp[bu]
 obtain⟨y,s1,cs,ok,rfl,hok,h6,hal,hfl,hfz,hr⟩:=aMk hv hs S1;have hp6:ae true 6 cs=some (.agg cs):=jm h6;have hpe:ae true 6 [.int .i64 0,.nils,.nils,.nils,.int .i64 0,.int .i64 0]=some (.agg bu):=rfl;have hput:aR [.int .i64 0,.nils,.nils,.nils,.int .i64 0,.int .i64 0] 0 cs=cs:=AJ (by rw[h6];rfl);have hlt:S.objs.length<(S1.objs++[cs]).length:=by simp;omega
 have oa2:(S1.objs++[cs])[S.objs.length]?=some [.int .i64 0,.nils,.nils,.nils,.int .i64 0,.int .i64 0]:=by rw[bP (by omega)];exact oa1
 have hg2:aP S ⟨S1.objs++[cs],S1.tips⟩:=hg1.obj _;have hputE:aR [.int .i64 0,.nils,.nils,.nils,.int .i64 0,.int .i64 0] 0 [.int .i64 0,.nils,.nils,.nils,.int .i64 0,.int .i64 0]=[.int .i64 0,.nils,.nils,.nils,.int .i64 0,.int .i64 0]:=rfl
 have hfE:ac false S ⟨(S1.objs++[cs]).set S.objs.length [.int .i64 0,.nils,.nils,.nils,.int .i64 0,.int .i64 0],S1.tips⟩ (.tup [.agg bu,.int .i64 5])=(.tup [.agg bu,.int .i64 5],S):=by
  rw[cN (hg2.set (aj _)) rfl];rfl
 have og:∀X:List PV,((S1.objs++[cs]).set S.objs.length X)[S.objs.length]?=some X:=fun X=>fY hlt;have hno:(∀r,cH r=0→bW r≠s)→S=S∧Ff s (.tup [.agg bu,.int .i64 5]):=fun h=>⟨rfl,.inr ⟨h,rfl⟩⟩
 cases hokb:ok with
 |false=>
  rw[hokb]at s1
  have hnr:∀r,cH r=0→bW r≠s:=fun r hr e=>by
   have:=Fe hr;rw[e]at this;rw[this,hokb]at hok;cases hok
  simp -implicitDefEqProofs [-List.all_eq_true,mP,hS1',s1,aI,aQ,bK,hal,h6,hput,oa2,hputE];simp -implicitDefEqProofs [og,hpe,hfE]
  exact .inr ⟨hnr,rfl⟩
 |true=>
  rw[hokb]at s1 hok;have hR:=hr hok.symm;by_cases hN:cH (jo s).1=0
  ·obtain⟨w,b1,b2⟩:=Ym hR hN ⟨S1.objs++[cs],S1.tips⟩;have t1:=mZ b2.isl;have t2:=mZ hv;by_cases hB:bW (jo s).1=s
   ·have hbb:(bW (jo s).1==s)=true:=by simpa using hB
    have hf:ac false S ⟨(S1.objs++[cs]).set S.objs.length cs,S1.tips⟩ (.tup [.agg cs,.int .i64 0])=(.tup [.agg cs,.int .i64 0],S):=by
     rw[cN (hg2.set (aj _)) (by simp[PV.free,PV.freeL,hfl])];simp[PV.frz,PV.frzL,hfz]
    simp -implicitDefEqProofs [-List.all_eq_true,mP,hS1',s1,aI,aQ,bK,hal,h6,hput,oa2,hp6,b1,t1,t2,hbb];simp -implicitDefEqProofs [og,hp6,hf];exact .inl ⟨_,cs,hN,hB,hR,hfl,hfz,rfl⟩
   ·have hbb:(bW (jo s).1==s)=false:=by simpa using hB
    have hnr:∀r,cH r=0→bW r≠s:=fun r hr e=>by
     have:=Fe hr;rw[e]at this;rw[this]at hB;exact hB e
    simp -implicitDefEqProofs [-List.all_eq_true,mP,hS1',s1,aI,aQ,bK,hal,h6,hput,oa2,hp6,b1,t1,t2,hbb,hputE];simp -implicitDefEqProofs [og,hpe,hfE];exact .inr ⟨hnr,rfl⟩
  ·have b1:=Yl hR hN ⟨S1.objs++[cs],S1.tips⟩;have hn1:((cH (jo s).1:Int) != 0)=true:=by simpa using hN
   have hnr:∀r,cH r=0→bW r≠s:=fun r hr e=>by
    have:=Fe hr;rw[e]at this;rw[this]at hN;exact hN hr
   simp -implicitDefEqProofs [-List.all_eq_true,mP,hS1',s1,aI,aQ,bK,hal,h6,hput,oa2,hp6,b1,hn1,hputE];simp -implicitDefEqProofs [og,hpe,hfE];exact .inr ⟨hnr,rfl⟩
end Ps
set_option linter.defProp false
namespace Ps
set_option linter.unusedSimpArgs false
set_option linter.unusedVariables false
open Go
def aEz:T.fn 252=some (.code rB):=rfl
def Wi(n:Nat):fp n=[UInt8.ofNat (n/256%256),UInt8.ofNat (n%256)]:=by
 unfold fp;have e:(n:Int).fdiv 256=((n/256:Nat):Int):=by rw[AU _ (by omega)];omega
 rw[e,lO,lO];have h1:(((n/256:Nat):Int)%256).toNat=n/256%256:=by omega
 have h2:((n:Int)%256).toNat=n%256:=by omega
 rw[h1,h2]
def rY{m:Nat}(h:m<256):PV.int .u8 (m:Int)=PV.int .u8 ((UInt8.ofNat m).toNat:Int):=by
 have:(UInt8.ofNat m).toNat=m:=by rw[UInt8.toNat_ofNat'];omega
 rw[this]
set_option maxRecDepth 20000 in
def Wj{x:List UInt8}{xv:PV}(hx:bG 1 xv (aL x))(hl:x.length≤65535)(S:St):∃v',aO T 255 [xv] S=some (v',S)∧fF v' (eo x):=by
 have hlen:=hx.len;rw[bO]at hlen;have hap:=fun S=>hx.appdS (S:=S)
 have q256:arith .quo (.int .i64 (x.length:Int)) (.int .i64 256)=some (.int .i64 ((x.length/256:Nat):Int)):=by
  have e:(x.length:Int).tdiv 256=((x.length/256:Nat):Int):=by rw[vv (by omega)];omega
  simp[arith,fk,gH,e,bJ (n:=(x.length:Int)/256) (by omega) (by omega)]
 have r256:arith .rem (.int .i64 (x.length:Int)) (.int .i64 256)=some (.int .i64 ((x.length%256:Nat):Int)):=zE (d:=256) (by omega);have w1:IntKind.u8.wrap ((x.length/256:Nat):Int)=((x.length/256%256:Nat):Int):=by rw[lO];omega
 have w2:IntKind.u8.wrap ((x.length%256:Nat):Int)=((x.length%256:Nat):Int):=by rw[lO];omega
 have hh:([PV.int .u8 ((x.length/256%256:Nat):Int),PV.int .u8 ((x.length%256:Nat):Int)]:List PV)=aL (fp x.length):=by
  rw[Wi,rY (m:=x.length/256%256) (by omega),rY (m:=x.length%256) (by omega)];rfl
 have a0:=pe (S0:=S) (S:=S) 1 (aL (fp x.length)) (aP.refl S);rw[←hh]at a0;obtain⟨v1,S1,b1,b2,b3⟩:=a0.app (bytes:=1) (aL x) (by rw[bO];simp;omega);rw[hh,←fc]at b2;have hsum:=aEx (b2.isSl (gn _)).reads (by simp[fp];omega) S1;obtain⟨n,e1,e2,e3⟩:=Wg (fp x.length++x);obtain⟨c,hc,hc2⟩:∃c:Nat,nk (fp x.length++x)=(c:Int)∧c<4294967296:=⟨4294967295-n,by omega,by omega⟩;rw[hc]at hsum
 have hseal:iG (fp x.length++x)=[UInt8.ofNat (c%256),UInt8.ofNat (c/256%256),UInt8.ofNat (c/65536%256),UInt8.ofNat (c/16777216%256)]:=by
  unfold iG;rw[hc];simp[pT,aEy]
 have s1:arith .rem (.int .u32 (c:Int)) (.int .u32 256)=some (.int .u32 ((c%256:Nat):Int)):=zE (d:=256) (by omega);have s2:arith .quo (.int .u32 (c:Int)) (.int .u32 256)=some (.int .u32 ((c/256:Nat):Int)):=zD (d:=256) hc2 (by omega);have s3:arith .rem (.int .u32 ((c/256:Nat):Int)) (.int .u32 256)=some (.int .u32 ((c/256%256:Nat):Int)):=zE (d:=256) (by omega);have s4:arith .quo (.int .u32 (c:Int)) (.int .u32 65536)=some (.int .u32 ((c/65536:Nat):Int)):=zD (d:=65536) hc2 (by omega);have s5:arith .rem (.int .u32 ((c/65536:Nat):Int)) (.int .u32 256)=some (.int .u32 ((c/65536%256:Nat):Int)):=zE (d:=256) (by omega);have s6:arith .quo (.int .u32 (c:Int)) (.int .u32 16777216)=some (.int .u32 ((c/16777216:Nat):Int)):=zD (d:=16777216) hc2 (by omega);have y1:IntKind.u8.wrap ((c%256:Nat):Int)=((c%256:Nat):Int):=by rw[lO];omega
 have y2:IntKind.u8.wrap ((c/256%256:Nat):Int)=((c/256%256:Nat):Int):=by rw[lO];omega
 have y3:IntKind.u8.wrap ((c/65536%256:Nat):Int)=((c/65536%256:Nat):Int):=by rw[lO];omega
 have y4:IntKind.u8.wrap ((c/16777216:Nat):Int)=((c/16777216:Nat):Int):=by rw[lO];omega
 have hs:([PV.int .u8 ((c%256:Nat):Int),PV.int .u8 ((c/256%256:Nat):Int),PV.int .u8 ((c/65536%256:Nat):Int),PV.int .u8 ((c/16777216:Nat):Int)]:List PV)=aL (iG (fp x.length++x)):=by
  rw[hseal,rY (m:=c%256) (by omega),rY (m:=c/256%256) (by omega),rY (m:=c/65536%256) (by omega),rY (m:=c/16777216) (by omega),show c/16777216%256=c/16777216 by omega];rfl
 obtain⟨v2,S2,d1,d2,d3⟩:=(b2.arrs [(4,1)]).app (bytes:=1) (aL (iG (fp x.length++x))) (by rw[bO,bO,VA];simp[fp];omega);rw[←fc]at d2;rw[←hs]at d1;have hb:=jK d2;have hfin:=d2.fin (kf _) (kg _);refine⟨bo v2 (aL (eo x)),aW aEq rfl ?_,hb⟩;have hfin:ac false S S2 v2=(bo v2 (aL (eo x)),S):=hfin;simp only[bV,cT,dN]at b1 d1;generalize ((x.length/256%256:Nat):Int)=n1 at *;generalize ((x.length%256:Nat):Int)=n2 at *;generalize ((x.length/256:Nat):Int)=n3 at *;generalize ((c%256:Nat):Int)=z1 at *;generalize ((c/256%256:Nat):Int)=z2 at *;generalize ((c/65536%256:Nat):Int)=z3 at *;generalize ((c/256:Nat):Int)=z4 at *;generalize ((c/65536:Nat):Int)=z5 at *;generalize ((c/16777216:Nat):Int)=z6 at *;generalize (c:Int)=z7 at *;simp -implicitDefEqProofs [z63,hlen,q256,r256,w1,w2,aI,bL,bR,bp,hap,b1,hsum,s1,s2,s3,s4,s5,s6,y1,y2,y3,y4,d1,hfin]
end Ps
set_option linter.defProp false
namespace Ps
set_option linter.unusedSimpArgs false
set_option linter.unusedVariables false
open Go
abbrev Nm:=List UInt8
abbrev di:=Nm×Nm×Option Nat
structure Dk where
 room:Int
 left:Int
 done:Int
 dark:Bool
 bi:Nat
 li:Nat
 base:List (Nm×Nat)
 live:List (Nm×Nat)
 wait:List di
 wv:PV
 fl:List Nat
 fb:Nat→List UInt8
 fs:Nat→Nat
 fv:Nat→PV
def cE:List (Nm×Nat)→List PV
 | []=>[]
 |(k,f)::l=>.str k::.ptr f 0::cE l
def gT:Option Nat→PV
 |some f=>.ptr f 0
 |none=>.nilp
def cn(x:di):PV:=.agg [.str x.1,.str x.2.1,gT x.2.2]
def ax(D:Dk):List PV:=[.int .i64 D.room,.map D.bi,.map D.li,D.wv,.int .i64 D.left,.int .i64 D.done,.bool D.dark]
def lk(k:Nm):List (Nm×Nat)→Option Nat
 | []=>none
 |(q,f)::l=>if k==q then some f else lk k l
def put(k:Nm)(f:Nat):List (Nm×Nat)→List (Nm×Nat)
 | []=>[(k,f)]
 |(q,u)::l=>if k==q then(k,f)::l else(q,u)::put k f l
def del(k:Nm):List (Nm×Nat)→List (Nm×Nat)
 | []=>[]
 |(q,u)::l=>if k==q then l else(q,u)::del k l
theorem yE(k:Nm):∀l:List (Nm×Nat),lM (.str k) (cE l)=some ((lk k l).map fun f=>.ptr f 0)
 | []=>rfl
 |(q,f)::l=>by
  simp only[cE,lM,mT,lk];cases h:(k==q)
  ·simpa using yE k l
  ·simp
theorem CZ(k:Nm)(f:Nat):∀l:List (Nm×Nat),na (.str k) (.ptr f 0) (cE l)=some (cE (put k f l))
 | []=>rfl
 |(q,u)::l=>by
  simp only[cE,na,mT,put];cases h:(k==q)
  ·simp only[CZ k f l];rfl
  ·rfl
theorem UQ(k:Nm):∀l:List (Nm×Nat),nc (.str k) (cE l)=some (cE (del k l))
 | []=>rfl
 |(q,u)::l=>by
  simp only[cE,nc,mT,del];cases h:(k==q)
  ·simp only[UQ k l];rfl
  ·rfl
theorem yF:∀l:List (Nm×Nat),(cE l).length=2*l.length
 | []=>rfl
 |(q,u)::l=>by simp only[cE,bV,yF l];omega
theorem Ca:∀l:List (Nm×Nat),ij (cE l)=l.map fun p=>(.str p.1,.ptr p.2 0)
 | []=>rfl
 |(q,u)::l=>by simp only[cE,ij,Ca l,dS]
theorem UR:∀l:List (Nm×Nat),rK (cE l)=some (l.map (·.1))
 | []=>rfl
 |(q,u)::l=>by simp only[cE,rK,UR l,dS]
def doE(x:di)(l:List (Nm×Nat)):List (Nm×Nat):=
 match x.2.2 with
 |some f=>if x.2.1=[]then l else put x.2.1 f l
 |none=>match lk x.1 l with
  |some f=>if x.2.1=[]then del x.1 l else put x.2.1 f (del x.1 l)
  |none=>del x.1 l
inductive ib:List (Nm×Nat)→List di→List (Nm×Nat)→Prop where
 |nil (b:List (Nm×Nat)):ib b [] b
 |snoc (b:List (Nm×Nat)) (w:List di) (l:List (Nm×Nat)) (x:di) (h:ib b w l) (hx:x.2.2=none→(lk x.1 l).isSome=true):ib b (w++[x]) (doE x l)
theorem Cb(k:Nm)(f:Nat):∀l:List (Nm×Nat),(put k f l).length≤l.length+1
 | []=>by simp[put]
 |(q,u)::l=>by
  simp only[put];split
  ·simp
  ·simp only[bV];have:=Cb k f l;omega
theorem US(k:Nm):∀l:List (Nm×Nat),(del k l).length≤l.length
 | []=>by simp[del]
 |(q,u)::l=>by
  simp only[del];split
  ·simp
  ·simp only[bV];have:=US k l;omega
theorem Cc{k:Nm}{f:Nat}{p:Nm×Nat}:∀{l:List (Nm×Nat)},p∈put k f l→p=(k,f)∨p∈l
 | [],h=>by simp[put]at h;exact .inl h
 |(q,u)::l,h=>by
  simp only[put]at h;split at h
  ·rcases cX.1 h with h|h
   ·exact .inl h
   ·exact .inr (by simp[h])
  ·rcases cX.1 h with h|h
   ·exact .inr (by simp[h])
   ·rcases Cc h with h|h
    ·exact .inl h
    ·exact .inr (by simp[h])
theorem yG{k:Nm}{p:Nm×Nat}:∀{l:List (Nm×Nat)},p∈del k l→p∈l
 | [],h=>by simp[del]at h
 |(q,u)::l,h=>by
  simp only[del]at h;split at h
  ·simp[h]
  ·rcases cX.1 h with h|h
   ·simp[h]
   ·simp[yG h]
theorem ic{k:Nm}{f:Nat}:∀{l:List (Nm×Nat)},lk k l=some f→(k,f)∈l
 | [],h=>by simp[lk]at h
 |(q,u)::l,h=>by
  simp only[lk]at h;split at h
  ·rename_i e;cases h;simp only[beq_iff_eq]at e;subst e;simp
  ·simp[ic h]
def aAf(x:di)(l:List (Nm×Nat)):(doE x l).length≤l.length+1:=by
 unfold doE;split
 ·split
  ·omega
  ·exact Cb _ _ _
 ·have h1:=US x.1 l;split
  ·split
   ·omega
   ·have:=Cb x.2.1 (by assumption) (del x.1 l);omega
  ·omega
def UT{x:di}{l:List (Nm×Nat)}{p:Nm×Nat}(h:p∈doE x l):p∈l∨(p.1=x.2.1∧(x.2.2=some p.2∨∃q∈l,q.2=p.2)):=by
 unfold doE at h;split at h
 ·rename_i f hf;split at h
  ·exact .inl h
  ·rcases Cc h with h|h
   ·subst h;exact .inr ⟨rfl,.inl hf⟩
   ·exact .inl h
 ·split at h
  ·rename_i f hf;split at h
   ·exact .inl (yG h)
   ·rcases Cc h with h|h
    ·subst h;exact .inr ⟨rfl,.inr ⟨_,ic hf,rfl⟩⟩
    ·exact .inl (yG h)
  ·exact .inl (yG h)
def ib.len{b l:List (Nm×Nat)}{w:List di}(h:ib b w l):l.length≤b.length+w.length:=by
 induction h with
 |nil=>simp
 |snoc w l x _ _ ih=>have:=aAf x l;simp only[List.length_append,bV,cT];omega
def ib.names{b l:List (Nm×Nat)}{w:List di}(h:ib b w l)(hb:∀p∈b,p.1.length≤24):(∀x∈w,x.2.1.length≤24)→∀p∈l,p.1.length≤24:=by
 induction h with
 |nil=>exact fun _=>hb
 |snoc w l x _ _ ih=>
  intro hw p hp;have ih:=ih (fun x hx=>hw x (by simp[hx]));rcases UT hp with h|⟨h,_⟩
  ·exact ih p h
  ·rw[h];exact hw x (by simp)
def ib.files{b l:List (Nm×Nat)}{w:List di}(h:ib b w l){P:Nat→Prop}(hb:∀p∈b,P p.2):(∀x∈w,∀f,x.2.2=some f→P f)→∀p∈l,P p.2:=by
 induction h with
 |nil=>exact fun _=>hb
 |snoc w l x _ _ ih=>
  intro hw p hp;have ih:=ih (fun x hx=>hw x (by simp[hx]));rcases UT hp with h|⟨_,h|⟨q,hq,h⟩⟩
  ·exact ih p h
  ·exact hw x (by simp) _ h
  ·rw[←h];exact ih q hq
def fi(S:St)(sz:Nat)(v:PV)(es:List PV):Prop:=(v=.nils∧es=[])∨∃k e,v=.sl (some (k,e)) es []∧S.tips[k]?=some (e,sz)
def cU:PV→Option Nat
 |.sl (some (k,_)) _ _=>some k
 |_=>none
structure At(S:St)(o K:Nat)(D:Dk):Prop where
 obj:S.objs[o]?=some (ax D)
 base:S.objs[D.bi]?=some (cE D.base)
 live:S.objs[D.li]?=some (cE D.live)
 wv:fi S 3 D.wv (D.wait.map cn)
 file:∀f∈D.fl,S.objs[f]?=some [D.fv f,.int .i64 (D.fs f)]∧fi S 1 (D.fv f) (aL (D.fb f))∧D.fs f≤(D.fb f).length∧((D.fb f).length:Int)≤D.room
 inb:∀p∈D.base,p.2∈D.fl
 inw:∀x∈D.wait,∀f,x.2.2=some f→f∈D.fl
 nd:o≠D.bi∧o≠D.li∧D.bi≠D.li∧∀f∈D.fl,f≠o∧f≠D.bi∧f≠D.li
 tw:∀f∈D.fl,∀k,cU D.wv=some k→cU (D.fv f)≠some k
 tf:∀f∈D.fl,∀g∈D.fl,f≠g→∀k,cU (D.fv f)=some k→cU (D.fv g)≠some k
 hist:ib D.base D.wait D.live
 nb:∀p∈D.base,p.1.length≤24
 nw:∀x∈D.wait,x.2.1.length≤24
 rm:1≤D.room∧D.room≤4194304
 cnt:D.base.length+D.wait.length≤K
 dn:0≤D.done∧D.done≤K
 lf:-1≤D.left∧D.left≤9223372036854775807
def At.inl{S:St}{o K:Nat}{D:Dk}(h:At S o K D):∀p∈D.live,p.2∈D.fl:=h.hist.files h.inb h.inw
def At.nl{S:St}{o K:Nat}{D:Dk}(h:At S o K D):∀p∈D.live,p.1.length≤24:=h.hist.names h.nb h.nw
def At.ll{S:St}{o K:Nat}{D:Dk}(h:At S o K D):D.live.length≤K:=Nat.le_trans h.hist.len h.cnt
def At.mono{S:St}{o K K':Nat}{D:Dk}(h:At S o K D)(hk:K≤K'):At S o K' D:=
 {h with cnt:=Nat.le_trans h.cnt hk,dn:=⟨h.dn.1,by have:=h.dn.2;omega⟩}
def At.grow{S:St}{o K:Nat}{D:Dk}(h:At S o K D){S':St}(ho:∀(i:Nat)(c:List PV),S.objs[i]?=some c→S'.objs[i]?=some c)(ht:∀(i:Nat)(c:Nat×Nat),S.tips[i]?=some c→S'.tips[i]?=some c):At S' o K D where
 obj:=ho _ _ h.obj
 base:=ho _ _ h.base
 live:=ho _ _ h.live
 wv:=by
  rcases h.wv with w|⟨k,e,w1,w2⟩
  ·exact .inl w
  ·exact .inr ⟨k,e,w1,ht _ _ w2⟩
 file:=fun f hf=>by
  obtain⟨h1,h2,h3⟩:=h.file f hf;refine⟨ho _ _ h1,?_,h3⟩;rcases h2 with w|⟨k,e,w1,w2⟩
  ·exact .inl w
  ·exact .inr ⟨k,e,w1,ht _ _ w2⟩
 inb:=h.inb
 inw:=h.inw
 nd:=h.nd
 tw:=h.tw
 tf:=h.tf
 hist:=h.hist
 nb:=h.nb
 nw:=h.nw
 rm:=h.rm
 cnt:=h.cnt
 dn:=h.dn
 lf:=h.lf
def At.set{S:St}{o K:Nat}{D:Dk}(h:At S o K D){left done:Int}{dark:Bool}(hl:-1≤left∧left≤9223372036854775807){K':Nat}(hk:K≤K')(hd:0≤done∧done≤K') :
  At ⟨S.objs.set o (ax {D with left:=left,done:=done,dark:=dark}),S.tips⟩ o K' {D with left:=left,done:=done,dark:=dark} where
 obj:=by
  have:=(aS.1 h.obj).1;simp[this]
 base:=by rw[ak h.nd.1];exact h.base
 live:=by rw[ak h.nd.2.1];exact h.live
 wv:=h.wv
 file:=fun f hf=>by
  rw[ak (Ne.symm (h.nd.2.2.2 f hf).1)];exact h.file f hf
 inb:=h.inb
 inw:=h.inw
 nd:=h.nd
 tw:=h.tw
 tf:=h.tf
 hist:=h.hist
 nb:=h.nb
 nw:=h.nw
 rm:=h.rm
 cnt:=Nat.le_trans h.cnt hk
 dn:=hd
 lf:=hl
theorem UU:∀{l:List (List PV)} {c:List PV},c∈l→PV.freeL c=false→lN l=false
 |a::l,c,h,hf=>by
  rcases cX.1 h with rfl|h
  ·simp[lN,hf]
  ·simp[lN,UU h hf]
def nS{S S1:St}{r:PV}{o i:Nat}{c1 c2 m:List PV}(h1:S.objs[o]?=some c1)(h2:S1.objs[o]?=some c2)(hne:c1≠c2)(hm:S1.objs[i]?=some m)(hi:i<S.objs.length)(hf:PV.freeL m=false):ac false S S1 r=(r,S1):=by
 unfold ac;simp only[cF,if_false];split
 ·rfl
 ·have ho:o<S.objs.length:=(aS.1 h1).1
  have hb:PV.beqLL (S1.objs.take S.objs.length) S.objs=false:=by
   cases hb:PV.beqLL (S1.objs.take S.objs.length) S.objs with
   |false=>rfl
   |true=>
    exfalso;have he:=oS hb;have:(S1.objs.take S.objs.length)[o]?=some c2:=by rw[dM ho];exact h2
    rw[he,h1]at this;cases this;exact hne rfl
  have hl:lN (S1.objs.take S.objs.length)=false:=by
   refine UU (c:=m) ?_ hf;have:(S1.objs.take S.objs.length)[i]?=some m:=by rw[dM hi];exact hm
   exact dZ this
  rw[hb,hl];simp
def lH(D:Dk):PV.freeL (ax D)=false:=by simp[ax,PV.freeL,PV.free]
theorem uF:∀l:List (List PV),PV.beqLL l l=true
 | []=>rfl
 |a::l=>by simp[PV.beqLL,kU a,uF l]
def kC{S:St}{r:PV}:ac false S S r=((match bQ S.objs S.objs.length eM r with|none=>r|some r'=>r'.frz),S):=by
 unfold ac;simp only[cF,if_false];split
 ·rename_i h;simp[h]
 ·rename_i r' h;simp[iy,uF,h]
def fC{S:St}{k:IntKind}{n:Int}:ac false S S (.int k n)=(.int k n,S):=by
 rw[kC];rfl
def nT{l:List (List PV)}{o:Nat}{c:List PV}(h:l[o]?=some c):l.set o c=l:=by
 have hlt:=(aS.1 h).1;apply mr;intro i;by_cases hi:i=o
 ·subst hi;rw[fY hlt,h]
 ·rw[ak (Ne.symm hi)]
def uG{S:St}{o:Nat}{c d:List PV}{k:IntKind}{n:Int}(h:S.objs[o]?=some c)(hf:PV.freeL d=false):ac false S ⟨S.objs.set o d,S.tips⟩ (.int k n)=(.int k n,⟨S.objs.set o d,S.tips⟩):=by
 by_cases hcd:c=d
 ·subst hcd;rw[nT h];exact fC
 ·have hlt:=(aS.1 h).1;exact nS h (by simp[hlt]) hcd (i:=o) (by simp[hlt]) hlt hf
@[simp]def Cd{v:PV}{l:List PV}:ae false 1 (v::l)=some v:=by simp[ae]
def da{l:List (List PV)}{o:Nat}{c d:List PV}(h:l[o]?=some c):(l.set o d)[o]?=some d:=fY (aS.1 h).1
def uH{S:St}{tips:List (Nat×Nat)}{o:Nat}{c d:List PV}(h:S.objs[o]?=some c){ag:Bool}{n off:Nat}:cS ⟨S.objs.set o d,tips⟩ ag n (.ptr o off)=ae ag n (d.drop off):=aU (da h)
@[simp]def aQb{i o:Nat}{b:Bool}:eg b .p (.ptr i o)=some (.bool b):=by cases b<;>rfl
@[simp]def aQc{b:Bool}:eg b .p .nilp=some (.bool !b):=by cases b<;>rfl
@[simp]def aQd{i:Nat}{b:Bool}:eg b .m (.map i)=some (.bool b):=by cases b<;>rfl
@[simp]def aQe{b:Bool}:eg b .m .nilm=some (.bool !b):=by cases b<;>rfl
def cY(D:Dk):Int:=if D.dark||D.left==0 then 6 else 0
def aX (D:Dk):Dk:=if D.dark||D.left==0 then {D with dark:=true}else {D with left:=if D.left>0 then D.left-1 else D.left,done:=D.done+1}
def yH:T.fn 196=some (.code nO):=rfl
def jC{S:St}{o K:Nat}{D:Dk}(h:At S o K D)(hK:K≤1048576):aO T 196 [.ptr o 0] S=some (.int .i64 (cY D),⟨S.objs.set o (ax (aX D)),S.tips⟩)∧At ⟨S.objs.set o (ax (aX D)),S.tips⟩ o (K+1) (aX D):=by
 have hob:=h.obj;have hdn:=h.dn;have hlf:=h.lf;obtain⟨room,left,done,dark,bi,li,base,live,wait,wv,fl,fb,fs,fv⟩:=D;simp only at hdn hlf;simp only[ax]at hob;have hw1:IntKind.i64.wrap (done+1)=done+1:=bJ (by omega) (by omega);by_cases hl:left=0
 ·subst hl;have eD:aX ⟨room,0,done,dark,bi,li,base,live,wait,wv,fl,fb,fs,fv⟩=⟨room,0,done,true,bi,li,base,live,wait,wv,fl,fb,fs,fv⟩:=by simp[aX]
  have eR:cY ⟨room,0,done,dark,bi,li,base,live,wait,wv,fl,fb,fs,fv⟩=6:=by simp[cY]
  rw[eD,eR];refine⟨aW yH rfl ?_,h.set (left:=0) (done:=done) (dark:=true) hlf (by omega) (by omega)⟩;simp -implicitDefEqProofs [nO,aU hob,aI,aR,hob,da hob,uH hob];exact uG hob (by simp[PV.freeL,PV.free])
 ·have hl':(left==0)=false:=by simpa using hl
  cases dark with
  |true=>
   have eD:aX ⟨room,left,done,true,bi,li,base,live,wait,wv,fl,fb,fs,fv⟩=⟨room,left,done,true,bi,li,base,live,wait,wv,fl,fb,fs,fv⟩:=by simp[aX]
   have eR:cY ⟨room,left,done,true,bi,li,base,live,wait,wv,fl,fb,fs,fv⟩=6:=by simp[cY]
   rw[eD,eR];refine⟨aW yH rfl ?_,h.set (left:=left) (done:=done) (dark:=true) hlf (by omega) (by omega)⟩;simp -implicitDefEqProofs [nO,aU hob,aI,aR,hob,da hob,uH hob,hl']
   first
    |(simp only[ax];rw[nT hob])
    |(rw[fC];simp only[ax];rw[nT hob])
  |false=>
   by_cases hp:0<left
   ·have hw2:IntKind.i64.wrap (left-1)=left-1:=bJ (by omega) (by omega);have eD:aX ⟨room,left,done,false,bi,li,base,live,wait,wv,fl,fb,fs,fv⟩=⟨room,left-1,done+1,false,bi,li,base,live,wait,wv,fl,fb,fs,fv⟩:=by simp[aX,hl,hp]
    have eR:cY ⟨room,left,done,false,bi,li,base,live,wait,wv,fl,fb,fs,fv⟩=0:=by simp[cY,hl]
    rw[eD,eR];refine⟨aW yH rfl ?_,h.set (left:=left-1) (done:=done+1) (dark:=false) (by omega) (by omega) (by omega)⟩;simp -implicitDefEqProofs [nO,aU hob,aI,aR,hob,da hob,uH hob,hl',hp,hw1,hw2];exact uG hob (by simp[PV.freeL,PV.free])
   ·have eD:aX ⟨room,left,done,false,bi,li,base,live,wait,wv,fl,fb,fs,fv⟩=⟨room,left,done+1,false,bi,li,base,live,wait,wv,fl,fb,fs,fv⟩:=by simp[aX,hl,hp]
    have eR:cY ⟨room,left,done,false,bi,li,base,live,wait,wv,fl,fb,fs,fv⟩=0:=by simp[cY,hl]
    rw[eD,eR];refine⟨aW yH rfl ?_,h.set (left:=left) (done:=done+1) (dark:=false) (by omega) (by omega) (by omega)⟩;simp -implicitDefEqProofs [nO,aU hob,aI,aR,hob,da hob,uH hob,hl',hp,hw1];exact uG hob (by simp[PV.freeL,PV.free])
end Ps
