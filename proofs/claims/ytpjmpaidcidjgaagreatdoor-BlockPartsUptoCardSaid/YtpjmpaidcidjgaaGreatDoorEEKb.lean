/- The reader of a block: must, number, piece. -/
import Derived.Test.YtpjmpaidcidjgaaGreatDoorDefsKb
import Derived.Test.YtpjmpaidcidjgaaGreatDoorECKb
import Derived.Test.YtpjmpaidcidjgaaGreatDoorBHKb
import Derived.Test.YtpjmpaidcidjgaaGreatDoorEBKb
set_option linter.defProp false
namespace Ps
set_option linter.unusedSimpArgs false
set_option linter.unusedVariables false
open Go
theorem Ri{b:List UInt8}{pre post:List Bool}{u k:Nat}(hb:Pk b (pre++eE u k++post))(hu:u<2^k):∀n,n≤k→fX b pre.length n=u/2^(k-n)
 |0,_=>by rw[fX,uX,Nat.div_eq_of_lt hu]
 |n+1,hn=>by
  have hlen:pre.length+n<8*b.length:=by
   have:=hb.1;simp only[am,oE]at this;omega
  have hbit:eY b (pre.length+n)=u.testBit (k-1-n):=by
   rw[hb.2 _ hlen,fi,List.getD_eq_getElem?_getD,fU (by omega),bK (by rw[oE];omega)];simp[eE,show n<k by omega]
  rw[fX,Ri hb hu n (by omega),hbit];have e1:k-n=(k-(n+1))+1:=by omega
  rw[e1,uW,←Nat.div_div_eq_div_mul,show k-1-n=k-(n+1)by omega,Nat.testBit_eq_decide_div_mod_eq];generalize u/2^(k-(n+1))=x;by_cases hx:x%2=1
  ·simp[hx];omega
  ·simp[hx];omega
def Rj{b:List UInt8}{pre post:List Bool}{u k:Nat}(hb:Pk b (pre++eE u k++post))(hu:u<2^k):aw b pre.length k=(u,0):=by
 have h1:=hb.1;simp only[am,oE]at h1;rw[aw,if_neg (by omega),if_neg (by omega),Ri hb hu k (aU k),yC,Nat.pow_zero,xx]
def CO{b:List UInt8}{pre post:List Bool}{u:Nat}(hb:Pk b (pre++bP u++post))(hu:u<2^64):gH b pre.length=some (u,pre.length+(bP u).length):=by
 have hl:=mg hu;have e1:aw b pre.length 7=(bW u,0):=Rj (post:=eE u (bW u)++post) (by simpa[bP]using hb) (by omega)
 have e2:aw b (pre.length+7) (bW u)=(u,0):=by
  have:=Rj (b:=b) (pre:=pre++eE (bW u) 7) (post:=post) (u:=u) (k:=bW u) (by simpa[bP]using hb) (FV u);simpa[oE]using this
 have hg:dr b pre.length=(u,pre.length+7+bW u,0):=by
  rw[dr,e1];simp only;rw[e2];simp[show ¬64<bW u by omega]
 rw[gH,hg];simp[lU,dk]
def Rk{b:List UInt8}{pre post:List Bool}{u:Nat}(hb:Pk b (pre++bP u++post))(hu:u≤1099511627776):gI b pre.length=some (u,pre.length+(bP u).length):=by
 rw[gI,CO hb (by omega)];simp only;rw[if_neg (by omega)]
def aA9{n:Int}:jc (eF n)=n:=by
 unfold jc eF;by_cases h:0≤n
 ·rw[if_pos h,if_pos (by omega)];omega
 ·rw[if_neg h,if_neg (by omega)];omega
def CP{b:List UInt8}{pre post:List Bool}{n most:Int}(hb:Pk b (pre++bP (eF n)++post))(h1:-most≤n)(h2:n≤most)(hm:most<4611686018427387904):fO b pre.length most=some (n,pre.length+(bP (eF n)).length):=by
 rw[fO,CO hb (uo (by omega) (by omega))];simp only[aA9];rw[if_neg (by omega)]
def CQ(l:List Sm)(j:Nat):∀m,j≤m→∃r,cI l m=cI l j++r:=by
 intro m
 induction m with
 |zero=>
  intro h;have:j=0:=by omega
  subst this;exact⟨[],by simp⟩
 |succ m ih=>
  intro h;by_cases e:j=m+1
  ·subst e;exact⟨[],by simp⟩
  ·obtain⟨r,hr⟩:=ih (by omega);exact⟨r++kl l (m+1),by rw[cI,hr,fi]⟩
def wR{l:List Sm}{i j:Nat}(h:j<i):aK (l.take i) j=aK l j:=by
 unfold aK;rw[List.getD_eq_getElem?_getD,List.getD_eq_getElem?_getD,dH h]
def aBa{l:List Sm}{i j:Nat}(h:j<i):bE (l.take i) j=bE l j:=by
 unfold bE;rw[List.getD_eq_getElem?_getD,List.getD_eq_getElem?_getD,dH h]
def hY(l:List Sm):Nat→Nat
 |0=>(bP l.length).length
 |i+1=>(cI l i).length
def iA(l:List Sm)(i:Nat):Int:=if i<2 then 0 else aK l (i-1)-aK l (i-2)
def aBb{l:List Sm}(h:oF l)(i:Nat):eS (aK l i) (bE l i)=true:=by
 have:=h.t0 i;have:=h.t1 i;have:=h.v0 i;have:=h.v1 i;simp[*,eS]
def aBc{l:List Sm}(h:oF l){b:List UInt8}(hb:Pk b (cI l (l.length-1))){i:Nat}(hi:i<l.length) :
  jI b i (hY l i) (iA l i) (l.take i)=some (aK l i,bE l i,iA l (i+1),hY l (i+1)):=by
 have t0:=h.t0;have t1:=h.t1;have v0:=h.v0;have v1:=h.v1
 match i,hi with
 |0,hi=>
  obtain⟨r,hr⟩:=CQ l 0 (l.length-1) (by omega);rw[hr]at hb;simp only[cI]at hb;have ht:gI b (bP l.length).length=some ((aK l 0).toNat,(bP l.length).length+(bP (aK l 0).toNat).length):=Rk (post:=bP (eF (bE l 0))++r) (by simpa using hb) (by have:=t0 0;have:=t1 0;omega)
  have hs:fO b ((bP l.length).length+(bP (aK l 0).toNat).length) 2305843009213693952=some (bE l 0,(bP l.length).length+(bP (aK l 0).toNat).length+(bP (eF (bE l 0))).length):=by
   have:=CP (b:=b) (pre:=bP l.length++bP (aK l 0).toNat) (post:=r) (n:=bE l 0) (most:=2305843009213693952) (by simpa using hb) (by have:=v0 0;omega) (by have:=v1 0;omega) (by omega);simpa using this
  have hd:gx b 0 (hY l 0) (iA l 0) (l.take 0)=some (aK l 0,0,(bP l.length).length+(bP (aK l 0).toNat).length):=by
   rw[gx,if_pos rfl];simp only[hY];rw[ht];simp only[iA];have:=t0 0
   congr 2
   omega
  rw[jI,hd];simp only;rw[hs]
  simp[hY,iA,cI,dk]
 |i+1,hi=>
  have hsp:∃r,cI l (l.length-1)=cI l i++(kl l (i+1)++r):=by
   obtain⟨r,hr⟩:=CQ l (i+1) (l.length-1) (by omega);exact⟨r,by rw[hr,cI,fi]⟩
  obtain⟨r,hr⟩:=hsp;rw[hr]at hb;have hpos:hY l (i+2)=(cI l i).length+(kl l (i+1)).length:=by simp[hY,cI]
  have hvd:-2305843009213693952≤bE l (i+1)-bE l i∧bE l (i+1)-bE l i≤2305843009213693952:=by
   have:=v0 i;have:=v1 i;have:=v0 (i+1);have:=v1 (i+1);omega
  obtain⟨X,hX⟩:∃X,X=bP (if i+1=1 then(aK l 1-aK l 0).toNat else eF ((aK l (i+1)-aK l i)-(aK l i-aK l (i-1)))):=⟨_,rfl⟩;have hI:kl l (i+1)=X++bP (eF (bE l (i+1)-bE l i)):=by rw[hX];rfl
  rw[hI]at hb hpos
  have hs:fO b ((cI l i).length+X.length) 2305843009213693952=some (bE l (i+1)-bE l i,(cI l i).length+X.length+(bP (eF (bE l (i+1)-bE l i))).length):=by
   have:=CP (b:=b) (pre:=cI l i++X) (post:=r) (n:=bE l (i+1)-bE l i) (most:=2305843009213693952) (by simpa using hb) hvd.1 hvd.2 (by omega);simpa using this
  have hd:gx b (i+1) (hY l (i+1)) (iA l (i+1)) (l.take (i+1))=some (aK l (i+1),iA l (i+2),(cI l i).length+X.length):=by
   rw[gx,if_neg (by omega)];by_cases h1:i=0
   ·subst h1;have hr0:=h.rise 0 hi;have hf2:iA l (0+2)=aK l 1-aK l 0:=rfl;rw[if_pos rfl];rw[if_pos rfl]at hX
    have ht:gI b (cI l 0).length=some ((aK l 1-aK l 0).toNat,(cI l 0).length+X.length):=by
     rw[hX];exact Rk (post:=bP (eF (bE l (0+1)-bE l 0))++r) (by rw[←hX];simpa using hb) (by have:=t0 0;have:=t1 1;omega)
    have hp:hY l (0+1)=(cI l 0).length:=rfl;rw[hp,ht,hf2];simp only[ap,bc];rw[wR (by omega)];have hr0':aK l 0<aK l 1:=hr0;have e01:aK l (0+1)=aK l 1:=rfl;rw[e01];exact⟨by omega,by omega,trivial⟩
   ·rw[if_neg (by omega)];rw[if_neg (by omega)]at hX;have r1:aK l i<aK l (i+1):=h.rise i hi
    have r2:aK l (i-1)<aK l i:=by
     have:=h.rise (i-1) (by omega)
     rwa [show i-1+1=i by omega]at this
    have b1:=t0 i;have b2:=t1 i;have b3:=t0 (i+1);have b4:=t1 (i+1);have b5:=t0 (i-1);have b6:=t1 (i-1)
    have hs2:fO b (cI l i).length 1099511627776=some ((aK l (i+1)-aK l i)-(aK l i-aK l (i-1)),(cI l i).length+X.length):=by
     rw[hX];exact CP (post:=bP (eF (bE l (i+1)-bE l i))++r) (by rw[←hX];simpa using hb) (by omega) (by omega) (by omega)
    have hp:hY l (i+1)=(cI l i).length:=rfl
    have hf1:iA l (i+1)=aK l i-aK l (i-1):=by
     rw[iA,if_neg (by omega)];congr 2
    have hf2:iA l (i+2)=aK l (i+1)-aK l i:=by
     rw[iA,if_neg (by omega)];congr 2
    rw[hp,hs2,hf1,hf2];simp only[ap,bc,nq];rw[wR (by omega)];exact⟨by omega,by omega,trivial⟩
  rw[jI,hd];simp only;rw[hs];simp only[ap,bc,nq];rw[if_pos (by omega),aBa (by omega)];refine⟨trivial,by omega,trivial,?_⟩;rw[show i+1+1=i+2 from rfl,hpos,am,dk]
def aBd{l:List Sm}{i:Nat}(hi:i<l.length):l.take i++[(aK l i,bE l i)]=l.take (i+1):=by
 rw[List.take_succ_eq_append_getElem hi]
 congr 1
 simp[aK,bE,List.getD_eq_getElem?_getD,hi]
def aBe{l:List Sm}(h:oF l){b:List UInt8}(hb:Pk b (cI l (l.length-1))):∀n i,i+n=l.length→gS b n i (hY l i) (iA l i) (l.take i)=some (hY l l.length,l):=by
 intro n
 induction n with
 |zero=>
  intro i hi;have:i=l.length:=by omega
  subst this
  rw[gS,kf]
 |succ n ih=>
  intro i hi;have hil:i<l.length:=by omega
  have hnb:¬oV i (aK l i) (bE l i) (iA l (i+1)):=by
   rintro(hm|⟨h0,hf⟩)
   ·rw[aBb h i]at hm;cases hm
   ·rw[iA,if_neg (by omega)]at hf;have:=h.rise (i-1) (by omega);rw[show i-1+1=i by omega]at this;have e1:i+1-1=i:=by omega
    have e2:i+1-2=i-1:=by omega
    rw[e1,e2]at hf;omega
  rw[gS,aBc h hb hil];simp only;rw[if_neg hnb,aBd hil];exact ih (i+1) (by omega)
def aBf{l:List Sm}(hz:fV l=0):decP (bo l)=some l:=by
 have h:=uw hz
 have hl:1≤l.length:=by
  have:=h.ne
  cases l with
  |nil=>exact absurd rfl this
  |cons a l=>simp
 have hl2:=h.len;have hb:Pk (bo l) (cI l (l.length-1)):=rb _
 have hn:gH (bo l) 0=some (l.length,(bP l.length).length):=by
  obtain⟨r,hr⟩:=CQ l 0 (l.length-1) (by omega);have:=CO (b:=bo l) (pre:=[]) (post:=bP (aK l 0).toNat++bP (eF (bE l 0))++r) (u:=l.length) (by rw[hr]at hb;simpa[cI]using hb) (by omega);simpa using this
 have hd:=aBe h hb l.length 0 (by omega);have hd:gS (bo l) l.length 0 (bP l.length).length 0 []=some (hY l l.length,l):=by simpa[hY,iA]using hd
 have hpe:hY l l.length=(cI l (l.length-1)).length:=by
  obtain⟨m,hm⟩:∃m,l.length=m+1:=⟨l.length-1,by omega⟩;rw[hm];rfl
 have htb:jh (bo l) (hY l l.length)=false:=by
  have h1:=hb.1;obtain⟨n,hnn⟩:∃n,n=(cI l (l.length-1)).length:=⟨_,rfl⟩;rw[←hnn]at h1;rw[hpe,←hnn];unfold jh;have c1:¬7<8*(bo l).length-n:=by omega
  by_cases c2:0<8*(bo l).length-n
  ·have hr:=FU hb (by rw[←hnn];omega);rw[←hnn]at hr;rw[show 8-(8*(bo l).length-n)=n%8 by omega,hr];simp[c1]
  ·simp[c1,c2]
 rw[decP,hn];simp only;rw[if_neg (by omega),hd];simp only;rw[htb];simp
end Ps
set_option linter.defProp false
namespace Ps
set_option linter.unusedSimpArgs false
set_option linter.unusedVariables false
open Go Go.Proofs
set_option maxRecDepth 100000
def Zo{v:PV}{b c:List UInt8}(h:ay 1 v (aI b))(k:ay 1 v (aI c)):b=c:=by
 have e:aI b=aI c:=(yd h).symm.trans (yd k);have:=congrArg kG e;rw[yK,yK]at this;exact iz this
open Classical in
noncomputable def oW:List PV→St→Option (PV×St)
 | [v],S=>if h:∃b,ay 1 v (aI b)∧8*b.length≤1099511627776 then some (ji h.choose,S)else none
 |_,_=>none
def Zp{v:PV}{b:List UInt8}(hv:ay 1 v (aI b))(hb:8*b.length≤1099511627776)(S:St):oW [v] S=some (ji b,S):=by
 have h:∃b,ay 1 v (aI b)∧8*b.length≤1099511627776:=⟨b,hv,hb⟩;simp only[oW];rw[dif_pos h,Zo h.choose_spec.1 hv]
noncomputable def T2:aV:=⟨fun f=>if f=265 then some (.exs oW)else T1.fn f,T1.meth⟩
noncomputable def tie2:Tie:=tie.withT T2
def Zq:T2.fn 265=some (.exs oW):=rfl
def RJ(f:Nat):T2.fn f=if f=265 then some (.exs oW)else T1.fn f:=rfl
def Zr:T1.fn 265=none:=rfl
def Zs:rF T1 T2 where
 meth:=rfl
 fn:=fun f pf h=>by
  have h1:f≠265:=fun e=>by rw[e]at h;exact absurd (h.symm.trans Zr) (by simp)
  rw[RJ,if_neg h1];exact h
def lm{f:Nat}{args:List PV}{S:St}{r:PV×St}(h:aN T1 f args S=some r):aN T2 f args S=some r:=Uj Zs h
def fv{f:Nat}{args:List PV}{S:St}{r:PV×St}(h:aN T f args S=some r):aN T2 f args S=some r:=lm (lW h)
def Zt:rB tie2 265 oW:=Uh (X:=tie) (T:=T2) fun args S r S' he=>by
 unfold oW at he;split at he
 ·split at he
  ·rename_i h;cases he;exact Zn h.choose_spec.1 h.choose_spec.2
  ·cases he
 ·cases he
def tieOk2:dR tie2:=dR.of (X:=tie.withT T1) (T:=T2) Fs rfl fun f pf h=>by
 rw[RJ]at h;by_cases e:f=265
 ·rw[if_pos e]at h;have:=iz h;subst this e;exact Zt
 ·rw[if_neg e]at h;exact(Fs.fns f pf h).tb
def RK{v:PV}{b:List UInt8}(hv:ay 1 v (aI b))(hb:8*b.length≤1099511627776)(S:St):aN T2 265 [v] S=some (ji b,S):=vD Zq (Zp hv hb S)
def aZ:tie2.T=T2:=rfl
def wK{b:List UInt8}{l:List Sm}(h:decP b=some l):1≤l.length∧l.length≤120:=by
 unfold decP at h;split at h
 ·split at h
  ·cases h
  ·split at h
   ·rename_i hl;split at h
    ·cases h
    ·cases h;have:=RI hl;simp only[cW,dO]at this;omega
   ·cases h
 ·cases h
def nD(b:List UInt8):PV:=match decP b with
 |some l=>.tup [.int .i64 (l.length:Int),.int .i64 (aK l 0),.int .i64 (aK l (l.length-1)),.int .i64 0]
 |none=>.tup [.int .i64 0,.int .i64 0,.int .i64 0,.int .i64 5]
def Zu:T2.fn 272=some (.code qF):=rfl
def Zv{v:PV}{b:List UInt8}(hv:ay 1 v (aI b))(hb:8*b.length≤1099511627776)(S:St):aN T2 272 [v] S=some (nD b,S):=by
 have hd:=fun S=>RK hv hb S;refine bZ Zu rfl ?_
 cases h:decP b with
 |none=>
  have hd:∀S,aN T2 265 [v] S=some (.tup [.nils,.int .i64 5],S):=fun S=>by rw[hd S,ji,h]
  have hb:nD b=.tup [.int .i64 0,.int .i64 0,.int .i64 0,.int .i64 5]:=by rw[nD,h]
  rw[hb];simp -implicitDefEqProofs [qF,hd]
  exact⟨[.int .i64 0,.int .i64 0,.int .i64 0,.int .i64 5],by simp[cF,gu],cZ (aL.refl S) rfl⟩
 |some l=>
  have hd:∀S,aN T2 265 [v] S=some (.tup [.sl none (l.map bC) [],.int .i64 0],S):=fun S=>by rw[hd S,ji,h]
  obtain⟨h1,h2⟩:=wK h
  have hget:∀j,j<l.length→ca 2 (.sl none (l.map bC) []) (.int .i64 (j:Int))=some (.ref [.int .i64 (aK l j),.int .i64 (bE l j)]):=fun j hj=>by
   have:=(tT (tip:=none) (sp:=[]) (oD l)).get j (by simpa using hj) .i64;rw[this];simp[aK,bE,List.getD_eq_getElem?_getD,hj]
  have hg0:ca 2 (.sl none (l.map bC) []) (.int .i64 0)=some (.ref [.int .i64 (aK l 0),.int .i64 (bE l 0)]):=hget 0 (by omega);have hg1:=hget (l.length-1) (by omega);have hw1:IntKind.i64.wrap ((l.length:Int)-1)=((l.length-1:Nat):Int):=by rw[au]<;>omega
  have hln:eN false (.sl none (l.map bC) [])=some (.int .i64 (l.length:Int)):=by rw[aHT,bz]
  have hb:nD b=.tup [.int .i64 (l.length:Int),.int .i64 (aK l 0),.int .i64 (aK l (l.length-1)),.int .i64 0]:=by rw[nD,h]
  rw[hb];generalize PV.sl none (l.map bC) []=lv at hd hg0 hg1 hln;simp -implicitDefEqProofs [qF,hd,hln,hg0,hg1,hw1,bD];exact⟨[.int .i64 (l.length:Int),.int .i64 (aK l 0),.int .i64 (aK l (l.length-1)),.int .i64 0],by simp[cF,gu],cZ (aL.refl S) rfl⟩
end Ps
set_option linter.defProp false
namespace Ps
set_option linter.unusedSimpArgs false
set_option linter.unusedVariables false
open Go Go.Proofs
set_option maxRecDepth 100000
def oX{X:Tie}{T:aV}(fn:Func)(c:aX):fH (X.withT T) fn c=fH X fn c:=by kernel_rfl
def Zw{X:Tie}{T:aV}(fn:Func)(c:gR):pJ (X.withT T) fn c=pJ X fn c:=by kernel_rfl
def cd(n:Int):PV:=.iface 3 (.agg [.int .i64 n])
def Zx(n:Int):(cd n).free=true:=rfl
def Zy(n:Int):(cd n).frz=cd n:=rfl
def bS(S:St)(r:Nat)(bv:PV)(a:Nat):St:=⟨S.objs.set r [bv,.int .i64 (a:Int)],S.tips⟩
def tE{S:St}{r:Nat}{bv:PV}{a:Nat}(hr:r<S.objs.length):(bS S r bv a).objs[r]?=some [bv,.int .i64 (a:Int)]:=cK hr
def kJ{S:St}{r i:Nat}{bv:PV}{a:Nat}(h:i≠r):(bS S r bv a).objs[i]?=S.objs[i]?:=bU (Ne.symm h)
def CD{S:St}{r:Nat}{bv v:PV}{a:Nat}(hf:v.free=true)(hz:v.frz=v):aW false S (bS S r bv a) v=(v,bS S r bv a):=iq (by simp[bS]) rfl hf hz (fun _ _=>fg)
def CE{S:St}{v:PV}(hf:v.free=true)(hz:v.frz=v):aW false S S v=(v,S):=iq rfl rfl hf hz (fun _ _=>fg)
def CF{S:St}{r:Nat}{bv:PV}{a:Nat}:(bS S r bv a).objs.length=S.objs.length:=by simp[bS]
def Zz:tie2.P.funcs[tie2.fnOf 160]?=some Tryz.f37:=ZP
def aAa:tie2.P.funcs[tie2.fnOf 271]?=some Tryz.f69:=ZR
def aAb:tie2.P.funcs[tie2.fnOf 162]?=some Tryz.f39:=func162
def aAc:tie2.P.funcs[tie2.fnOf 163]?=some Tryz.f41:=ZU
def aAd:fH tie2 Tryz.f37 vJ=true:=(oX _ _).trans ZQ
def aAe:fH tie2 Tryz.f69 pu=true:=(oX _ _).trans ZS
def aAf:fH tie2 Tryz.f39 pw=true:=(oX _ _).trans ZT
def aAg:fH tie2 Tryz.f41 px=true:=(oX _ _).trans ZV
def tF{ok:Bool}{r:Nat}{bv:PV}{a:Nat}{S:St}(ho:S.objs[r]?=some [bv,.int .i64 (a:Int)]) :
  dc tie2 160 [.ptr r 0,.bool ok] S (fun q=>(ok=true→q=.ret (.tup []) S)∧(ok=false→q=.pan (cd a) S)):=by
 have main:∀PP:Wx→Fr→St→Prop,(ok=true→∀fr,PP .norm fr S)→(ok=false→∀fr,PP (.pan (cd a)) fr S)→W tie2 vJ.body (bk [.ptr r 0,.bool ok]) S PP:=by
  intro PP k1 k2;unfold vJ;simp only;refine bO tieOk2 rfl ?_
  cases ok with
  |true=>
   simp -implicitDefEqProofs [aZ,vg]
   exact gC (b:=false) (by simp) (mO (k1 rfl _))
  |false=>
   simp -implicitDefEqProofs [aZ,vg];refine gC (b:=true) (by simp) (dC (dB tieOk2 ?_));unfold GW;refine cw rfl ?_;simp -implicitDefEqProofs [aZ,bI ho,bD,aR,dx,ak,cT,bu,nh];exact k2 rfl _
 refine jy tieOk2 Zz aAd rfl (main _ (fun h fr=>⟨[],rfl,?_⟩) (fun h fr=>?_))
 ·show _∧_;have hf:aW false S S (.tup [])=(.tup [],S):=CE rfl rfl;have e:Rs.ret (aW false S S (bb [])).1 (aW false S S (bb [])).2=.ret (.tup []) S:=by simp only[bb,hf]
  exact⟨fun _=>e,fun h2=>by rw[h]at h2;cases h2⟩
 ·have hf:aW false S S (cd a)=(cd a,S):=CE rfl rfl;have e:Rs.pan (aW false S S (cd a)).1 (aW false S S (cd a)).2=.pan (cd a) S:=by rw[hf]
  exact⟨fun h2=>(by rw[h]at h2;cases h2),fun _=>e⟩
def gy(b:List UInt8)(a:Nat):Option (Nat×Nat):=if(dJ b (a:Int)).2.2=0 then some ((dJ b (a:Int)).1,(dJ b (a:Int)).2.1)else none
def CG{b:List UInt8}{a n nx:Nat}(h:gy b a=some (n,nx)):nx≤b.length∧n<9223372036854775808:=by
 unfold gy at h;split at h
 ·rename_i h0;simp only[ap,bc]at h;obtain⟨rfl,rfl⟩:=h;exact Ew h0
 ·cases h
def RL{r:Nat}{bv:PV}{b:List UInt8}{a:Nat}{S:St}(hv:ba 1 bv (aI b))(hb:b.length≤67108864)(ho:S.objs[r]?=some [bv,.int .i64 (a:Int)]) :
  dc tie2 271 [.ptr r 0] S (fun q=>match gy b a with|some (n,nx)=>q=.ret (.int .i64 (n:Int)) (bS S r bv nx)|none=>∃m,q=.pan (cd m) S):=by
 have hg:∀S,aN T2 110 [bv,.int .i64 (a:Int)] S=some (lT (dJ b (a:Int)),S):=fun S=>fv (yM hv hb S);have hr:=(aM.1 ho).1;obtain⟨n,hn⟩:∃n,n=(dJ b (a:Int)).1:=⟨_,rfl⟩;obtain⟨nx,hnx⟩:∃n,n=(dJ b (a:Int)).2.1:=⟨_,rfl⟩;obtain⟨e,he⟩:∃n,n=(dJ b (a:Int)).2.2:=⟨_,rfl⟩;rw[show lT (dJ b (a:Int))=.tup [.int .i64 (n:Int),.int .i64 (nx:Int),.int .i64 (e:Int)]by rw[hn,hnx,he];rfl]at hg;have hn1:gy b a=if e=0 then some (n,nx)else none:=by rw[gy,←hn,←hnx,←he]
 have main:∀PP:Wx→Fr→St→Prop,(e=0→∀fr,fr 2=.int .i64 (n:Int)→PP .ret fr (bS S r bv nx))→(e≠0→∀fr,PP (.pan (cd a)) fr S)→W tie2 pu.body (bk [.ptr r 0]) S PP:=by
  intro PP k1 k2;unfold pu;simp only;refine bO tieOk2 rfl ?_;simp -implicitDefEqProofs [aZ,Bb];refine bO tieOk2 rfl ?_;simp -implicitDefEqProofs [aZ,Bc,bI ho,bD,hg];refine bw (dC (dB tieOk2 ?_));unfold GX;refine cw rfl ?_;simp -implicitDefEqProofs [aZ];refine ez (by simp[dG]) (tF (ok:=((e:Int)==0)) ho) ?_ ?_
  ·intro u S1 hq;refine⟨fun q hq=>(by cases hq),?_⟩;by_cases h0:e=0
   ·have:=hq.1 (by rw[beq_iff_eq];omega);cases this;refine eL rfl ?_;simp -implicitDefEqProofs;refine bO tieOk2 rfl ?_;simp -implicitDefEqProofs [aZ,Bd,aG,ho,ak];refine bO tieOk2 rfl ?_;simp -implicitDefEqProofs [Be];exact kX (k1 h0 _ (by simp))
   ·have:=hq.2 (by rw[beq_eq_false_iff_ne];omega);cases this
  ·intro u S1 hq;by_cases h0:e=0
   ·have:=hq.1 (by rw[beq_iff_eq];omega);cases this
   ·have:=hq.2 (by rw[beq_eq_false_iff_ne];omega);cases this;exact k2 h0 _
 refine jy tieOk2 aAa aAe rfl (main _ (fun h fr f2=>⟨[fr 2],rfl,?_⟩) (fun h fr=>?_))
 ·rw[f2];have hf:aW false S (bS S r bv nx) (.int .i64 (n:Int))=(.int .i64 (n:Int),bS S r bv nx):=CD rfl rfl;simp only[bb,pu,hf,hn1,if_pos h]
 ·have hf:aW false S S (cd a)=(cd a,S):=CE rfl rfl;simp only[pu,hf,hn1,if_neg h];exact⟨_,rfl⟩
def RM{l:List PV}(h:PV.frzL l=l):∀v∈l,v.frz=v:=by
 intro x hx;rw[gL]at h;obtain⟨i,hi⟩:=iI hx;have e:=congrArg (fun l=>l[i]?) h;simp only[iv,hi,kh,ap]at e;exact e
def wL{l:List PV}(h:∀v∈l,v.frz=v):PV.frzL l=l:=by
 rw[gL]
 conv=>rhs;rw[←rP l]
 exact mS fun x hx=>h x hx
def aAh{sz:Nat}{v:PV}{es:List PV}(h:ba sz v es)(hf:v.free=true)(hz:v.frz=v):ay sz v es:=by
 rcases h with⟨rfl,rfl⟩|⟨tip,sp,rfl,hc⟩
 ·exact jn sz
 ·simp only[PV.frz,PV.sl.injEq]at hz;obtain⟨rfl,h1,h2⟩:=hz;simp only[PV.free,aJ]at hf;exact⟨.inr ⟨sp,rfl,fun e he=>hc e (bg.2 (.inr he)),hf.2,h2⟩,fun e he=>hc e (bg.2 (.inl he)),hf.1,h1⟩
def aAi{sz:Nat}{lo hi:Option PV}{v v':PV}(hf:v.free=true)(hz:v.frz=v)(h:eM sz lo hi v=some v')(hn:v=.nils∨∃es sp,v=.sl none es sp):v'.free=true∧v'.frz=v':=by
 rcases hn with rfl|⟨es,sp,rfl⟩
 ·rw[uC]at h;split at h
  ·cases h;exact⟨rfl,rfl⟩
  ·cases h
 ·rw[uD]at h;simp only[PV.frz,PV.sl.injEq,true_and]at hz;simp only[PV.free,aJ]at hf;have hF:∀x∈es++sp,x.free=true:=fun x hx=>(bg.1 hx).elim (eq hf.1 x) (eq hf.2 x);have hZ:∀x∈es++sp,x.frz=x:=fun x hx=>(bg.1 hx).elim (RM hz.1 x) (RM hz.2 x);split at h
  ·cases h
  ·split at h
   ·cases h;refine⟨?_,?_⟩
    ·simp only[PV.free,aJ];exact⟨il fun x hx=>hF x (kA (gN hx)),il fun x hx=>hF x (gN hx)⟩
    ·simp only[PV.frz,PV.sl.injEq];exact⟨by split<;>rfl,wL fun x hx=>hZ x (kA (gN hx)),wL fun x hx=>hZ x (gN hx)⟩
   ·cases h
def ay.sub{v:PV}{es:List PV}(h:ay 1 v es){lo hi:Nat}{k j:IntKind}(hl:lo≤hi)(hh:hi≤es.length):∃v',eM 1 (some (.int k (lo:Int))) (some (.int j (hi:Int))) v=some v'∧ay 1 v' ((es.take hi).drop lo):=by
 obtain⟨v',h1,h2⟩:=h.isl.lh (k:=k) (j:=j) hl hh;obtain⟨q1,q2⟩:=aAi h.free h.frz h1 (by rcases h.val with⟨rfl,_⟩|⟨sp,rfl,_⟩;exact .inl rfl;exact .inr ⟨_,_,rfl⟩);exact⟨v',h1,aAh h2 q1 q2⟩
def fZ(b:List UInt8)(a:Nat):Option (List UInt8×Nat):=match gy b a with
 |some (n,nx)=>if n≤b.length-nx then some ((b.drop nx).take n,nx+n)else none
 |none=>none
def RN{b x:List UInt8}{a a':Nat}(h:fZ b a=some (x,a')):a'≤b.length∧x.length≤b.length:=by
 unfold fZ at h;split at h
 ·rename_i hn;have:=CG hn;split at h
  ·cases h;refine⟨by omega,?_⟩;rw[iW,kd];omega
  ·cases h
 ·cases h
def RO{r:Nat}{bv:PV}{b:List UInt8}{a:Nat}{S:St}(hv:ay 1 bv (aI b))(hb:b.length≤67108864)(ho:S.objs[r]?=some [bv,.int .i64 (a:Int)]) :
  dc tie2 162 [.ptr r 0] S (fun q=>match fZ b a with|some (x,a')=>∃xv,ay 1 xv (aI x)∧q=.ret xv (bS S r bv a')|none=>∃m a',q=.pan (cd m) (bS S r bv a')):=by
 have hr:=(aM.1 ho).1;have hvl:=hv.len;rw[bh]at hvl
 have hself:bS S r bv a=S:=by
  have:S.objs.set r [bv,.int .i64 (a:Int)]=S.objs:=by
   apply iV;intro i;rw[lM];split
   ·rename_i e;subst e;rw[ho];try simp[hr]
   ·rfl
  unfold bS;rw[this]
 have main:∀PP:Wx→Fr→St→Prop,(∀x a' xv fr,fZ b a=some (x,a')→ay 1 xv (aI x)→fr 2=xv→PP .ret fr (bS S r bv a'))→(fZ b a=none→∀m a' fr,PP (.pan (cd m)) fr (bS S r bv a'))→W tie2 pw.body (bk [.ptr r 0]) S PP:=by
  intro PP k1 k2;unfold pw;simp only;refine bO tieOk2 rfl ?_;simp -implicitDefEqProofs [aZ,Ag];refine bw (dC (dB tieOk2 ?_));unfold GY;refine cw rfl ?_;simp -implicitDefEqProofs [aZ];refine ez (by simp[dG]) (RL hv.isl hb ho) ?_ ?_
  rotate_left
  ·intro u S1 hq
   cases hn:gy b a with
   |some p=>rw[hn]at hq;obtain⟨n,nx⟩:=p;cases hq
   |none=>
    rw[hn]at hq;obtain⟨m,hq⟩:=hq;cases hq;have:=k2 (by rw[fZ,hn]) m a;rw[hself]at this;exact this _
  intro u S1 hq;refine⟨fun q hq=>(by cases hq),?_⟩
  cases hn:gy b a with
  |none=>rw[hn]at hq;obtain⟨m,hq⟩:=hq;cases hq
  |some p=>
  obtain⟨n,nx⟩:=p;rw[hn]at hq;cases hq;obtain⟨hnx,hnn⟩:=CG hn;have ho1:(bS S r bv nx).objs[r]?=some [bv,.int .i64 (nx:Int)]:=tE hr;have hss:∀c:Nat,(⟨(bS S r bv nx).objs.set r [bv,.int .i64 (c:Int)],(bS S r bv nx).tips⟩:St)=bS S r bv c:=fun c=>by simp[bS]
  obtain⟨S1,hS1⟩:∃S1,S1=bS S r bv nx:=⟨_,rfl⟩;rw[←hS1]at ho1 hss ⊢;refine eL rfl ?_;simp -implicitDefEqProofs;have hw1:IntKind.i64.wrap ((b.length:Int)-(nx:Int))=((b.length-nx:Nat):Int):=by rw[au]<;>omega
  refine bw (dC (dB tieOk2 ?_));unfold GZ;refine cw rfl ?_;simp -implicitDefEqProofs [aZ,bI ho1,bD,hvl,hw1];refine ez (by simp[dG]) (tF (ok:=decide (n≤b.length-nx)) ho1) ?_ ?_
  ·intro u S2 hq;refine⟨fun q hq=>(by cases hq),?_⟩;by_cases hle:n≤b.length-nx
   ·have:=hq.1 (by simpa using hle);cases this;have hp:fZ b a=some ((b.drop nx).take n,nx+n):=by rw[fZ,hn];simp only;rw[if_pos hle]
    obtain⟨c,hc⟩:∃c:Nat,c=nx+n:=⟨_,rfl⟩;have hw2:IntKind.i64.wrap ((nx:Int)+(n:Int))=(c:Int):=by rw[hc,au]<;>omega
    have hw3:IntKind.i64.wrap ((c:Int)-(n:Int))=(nx:Int):=by rw[hc,au]<;>omega
    refine eL rfl ?_;simp -implicitDefEqProofs;refine bO tieOk2 rfl ?_;simp -implicitDefEqProofs [aZ,Ah,bI ho1,bD,hw2,aG,ho1,ak,hss];obtain⟨S3,hS3⟩:∃S3,S3=bS S r bv c:=⟨_,rfl⟩;have ho3:S3.objs[r]?=some [bv,.int .i64 (c:Int)]:=by rw[hS3];exact tE hr
    rw[←hS3];obtain⟨xv,x1,x2⟩:=hv.sub (lo:=nx) (hi:=c) (k:=.i64) (j:=.i64) (by omega) (by rw[bh];omega)
    have hx:((aI b).take c).drop nx=aI ((b.drop nx).take n):=by
     simp only[aI,←np,←rO]
     congr 1
     rw[ES];congr 1;omega
    rw[hx]at x2;refine bO tieOk2 rfl ?_;simp -implicitDefEqProofs [aZ,Ai,bI ho3,bD,hw3,x1];rw[←hc]at hp;have:=k1 ((b.drop nx).take n) c xv;rw[←hS3]at this;exact kX (this _ hp x2 (by simp))
   ·have:=hq.2 (by simpa using hle);cases this
  ·intro u S2 hq;by_cases hle:n≤b.length-nx
   ·have:=hq.1 (by simpa using hle);cases this
   ·have hp:fZ b a=none:=by rw[fZ,hn];simp only;rw[if_neg hle]
    have:=hq.2 (by simpa using hle);cases this;have:=k2 hp nx nx;rw[←hS1]at this;exact this _
 refine jy tieOk2 aAb aAf rfl (main _ (fun x a' xv fr hp hx f2=>⟨[fr 2],rfl,?_⟩) (fun hp m a' fr=>?_))
 ·rw[f2];have hf:aW false S (bS S r bv a') xv=(xv,bS S r bv a'):=CD hx.free hx.frz;simp only[bb,pw,hf,hp];exact⟨xv,hx,rfl⟩
 ·have hf:aW false S (bS S r bv a') (cd m)=(cd m,bS S r bv a'):=CD rfl rfl;simp only[pw,hf,hp];exact⟨m,a',rfl⟩
def RP:T.fn 201=some (.code oP):=rfl
def aAj{v:PV}{b:List UInt8}(h:ba 1 v (aI b))(hb:b.length≤4000000000):∃v',(∀S,aN T 201 [v] S=some (v',S))∧ay 1 v' (aI b):=by
 have happ:=fun S=>h.appdS (S:=S);rcases h with⟨rfl,he⟩|⟨tip,sp,rfl,_⟩
 ·refine⟨.nils,fun S=>?_,by rw[he];exact jn 1⟩;refine bZ RP rfl ?_;simp -implicitDefEqProofs [oP,FO];exact cZ (aL.refl S) rfl
 ·refine⟨.sl none (aI b) [],fun S=>?_,lV b⟩;refine bZ RP rfl ?_
  cases b with
  |nil=>
   simp -implicitDefEqProofs [oP,uj,happ,gt,aG,aI]
   exact qX (aL.refl S) (SS (k:=39))
  |cons x l=>
   have h32:l.length≤140737488355327:=by simp only[bL]at hb;omega
   have hfl:(aI (x::l)).flatMap PV.cells=aI (x::l):=yZ (x::l);have hln:(aI (x::l)).length=l.length+1:=by rw[bh];rfl
   obtain⟨E,hE⟩:∃E,E=aI (x::l):=⟨_,rfl⟩;have hEe:E.isEmpty=false:=by rw[hE];rfl
   have hEf:PV.freeL E=true:=by rw[hE];exact WJ _
   have hEo:E.all PV.one=true:=by
    rw[hE,List.all_eq_true];intro c hc;obtain⟨y,_,rfl⟩:=List.mem_map.1 hc;rfl
   rw[←hE]at happ hfl hln ⊢;simp -implicitDefEqProofs [oP,uj,happ,gt,kx,aG,hEe,hfl,hln,h32]
   have hch:db 1 (l.length+1) E=E:=by
    have:=Cb (l:=E) (r:=[])
    rwa [hln,eP]at this
   have:=qX (S:=S) (S1:=⟨S.objs++[E],S.tips⟩) (r:=.osl S.objs.length 0 (l.length+1) 1) ((aL.refl S).obj _)
    (Cc (k:=39) (aU _) (by omega) (by simp) (by omega) hEo (wV hEf) hch)
   rw[this];simp[PV.frz,hE,WK,PV.frzL]
end Ps
