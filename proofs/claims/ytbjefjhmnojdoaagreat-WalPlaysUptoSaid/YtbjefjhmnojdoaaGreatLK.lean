/- Labels, numbers and texts laid down and read (out of the label seat's texts) -/
import Derived.Test.YtbjefjhmnojdoaaGreatDefs
import Derived.Test.YtbjefjhmnojdoaaGreatLB
set_option linter.defProp false
namespace Ps
set_option linter.unusedSimpArgs false
set_option linter.unusedVariables false
open Go
def aDm:T.fn 218=some (.code tk):=rfl
def aDn:T.fn 107=some (.code z35):=rfl
def aDo:T.fn 108=some (.code z28):=rfl
def aDp:T.fn 219=some (.code rC):=rfl
def aDq:T.fn 220=some (.code tE):=rfl
def lW(k:IntKind)(a b:Int):Int:=k.wrap (BitVec.ofInt k.bits a ||| BitVec.ofInt k.bits b).toNat
def lX(k:IntKind)(a b:Int):Int:=k.wrap (BitVec.ofInt k.bits a &&& BitVec.ofInt k.bits b).toNat
@[simp]def aQn{k:IntKind}{a b:Int}:arith .or (.int k a) (.int k b)=some (.int k (lW k a b)):=by simp[arith,fk,gH,lW]
@[simp]def aQo{k:IntKind}{a b:Int}:arith .and (.int k a) (.int k b)=some (.int k (lX k a b)):=by simp[arith,fk,gH,lX]
def aDr{a:Int}:arith .shr (.int .i64 a) (.int .u64 7)=some (.int .i64 (a.fdiv 128)):=rfl
def aDs(n:Nat):(n:Int).fdiv 128=((n/128:Nat):Int):=by
 rw[AU _ (by decide)];omega
def aDt(n:Nat):IntKind.u8.wrap (n:Int)=((n%256:Nat):Int):=by
 have e:IntKind.u8.wrap (n:Int)=(n:Int)%256:=by
  simp[IntKind.wrap,IntKind.bits,IntKind.signed]
 rw[e];omega
def aDu:∀m:Fin 256,lW .u8 ((m.val:Nat):Int) 128=((m.val%128+128:Nat):Int):=by decide +kernel
def aDv(n:Nat):lW .u8 (IntKind.u8.wrap (n:Int)) 128=((n%128+128:Nat):Int):=by
 rw[aDt];have:=aDu ⟨n%256,by omega⟩;simp only at this;rw[this];omega
def aN(n:Nat):List UInt8:=if n<128 then [UInt8.ofNat n]else UInt8.ofNat (n%128+128)::aN (n/128)
termination_by n
decreasing_by omega
def dH(s:List UInt8):List UInt8:=aN s.length++s
def fc(a b:List UInt8):aL (a++b)=aL a++aL b:=by simp[aL]
def bO(a:List UInt8):(aL a).length=a.length:=by simp[aL]
def gn(a:List UInt8):∀e∈aL a,e.cells.length=1:=by
 intro e he;obtain⟨x,_,rfl⟩:=cD.1 he;rfl
def kf(a:List UInt8):PV.freeL (aL a)=true:=lY _ (fun _=>rfl) a
def kg(a:List UInt8):PV.frzL (aL a)=aL a:=mb _ (fun _=>rfl) a
def yw{n:Nat}(h:n<256):[PV.int .u8 (n:Int)]=aL [UInt8.ofNat n]:=by
 simp[aL,sq h]
def aDw:∀(k n:Nat),n<128^(k+1)→(aN n).length≤k+1:=by
 intro k
 induction k with
 |zero=>intro n h;rw[aN,if_pos (by simpa using h)];simp
 |succ k ih=>
  intro n h;rw[aN];split
  ·simp
  ·have:=ih (n/128) (by rw[qT (by decide)];rw[GR]at h;exact h);simp;omega
def cu{n:Nat}(h:n<9223372036854775808):(aN n).length≤9:=aDw 8 n (by omega)
def Dq{s:List UInt8}{v:PV}(hv:bG 1 v (aL s)){m:Nat}(hs:s.length+m≤134217728){S0 S:St}(hg:aP S0 S) :
  ∃v' S',aO T 218 [v,.int .i64 (m:Int)] S=some (v',S')∧bB S0 1 S' v' (aL s)∧S'.objs=S.objs:=by
 obtain⟨v',S',a1,a2,a3⟩:=(pe 1 [] hg).app (bytes:=1) (aL s) (by rw[bO];simp;omega);have hw:IntKind.i64.wrap ((s.length:Int)+(m:Int))=(s.length:Int)+(m:Int):=bJ (by omega) (by omega);have hlen:=hv.len;rw[bO]at hlen;have h0:(0:Int)≤(s.length:Int)+(m:Int):=by omega
 have h1:(s.length:Int)+(m:Int)≤140737488355328:=by omega
 refine⟨v',S',?_,by simpa using a2,a3⟩;refine aW aDm rfl ?_;simp only[cT]at a1;simp -implicitDefEqProofs [tk,hlen,hw,aI,h0,h1,hv.appdS,a1,ac]
def aDx{s:List UInt8}{S0:St}{K:List Kt}{Q:Fr→St→Prop}:∀(n:Nat) (p:List UInt8),p.length+(aN n).length≤134217728→n<9223372036854775808→∀(fr:Fr) (S:St),
  fr 1=.int .i64 (n:Int)→bB S0 1 S (fr 6) (aL p) →
  (∀fr' S' (m:Nat) q,fr' 1=.int .i64 (m:Int)→m<128→bB S0 1 S' (fr' 6) (aL q)→q++[UInt8.ofNat m]=p++aN n→S'.objs=S.objs→Ok (aJ T K fr' S') Q) →
  Ok (aJ T (.lp Bc::.blk 0::K) fr S) Q:=by
 intro n
 induction n using Nat.strongRecOn with
 |_ n ih=>
  intro p hp hn fr S h1 ha k;rw[af];by_cases h:n<128
  ·have hlt:¬(128:Int)≤(n:Int):=by omega
   simp -implicitDefEqProofs [h1,hlt];refine k _ _ n p (by simp[h1]) h (by simpa using ha) ?_ rfl;rw[aN,if_pos h]
  ·have hlt:(128:Int)≤(n:Int):=by omega
   have hu:aN n=UInt8.ofNat (n%128+128)::aN (n/128):=by rw[aN,if_neg h]
   have hb:=yw (n:=n%128+128) (by omega);rw[hu]at hp;simp only[bV]at hp;obtain⟨v',S',a1,a2,a3⟩:=(ha.arrs [(1,1)]).app (bytes:=1) [PV.int .u8 ((n%128+128:Nat):Int)] (by rw[bO];simp;omega);have ho:=aDv n;have a1':fL 1 1 ⟨S.objs,S.tips++[(1,1)]⟩ (fr 6) [PV.int .u8 (lW .u8 (IntKind.u8.wrap (n:Int)) 128)]=some (v',S'):=by rw[ho];exact a1
   simp -implicitDefEqProofs [h1,hlt,aI,bL,bR,a1',aDr,aDs];refine ih (n/128) (by omega) (p++[UInt8.ofNat (n%128+128)]) (by simp;omega) (by omega) _ S' (by simp) ?_ (fun fr' S'' m q q1 q2 q3 q4 q5=>k fr' S'' m q q1 q2 q3 ?_ (by rw[q5,a3]))
   ·rw[fc,←hb];simpa using a2
   ·rw[q4,hu];simp
def oE{s:List UInt8}{v:PV}(hv:bG 1 v (aL s)){n:Nat}(hn:n<9223372036854775808)(hs:s.length+20≤134217728){S0 S:St}(hg:aP S0 S) :
  ∃v' S',aO T 107 [v,.int .i64 (n:Int)] S=some (.tup [v',.int .i64 0],S')∧bB S0 1 S' v' (aL (s++aN n))∧S'.objs=S.objs:=by
 obtain⟨v1,S1,e1,e2,e3⟩:=Dq hv (m:=9) (by omega) hg;have e1':aO T 218 [v,.int .i64 9] S=some (v1,S1):=e1;have hu:=cu hn;have hlt:¬(n:Int)<0:=by omega
 have key:=eB (T:=T) (f:=107) (c:=z35) aDn (args:=[v,.int .i64 (n:Int)]) (S:=S) rfl
  (R:=fun r S2=>∃v',r=.tup [v',.int .i64 0]∧bB S0 1 S2 v' (aL (s++aN n))∧S2.objs=S.objs) ?_
 ·obtain⟨r,S2,h1,v',rfl,h2,h3⟩:=key;exact⟨v',S2,h1,h2,h3⟩
 simp -implicitDefEqProofs [z35,hlt,e1'];refine aDx (s:=s) (S0:=S0) n s (by omega) hn _ S1 (by simp) (by simpa using e2) (fun fr' S' m q q1 q2 q3 q4 q5=>?_);have hb:=yw (n:=m) (by omega)
 have hql:q.length+1=s.length+(aN n).length:=by
  have:=congrArg List.length q4;simpa using this
 obtain⟨v',S2,a1,a2,a3⟩:=(q3.arrs [(1,1)]).app (bytes:=1) [PV.int .u8 (m:Int)] (by rw[bO];simp;omega);have hwm:IntKind.u8.wrap (m:Int)=(m:Int):=Fq (by omega) (by omega);simp -implicitDefEqProofs [q1,hwm,aI,bL,bR,a1,ac];refine⟨?_,by rw[a3,q5,e3]⟩;rw[←q4,fc,←hb];exact a2
def WJ{s t:List UInt8}{v:PV}(hv:bG 1 v (aL s))(ht:t.length≤65535)(hs:s.length+20≤67108864){S0 S:St}(hg:aP S0 S) :
  ∃v' S',aO T 108 [v,.str t] S=some (.tup [v',.int .i64 0],S')∧bB S0 1 S' v' (aL (s++dH t))∧S'.objs=S.objs:=by
 obtain⟨v1,S1,e1,e2,e3⟩:=oE hv (n:=t.length) (by omega) (by omega) hg;have hu:=cu (n:=t.length) (by omega);have hlt:¬(65535:Int)<(t.length:Int):=by omega
 obtain⟨v2,S2,a1,a2,a3⟩:=e2.app (bytes:=1) (aL t) (by rw[bO,bO,List.length_append];omega);refine⟨v2,S2,?_,?_,by rw[a3,e3]⟩
 ·refine aW aDo rfl ?_;simp -implicitDefEqProofs [z28,hlt,e1,a1,ac]
 ·rw[←fc,iv]at a2;exact a2
def aDy(s:List UInt8):lL (aL s)=some s:=by
 induction s with
 |nil=>rfl
 |cons b s ih=>
  simp only[aL,dS,lL]at ih ⊢;rw[ih];simp
def mZ{v:PV}{s:List UInt8}(h:bG 1 v (aL s)):iu v=some (.str s):=by
 rcases h with⟨rfl,h⟩|⟨tip,sp,rfl,_⟩
 ·cases s with
  |nil=>rfl
  |cons b s=>simp[aL]at h
 ·simp only[iu,aDy]
def aDz{S0:St}{K:List Kt}{Q:Fr→St→Prop}:∀(n:Nat) (p:List UInt8),p.length+(aN n).length≤134217728→n<9223372036854775808→∀(fr:Fr) (S:St),
  fr 0=.int .i64 (n:Int)→bB S0 1 S (fr 3) (aL p) →
  (∀fr' S' (m:Nat) q,fr' 0=.int .i64 (m:Int)→m<128→bB S0 1 S' (fr' 3) (aL q)→q++[UInt8.ofNat m]=p++aN n→S'.objs=S.objs→Ok (aJ T K fr' S') Q) →
  Ok (aJ T (.lp CY::.blk 0::K) fr S) Q:=by
 intro n
 induction n using Nat.strongRecOn with
 |_ n ih=>
  intro p hp hn fr S h1 ha k;rw[af];by_cases h:n<128
  ·have hlt:¬(127:Int)<(n:Int):=by omega
   simp -implicitDefEqProofs [h1,hlt];refine k _ _ n p (by simp[h1]) h (by simpa using ha) ?_ rfl;rw[aN,if_pos h]
  ·have hlt:(127:Int)<(n:Int):=by omega
   have hu:aN n=UInt8.ofNat (n%128+128)::aN (n/128):=by rw[aN,if_neg h]
   have hb:=yw (n:=n%128+128) (by omega);rw[hu]at hp;simp only[bV]at hp;obtain⟨v',S',a1,a2,a3⟩:=(ha.arrs [(1,1)]).app (bytes:=1) [PV.int .u8 ((n%128+128:Nat):Int)] (by rw[bO];simp;omega)
   have hm:IntKind.u8.wrap (IntKind.i64.wrap ((n:Int).tmod 128+128))=((n%128+128:Nat):Int):=by
    have e1:(n:Int).tmod 128=((n%128:Nat):Int):=by rw[oe (by omega)];omega
    rw[e1,bJ (by omega) (by omega),show((n%128:Nat):Int)+128=((n%128+128:Nat):Int)by omega,Fq (by omega) (by omega)]
   have hd:IntKind.i64.wrap ((n:Int).tdiv 128)=((n/128:Nat):Int):=by
    have e1:(n:Int).tdiv 128=((n/128:Nat):Int):=by rw[vv (by omega)];omega
    rw[e1,bJ (by omega) (by omega)]
   have hd2:IntKind.i64.wrap ((n:Int)/128)=(n:Int)/128:=by rw[bJ]<;>omega
   have a1':fL 1 1 ⟨S.objs,S.tips++[(1,1)]⟩ (fr 3) [PV.int .u8 (IntKind.u8.wrap (IntKind.i64.wrap ((n:Int).tmod 128+128)))]=some (v',S'):=by rw[hm];exact a1
   simp -implicitDefEqProofs [h1,hlt,aI,bL,bR,a1',hd,hd2];refine ih (n/128) (by omega) (p++[UInt8.ofNat (n%128+128)]) (by simp;omega) (by omega) _ S' (by simp[hd2]) ?_ (fun fr' S'' m q q1 q2 q3 q4 q5=>k fr' S'' m q q1 q2 q3 ?_ (by rw[q5,a3]))
   ·rw[fc,←hb];simpa using a2
   ·rw[q4,hu];simp
def kh{n:Nat}(hn:n<9223372036854775808){S0 S:St}(hg:aP S0 S) :
  ∃v' S',aO T 219 [.int .i64 (n:Int)] S=some (v',S')∧bB S0 1 S' v' (aL (aN n))∧S'.objs=S.objs:=by
 have hu:=cu hn;have key:=eB (T:=T) (f:=219) (c:=rC) aDp (args:=[.int .i64 (n:Int)]) (S:=S) rfl (R:=fun r S2=>bB S0 1 S2 r (aL (aN n))∧S2.objs=S.objs) ?_
 ·obtain⟨r,S2,h1,h2,h3⟩:=key;exact⟨r,S2,h1,h2,h3⟩
 simp -implicitDefEqProofs [rC];refine aDz (S0:=S0) n [] (by simp;omega) hn _ S (by simp) (by simpa[aL]using ip 1 hg) (fun fr' S' m q q1 q2 q3 q4 q5=>?_);have hb:=yw (n:=m) (by omega)
 have hql:q.length+1=(aN n).length:=by
  have:=congrArg List.length q4;simpa using this
 obtain⟨v',S2,a1,a2,a3⟩:=(q3.arrs [(1,1)]).app (bytes:=1) [PV.int .u8 (m:Int)] (by rw[bO];simp;omega);have hwm:IntKind.u8.wrap (m:Int)=(m:Int):=Fq (by omega) (by omega);simp -implicitDefEqProofs [q1,hwm,aI,bL,bR,a1,ac];refine⟨?_,by rw[a3,q5]⟩;have:aN n=q++[UInt8.ofNat m]:=by simpa using q4.symm
 rw[this,fc,←hb];exact a2
structure fF(v:PV)(s:List UInt8):Prop where
 isl:bG 1 v (aL s)
 free:v.free=true
 frz:v.frz=v
def jK{S0 S:St}{v:PV}{s:List UInt8}(ha:bB S0 1 S v (aL s)):fF (bo v (aL s)) s:=by
 refine⟨lZ ha (gn _),?_,?_⟩
 ·rcases ha.acc with⟨h,_⟩|⟨id,_,h,_⟩
  ·rw[h];rfl
  ·rw[h];simp[bo,PV.free,kf,PV.freeL]
 ·rcases ha.acc with⟨h,_⟩|⟨id,_,h,_⟩
  ·rw[h];rfl
  ·rw[h];simp[bo,PV.frz,kg,PV.frzL]
def WK{s:List UInt8}(hs:s.length≤67108864):∃v',eu T 220 [.str s]=some v'∧fF v' (dH s):=by
 obtain⟨v1,S1,e1,e2,e3⟩:=kh (n:=s.length) (by omega) (aP.refl bk);have hu:=cu (n:=s.length) (by omega);obtain⟨v2,S2,a1,a2,a3⟩:=e2.app (bytes:=1) (aL s) (by rw[bO,bO];omega);rw[←fc]at a2;have hb:=jK a2;refine⟨_,?_,hb⟩;refine iH ?_ hb.free hb.frz;refine aW aDq rfl ?_;simp -implicitDefEqProofs [tE,e1,a1];exact a2.fin (kf _) (kg _)
def aDA:T.fn 29=some (.code qt):=rfl
def aDB:T.fn 109=some (.code qW):=rfl
def eW(x:bn):List UInt8:=dH x.1++dH x.2.1
def ew(l:List bn):List UInt8:=aN l.length++l.flatMap eW
def aDC{s:List UInt8}(h:lV s=true):s.length≤32:=by
 rw[ue]at h;simp only[aV,decide_eq_true_eq]at h;exact h.2.2
def rT{x:bn}(h:nz x):x.1.length≤32∧x.2.1.length≤64:=⟨aDC h.1,h.2.2⟩
def rU{s:List UInt8}(h:s.length≤65535):(dH s).length≤s.length+9:=by
 have:=cu (n:=s.length) (by omega);simp only[dH,List.length_append];omega
def aDD{x:bn}(h:nz x):(eW x).length≤114:=by
 obtain⟨h1,h2⟩:=rT h;have a:=rU (s:=x.1) (by omega);have b:=rU (s:=x.2.1) (by omega);simp only[eW,List.length_append];omega
theorem Dr:∀{l:List bn},(∀x∈l,nz x)→(l.flatMap eW).length≤114*l.length
 | [],_=>by simp
 |x::l,h=>by
  have a:=aDD (h x (by simp));have b:=Dr (l:=l) (fun y hy=>h y (by simp[hy]));simp only[fB,List.length_append,bV];omega
def aDE{l:List bn}{vl:PV}(hv:bT 2 vl (l.map bt))(hl:l.length≤8)(hok:∀x∈l,nz x){S0:St}{K:List Kt}{Q:Fr→St→Prop}:∀(r p:List bn) (s:List UInt8),l=p++r→s.length+114*r.length≤67100000→∀(fr:Fr) (S:St),
  fr 23=vl→fr 24=.int .i64 l.length→fr 25=.int .i64 p.length→bB S0 1 S (fr 7) (aL s) →
  (∀fr' S',bB S0 1 S' (fr' 7) (aL (s++r.flatMap eW))→Ok (aJ T K fr' S') Q) →
  Ok (aJ T (.lp Bf::.blk 0::K) fr S) Q:=by
 intro r
 induction r with
 |nil=>
  intro p s e hs fr S h23 h24 h25 ha k;rw[cI]at e;subst e;rw[af];simp -implicitDefEqProofs [h23,h24,h25]
  exact k _ _ (by simpa using ha)
 |cons x r ih=>
  intro p s e hs fr S h23 h24 h25 ha k;have hlt:p.length<l.length:=by rw[e];simp
  have hg:=yp hv e;have hw:=dR (a:=p.length) (by omega);have hx:=hok x (by rw[e];simp);obtain⟨l1,l2⟩:=rT hx;simp only[bV]at hs;have hA:=ha.objs [[.str x.1,.str x.2.1]];have t1:=rU (s:=x.1) (by omega);have t2:=rU (s:=x.2.1) (by omega);obtain⟨v1,S1,a1,a2,a3⟩:=WJ (t:=x.1) (hA.isSl (gn _)) (by omega) (by omega) hA.grows;obtain⟨v2,S2,b1,b2,b3⟩:=WJ (t:=x.2.1) (a2.isSl (gn _)) (by omega) (by rw[List.length_append];omega) a2.grows;have ho1:S1.objs[S.objs.length]?=some [.str x.1,.str x.2.1]:=by rw[a3];simp
  rw[af];simp -implicitDefEqProofs [h23,h24,h25,hlt,hg,p1,p2,aI,aR,a1,aU ho1,b1,hw];refine ih (p++[x]) (s++dH x.1++dH x.2.1) (by simp[e]) (by simp only[List.length_append];omega) _ S2 (by simp[h23]) (by simp[h24]) (by simp) (by simpa using b2) (fun fr' S' h=>k fr' S' ?_);simpa[eW]using h
def aDF{b:List UInt8}{l:List bn}{v vl:PV}(hb:bG 1 v (aL b))(hbl:b.length≤4194304)(hv:bT 2 vl (l.map bt))(hn:∀x∈l,x.1.length≤maxLen)(hl:l.length≤maxLen)(hr:yr l)(S:St) :
  ∃v',aO T 29 [v,vl] S=some (.tup [v',.int .i64 0],S)∧fF v' (b++ew l):=by
 have c1:=Dj hv hn hl S;rw[mY.2 hr]at c1;have hlen:=hv.len;rw[List.length_map]at hlen;obtain⟨v1,S1,a1,a2,a3⟩:=oE hb (n:=l.length) (by have:=hr.1;omega) (by omega) (aP.refl S);have hu:=cu (n:=l.length) (by have:=hr.1;omega);have key:=eB (T:=T) (f:=29) (c:=qt) aDA (args:=[v,vl]) (S:=S) rfl (R:=fun r S2=>S2=S∧∃v',r=.tup [v',.int .i64 0]∧fF v' (b++ew l)) ?_
 ·obtain⟨r,S2,h1,rfl,v',rfl,h2⟩:=key;exact⟨v',h1,h2⟩
 have c1':aO T 40 [vl] S=some (.int .i64 0,S):=c1;simp -implicitDefEqProofs [qt,c1',hlen,a1];refine aDE hv hr.1 hr.2.1 (S0:=S) l [] (b++aN l.length) rfl (by have:=hr.1;simp only[List.length_append];omega) _ S1 (by simp) (by simp) (by simp) (by simpa using a2) (fun fr' S' ha=>?_);have he:b++aN l.length++l.flatMap eW=b++ew l:=by simp[ew]
 rw[he]at ha
 have hf:(fr' 7).free=true∧(fr' 7).frz=bo (fr' 7) (aL (b++ew l)):=by
  rcases ha.acc with⟨h,_⟩|⟨id,_,h,_⟩
  ·rw[h];exact⟨rfl,rfl⟩
  ·rw[h];exact⟨by simp[PV.free,kf,PV.freeL],by simp[bo,PV.frz,kg,PV.frzL]⟩
 have hfin:ac false S S' (.tup [fr' 7,.int .i64 0])=(.tup [bo (fr' 7) (aL (b++ew l)),.int .i64 0],S):=by
  rw[cN ha.grows (by simp[PV.free,PV.freeL,hf.1])];simp[PV.frz,PV.frzL,hf.2]
 simp[hfin];exact jK ha
def aDG{l:List bn}{vl:PV}(hv:bT 2 vl (l.map bt))(hl:l.length≤8)(hok:∀x∈l,nz x){S0:St}{K:List Kt}{Q:Fr→St→Prop}:∀(r p:List bn) (s:List UInt8),l=p++r→s.length+114*r.length≤67100000→∀(fr:Fr) (S:St),
  fr 0=vl→fr 4=.int .i64 p.length→bB S0 1 S (fr 3) (aL s) →
  (∀fr' S',bB S0 1 S' (fr' 3) (aL (s++r.flatMap eW))→Ok (aJ T K fr' S') Q) →
  Ok (aJ T (.lp Ao::.blk 0::K) fr S) Q:=by
 intro r
 induction r with
 |nil=>
  intro p s e hs fr S h0 h4 ha k;rw[cI]at e;subst e;have hlen:=hv.len;rw[List.length_map]at hlen;rw[af];simp -implicitDefEqProofs [h0,h4,hlen]
  exact k _ _ (by simpa using ha)
 |cons x r ih=>
  intro p s e hs fr S h0 h4 ha k;have hlt:p.length<l.length:=by rw[e];simp
  have hlen:=hv.len;rw[List.length_map]at hlen;have hg:=yp hv e;have hw:=dR (a:=p.length) (by omega);have hx:=hok x (by rw[e];simp);obtain⟨l1,l2⟩:=rT hx;simp only[bV]at hs;obtain⟨t1,t1e,t1b⟩:=WK (s:=x.1) (by omega);obtain⟨t2,t2e,t2b⟩:=WK (s:=x.2.1) (by omega);have u1:=rU (s:=x.1) (by omega);have u2:=rU (s:=x.2.1) (by omega);obtain⟨v1,S1,a1,a2,a3⟩:=ha.app (bytes:=1) (aL (dH x.1)) (by rw[bO,bO];omega);rw[←fc]at a2;obtain⟨v2,S2,b1,b2,b3⟩:=a2.app (bytes:=1) (aL (dH x.2.1)) (by rw[bO,bO,List.length_append];omega);rw[←fc]at b2;rw[af];simp -implicitDefEqProofs [h0,h4,hlt,hlen,hg,p1,t1e,t2e,t1b.isl.appdS,t2b.isl.appdS,a1,b1,hw];refine ih (p++[x]) (s++dH x.1++dH x.2.1) (by simp[e]) (by simp only[List.length_append];omega) _ S2 (by simp[h0]) (by simp) (by simpa using b2) (fun fr' S' h=>k fr' S' ?_);simpa[eW]using h
def aDH{l:List bn}{vl:PV}(hv:bT 2 vl (l.map bt))(hr:yr l)(S:St) :
  ∃v',aO T 109 [vl] S=some (v',S)∧fF v' (ew l):=by
 have hlen:=hv.len;rw[List.length_map]at hlen;obtain⟨v1,S1,a1,a2,a3⟩:=kh (n:=l.length) (by have:=hr.1;omega) (aP.refl S);have hu:=cu (n:=l.length) (by have:=hr.1;omega);have key:=eB (T:=T) (f:=109) (c:=qW) aDB (args:=[vl]) (S:=S) rfl (R:=fun r S2=>S2=S∧fF r (ew l)) ?_
 ·obtain⟨r,S2,h1,rfl,h2⟩:=key;exact⟨r,h1,h2⟩
 simp -implicitDefEqProofs [qW,hlen,a1];refine aDG hv hr.1 hr.2.1 (S0:=S) l [] (aN l.length) rfl (by have:=hr.1;omega) _ S1 (by simp) (by simp) (by simpa using a2) (fun fr' S' ha=>?_);have ha':bB S 1 S' (fr' 3) (aL (ew l)):=ha;have hfin:=ha'.fin (kf _) (kg _);simp[hfin];exact jK ha'
def aDI:T.fn 110=some (.code tl):=rfl
def aDJ:T.fn 111=some (.code z33):=rfl
def aDK:T.fn 112=some (.code z27):=rfl
def aDL:T.fn 113=some (.code tM):=rfl
def dB(at_:Nat):List UInt8→Nat→Nat→Nat×Nat×Nat
 | [],_,_=>(0,0,4)
 |d::r,k,acc=>if(k=8∧127<d.toNat)∨(0<k∧d.toNat=0)then(0,0,5)else if d.toNat<128 then(acc+d.toNat%128*128^k,at_+k+1,0)else dB at_ r (k+1) (acc+d.toNat%128*128^k)
def bD(s:List UInt8)(i:Int):Nat×Nat×Nat:=if i<0∨(s.length:Int)<i then(0,0,2)else dB i.toNat (s.drop i.toNat) 0 0
def hT(x:Nat×Nat×Nat):PV:=.tup [.int .i64 x.1,.int .i64 x.2.1,.int .i64 x.2.2]
def yx(k:Nat):128^(k+1)=128^k*128:=GR ..
def Ds{k:Nat}(h:k≤8):128^k≤72057594037927936:=Nat.le_trans (Aj (by decide) h) (by decide)
def Dt{acc d k:Nat}(h:acc<128^k):acc+d%128*128^k<128^(k+1):=by
 have h1:d%128≤127:=by omega
 have h2:d%128*128^k≤127*128^k:=iz _ h1;rw[yx];omega
theorem WL:∀(r:List UInt8) (at_ k acc:Nat),k≤8→acc<128^k→(dB at_ r k acc).2.2=0→(dB at_ r k acc).2.1≤at_+k+r.length∧(dB at_ r k acc).1<9223372036854775808
 | [],at_,k,acc,_,_,h=>by simp[dB]at h
 |d::r,at_,k,acc,hk,ha,h=>by
  rw[dB]at h ⊢;split at h
  ·simp at h
  ·rename_i hn;rw[if_neg hn];have hs:=Dt (d:=d.toNat) ha;have hp:128^(k+1)≤9223372036854775808:=Nat.le_trans (Aj (by decide) (show k+1≤9 by omega)) (by decide);split at h
   ·rename_i hd;rw[if_pos hd];simp only[bV];exact⟨by omega,by omega⟩
   ·rename_i hd;rw[if_neg hd]
    have hk8:k+1≤8:=by
     rcases kA k 8 with h8|h8
     ·omega
     ·exact absurd (.inl ⟨by omega,by omega⟩) hn
    have:=WL r at_ (k+1) _ hk8 hs h;simp only[bV];exact⟨by omega,this.2⟩
def kK{s:List UInt8}{i:Int}(h:(bD s i).2.2=0):(bD s i).2.1≤s.length∧(bD s i).1<9223372036854775808:=by
 unfold bD at h ⊢;split at h
 ·simp at h
 ·rename_i hi;rw[if_neg hi];have:=WL _ _ 0 0 (by omega) (by decide) h;rw[kX]at this;exact⟨by omega,this.2⟩
def aDM:∀m:Fin 256,lX .u8 ((m.val:Nat):Int) 127=((m.val%128:Nat):Int):=by decide +kernel
def aDN(d:UInt8):lX .u8 (d.toNat:Int) 127=((d.toNat%128:Nat):Int):=aDM ⟨d.toNat,d.toNat_lt⟩
def Du{n:Nat}(h:n<18446744073709551616):IntKind.u64.wrap (n:Int)=(n:Int):=by
 have e:IntKind.u64.wrap (n:Int)=(n:Int)%18446744073709551616:=by
  simp[IntKind.wrap,IntKind.bits,IntKind.signed]
 rw[e];omega
def Dv(k:Nat):(128:Nat)^k=2^(7*k):=by
 rw[show(128:Nat)=2^7 from rfl,←Nat.pow_mul]
def aDO{a k:Nat}(hk:k≤8)(ha:a<128):arith .shl (.int .u64 (a:Int)) (.int .i64 ((7*k:Nat):Int))=some (.int .u64 ((a*128^k:Nat):Int)):=by
 have h1:¬(((7*k:Nat):Int)<0):=by omega
 have h2:min ((7*k:Nat):Int).toNat IntKind.u64.bits=7*k:=by
  rw[Int.toNat_natCast];show min (7*k) 64=7*k;omega
 have h3:a*128^k<18446744073709551616:=by
  have:=Ds hk;have h4:a*128^k≤127*72057594037927936:=Nat.mul_le_mul (by omega) this;omega
 simp only[arith,fk,if_true,Cy,h1,if_false,h2];have e:(a:Int)*2^(7*k)=((a*128^k:Nat):Int):=by rw[Dv];simp
 rw[e,Du h3]
def aDP{a b:Nat}(ha:a<18446744073709551616)(hb:b<18446744073709551616):lW .u64 (a:Int) (b:Int)=((a ||| b:Nat):Int):=by
 have hlt:a ||| b<18446744073709551616:=Nat.or_lt_two_pow (n:=64) ha hb
 unfold lW
 have e:(BitVec.ofInt IntKind.u64.bits (a:Int) ||| BitVec.ofInt IntKind.u64.bits (b:Int)).toNat=a ||| b:=by
  rw[BitVec.toNat_or,BitVec.ofInt_natCast,BitVec.ofInt_natCast,BitVec.toNat_ofNat,BitVec.toNat_ofNat];have h1:a%2^IntKind.u64.bits=a:=sq ha;have h2:b%2^IntKind.u64.bits=b:=sq hb;rw[h1,h2]
 rw[e,Du hlt]
def aDQ{acc x k:Nat}(hk:k≤8)(h:acc<128^k)(hx:x<128):lW .u64 (acc:Int) ((x*128^k:Nat):Int)=((acc+x*128^k:Nat):Int):=by
 have hp:=Ds hk;have h4:x*128^k≤127*72057594037927936:=Nat.mul_le_mul (by omega) hp;rw[aDP (by omega) (by omega)]
 congr 1
 rw[Nat.or_comm];have:=Nat.shiftLeft_add_eq_or_of_lt (i:=7*k) (b:=acc) (by rw[←Dv];exact h) x;rw[Nat.shiftLeft_eq,←Dv]at this;omega
def yy{s p r:List UInt8}{d:UInt8}{v:PV}(hv:bT 1 v (aL s))(hl:s=p++d::r):dQ 1 v (.int .i64 (p.length:Int))=some (.ref [.int .u8 d.toNat]):=by
 have h:p.length<(aL s).length:=by rw[bO,hl];simp
 have:=hv.get p.length h .i64;have e:(aL s)[p.length]=.int .u8 d.toNat:=by simp[hl,aL]
 rw[e]at this;exact this
def aDR{s:List UInt8}{v:PV}(hv:bT 1 v (aL s)){a:Nat}(ha:a+s.length≤134217728){K:List Kt}{Q:Fr→St→Prop}{S:St}:∀(r p:List UInt8) (acc:Nat),s=p++r→p.length≤8→acc<128^p.length→∀(fr:Fr),
  fr 1=.int .i64 (a:Int)→fr 7=.int .u64 (acc:Int)→fr 20=v→fr 21=.int .i64 s.length→fr 22=.int .i64 p.length →
  (dB a r p.length acc=(0,0,4)→∀fr',Ok (aJ T K fr' S) Q) →
  (∀fr',fr' 4=.int .i64 (dB a r p.length acc).1→fr' 5=.int .i64 (dB a r p.length acc).2.1→fr' 6=.int .i64 (dB a r p.length acc).2.2→Q fr' S) →
  Ok (aJ T (.lp CJ::.blk 0::K) fr S) Q:=by
 intro r
 induction r with
 |nil=>
  intro p acc e hp hacc fr h1 h7 h20 h21 h22 k1 k2;rw[cI]at e;subst e;rw[af];simp -implicitDefEqProofs [h21,h22]
  exact k1 rfl _
 |cons d r ih=>
  intro p acc e hp hacc fr h1 h7 h20 h21 h22 k1 k2;have hlt:p.length<s.length:=by rw[e];simp
  have hg:=yy hv e;have hw:=dR (a:=p.length) (by omega);have hd:=d.toNat_lt;have h7k:IntKind.i64.wrap (7*(p.length:Int))=((7*p.length:Nat):Int):=by rw[bJ (by omega) (by omega)];omega
  have hx:d.toNat%128<128:=by omega
  have hw64:=Du (n:=d.toNat%128) (by omega);have hsh:=aDO (a:=d.toNat%128) hp hx;have hor:=aDQ hp hacc hx;have hstep:=Dt (d:=d.toNat) hacc;have hpl:128^(p.length+1)≤9223372036854775808:=Nat.le_trans (Aj (by decide) (show p.length+1≤9 by omega)) (by decide);have hA0:acc+d.toNat%128*128^p.length<9223372036854775808:=by omega
  generalize hX:d.toNat%128*128^p.length=X at *;generalize hA:acc+X=A at *;have hw64':IntKind.u64.wrap ((d.toNat:Int)%128)=(d.toNat:Int)%128:=by simpa using hw64
  have h7k':IntKind.i64.wrap (7*(p.length:Int))=7*(p.length:Int):=by simpa using h7k
  have hsh':arith .shl (.int .u64 ((d.toNat:Int)%128)) (.int .i64 (7*(p.length:Int)))=some (.int .u64 (X:Int)):=by simpa using hsh
  have hwA:IntKind.i64.wrap (A:Int)=(A:Int):=by rw[bJ]<;>omega
  have hn1:IntKind.i64.wrap ((a:Int)+(p.length:Int))=(a:Int)+(p.length:Int):=by rw[bJ (by omega) (by omega)]
  have hn2:IntKind.i64.wrap ((a:Int)+(p.length:Int)+1)=(a:Int)+(p.length:Int)+1:=by rw[bJ (by omega) (by omega)]
  rw[af];simp -implicitDefEqProofs [h1,h7,h20,h21,h22,hlt,hg,p1];refine bX (fun c=>?_) (fun c=>?_)
  ·have hc:(p.length=8∧127<d.toNat)∨(0<p.length∧d.toNat=0):=by simp at c;omega
   have hr:dB a (d::r) p.length acc=(0,0,5):=by rw[dB,if_pos hc]
   rw[hr]at k2;exact cV (k2 _ (by simp) (by simp) (by simp))
  ·have hc:¬((p.length=8∧127<d.toNat)∨(0<p.length∧d.toNat=0)):=by simp at c;omega
   simp -implicitDefEqProofs [h1,h7,aDN,hw64',h7k',hsh',hor,hwA,hn1,hn2];refine bX (fun q=>?_) (fun q=>?_)
   ·have hq:d.toNat<128:=by simp at q;omega
    have hr:dB a (d::r) p.length acc=(A,a+p.length+1,0):=by rw[dB,if_neg hc,if_pos hq,hX,hA]
    rw[hr]at k2;exact cV (k2 _ (by simp) (by simp) (by simp))
   ·have hq:¬d.toNat<128:=by simp at q;omega
    have hr:dB a (d::r) p.length acc=dB a r (p.length+1) A:=by rw[dB,if_neg hc,if_neg hq,hX,hA]
    rw[hr]at k1 k2;have hlen:(p++[d]).length=p.length+1:=by simp
    refine ih (p++[d]) A (by simp[e]) (by rw[hlen];omega) (by rw[hlen];exact hstep) _ (by simp[h1]) (by simp) (by simp[h20]) (by simp[h21]) (by simp[hw]) (by rw[hlen];exact k1) (by rw[hlen];exact k2)
def ui{s:List UInt8}{v:PV}(hv:bG 1 v (aL s))(hs:s.length≤67108864){i:Int}(S:St):aO T 110 [v,.int .i64 i] S=some (hT (bD s i),S):=by
 have hlen:=hv.len;rw[bO]at hlen;refine aW aDI rfl ?_;simp -implicitDefEqProofs [tl,hlen];refine bX (fun c=>?_) (fun c=>?_)
 ·have hc:i<0∨(s.length:Int)<i:=by simpa using c
  have hr:bD s i=(0,0,2):=by rw[bD,if_pos hc]
  simp[hr,hT];rw[cN (aP.refl S) rfl];rfl
 ·have hc:¬(i<0∨(s.length:Int)<i):=by simpa using c
  obtain⟨a,rfl⟩:=AS (show 0≤i by omega);have ha:a≤s.length:=by omega
  obtain⟨v2,e1,e2⟩:=hv.lo (lo:=a) (k:=.i64) (by rw[bO];exact ha);have e2':bG 1 v2 (aL (s.drop a)):=by simpa[aL]using e2
  have hlen2:=e2'.len;rw[bO]at hlen2;have hr:bD s (a:Int)=dB a (s.drop a) 0 0:=by rw[bD,if_neg hc];rfl
  have hw0:(((s.drop a).length:Nat):Int)=((s.length-a:Nat):Int):=by simp
  simp -implicitDefEqProofs [hlen,e1,hlen2];rw[hr];refine aDR (s:=s.drop a) e2'.reads (a:=a) (by rw[kX];omega) (s.drop a) [] 0 rfl (by simp) (by simp) _ (by simp) (by simp) (by simp) (by simp) (by simp) (fun hz fr'=>?_) (fun fr' g4 g5 g6=>?_)
  ·have hz':dB a (s.drop a) 0 0=(0,0,4):=hz;simp[hz',hT];rw[cN (aP.refl S) rfl];rfl
  ·simp[g4,g5,g6,hT];rw[cN (aP.refl S) rfl];rfl
def aDS{s:List UInt8}{v:PV}(hv:bT 1 v (aL s)){a:Nat}(hs:s.length≤67108864){K:List Kt}{Q:Fr→St→Prop}{S:St}:∀(r p:List UInt8) (k acc:Nat),s=p++r→p.length=a+k→k≤8→acc<128^k→∀(fr:Fr),
  fr 0=v→fr 1=.int .i64 (a:Int)→fr 7=.int .i64 (acc:Int)→fr 8=.int .i64 ((128^k:Nat):Int)→fr 9=.int .i64 (k:Int) →
  (dB a r k acc=(0,0,5)→∀fr',Ok (aJ T K fr' S) Q) →
  (∀fr',fr' 4=.int .i64 (dB a r k acc).1→fr' 5=.int .i64 (dB a r k acc).2.1→fr' 6=.int .i64 (dB a r k acc).2.2→Q fr' S) →
  Ok (aJ T (.lp BH::.blk 0::K) fr S) Q:=by
 intro r
 induction r with
 |nil=>
  intro p k acc e hp hk hacc fr h0 h1 h7 h8 h9 k1 k2;rw[cI]at e;subst e;have hlen:=hv.len;rw[bO]at hlen;have hn1:IntKind.i64.wrap ((a:Int)+(k:Int))=(a:Int)+(k:Int):=by rw[bJ (by omega) (by omega)]
  have hc1:(k:Int)<9:=by omega
  have hc2:(s.length:Int)≤(a:Int)+(k:Int):=by omega
  rw[af];simp -implicitDefEqProofs [h0,h1,h9,hlen,hn1,hc1,hc2]
  exact k2 _ (by simp[dB]) (by simp[dB]) (by simp[dB])
 |cons d r ih=>
  intro p k acc e hp hk hacc fr h0 h1 h7 h8 h9 k1 k2;have hsl:s.length=p.length+(r.length+1):=by rw[e];simp
  have hlen:=hv.len;rw[bO]at hlen;have hg:=yy hv e;rw[hp]at hg;have hg':dQ 1 v (.int .i64 ((a:Int)+(k:Int)))=some (.ref [.int .u8 d.toNat]):=by simpa using hg
  have hd:=d.toNat_lt;have hn1:IntKind.i64.wrap ((a:Int)+(k:Int))=(a:Int)+(k:Int):=by rw[bJ (by omega) (by omega)]
  have hn2:IntKind.i64.wrap ((a:Int)+(k:Int)+1)=(a:Int)+(k:Int)+1:=by rw[bJ (by omega) (by omega)]
  have hn3:IntKind.i64.wrap ((k:Int)+1)=(k:Int)+1:=by rw[bJ (by omega) (by omega)]
  have hc1:(k:Int)<9:=by omega
  have hc2:¬(s.length:Int)≤(a:Int)+(k:Int):=by omega
  have hx:d.toNat%128<128:=by omega
  have hstep:=Dt (d:=d.toNat) hacc;have hpl:128^(k+1)≤9223372036854775808:=Nat.le_trans (Aj (by decide) (show k+1≤9 by omega)) (by decide);have hwd:IntKind.i64.wrap (d.toNat:Int)=(d.toNat:Int):=by rw[bJ]<;>omega
  have hmod:(d.toNat:Int).tmod 128=((d.toNat%128:Nat):Int):=by rw[oe (by omega)];omega
  have hA0:acc+d.toNat%128*128^k<9223372036854775808:=by omega
  have hmul:((d.toNat%128:Nat):Int)*((128^k:Nat):Int)=((d.toNat%128*128^k:Nat):Int):=by rw[←Int.natCast_mul]
  have hm8:IntKind.i64.wrap (((128^k:Nat):Int)*128)=((128^(k+1):Nat):Int)∨k=8:=by
   by_cases h8k:k=8
   ·exact .inr h8k
   ·left;have:=Ds (k:=k+1) (by omega);rw[yx]at this ⊢;rw[bJ (by omega) (by omega)];omega
  have hpk:128^(k+1)=128^k*128:=yx k;generalize hM1:128^(k+1)=M1 at *;generalize hM:128^k=M at *;generalize hX:d.toNat%128*M=X at *;generalize hA:acc+X=A at *;have hmul':(d.toNat:Int).tmod 128*(M:Int)=(X:Int):=by rw[hmod,hmul]
  have hmul2:(d.toNat:Int)%128*(M:Int)=(X:Int):=by rw[←hmul'];rw[oe (by omega)]
  have hwX:IntKind.i64.wrap (X:Int)=(X:Int):=by rw[bJ]<;>omega
  have hwA:IntKind.i64.wrap ((acc:Int)+(X:Int))=(A:Int):=by rw[bJ (by omega) (by omega)];omega
  rw[af];simp -implicitDefEqProofs [h0,h1,h7,h8,h9,hlen,hn1,hc1,hc2,hg',p1,hwd,hmul',hmul2,hwX,hwA];refine bX (fun q=>?_) (fun q=>?_)
  ·have hq:d.toNat<128:=by simp at q;omega
   refine bX (fun c=>?_) (fun c=>?_)
   ·have hc:(k=8∧127<d.toNat)∨(0<k∧d.toNat=0):=by simp at c;omega
    have hr:dB a (d::r) k acc=(0,0,5):=by rw[dB,if_pos hc]
    rw[hr]at k2;exact cV (k2 _ (by simp) (by simp) (by simp))
   ·have hc:¬((k=8∧127<d.toNat)∨(0<k∧d.toNat=0)):=by simp at c;omega
    have hr:dB a (d::r) k acc=(A,a+k+1,0):=by rw[dB,if_neg hc,if_pos hq,hM,hX,hA]
    rw[hr]at k2;simp -implicitDefEqProofs [h1,hn1,hn2];exact k2 _ (by simp) (by simp) (by simp)
  ·have hq:¬d.toNat<128:=by simp at q;omega
   by_cases h8k:k=8
   ·subst h8k;have hr:dB a (d::r) 8 acc=(0,0,5):=by rw[dB,if_pos (.inl ⟨rfl,by omega⟩)]
    have hn3':IntKind.i64.wrap 9=9:=by decide
    simp -implicitDefEqProofs [h9,hn3'];rw[af];simp -implicitDefEqProofs;exact k1 hr _
   ·have hc:¬((k=8∧127<d.toNat)∨(0<k∧d.toNat=0)):=by omega
    have hr:dB a (d::r) k acc=dB a r (k+1) A:=by rw[dB,if_neg hc,if_neg hq,hM,hX,hA]
    rw[hr]at k1 k2;have hc3:(k:Int)<8:=by omega
    have hm8':=hm8.resolve_right h8k;have hlenp:(p++[d]).length=a+(k+1):=by simp[hp];omega
    simp -implicitDefEqProofs [h8,h9,hc3,hm8',hn3];exact ih (p++[d]) (k+1) A (by simp[e]) hlenp (by omega) (by rw[hM1];exact hstep) _ (by simp[h0]) (by simp[h1]) (by simp) (by simp[hM1]) (by simp) k1 k2
def uj{s:List UInt8}{v:PV}(hv:bG 1 v (aL s))(hs:s.length≤67108864){i:Int}(S:St):aO T 112 [v,.int .i64 i] S=some (hT (bD s i),S):=by
 have hlen:=hv.len;rw[bO]at hlen;refine aW aDK rfl ?_;simp -implicitDefEqProofs [z27,hlen];refine bX (fun c=>?_) (fun c=>?_)
 ·have hc:i<0∨(s.length:Int)<i:=by simpa using c
  have hr:bD s i=(0,0,2):=by rw[bD,if_pos hc]
  simp[hr,hT];rw[cN (aP.refl S) rfl];rfl
 ·have hc:¬(i<0∨(s.length:Int)<i):=by simpa using c
  obtain⟨a,rfl⟩:=AS (show 0≤i by omega);have ha:a≤s.length:=by omega
  have hr:bD s (a:Int)=dB a (s.drop a) 0 0:=by rw[bD,if_neg hc];rfl
  rw[hr];refine aDS (s:=s) hv.reads (a:=a) hs (s.drop a) (s.take a) 0 0 (sk a s).symm (by rw[List.length_take];omega) (by omega) (by decide) _ (by simp) (by simp) (by simp) (by simp) (by simp) (fun hz fr'=>?_) (fun fr' g4 g5 g6=>?_)
  ·simp[hz,hT];rw[cN (aP.refl S) rfl];rfl
  ·simp[g4,g5,g6,hT];rw[cN (aP.refl S) rfl];rfl
def fN(s:List UInt8)(i:Int):List UInt8×Nat×Nat:=
 if(bD s i).2.2≠0 then([],0,(bD s i).2.2)else if 65535<(bD s i).1 then([],0,3)else if s.length-(bD s i).2.1<(bD s i).1 then([],0,4)else
 ((s.drop (bD s i).2.1).take (bD s i).1,(bD s i).2.1+(bD s i).1,0)
def jL(x:List UInt8×Nat×Nat):PV:=.tup [.str x.1,.int .i64 x.2.1,.int .i64 x.2.2]
end Ps
