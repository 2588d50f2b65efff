/- Rows of bits, in plain words. -/
import Derived.Test.YtpjmpaidcidjgaaGreatDoorAbbKw
import Derived.Test.YtpjmpaidcidjgaaGreatDoorBAKw
set_option linter.defProp false
namespace Ps
set_option linter.unusedSimpArgs false
set_option linter.unusedVariables false
open Go
def Tm:T.fn 28=some (.code qL):=rfl
def Tn:T.fn 103=some (.code z0):=rfl
def To:T.fn 104=some (.code qW):=rfl
def Tp:T.fn 105=some (.code z63):=rfl
def Tq:T.fn 106=some (.code z5):=rfl
def Tr:T.fn 217=some (.code qi):=rfl
def Ts(s:List UInt8):di T 217 [.str s]=some (.bool false):=by
 refine oR ?_ rfl rfl;refine bP Tr rfl ?_;simp -implicitDefEqProofs [qi]
def Tt(a b:List UInt8):di T 106 [.str a,.str b]=some (.int .i64 (de a b)):=by
 refine oR ?_ rfl rfl;refine bP Tq rfl ?_;simp -implicitDefEqProofs [z5,Ts];refine bV (fun h=>?_) (fun h=>bV (fun h2=>?_) (fun h2=>?_))
 ·simp[de,h]
 ·simp[de,h]at h2 ⊢;simp[h2]
 ·simp[de,h]at h2 ⊢;simp[h2]
def Tu(a b:Int)(tip:Option (Nat×Nat))(S:St):aM T 105 [.sl tip [.int .i64 a,.int .i64 b] []] S=some (.int .i64 (if a=0 then b else a),S):=by
 refine bP Tp rfl ?_;have w1:IntKind.i64.wrap 1=1:=by decide
 have w2:IntKind.i64.wrap 2=2:=by decide
 have hp1:∀{a:PV} {m:List PV},az false 1 (a::m)=some a:=fun {a m}=>by simp[az]
 simp -implicitDefEqProofs [z63];rw[aV];simp -implicitDefEqProofs [hp1,w1];refine bV (fun h=>?_) (fun h=>?_)
 ·simp at h;simp[h]
 ·simp at h;rw[aV];simp -implicitDefEqProofs [hp1,w1,w2];refine bV (fun h2=>?_) (fun h2=>?_)
  ·simp at h2;simp[h]
  ·simp at h2;rw[aV];simp -implicitDefEqProofs [h,h2]
def Tv(x y:aT)(S:St):aM T 104 [ac x,ac y] S=some (.int .i64 (eq x y),S):=by
 refine bP To rfl ?_;have hp1:∀{a:PV} {m:List PV},az false 1 (a::m)=some a:=fun {a m}=>by simp[az]
 simp -implicitDefEqProofs [qW,aH,ac,hp1,Tt,cA,cc,Tu];rw[QU ((aN.refl S).arr _)];simp[eq]
def Tw{l1 l2:List aT}{v1 v2:PV}(hv1:bW 2 v1 (l1.map ac))(hv2:bW 2 v2 (l2.map ac))(hl1:l1.length≤maxLen){K:List Kt}{Q:Fr→St→Prop}{S0:St}:∀(r1 p1 r2 p2:List aT),l1=p1++r1→l2=p2++r2→p2.length=p1.length→∀(fr:Fr) (S:St),
  fr 0=v1→fr 1=v2→fr 2=.fn 104 []→fr 11=v1→fr 12=.int .i64 l1.length→fr 13=.int .i64 p1.length→aN S0 S →
  (iB r1 r2=none→∀fr' S',fr' 0=v1→fr' 1=v2→aN S0 S'→Ok (aE T K fr' S') Q)→(∀c,iB r1 r2=some c→∀fr' S',fr' 6=.int .i64 c→aN S0 S'→Q fr' S') →
  Ok (aE T (.lp yR::.blk 0::K) fr S) Q:=by
 intro r1
 induction r1 with
 |nil=>
  intro p1 r2 p2 e1 e2 ep fr S h0 h1 h2 h11 h12 h13 hg k1 k2;rw[dR]at e1;subst e1;rw[aV];simp -implicitDefEqProofs [h0,h1,h11,h12,h13]
  exact k1 rfl _ _ (by simp[h0]) (by simp[h1]) hg
 |cons x r1 ih=>
  intro p1 r2 p2 e1 e2 ep fr S h0 h1 h2 h11 h12 h13 hg k1 k2;have hlt:p1.length<l1.length:=by rw[e1];simp
  have g1:=sO hv1 e1;unfold maxLen at hl1;have hw:=jt (a:=p1.length) (by omega);have hpo:∀{a b:PV},az true 2 [a,b]=some (.agg [a,b]):=fun {a b}=>rfl;have hl2:=hv2.len;rw[bU]at hl2
  cases r2 with
  |nil=>
   have e2':l2.length=p1.length:=by rw[e2];simp[ep]
   rw[aV];simp -implicitDefEqProofs [h0,h1,h11,h12,h13,hlt,g1,hpo,aH,bK,hl2,e2']
   exact k2 1 rfl _ _ (by simp) (hg.obj _)
  |cons y r2=>
   have hlt2:p1.length<l2.length:=by rw[e2];simp[ep]
   have g2:=sO hv2 e2;rw[ep]at g2;have hc:=fun S=>Tv x y S;simp only[ac]at hc;rw[aV];simp -implicitDefEqProofs [h0,h1,h2,h11,h12,h13,hlt,g1,hpo,aH,bK,hl2,hlt2,g2,hc];refine bV (fun a=>absurd a (by simp;omega)) (fun _=>bV (fun a=>?_) (fun a=>?_))
   ·have a':eq x y≠0:=by simpa using a
    exact dj (k2 (eq x y) (by simp[iB,a']) _ _ (by simp) (hg.objs _))
   ·have a':eq x y=0:=by simpa using a
    refine ih (p1++[x]) r2 (p2++[y]) (by simp[e1]) (by simp[e2]) (by simp[ep]) _ _ (by simp[h0]) (by simp[h1]) (by simp[h2]) (by simp[h11]) (by simp[h12]) (by simp[hw]) (hg.objs _) (fun hz=>k1 ?_) (fun c hz=>k2 c ?_)
    ·simpa[iB,a']using hz
    ·simpa[iB,a']using hz
def Tx{l1 l2:List aT}{v1 v2:PV}(hv1:bW 2 v1 (l1.map ac))(hv2:bW 2 v2 (l2.map ac))(hl1:l1.length≤maxLen)(S:St):aM T 103 [v1,v2,.fn 104 []] S=some (.int .i64 (dJ l1 l2),S):=by
 refine bP Tn rfl ?_;simp -implicitDefEqProofs [z0,hv1.len];refine Tw hv1 hv2 hl1 l1 [] l2 [] rfl rfl rfl _ S (by simp) (by simp) (by simp) (by simp) (by simp) (by simp) (aN.refl S) (fun hz fr' S' g0 g1 gg=>?_) (fun c hz fr' S' g6 gg=>?_)
 ·simp -implicitDefEqProofs [g0,g1,hv1.len,hv2.len];refine bV (fun a=>?_) (fun a=>?_)
  ·have:dJ l1 l2 = -1:=by simp[dJ,hz];simp at a;omega
   simp[gg,this]
  ·have:dJ l1 l2=0:=by simp[dJ,hz];simp at a;omega
   simp[gg,this]
 ·simp[g6,gg,dJ,hz]
def UA{l1 l2:List aT}{v1 v2:PV}(hv1:bW 2 v1 (l1.map ac))(hv2:bW 2 v2 (l2.map ac))(hl1:l1.length≤maxLen)(S:St):aM T 28 [v1,v2] S=some (.int .i64 (dJ l1 l2),S):=by
 refine bP Tm rfl ?_;simp -implicitDefEqProofs [qL,Tx hv1 hv2 hl1]
def UB:T.fn 218=some (.code qN):=rfl
def UC:T.fn 107=some (.code oB):=rfl
def UD:T.fn 108=some (.code z24):=rfl
def UE:T.fn 219=some (.code oD):=rfl
def UF:T.fn 220=some (.code qb):=rfl
def ni(k:IntKind)(a b:Int):Int:=k.wrap (BitVec.ofInt k.bits a ||| BitVec.ofInt k.bits b).toNat
def kE(k:IntKind)(a b:Int):Int:=k.wrap (BitVec.ofInt k.bits a &&& BitVec.ofInt k.bits b).toNat
@[simp]def aGQ{k:IntKind}{a b:Int}:arith .or (.int k a) (.int k b)=some (.int k (ni k a b)):=by simp[arith,eX,fV,ni]
@[simp]def aGR{k:IntKind}{a b:Int}:arith .and (.int k a) (.int k b)=some (.int k (kE k a b)):=by simp[arith,eX,fV,kE]
def UG{a:Int}:arith .shr (.int .i64 a) (.int .u64 7)=some (.int .i64 (a.fdiv 128)):=rfl
def UH(n:Nat):(n:Int).fdiv 128=((n/128:Nat):Int):=by
 rw[pF _ (by decide)];omega
def iD(n:Nat):IntKind.u8.wrap (n:Int)=((n%256:Nat):Int):=by
 have e:IntKind.u8.wrap (n:Int)=(n:Int)%256:=by
  simp[IntKind.wrap,IntKind.bits,IntKind.signed]
 rw[e];omega
def UI:∀m:Fin 256,ni .u8 ((m.val:Nat):Int) 128=((m.val%128+128:Nat):Int):=by decide +kernel
def UJ(n:Nat):ni .u8 (IntKind.u8.wrap (n:Int)) 128=((n%128+128:Nat):Int):=by
 rw[iD];have:=UI ⟨n%256,by omega⟩;simp only at this;rw[this];omega
def bI(n:Nat):List UInt8:=if n<128 then [UInt8.ofNat n]else UInt8.ofNat (n%128+128)::bI (n/128)
termination_by n
decreasing_by omega
def dD(s:List UInt8):List UInt8:=bI s.length++s
def gF(a b:List UInt8):aI (a++b)=aI a++aI b:=by simp[aI]
def bN(a:List UInt8):(aI a).length=a.length:=by simp[aI]
def iE(a:List UInt8):∀e∈aI a,e.cells.length=1:=by
 intro e he;obtain⟨x,_,rfl⟩:=List.mem_map.1 he;rfl
def sS(a:List UInt8):PV.freeL (aI a)=true:=gv _ (fun _=>rfl) a
def sT(a:List UInt8):PV.frzL (aI a)=aI a:=gS _ (fun _=>rfl) a
def sU{n:Nat}(h:n<256):[PV.int .u8 (n:Int)]=aI [UInt8.ofNat n]:=by
 simp[aI,kA h]
def UK:∀(k n:Nat),n<128^(k+1)→(bI n).length≤k+1:=by
 intro k
 induction k with
 |zero=>intro n h;rw[bI,if_pos (by simpa using h)];simp
 |succ k ih=>
  intro n h;rw[bI];split
  ·simp
  ·have:=ih (n/128) (by rw[nb (by decide)];rw[vr]at h;exact h);simp;omega
def dK{n:Nat}(h:n<9223372036854775808):(bI n).length≤9:=UK 8 n (by omega)
def UL{s:List UInt8}{v:PV}(hv:cF 1 v (aI s)){m:Nat}(hs:s.length+m≤134217728){S0 S:St}(hg:aN S0 S) :
  ∃v' S',aM T 218 [v,.int .i64 (m:Int)] S=some (v',S')∧ad S0 1 S' v' (aI s)∧S'.objs=S.objs:=by
 obtain⟨v',S',a1,a2,a3⟩:=(rD 1 [] hg).app (bytes:=1) (aI s) (by rw[bN];simp;omega);have hw:IntKind.i64.wrap ((s.length:Int)+(m:Int))=(s.length:Int)+(m:Int):=au (by omega) (by omega);have hlen:=hv.len;rw[bN]at hlen;have h0:(0:Int)≤(s.length:Int)+(m:Int):=by omega
 have h1:(s.length:Int)+(m:Int)≤140737488355328:=by omega
 refine⟨v',S',?_,by simpa using a2,a3⟩;refine bP UB rfl ?_;simp only[cO]at a1;simp -implicitDefEqProofs [qN,hlen,hw,aH,h0,h1,hv.appdS,a1,ak]
def UM{s:List UInt8}{S0:St}{K:List Kt}{Q:Fr→St→Prop}:∀(n:Nat) (p:List UInt8),p.length+(bI n).length≤134217728→n<9223372036854775808→∀(fr:Fr) (S:St),
  fr 1=.int .i64 (n:Int)→ad S0 1 S (fr 6) (aI p) →
  (∀fr' S' (m:Nat) q,fr' 1=.int .i64 (m:Int)→m<128→ad S0 1 S' (fr' 6) (aI q)→q++[UInt8.ofNat m]=p++bI n→S'.objs=S.objs→Ok (aE T K fr' S') Q) →
  Ok (aE T (.lp xO::.blk 0::K) fr S) Q:=by
 intro n
 induction n using Nat.strongRecOn with
 |_ n ih=>
  intro p hp hn fr S h1 ha k;rw[aV];by_cases h:n<128
  ·have hlt:¬(128:Int)≤(n:Int):=by omega
   simp -implicitDefEqProofs [h1,hlt];refine k _ _ n p (by simp[h1]) h (by simpa using ha) ?_ rfl;rw[bI,if_pos h]
  ·have hlt:(128:Int)≤(n:Int):=by omega
   have hu:bI n=UInt8.ofNat (n%128+128)::bI (n/128):=by rw[bI,if_neg h]
   have hb:=sU (n:=n%128+128) (by omega);rw[hu]at hp;simp only[bE]at hp;obtain⟨v',S',a1,a2,a3⟩:=(ha.arrs [(1,1)]).app (bytes:=1) [PV.int .u8 ((n%128+128:Nat):Int)] (by rw[bN];simp;omega);have ho:=UJ n;have a1':dF 1 1 ⟨S.objs,S.tips++[(1,1)]⟩ (fr 6) [PV.int .u8 (ni .u8 (IntKind.u8.wrap (n:Int)) 128)]=some (v',S'):=by rw[ho];exact a1
   simp -implicitDefEqProofs [h1,hlt,aH,cA,cc,a1',UG,UH];refine ih (n/128) (by omega) (p++[UInt8.ofNat (n%128+128)]) (by simp;omega) (by omega) _ S' (by simp) ?_ (fun fr' S'' m q q1 q2 q3 q4 q5=>k fr' S'' m q q1 q2 q3 ?_ (by rw[q5,a3]))
   ·rw[gF,←hb];simpa using a2
   ·rw[q4,hu];simp
def mG{s:List UInt8}{v:PV}(hv:cF 1 v (aI s)){n:Nat}(hn:n<9223372036854775808)(hs:s.length+20≤134217728){S0 S:St}(hg:aN S0 S) :
  ∃v' S',aM T 107 [v,.int .i64 (n:Int)] S=some (.tup [v',.int .i64 0],S')∧ad S0 1 S' v' (aI (s++bI n))∧S'.objs=S.objs:=by
 obtain⟨v1,S1,e1,e2,e3⟩:=UL hv (m:=9) (by omega) hg;have e1':aM T 218 [v,.int .i64 9] S=some (v1,S1):=e1;have hu:=dK hn;have hlt:¬(n:Int)<0:=by omega
 have key:=gt (T:=T) (f:=107) (c:=oB) UC (args:=[v,.int .i64 (n:Int)]) (S:=S) rfl
  (R:=fun r S2=>∃v',r=.tup [v',.int .i64 0]∧ad S0 1 S2 v' (aI (s++bI n))∧S2.objs=S.objs) ?_
 ·obtain⟨r,S2,h1,v',rfl,h2,h3⟩:=key;exact⟨v',S2,h1,h2,h3⟩
 simp -implicitDefEqProofs [oB,hlt,e1'];refine UM (s:=s) (S0:=S0) n s (by omega) hn _ S1 (by simp) (by simpa using e2) (fun fr' S' m q q1 q2 q3 q4 q5=>?_);have hb:=sU (n:=m) (by omega)
 have hql:q.length+1=s.length+(bI n).length:=by
  have:=congrArg List.length q4;simpa using this
 obtain⟨v',S2,a1,a2,a3⟩:=(q3.arrs [(1,1)]).app (bytes:=1) [PV.int .u8 (m:Int)] (by rw[bN];simp;omega);have hwm:IntKind.u8.wrap (m:Int)=(m:Int):=vI (by omega) (by omega);simp -implicitDefEqProofs [q1,hwm,aH,cA,cc,a1,ak];refine⟨?_,by rw[a3,q5,e3]⟩;rw[←q4,gF,←hb];exact a2
def UN{s t:List UInt8}{v:PV}(hv:cF 1 v (aI s))(ht:t.length≤65535)(hs:s.length+20≤67108864){S0 S:St}(hg:aN S0 S) :
  ∃v' S',aM T 108 [v,.str t] S=some (.tup [v',.int .i64 0],S')∧ad S0 1 S' v' (aI (s++dD t))∧S'.objs=S.objs:=by
 obtain⟨v1,S1,e1,e2,e3⟩:=mG hv (n:=t.length) (by omega) (by omega) hg;have hu:=dK (n:=t.length) (by omega);have hlt:¬(65535:Int)<(t.length:Int):=by omega
 obtain⟨v2,S2,a1,a2,a3⟩:=e2.app (bytes:=1) (aI t) (by rw[bN,bN,aZ];omega);refine⟨v2,S2,?_,?_,by rw[a3,e3]⟩
 ·refine bP UD rfl ?_;simp -implicitDefEqProofs [z24,hlt,e1,a1,ak]
 ·rw[←gF,List.append_assoc]at a2;exact a2
def UO(s:List UInt8):jg (aI s)=some s:=by
 induction s with
 |nil=>rfl
 |cons b s ih=>
  simp only[aI,cV,jg]at ih ⊢;rw[ih];simp
def BT{v:PV}{s:List UInt8}(h:cF 1 v (aI s)):fx v=some (.str s):=by
 rcases h with⟨rfl,h⟩|⟨tip,sp,rfl,_⟩
 ·cases s with
  |nil=>rfl
  |cons b s=>simp[aI]at h
 ·simp only[fx,UO]
def UP{S0:St}{K:List Kt}{Q:Fr→St→Prop}:∀(n:Nat) (p:List UInt8),p.length+(bI n).length≤134217728→n<9223372036854775808→∀(fr:Fr) (S:St),
  fr 0=.int .i64 (n:Int)→ad S0 1 S (fr 3) (aI p) →
  (∀fr' S' (m:Nat) q,fr' 0=.int .i64 (m:Int)→m<128→ad S0 1 S' (fr' 3) (aI q)→q++[UInt8.ofNat m]=p++bI n→S'.objs=S.objs→Ok (aE T K fr' S') Q) →
  Ok (aE T (.lp yJ::.blk 0::K) fr S) Q:=by
 intro n
 induction n using Nat.strongRecOn with
 |_ n ih=>
  intro p hp hn fr S h1 ha k;rw[aV];by_cases h:n<128
  ·have hlt:¬(127:Int)<(n:Int):=by omega
   simp -implicitDefEqProofs [h1,hlt];refine k _ _ n p (by simp[h1]) h (by simpa using ha) ?_ rfl;rw[bI,if_pos h]
  ·have hlt:(127:Int)<(n:Int):=by omega
   have hu:bI n=UInt8.ofNat (n%128+128)::bI (n/128):=by rw[bI,if_neg h]
   have hb:=sU (n:=n%128+128) (by omega);rw[hu]at hp;simp only[bE]at hp;obtain⟨v',S',a1,a2,a3⟩:=(ha.arrs [(1,1)]).app (bytes:=1) [PV.int .u8 ((n%128+128:Nat):Int)] (by rw[bN];simp;omega)
   have hm:IntKind.u8.wrap (IntKind.i64.wrap ((n:Int).tmod 128+128))=((n%128+128:Nat):Int):=by
    have e1:(n:Int).tmod 128=((n%128:Nat):Int):=by rw[lx (by omega)];omega
    rw[e1,au (by omega) (by omega),show((n%128:Nat):Int)+128=((n%128+128:Nat):Int)by omega,vI (by omega) (by omega)]
   have hd:IntKind.i64.wrap ((n:Int).tdiv 128)=((n/128:Nat):Int):=by
    have e1:(n:Int).tdiv 128=((n/128:Nat):Int):=by rw[Ap (by omega)];omega
    rw[e1,au (by omega) (by omega)]
   have hd2:IntKind.i64.wrap ((n:Int)/128)=(n:Int)/128:=by rw[au]<;>omega
   have a1':dF 1 1 ⟨S.objs,S.tips++[(1,1)]⟩ (fr 3) [PV.int .u8 (IntKind.u8.wrap (IntKind.i64.wrap ((n:Int).tmod 128+128)))]=some (v',S'):=by rw[hm];exact a1
   simp -implicitDefEqProofs [h1,hlt,aH,cA,cc,a1',hd,hd2];refine ih (n/128) (by omega) (p++[UInt8.ofNat (n%128+128)]) (by simp;omega) (by omega) _ S' (by simp[hd2]) ?_ (fun fr' S'' m q q1 q2 q3 q4 q5=>k fr' S'' m q q1 q2 q3 ?_ (by rw[q5,a3]))
   ·rw[gF,←hb];simpa using a2
   ·rw[q4,hu];simp
def wD{n:Nat}(hn:n<9223372036854775808){S0 S:St}(hg:aN S0 S) :
  ∃v' S',aM T 219 [.int .i64 (n:Int)] S=some (v',S')∧ad S0 1 S' v' (aI (bI n))∧S'.objs=S.objs:=by
 have hu:=dK hn;have key:=gt (T:=T) (f:=219) (c:=oD) UE (args:=[.int .i64 (n:Int)]) (S:=S) rfl (R:=fun r S2=>ad S0 1 S2 r (aI (bI n))∧S2.objs=S.objs) ?_
 ·obtain⟨r,S2,h1,h2,h3⟩:=key;exact⟨r,S2,h1,h2,h3⟩
 simp -implicitDefEqProofs [oD];refine UP (S0:=S0) n [] (by simp;omega) hn _ S (by simp) (by simpa[aI]using oS 1 hg) (fun fr' S' m q q1 q2 q3 q4 q5=>?_);have hb:=sU (n:=m) (by omega)
 have hql:q.length+1=(bI n).length:=by
  have:=congrArg List.length q4;simpa using this
 obtain⟨v',S2,a1,a2,a3⟩:=(q3.arrs [(1,1)]).app (bytes:=1) [PV.int .u8 (m:Int)] (by rw[bN];simp;omega);have hwm:IntKind.u8.wrap (m:Int)=(m:Int):=vI (by omega) (by omega);simp -implicitDefEqProofs [q1,hwm,aH,cA,cc,a1,ak];refine⟨?_,by rw[a3,q5]⟩;have:bI n=q++[UInt8.ofNat m]:=by simpa using q4.symm
 rw[this,gF,←hb];exact a2
structure BU(v:PV)(s:List UInt8):Prop where
 isl:cF 1 v (aI s)
 free:v.free=true
 frz:v.frz=v
def UQ{S0 S:St}{v:PV}{s:List UInt8}(ha:ad S0 1 S v (aI s)):BU (gu v (aI s)) s:=by
 refine⟨aAM ha (iE _),?_,?_⟩
 ·rcases ha.acc with⟨h,_⟩|⟨id,_,h,_⟩
  ·rw[h];rfl
  ·rw[h];simp[gu,PV.free,sS,PV.freeL]
 ·rcases ha.acc with⟨h,_⟩|⟨id,_,h,_⟩
  ·rw[h];rfl
  ·rw[h];simp[gu,PV.frz,sT,PV.frzL]
def UR{s:List UInt8}(hs:s.length≤67108864):∃v',di T 220 [.str s]=some v'∧BU v' (dD s):=by
 obtain⟨v1,S1,e1,e2,e3⟩:=wD (n:=s.length) (by omega) (aN.refl bT);have hu:=dK (n:=s.length) (by omega);obtain⟨v2,S2,a1,a2,a3⟩:=e2.app (bytes:=1) (aI s) (by rw[bN,bN];omega);rw[←gF]at a2;have hb:=UQ a2;refine⟨_,?_,hb⟩;refine oR ?_ hb.free hb.frz;refine bP UF rfl ?_;simp -implicitDefEqProofs [qb,e1,a1];exact a2.fin (sS _) (sT _)
def gG{n:Nat}(h:n<18446744073709551616):IntKind.u64.wrap (n:Int)=(n:Int):=by
 have e:IntKind.u64.wrap (n:Int)=(n:Int)%18446744073709551616:=by
  simp[IntKind.wrap,IntKind.bits,IntKind.signed]
 rw[e];omega
end Ps
set_option linter.defProp false
namespace Ps
set_option linter.unusedSimpArgs false
set_option linter.unusedVariables false
open Go
def US:T.fn 260=some (.code qS):=rfl
def UT:T.fn 329=some (.code qV):=rfl
def eu(t v:Int):Bool:=decide (0≤t)&&decide (t≤1099511627776)&&decide (-1152921504606846976≤v)&&decide (v≤1152921504606846976)
def pU(t v:Int):PV:=.agg [.int .i64 t,.int .i64 v]
def UU(t v:Int)(S:St):aM T 260 [pU t v] S=some (.bool (eu t v),S):=by
 refine bP US rfl ?_;have hp1:∀(a:PV) (m:List PV),az false 1 (a::m)=some a:=fun a m=>by simp[az]
 simp -implicitDefEqProofs [qS,pU,aH,hp1,eu]
def UV(t v:Int)(S:St):aM T 329 [pU t v] S=some (.bool (eu t v),S):=by
 refine bP UT rfl ?_;have hp1:∀(a:PV) (m:List PV),az false 1 (a::m)=some a:=fun a m=>by simp[az]
 simp -implicitDefEqProofs [qV,pU,aH,hp1,eu]
def UW:T.fn 270=some (.code qP):=rfl
def UX:T.fn 342=some (.code qZ):=rfl
def jZ(k:IntKind)(a b:Int):Int:=k.wrap (BitVec.ofInt k.bits a ^^^ BitVec.ofInt k.bits b).toNat
@[simp]def aGS{k:IntKind}{a b:Int}:arith .xor (.int k a) (.int k b)=some (.int k (jZ k a b)):=by simp[arith,eX,fV,jZ]
def UY{a:Int}:arith .shr (.int .u32 a) (.int .u64 1)=some (.int .u32 (a.fdiv 2)):=rfl
def kl(c:Int):Int:=jZ .u32 (c.fdiv 2) (kE .u32 2197175160 (IntKind.u32.wrap (-kE .u32 c 1)))
def km:Nat→Int→Int
 |0,c=>c
 |n+1,c=>km n (kl c)
def iS(c:Int)(b:UInt8):Int:=km 8 (jZ .u32 c (IntKind.u32.wrap (b.toNat:Int)))
def pV(s:List UInt8):Int:=s.foldl iS 4294967295
def kF(s:List UInt8):Int:=IntKind.u32.wrap (BitVec.ofInt 32 4294967295 ^^^ BitVec.ofInt 32 (pV s)).toNat
def q1{a:PV}{m:List PV}:az false 1 (a::m)=some a:=by simp[az]
def UZ{o:List (List PV)}{c:Int}{t:List (Nat×Nat)}:aM T 342 [.ptr o.length 0] ⟨o++[[.int .u32 c]],t⟩=some (.tup [],⟨o++[[.int .u32 (kl c)]],t⟩):=by
 refine bP UX rfl ?_;have ho:(o++[[PV.int .u32 c]])[o.length]?=some [.int .u32 c]:=by simp
 simp -implicitDefEqProofs [qZ,aH,zC,q1,UY,ho,bK];rw[tw];exact Ah (b:=false) (S:=⟨o++[[.int .u32 c]],t⟩) (S1:=⟨o++[[.int .u32 (kl c)]],t⟩) (r:=.tup []) (by simp) rfl rfl rfl (fun _ _=>lX)
def Ua{v:PV}{o:List (List PV)}{t:List (Nat×Nat)}{K:List Kt}{Q:Fr→St→Prop}:∀(n j:Nat),n+j=8→∀(fr:Fr) (c:Int),fr 4=.fn 342 [.ptr o.length 0]→fr 18=.int .i64 (j:Int) →
  (∀fr',fr' 3=fr 3→fr' 4=fr 4→fr' 8=fr 8→fr' 9=fr 9→fr' 10=fr 10→Ok (aE T K fr' ⟨o++[[.int .u32 (km n c)]],t⟩) Q) →
  Ok (aE T (.lp tL::.blk 2::K) fr ⟨o++[[.int .u32 c]],t⟩) Q:=by
 intro n
 induction n with
 |zero=>
  intro j hj fr c h4 h18 k;have hj:j=8:=by omega
  subst hj;rw[aV];simp -implicitDefEqProofs [h18]
  exact k _ (by simp) (by simp) (by simp) (by simp) (by simp)
 |succ n ih=>
  intro j hj fr c h4 h18 k;have hlt:(j:Int)<8:=by omega
  have hw:=jt (a:=j) (by omega)
  have hL:∀fr',fr' 3=fr 3→fr' 4=fr 4→fr' 8=fr 8→fr' 9=fr 9→fr' 10=fr 10→fr' 18=.int .i64 ((j+1:Nat):Int)→Ok (aE T (.lp tL::.blk 2::K) fr' ⟨o++[[.int .u32 (kl c)]],t⟩) Q:=by
   intro fr' g3 g4 g8 g9 g10 g18;exact ih (j+1) (by omega) fr' (kl c) (by rw[g4,h4]) g18 (fun fr2 q3 q4 q8 q9 q10=>k fr2 (q3.trans g3) (q4.trans g4) (q8.trans g8) (q9.trans g9) (q10.trans g10))
  clear k ih;rw[aV];simp -implicitDefEqProofs [h18,h4,hlt,sA,UZ];exact hL _ (by simp) (by simp[h4]) (by simp) (by simp) (by simp) (by simp[hw])
def Ub{s:List UInt8}{v:PV}(hv:bW 1 v (aI s))(hs:s.length≤67108864){o:List (List PV)}{t:List (Nat×Nat)}{K:List Kt}{Q:Fr→St→Prop}:∀(rest pre:List UInt8),s=pre++rest→∀(fr:Fr) (c:Int),
  fr 3=.ptr o.length 0→fr 4=.fn 342 [.ptr o.length 0]→fr 8=v→fr 9=.int .i64 s.length→fr 10=.int .i64 (pre.length:Int) →
  (∀fr',fr' 3=.ptr o.length 0→Ok (aE T K fr' ⟨o++[[.int .u32 (rest.foldl iS c)]],t⟩) Q) →
  Ok (aE T (.lp tM::.blk 0::K) fr ⟨o++[[.int .u32 c]],t⟩) Q:=by
 intro rest
 induction rest with
 |nil=>
  intro pre hp fr c h3 h4 h8 h9 h10 k;rw[dR]at hp;subst hp;rw[aV];simp -implicitDefEqProofs [h9,h10]
  exact k _ (by simp[h3])
 |cons b rest ih=>
  intro pre hp fr c h3 h4 h8 h9 h10 k;have hi:pre.length<s.length:=by rw[hp];simp
  have hg:=hv.get pre.length (by rw[bN];exact hi) .i64;have hgx:(aI s)[pre.length]'(by rw[bN];exact hi)=.int .u8 b.toNat:=by simp[aI,hp]
  rw[hgx,Aa]at hg;have hw:=jt (a:=pre.length) (by omega)
  have hL:∀fr',fr' 3=.ptr o.length 0→fr' 4=.fn 342 [.ptr o.length 0]→fr' 8=v→fr' 9=.int .i64 s.length→fr' 10=.int .i64 ((pre.length+1:Nat):Int)→Ok (aE T (.lp tM::.blk 0::K) fr' ⟨o++[[.int .u32 (iS c b)]],t⟩) Q:=by
   intro fr' g3 g4 g8 g9 g10;exact ih (pre++[b]) (by simp[hp]) fr' _ g3 g4 g8 g9 (by simpa using g10) k
  clear k ih;have ho:(o++[[PV.int .u32 c]])[o.length]?=some [.int .u32 c]:=by simp
  rw[aV];simp -implicitDefEqProofs [-Xs,h3,h8,h9,h10,hi,hg,q1,aH,zC,ho,bK];simp -implicitDefEqProofs;refine Ua (v:=v) 8 0 rfl _ _ (by simp[h4]) (by simp) (fun fr' g3 g4 g8 g9 g10=>?_);simp at g3 g4 g8 g9 g10;simp -implicitDefEqProofs [g10,h10];exact hL _ (by simp[g3,h3]) (by simp[g4,h4]) (by simp[g8,h8]) (by simp[g9,h9]) (by simp[hw])
def Uc{s:List UInt8}{v:PV}(hv:bW 1 v (aI s))(hs:s.length≤67108864)(S:St):aM T 270 [v] S=some (.int .u32 (kF s),S):=by
 have hlen:=hv.len;rw[bN]at hlen;refine bP UW rfl ?_;simp -implicitDefEqProofs [qP,aH,cj,bK,hlen];refine Ub hv hs (o:=S.objs) (t:=S.tips) s [] rfl _ _ (by simp) (by simp) (by simp) (by simp) (by simp) (fun fr' g3=>?_);simp -implicitDefEqProofs [g3,zC,q1];have hg:aN S ⟨S.objs++[[.int .u32 (s.foldl iS 4294967295)]],S.tips⟩:=(aN.refl S).obj _;rw[QU hg];rfl
end Ps
set_option linter.defProp false
namespace Ps
set_option linter.unusedSimpArgs false
set_option linter.unusedVariables false
open Go
def fa(bs:List UInt8)(i:Nat):Bool:=(bs.getD (i/8) 0).toNat.testBit (7-i%8)
def Pk(bs:List UInt8)(l:List Bool):Prop:=bs.length=(l.length+7)/8∧∀i,i<8*bs.length→fa bs i=l.getD i false
def eW(k:Nat):UInt8:=UInt8.ofNat (2^(7-k))
def iz(bs:List UInt8)(n:Nat)(b:Bool):List UInt8:=
 let bs1:=if n%8=0 then bs++[0]else bs
 if b then bs1.set (n/8) (bs1.getD (n/8) 0 ||| eW (n%8))else bs1
def gH:List UInt8→Nat→List Bool→List UInt8
 |bs,_,[]=>bs
 |bs,n,b::l=>gH (iz bs n b) (n+1) l
def cX(u k:Nat):List Bool:=(List.range k).map fun i=>u.testBit (k-1-i)
def bz(l:List Bool):List UInt8:=gH [] 0 l
def Us{l:List UInt8}{i j:Nat}{x:UInt8}(h:i<l.length):(l.set i x).getD j 0=if j=i then x else l.getD j 0:=by
 simp only[ci,vZ];by_cases e:i=j
 ·subst e;simp[h]
 ·rw[if_neg e,if_neg (Ne.symm e)]
def Bm{bs:List UInt8}{i:Nat}:fa (bs++[0]) i=fa bs i:=by
 unfold fa
 congr 2
 simp only[ci];by_cases h:i/8<bs.length
 ·rw[bF h]
 ·rw[eJ (by omega),dI (l:=bs) (by omega)]
  cases e:i/8-bs.length with
  |zero=>rfl
  |succ k=>simp
def Bn{bs:List UInt8}{i:Nat}(h:8*bs.length≤i):fa bs i=false:=by
 unfold fa;rw[ci,dI (by omega)];simp
def Ut{k:Nat}(h:k<8):(eW k).toNat=2^(7-k):=by
 unfold eW;have:∀k,k<8→(UInt8.ofNat (2^(7-k))).toNat=2^(7-k):=by decide
 exact this k h
def Bo{bs:List UInt8}{n:Nat}{b:Bool}(h:bs.length=(n+7)/8):(iz bs n b).length=(n+1+7)/8:=by
 unfold iz;by_cases e:n%8=0
 ·simp only[if_pos e];split<;>simp only[vc,aZ,bE,cO]<;>omega
 ·simp only[if_neg e];split<;>(try simp only[vc])<;>omega
def Uu{bs:List UInt8}{l:List Bool}(h:Pk bs l)(b:Bool):Pk (iz bs l.length b) (l++[b]):=by
 obtain⟨h1,h2⟩:=h;have hl:=Bo (b:=b) h1;refine⟨by simpa using hl,fun i hi=>?_⟩;rw[hl]at hi
 have hall:∀i,fa bs i=l.getD i false:=fun i=>by
  by_cases e:i<8*bs.length
  ·exact h2 i e
  ·rw[Bn (by omega),ci,dI (by omega)];rfl
 obtain⟨bs1,hbs1⟩:∃x,x=if l.length%8=0 then bs++[0]else bs:=⟨_,rfl⟩
 have hb1:∀i,fa bs1 i=l.getD i false:=fun i=>by
  rw[hbs1];split
  ·rw[Bm];exact hall i
  ·exact hall i
 have hlt:l.length/8<bs1.length:=by
  rw[hbs1];split
  ·simp;omega
  ·omega
 have hput:iz bs l.length b=if b then bs1.set (l.length/8) (bs1.getD (l.length/8) 0 ||| eW (l.length%8))else bs1:=by
  rw[hbs1];rfl
 have happ:(l++[b]).getD i false=if i=l.length then b else l.getD i false:=by
  simp only[ci];by_cases e:i<l.length
  ·rw[bF e,if_neg (by omega)]
  ·by_cases e2:i=l.length
   ·subst e2;simp
   ·rw[if_neg e2,dI (by simp;omega),dI (by omega)]
 rw[hput,happ]
 cases b with
 |false=>
  simp only[bp,if_false];rw[hb1];split
  ·rename_i e;rw[e,ci,dI (aX _)];rfl
  ·rfl
 |true=>
  simp only[if_true];unfold fa;rw[Us hlt];by_cases e:i/8=l.length/8
  ·rw[if_pos e];have e1:=hb1 i;unfold fa at e1;rw[UInt8.toNat_or,Nat.testBit_or,Ut (kB _ (by decide)),Nat.testBit_two_pow,←e,e1];by_cases e2:i=l.length
   ·subst e2;simp
   ·rw[if_neg e2];have:¬(7-l.length%8=7-i%8):=by omega
    simp[this]
  ·rw[if_neg e,if_neg (by intro q;subst q;exact e rfl)];exact hb1 i
theorem wJ:∀{m:List Bool} {bs:List UInt8} {l:List Bool},Pk bs l→Pk (gH bs l.length m) (l++m)
 | [],bs,l,h=>by simpa[gH]using h
 |b::m,bs,l,h=>by
  have:=wJ (m:=m) (Uu h b);simpa[gH]using this
def Uv:Pk [] []:=⟨rfl,fun i h=>by simp at h⟩
def nk(l:List Bool):Pk (bz l) l:=by
 have:=wJ (m:=l) Uv;simpa[bz]using this
def Uw{a b:UInt8}(h:∀i,i<8→a.toNat.testBit (7-i)=b.toNat.testBit (7-i)):a=b:=by
 apply UInt8.toNat_inj.1;apply Nat.eq_of_testBit_eq;intro j;by_cases e:j<8
 ·have:=h (7-j) (by omega)
  rwa [show 7-(7-j)=j by omega]at this
 ·have ha:a.toNat<2^j:=jU a.toNat_lt (BD (by decide) (by omega:8≤j));have hb:b.toNat<2^j:=jU b.toNat_lt (BD (by decide) (by omega:8≤j));rw[Nat.testBit_lt_two_pow ha,Nat.testBit_lt_two_pow hb]
def Ux{a b:List UInt8}{l:List Bool}(ha:Pk a l)(hb:Pk b l):a=b:=by
 obtain⟨a1,a2⟩:=ha;obtain⟨b1,b2⟩:=hb;apply List.ext_getElem (a1.trans b1.symm);intro i h1 h2;apply Uw;intro k hk;have x:=a2 (8*i+k) (by omega);have y:=b2 (8*i+k) (by omega);rw[←y]at x;unfold fa at x;rw[show(8*i+k)/8=i by omega,show(8*i+k)%8=k by omega]at x;simpa[ci,h1,h2]using x
def sW(l m:List Bool):bz (l++m)=gH (bz l) l.length m:=
 Ux (nk _) (wJ (nk l))
def sX(l:List Bool):(bz l).length=(l.length+7)/8:=(nk l).1
def pX(u k:Nat):(cX u k).length=k:=by simp[cX]
def Bp(u k:Nat):cX u (k+1)=u.testBit k::cX u k:=by
 apply List.ext_getElem (by simp[cX]);intro i h1 h2
 cases i with
 |zero=>simp[cX]
 |succ i=>
  simp only[cX,List.getElem_map,List.getElem_range,List.getElem_cons_succ]
  congr 1
  omega
def Uy{bs:List UInt8}{l:List Bool}(h:Pk bs l)(hn:l.length%8≠0):(bs.getD (bs.length-1) 0).toNat*2^(l.length%8)%256=0:=by
 obtain⟨h1,h2⟩:=h;have hk:l.length%8<8:=kB _ (by decide)
 have hz:∀j,j<8-l.length%8→(bs.getD (bs.length-1) 0).toNat.testBit j=false:=by
  intro j hj;have:=h2 (8*(bs.length-1)+(7-j)) (by omega);unfold fa at this;rw[show(8*(bs.length-1)+(7-j))/8=bs.length-1 by omega,show 7-(8*(bs.length-1)+(7-j))%8=j by omega]at this;rw[this,ci,dI (by omega)];rfl
 apply Nat.eq_of_testBit_eq;intro i;rw[show(256:Nat)=2^8 by rfl,Nat.testBit_mod_two_pow,Nat.zero_testBit];by_cases e:i<8
 ·rw[nc,Nat.testBit_two_pow_mul];by_cases e2:l.length%8≤i
  ·rw[hz (i-l.length%8) (by omega)];simp
  ·simp[e2]
 ·simp[e]
end Ps
