/- Which label set is ahead; numbers and texts laid down and read (out of the label seats texts). -/
import Derived.Test.YtpjmpaidcidjgaaGreatDoorAbbKt
import Derived.Test.YtpjmpaidcidjgaaGreatDoorBAKt
set_option linter.defProp false
namespace Ps
set_option linter.unusedSimpArgs false
set_option linter.unusedVariables false
open Go
def Ql:T.fn 28=some (.code pK):=rfl
def Qm:T.fn 103=some (.code z0):=rfl
def Qn:T.fn 104=some (.code ou):=rfl
def Qo:T.fn 105=some (.code z57):=rfl
def Qp:T.fn 106=some (.code z4):=rfl
def Qq:T.fn 217=some (.code oz):=rfl
def Qr(s:List UInt8):ef T 217 [.str s]=some (.bool false):=by
 refine xV ?_ rfl rfl;refine cM Qq rfl ?_;simp -implicitDefEqProofs [oz]
def Qs(a b:List UInt8):ef T 106 [.str a,.str b]=some (.int .i64 (iJ a b)):=by
 refine xV ?_ rfl rfl;refine cM Qp rfl ?_;simp -implicitDefEqProofs [z4,Qr];refine cF (fun h=>?_) (fun h=>cF (fun h2=>?_) (fun h2=>?_))
 ·simp[iJ,h]
 ·simp[iJ,h]at h2 ⊢;simp[h2]
 ·simp[iJ,h]at h2 ⊢;simp[h2]
def Qt(a b:Int)(tip:Option (Nat×Nat))(S:St):aS T 105 [.sl tip [.int .i64 a,.int .i64 b] []] S=some (.int .i64 (if a=0 then b else a),S):=by
 refine cM Qo rfl ?_;have w1:IntKind.i64.wrap 1=1:=by decide
 have w2:IntKind.i64.wrap 2=2:=by decide
 have hp1:∀{a:PV} {m:List PV},ap false 1 (a::m)=some a:=fun {a m}=>by simp[ap]
 simp -implicitDefEqProofs [z57];rw[bH];simp -implicitDefEqProofs [hp1,w1];refine cF (fun h=>?_) (fun h=>?_)
 ·simp at h;simp[h]
 ·simp at h;rw[bH];simp -implicitDefEqProofs [hp1,w1,w2];refine cF (fun h2=>?_) (fun h2=>?_)
  ·simp at h2;simp[h]
  ·simp at h2;rw[bH];simp -implicitDefEqProofs [h,h2]
def Qu(x y:ad)(S:St):aS T 104 [az x,az y] S=some (.int .i64 (lU x y),S):=by
 refine cM Qn rfl ?_;have hp1:∀{a:PV} {m:List PV},ap false 1 (a::m)=some a:=fun {a m}=>by simp[ap]
 simp -implicitDefEqProofs [ou,aH,az,hp1,Qs,cx,eP,Qt];rw[NZ ((aV.refl S).arr _)];simp[lU]
def Qv{l1 l2:List ad}{v1 v2:PV}(hv1:cn 2 v1 (l1.map az))(hv2:cn 2 v2 (l2.map az))(hl1:l1.length≤maxLen){K:List Kt}{Q:Fr→St→Prop}{S0:St}:∀(r1 p1 r2 p2:List ad),l1=p1++r1→l2=p2++r2→p2.length=p1.length→∀(fr:Fr) (S:St),
  fr 0=v1→fr 1=v2→fr 2=.fn 104 []→fr 11=v1→fr 12=.int .i64 l1.length→fr 13=.int .i64 p1.length→aV S0 S →
  (jZ r1 r2=none→∀fr' S',fr' 0=v1→fr' 1=v2→aV S0 S'→Ok (aF T K fr' S') Q)→(∀c,jZ r1 r2=some c→∀fr' S',fr' 6=.int .i64 c→aV S0 S'→Q fr' S') →
  Ok (aF T (.lp vE::.blk 0::K) fr S) Q:=by
 intro r1
 induction r1 with
 |nil=>
  intro p1 r2 p2 e1 e2 ep fr S h0 h1 h2 h11 h12 h13 hg k1 k2;rw[dn]at e1;subst e1;rw[bH];simp -implicitDefEqProofs [h0,h1,h11,h12,h13]
  exact k1 rfl _ _ (by simp[h0]) (by simp[h1]) hg
 |cons x r1 ih=>
  intro p1 r2 p2 e1 e2 ep fr S h0 h1 h2 h11 h12 h13 hg k1 k2;have hlt:p1.length<l1.length:=by rw[e1];simp
  have g1:=zi hv1 e1;unfold maxLen at hl1;have hw:=qX (a:=p1.length) (by omega);have hpo:∀{a b:PV},ap true 2 [a,b]=some (.agg [a,b]):=fun {a b}=>rfl;have hl2:=hv2.len;rw[dN]at hl2
  cases r2 with
  |nil=>
   have e2':l2.length=p1.length:=by rw[e2];simp[ep]
   rw[bH];simp -implicitDefEqProofs [h0,h1,h11,h12,h13,hlt,g1,hpo,aH,bB,hl2,e2']
   exact k2 1 rfl _ _ (by simp) (hg.obj _)
  |cons y r2=>
   have hlt2:p1.length<l2.length:=by rw[e2];simp[ep]
   have g2:=zi hv2 e2;rw[ep]at g2;have hc:=fun S=>Qu x y S;simp only[az]at hc;rw[bH];simp -implicitDefEqProofs [h0,h1,h2,h11,h12,h13,hlt,g1,hpo,aH,bB,hl2,hlt2,g2,hc];refine cF (fun a=>absurd a (by simp;omega)) (fun _=>cF (fun a=>?_) (fun a=>?_))
   ·have a':lU x y≠0:=by simpa using a
    exact hU (k2 (lU x y) (by simp[jZ,a']) _ _ (by simp) (hg.objs _))
   ·have a':lU x y=0:=by simpa using a
    refine ih (p1++[x]) r2 (p2++[y]) (by simp[e1]) (by simp[e2]) (by simp[ep]) _ _ (by simp[h0]) (by simp[h1]) (by simp[h2]) (by simp[h11]) (by simp[h12]) (by simp[hw]) (hg.objs _) (fun hz=>k1 ?_) (fun c hz=>k2 c ?_)
    ·simpa[jZ,a']using hz
    ·simpa[jZ,a']using hz
def Qw{l1 l2:List ad}{v1 v2:PV}(hv1:cn 2 v1 (l1.map az))(hv2:cn 2 v2 (l2.map az))(hl1:l1.length≤maxLen)(S:St):aS T 103 [v1,v2,.fn 104 []] S=some (.int .i64 (ft l1 l2),S):=by
 refine cM Qm rfl ?_;simp -implicitDefEqProofs [z0,hv1.len];refine Qv hv1 hv2 hl1 l1 [] l2 [] rfl rfl rfl _ S (by simp) (by simp) (by simp) (by simp) (by simp) (by simp) (aV.refl S) (fun hz fr' S' g0 g1 gg=>?_) (fun c hz fr' S' g6 gg=>?_)
 ·simp -implicitDefEqProofs [g0,g1,hv1.len,hv2.len];refine cF (fun a=>?_) (fun a=>?_)
  ·have:ft l1 l2 = -1:=by simp[ft,hz];simp at a;omega
   simp[gg,this]
  ·have:ft l1 l2=0:=by simp[ft,hz];simp at a;omega
   simp[gg,this]
 ·simp[g6,gg,ft,hz]
def Qx{l1 l2:List ad}{v1 v2:PV}(hv1:cn 2 v1 (l1.map az))(hv2:cn 2 v2 (l2.map az))(hl1:l1.length≤maxLen)(S:St):aS T 28 [v1,v2] S=some (.int .i64 (ft l1 l2),S):=by
 refine cM Ql rfl ?_;simp -implicitDefEqProofs [pK,Qw hv1 hv2 hl1]
def Qy:T.fn 218=some (.code pL):=rfl
def Qz:T.fn 107=some (.code z23):=rfl
def RA:T.fn 108=some (.code z24):=rfl
def my(k:IntKind)(a b:Int):Int:=k.wrap (BitVec.ofInt k.bits a ||| BitVec.ofInt k.bits b).toNat
def ja(k:IntKind)(a b:Int):Int:=k.wrap (BitVec.ofInt k.bits a &&& BitVec.ofInt k.bits b).toNat
@[simp]def aDf{k:IntKind}{a b:Int}:arith .or (.int k a) (.int k b)=some (.int k (my k a b)):=by simp[arith,eN,fO,my]
@[simp]def aDg{k:IntKind}{a b:Int}:arith .and (.int k a) (.int k b)=some (.int k (ja k a b)):=by simp[arith,eN,fO,ja]
def RB{a:Int}:arith .shr (.int .i64 a) (.int .u64 7)=some (.int .i64 (a.fdiv 128)):=rfl
def RC(n:Nat):(n:Int).fdiv 128=((n/128:Nat):Int):=by
 rw[ml _ (by decide)];omega
def jb(n:Nat):IntKind.u8.wrap (n:Int)=((n%256:Nat):Int):=by
 have e:IntKind.u8.wrap (n:Int)=(n:Int)%256:=by
  simp[IntKind.wrap,IntKind.bits,IntKind.signed]
 rw[e];omega
def RD:∀m:Fin 256,my .u8 ((m.val:Nat):Int) 128=((m.val%128+128:Nat):Int):=by decide +kernel
def RE(n:Nat):my .u8 (IntKind.u8.wrap (n:Int)) 128=((n%128+128:Nat):Int):=by
 rw[jb];have:=RD ⟨n%256,by omega⟩;simp only at this;rw[this];omega
def bU(n:Nat):List UInt8:=if n<128 then [UInt8.ofNat n]else UInt8.ofNat (n%128+128)::bU (n/128)
termination_by n
decreasing_by omega
def fL(s:List UInt8):List UInt8:=bU s.length++s
def mz(a b:List UInt8):aJ (a++b)=aJ a++aJ b:=by simp[aJ]
def bo(a:List UInt8):(aJ a).length=a.length:=by simp[aJ]
def kN(a:List UInt8):∀e∈aJ a,e.cells.length=1:=by
 intro e he;obtain⟨x,_,rfl⟩:=List.mem_map.1 he;rfl
def zk{n:Nat}(h:n<256):[PV.int .u8 (n:Int)]=aJ [UInt8.ofNat n]:=by
 simp[aJ,ge h]
def RF:∀(k n:Nat),n<128^(k+1)→(bU n).length≤k+1:=by
 intro k
 induction k with
 |zero=>intro n h;rw[bU,if_pos (by simpa using h)];simp
 |succ k ih=>
  intro n h;rw[bU];split
  ·simp
  ·have:=ih (n/128) (by rw[mq (by decide)];rw[Nat.pow_succ]at h;exact h);simp;omega
def ec{n:Nat}(h:n<9223372036854775808):(bU n).length≤9:=RF 8 n (by omega)
def RG{s:List UInt8}{v:PV}(hv:cU 1 v (aJ s)){m:Nat}(hs:s.length+m≤134217728){S0 S:St}(hg:aV S0 S) :
  ∃v' S',aS T 218 [v,.int .i64 (m:Int)] S=some (v',S')∧bI S0 1 S' v' (aJ s)∧S'.objs=S.objs:=by
 obtain⟨v',S',a1,a2,a3⟩:=(Nd 1 [] hg).app (bytes:=1) (aJ s) (by rw[bo];simp;omega);have hw:IntKind.i64.wrap ((s.length:Int)+(m:Int))=(s.length:Int)+(m:Int):=bT (by omega) (by omega);have hlen:=hv.len;rw[bo]at hlen;have h0:(0:Int)≤(s.length:Int)+(m:Int):=by omega
 have h1:(s.length:Int)+(m:Int)≤140737488355328:=by omega
 refine⟨v',S',?_,by simpa using a2,a3⟩;refine cM Qy rfl ?_;simp only[cP]at a1;simp -implicitDefEqProofs [pL,hlen,hw,aH,h0,h1,hv.appdS,a1,ac]
def RH{s:List UInt8}{S0:St}{K:List Kt}{Q:Fr→St→Prop}:∀(n:Nat) (p:List UInt8),p.length+(bU n).length≤134217728→n<9223372036854775808→∀(fr:Fr) (S:St),
  fr 1=.int .i64 (n:Int)→bI S0 1 S (fr 6) (aJ p) →
  (∀fr' S' (m:Nat) q,fr' 1=.int .i64 (m:Int)→m<128→bI S0 1 S' (fr' 6) (aJ q)→q++[UInt8.ofNat m]=p++bU n→S'.objs=S.objs→Ok (aF T K fr' S') Q) →
  Ok (aF T (.lp wJ::.blk 0::K) fr S) Q:=by
 intro n
 induction n using Nat.strongRecOn with
 |_ n ih=>
  intro p hp hn fr S h1 ha k;rw[bH];by_cases h:n<128
  ·have hlt:¬(128:Int)≤(n:Int):=by omega
   simp -implicitDefEqProofs [h1,hlt];refine k _ _ n p (by simp[h1]) h (by simpa using ha) ?_ rfl;rw[bU,if_pos h]
  ·have hlt:(128:Int)≤(n:Int):=by omega
   have hu:bU n=UInt8.ofNat (n%128+128)::bU (n/128):=by rw[bU,if_neg h]
   have hb:=zk (n:=n%128+128) (by omega);rw[hu]at hp;simp only[bE]at hp;obtain⟨v',S',a1,a2,a3⟩:=(ha.arrs [(1,1)]).app (bytes:=1) [PV.int .u8 ((n%128+128:Nat):Int)] (by rw[bo];simp;omega);have ho:=RE n;have a1':dT 1 1 ⟨S.objs,S.tips++[(1,1)]⟩ (fr 6) [PV.int .u8 (my .u8 (IntKind.u8.wrap (n:Int)) 128)]=some (v',S'):=by rw[ho];exact a1
   simp -implicitDefEqProofs [h1,hlt,aH,cx,eP,a1',RB,RC];refine ih (n/128) (by omega) (p++[UInt8.ofNat (n%128+128)]) (by simp;omega) (by omega) _ S' (by simp) ?_ (fun fr' S'' m q q1 q2 q3 q4 q5=>k fr' S'' m q q1 q2 q3 ?_ (by rw[q5,a3]))
   ·rw[mz,←hb];simpa using a2
   ·rw[q4,hu];simp
def lV{s:List UInt8}{v:PV}(hv:cU 1 v (aJ s)){n:Nat}(hn:n<9223372036854775808)(hs:s.length+20≤134217728){S0 S:St}(hg:aV S0 S) :
  ∃v' S',aS T 107 [v,.int .i64 (n:Int)] S=some (.tup [v',.int .i64 0],S')∧bI S0 1 S' v' (aJ (s++bU n))∧S'.objs=S.objs:=by
 obtain⟨v1,S1,e1,e2,e3⟩:=RG hv (m:=9) (by omega) hg;have e1':aS T 218 [v,.int .i64 9] S=some (v1,S1):=e1;have hu:=ec hn;have hlt:¬(n:Int)<0:=by omega
 have key:=nY (T:=T) (f:=107) (c:=z23) Qz (args:=[v,.int .i64 (n:Int)]) (S:=S) rfl
  (R:=fun r S2=>∃v',r=.tup [v',.int .i64 0]∧bI S0 1 S2 v' (aJ (s++bU n))∧S2.objs=S.objs) ?_
 ·obtain⟨r,S2,h1,v',rfl,h2,h3⟩:=key;exact⟨v',S2,h1,h2,h3⟩
 simp -implicitDefEqProofs [z23,hlt,e1'];refine RH (s:=s) (S0:=S0) n s (by omega) hn _ S1 (by simp) (by simpa using e2) (fun fr' S' m q q1 q2 q3 q4 q5=>?_);have hb:=zk (n:=m) (by omega)
 have hql:q.length+1=s.length+(bU n).length:=by
  have:=congrArg List.length q4;simpa using this
 obtain⟨v',S2,a1,a2,a3⟩:=(q3.arrs [(1,1)]).app (bytes:=1) [PV.int .u8 (m:Int)] (by rw[bo];simp;omega);have hwm:IntKind.u8.wrap (m:Int)=(m:Int):=QH (by omega) (by omega);simp -implicitDefEqProofs [q1,hwm,aH,cx,eP,a1,ac];refine⟨?_,by rw[a3,q5,e3]⟩;rw[←q4,mz,←hb];exact a2
def RI{s t:List UInt8}{v:PV}(hv:cU 1 v (aJ s))(ht:t.length≤65535)(hs:s.length+20≤67108864){S0 S:St}(hg:aV S0 S) :
  ∃v' S',aS T 108 [v,.str t] S=some (.tup [v',.int .i64 0],S')∧bI S0 1 S' v' (aJ (s++fL t))∧S'.objs=S.objs:=by
 obtain⟨v1,S1,e1,e2,e3⟩:=lV hv (n:=t.length) (by omega) (by omega) hg;have hu:=ec (n:=t.length) (by omega);have hlt:¬(65535:Int)<(t.length:Int):=by omega
 obtain⟨v2,S2,a1,a2,a3⟩:=e2.app (bytes:=1) (aJ t) (by rw[bo,bo,ak];omega);refine⟨v2,S2,?_,?_,by rw[a3,e3]⟩
 ·refine cM RA rfl ?_;simp -implicitDefEqProofs [z24,hlt,e1,a1,ac]
 ·rw[←mz,eh]at a2;exact a2
def RJ(s:List UInt8):jE (aJ s)=some s:=by
 induction s with
 |nil=>rfl
 |cons b s ih=>
  simp only[aJ,cB,jE]at ih ⊢;rw[ih];simp
def uI{v:PV}{s:List UInt8}(h:cU 1 v (aJ s)):fI v=some (.str s):=by
 rcases h with⟨rfl,h⟩|⟨tip,sp,rfl,_⟩
 ·cases s with
  |nil=>rfl
  |cons b s=>simp[aJ]at h
 ·simp only[fI,RJ]
def jc{n:Nat}(h:n<18446744073709551616):IntKind.u64.wrap (n:Int)=(n:Int):=by
 have e:IntKind.u64.wrap (n:Int)=(n:Int)%18446744073709551616:=by
  simp[IntKind.wrap,IntKind.bits,IntKind.signed]
 rw[e];omega
end Ps
