/- The document's index: its texts, in order. -/
import Derived.Test.YtpjmpaidcidjgaaGreatDoorAbbKw
import Derived.Test.YtpjmpaidcidjgaaGreatDoorHDKw
set_option linter.defProp false
namespace Ps
set_option linter.unusedSimpArgs false
set_option linter.unusedVariables false
open Go Go.Proofs
set_option maxRecDepth 100000
def Za:T.fn 258=some (.code mW):=rfl
def Pw{l:List Sm}{v:PV}(hv:bW 2 v (l.map bB))(i:Nat)(hi:i<l.length):cC 2 v (.int .i64 (i:Int))=some (.ref [.int .i64 (aR l i),.int .i64 (bS l i)]):=by
 have:=hv.get i (by simpa using hi) .i64;rw[this];simp[aR,bS,ci,hi]
def Zb{l:List Sm}(h:nm l){v:PV}(hv:bW 2 v (l.map bB)){S0:St}{K:List Kt}{Q:Fr→St→Prop}(k:Nat)(fr:Fr)(S:St)(hk:k<l.length-1)
  (f0:fr 0=v)(f6:fr 6=.int .i64 ((k+1:Nat):Int))(ha:ad S0 1 S (fr 5) ((eG l k).map ij))(hob:S.objs=S0.objs)
  (kk:∀fr' S',fr' 0=v→fr' 6=.int .i64 ((k+2:Nat):Int)→ad S0 1 S' (fr' 5) ((eG l (k+1)).map ij)→S'.objs=S0.objs→Ok (aE T (.lp tN::.blk 0::K) fr' S') Q) :
  Ok (aE T (.lp tN::.blk 0::K) fr S) Q:=by
 have t0:=h.t0;have t1:=h.t1;have v0:=h.v0;have v1:=h.v1;have hl:=h.len;have hlen:=hv.len;rw[bU]at hlen;have hg:=Pw hv;have hlt:((k+1:Nat):Int)<(l.length:Int):=by omega
 have hw1:IntKind.i64.wrap (((k+1:Nat):Int)-1)=((k:Nat):Int):=by rw[au]<;>omega
 have hw2:IntKind.i64.wrap (((k+1:Nat):Int)+1)=((k+2:Nat):Int):=by rw[au]<;>omega
 have g1:=hg (k+1) (by omega);have g0:=hg k (by omega);have hf:=sc (aR l (k+1)) (aR l k) ⟨t0 _,t1 _⟩ ⟨t0 _,t1 _⟩;have hvw:IntKind.i64.wrap (bS l (k+1)-bS l k)=bS l (k+1)-bS l k:=au (by have:=v0 (k+1);have:=v1 k;omega) (by have:=v1 (k+1);have:=v0 k;omega);have hzv:=yp (n:=bS l (k+1)-bS l k) (by have:=v0 (k+1);have:=v1 k;omega) (by have:=v1 (k+1);have:=v0 k;omega);have hrise:=h.rise k (by omega);have hnl:=tp l k;obtain⟨n1,hn1⟩:∃n1,n1=if k+1=1 then(aR l 1-aR l 0).toNat else cz ((aR l (k+1)-aR l (k+1-1))-(aR l (k+1-1)-aR l (k+1-2))):=⟨_,rfl⟩
 obtain⟨n2,hn2⟩:∃n2,n2=cz (bS l (k+1)-bS l k):=⟨_,rfl⟩;have hns:eG l (k+1)=eG l k++[n1]++[n2]:=by rw[hn1,hn2,List.append_assoc];rfl
 rw[←hn2]at hzv;obtain⟨v1',S1,p1,p2,p3⟩:=ha.push (bytes:=8) (ij n1) (by rw[bU,hnl];omega);obtain⟨v2',S2,q1,q2,q3⟩:=p2.push (bytes:=8) (ij n2) (by simp only[aZ,bU,hnl,List.length_singleton];omega);have q2:ad S0 1 S2 v2' ((eG l (k+1)).map ij):=by rw[hns,dS,dS];exact q2
 have hob2:S2.objs=S0.objs:=q3.trans (p3.trans hob);simp only[ij]at p1 q1;clear p2 hns ha;rw[aV];by_cases hk0:k=0
 ·subst hk0;have hn1:n1=(aR l 1-aR l 0).toNat:=by rw[hn1];rfl
  have hu:IntKind.u64.wrap (aR l 1-aR l 0)=(n1:Int):=by
   have hrise:aR l 0<aR l 1:=hrise;have e:aR l 1-aR l 0=(n1:Int):=by omega
   rw[e,gG (by have:=t1 1;have:=t0 0;omega)]
  have hlt:(1:Int)<(l.length:Int):=by omega
  have f6:fr 6=.int .i64 1:=f6;have g1:cC 2 v (.int .i64 1)=some (.ref [.int .i64 (aR l 1),.int .i64 (bS l 1)]):=g1;have g0:cC 2 v (.int .i64 0)=some (.ref [.int .i64 (aR l 0),.int .i64 (bS l 0)]):=g0;have hw1:IntKind.i64.wrap 0=0:=rfl;have hw2:IntKind.i64.wrap 2=2:=rfl;have hf:IntKind.i64.wrap (aR l 1-aR l 0)=aR l 1-aR l 0:=hf;have hvw:IntKind.i64.wrap (bS l 1-bS l 0)=bS l 1-bS l 0:=hvw;have hzv:di T 331 [.int .i64 (bS l 1-bS l 0)]=some (.int .u64 (n2:Int)):=hzv;simp -implicitDefEqProofs [f0,f6,hlen,hlt,hw1,hw2,g1,g0,bM,hf,hvw,hu,hzv,cA,cc,aH,p1,q1];exact kk _ _ (by simp[f0]) (by simp) (by simpa using q2) hob2
 ·obtain⟨j,rfl⟩:∃j,k=j+1:=⟨k-1,by omega⟩;have hne:((((j+1+1:Nat):Int))==1)=false:=by rw[beq_eq_false_iff_ne];omega
  have hw3:IntKind.i64.wrap (((j+1+1:Nat):Int)-2)=((j:Nat):Int):=by rw[au]<;>omega
  have gj:=hg j (by omega);have hf2:=sc (aR l (j+1)) (aR l j) ⟨t0 _,t1 _⟩ ⟨t0 _,t1 _⟩;have b1:-4611686018427387904≤(aR l (j+2)-aR l (j+1))-(aR l (j+1)-aR l j):=by have:=t0 (j+2);have:=t1 (j+1);have:=t0 j;omega
  have b2:(aR l (j+2)-aR l (j+1))-(aR l (j+1)-aR l j)<4611686018427387904:=by have:=t1 (j+2);have:=t0 (j+1);have:=t1 j;omega
  have hf3:IntKind.i64.wrap ((aR l (j+2)-aR l (j+1))-(aR l (j+1)-aR l j))=(aR l (j+2)-aR l (j+1))-(aR l (j+1)-aR l j):=au (by omega) (by omega);have hz1:=yp b1 b2;have hn1:n1=cz ((aR l (j+2)-aR l (j+1))-(aR l (j+1)-aR l j)):=by rw[hn1,if_neg (by omega)];rfl
  rw[←hn1]at hz1;simp -implicitDefEqProofs [f0,f6,hlen,hlt,hw1,hw2,hw3,g1,g0,gj,bM,hf,hf2,hf3,hvw,hne,hz1,hzv,cA,cc,aH,p1,q1,-Int.natCast_add];exact kk _ _ (by simp[f0]) (by simp) (by simpa using q2) hob2
def Zc{l:List Sm}(h:nm l)(k:Nat):∀j,(((eG l k).take j).flatMap bR).length≤71*(3+2*k):=by
 intro j
 have key:∀(m:List Nat),(∀n∈m,n<2^64)→(m.flatMap bR).length≤71*m.length:=by
  intro m hm
  induction m with
  |nil=>simp
  |cons a m ih=>
   have h1:=ih (fun n hn=>hm n (by simp[hn]));have h2:=jb (hm a (by simp));rw[dC,aZ,jc,bE];omega
 have:=key ((eG l k).take j) (fun n hn=>Pv h k n (fm hn));have h2:((eG l k).take j).length≤3+2*k:=by rw[fS,tp];omega
 omega
def Zd{l:List Sm}{v:PV}(hv:bW 2 v (l.map bB))(hz:dZ l=0)(S:St):∃bv,aM T 258 [v] S=some (.tup [bv,.int .i64 0],S)∧am 1 bv (aI (cS l)):=by
 have h:=wL hz;have t0:=h.t0;have t1:=h.t1;have v0:=h.v0;have v1:=h.v1;have hl:=h.len;have hlen:=hv.len;rw[bU]at hlen;have hpos:0<l.length:=List.length_pos_iff.2 h.ne;have hck:=fun S=>ZZ hv S;rw[hz]at hck;have hck:∀S,aM T 330 [v] S=some (.int .i64 0,S):=hck;have g0:cC 2 v (.int .i64 0)=some (.ref [.int .i64 (aR l 0),.int .i64 (bS l 0)]):=Pw hv 0 hpos;have hu1:IntKind.u64.wrap (l.length:Int)=(l.length:Int):=gG (by omega)
 have hu2:IntKind.u64.wrap (aR l 0)=(((aR l 0).toNat:Nat):Int):=by
  have e:aR l 0=(((aR l 0).toNat:Nat):Int):=by have:=t0 0;omega
  rw[e,gG (by have:=t1 0;omega)];simp
 have hzv:=yp (n:=bS l 0) (by have:=v0 0;omega) (by have:=v1 0;omega);have a0:=rD 1 ((eG l 0).map ij) (aN.refl S);have e0:(eG l 0).map ij=[.int .u64 (l.length:Int),.int .u64 (((aR l 0).toNat:Nat):Int),.int .u64 ((cz (bS l 0):Nat):Int)]:=rfl;have a0:ad S 1 ⟨S.objs,S.tips++[(3,1)]⟩ (.sl (some (S.tips.length,3)) [.int .u64 (l.length:Int),.int .u64 (((aR l 0).toNat:Nat):Int),.int .u64 ((cz (bS l 0):Nat):Int)] []) ((eG l 0).map ij):=a0
 have main:∀Q:Fr→St→Prop,(∀fr S' bv,aN S S'→am 1 bv (aI (cS l))→fr 2=bv→fr 3=.int .i64 0→Q fr S')→Ok (aE T [.code mW.body] (bg [v]) S) Q:=by
  intro Q hQ;generalize (((aR l 0).toNat:Nat):Int)=uu at hu2 a0;generalize ((cz (bS l 0):Nat):Int)=zz at hzv a0;simp -implicitDefEqProofs [mW,hck,aH,cA,cc,hlen,hu1,g0,bM,hu2,hzv];refine db (l.length-1) (fun k fr' S'=>fr' 0=v∧fr' 6=.int .i64 ((k+1:Nat):Int)∧ad S 1 S' (fr' 5) ((eG l k).map ij)∧S'.objs=S.objs) ?_ ?_ 0 (bb _) _ _ ⟨by simp,by simp,by simpa using a0,rfl⟩
  ·rintro k fr' S' hk ⟨f0,f6,he,ho⟩ kk;exact Zb h hv k fr' S' hk f0 f6 he ho (fun fr2 S2 a b c d=>kk fr2 S2 ⟨a,b,c,d⟩)
  ·rintro fr' S' ⟨f0,f6,ha,ho⟩;obtain⟨k,hk⟩:∃k,k=l.length-1:=⟨_,rfl⟩;have hn1:((l.length-1+1:Nat):Int)=(l.length:Int):=by omega
   rw[hn1]at f6;rw[←hk]at ha;have hbits:=Zc h k;have hlts:=Pv h k;have hEB:cS l=bz ((eG l k).flatMap bR):=by rw[hk,←Pu];rfl
   have hnl:=tp l k;obtain⟨ns,hns⟩:∃ns,ns=eG l k:=⟨_,rfl⟩;rw[←hns]at ha hbits hlts hEB hnl;have hrd:=ha.reads1 (fun e he=>by obtain⟨x,_,rfl⟩:=List.mem_map.1 he;rfl);have hnlen:=hrd.len;rw[bU]at hnlen;obtain⟨av,hav⟩:∃av,av=fr' 5:=⟨_,rfl⟩;rw[←hav]at hrd hnlen;have hgS:=ha.grows;clear ha hns;rw[aV];simp -implicitDefEqProofs [f0,f6,hlen,aH,cj,aW,ft,bK];refine db ns.length (fun j fr2 S2=>fr2 5=av∧fr2 8=.ptr S'.objs.length 0∧fr2 9=.int .i64 (j:Int)∧ge S S2 S'.objs.length ((ns.take j).flatMap bR)) ?_ ?_ 0 (bb _) _ _ ⟨by simp[hav],by simp,by simp,hgS.obj _,by rw[ho];exact aX _,.nils,ib 1,by simp⟩
   ·rintro j fr2 S2 hj ⟨f5,f8,f9,hg2,hn2,bv,hbv,hob⟩ kk;have hjj:(j:Int)<(ns.length:Int):=by omega
    have hw1:IntKind.i64.wrap ((j:Int)+1)=((j+1:Nat):Int):=by rw[au]<;>omega
    have hget:=hrd.get j (by rw[bU];exact hj) .i64;have hx:((ns.map ij)[j]'(by rw[bU];exact hj)).cells=[.int .u64 (ns[j]:Int)]:=by simp[ij]
    rw[hx]at hget;have hb:=hbits j;have hp:=fun S=>ZV hbv (by omega) (u:=ns[j]) (hlts _ (cr hj)) S
    have htk:(ns.take (j+1)).flatMap bR=(ns.take j).flatMap bR++bR ns[j]:=by
     rw[List.take_add_one,bX hj,List.flatMap_append];simp
    rw[←htk]at hp;have hlo:S'.objs.length<S2.objs.length:=(aO.1 hob).1;obtain⟨O,T0⟩:=S2;simp only at hob hlo;generalize (ns.take j).flatMap bR=L at *
    have hend:ge S ⟨O.set S'.objs.length [.sl none (aI (bz ((ns.take (j+1)).flatMap bR))) [],.int .i64 (((ns.take (j+1)).flatMap bR).length:Nat)],T0⟩ S'.objs.length ((ns.take (j+1)).flatMap bR):=
     ⟨iF hg2 hn2 _,hn2,_,pZ _,by simp only;rw[dd hlo]⟩
    generalize bz ((ns.take (j+1)).flatMap bR)=B at hp hend;generalize (ns.take (j+1)).flatMap bR=L1 at *;rw[aV];simp -implicitDefEqProofs [f5,f8,f9,hnlen,hj,hjj,hw1,hget,bM,fo,dM (S:=⟨O,T0⟩) hob,hp,hob,aH,bK];exact kk _ _ ⟨by simp[f5],by simp[f8],by simp,hend⟩
   ·rintro fr2 S2 ⟨f5,f8,f9,hg2,hn2,bv,hbv,hob⟩;rw[List.take_length,←hEB]at hbv;rw[aV];simp -implicitDefEqProofs [f5,f8,f9,hnlen,dM hob,bM];exact hQ _ _ bv hg2 hbv (by simp) (by simp)
 obtain⟨r,S',h1,bv,h2,h3,h4⟩:=gt (R:=fun r S'=>∃bv,am 1 bv (aI (cS l))∧r=.tup [bv,.int .i64 0]∧S'=S) Za rfl (main _ (fun fr S' bv hg hbv f2 f3=>by
  refine⟨[bv,.int .i64 0],?_,bv,hbv,?_⟩
  ·simp[mW,bh,fN,f2,f3]
  ·have e:ak false S S' (.tup [bv,.int .i64 0])=(.tup [bv,.int .i64 0],S):=by
    rw[eR hg (by simp[PV.free,PV.freeL,hbv.free])];simp[PV.frz,PV.frzL,hbv.frz]
   exact⟨congrArg Prod.fst e,congrArg Prod.snd e⟩))
 subst h3 h4;exact⟨bv,h1,h2⟩
end Ps
set_option linter.defProp false
namespace Ps
set_option linter.unusedSimpArgs false
set_option linter.unusedVariables false
open Go
def Ze:T.fn 259=some (.code qQ):=rfl
def qz{n:Nat}(h:n<4294967296):IntKind.u32.wrap (n:Int)=(n:Int):=by
 show((n:Int)%4294967296)=_;omega
def yr{n:Nat}(h:n<4294967296):(BitVec.ofInt 32 (n:Int)).toNat=n:=by
 rw[BitVec.toNat_ofInt];show((n:Int)%((2^32:Nat):Int)).toNat=n;omega
def Zf{m:Nat}(h:m<4294967296):kE .u32 (m:Int) 1=((m%2:Nat):Int):=by
 unfold kE
 have e:(BitVec.ofInt IntKind.u32.bits (m:Int) &&& BitVec.ofInt IntKind.u32.bits (1:Int)).toNat=m%2:=by
  rw[BitVec.toNat_and];have h1:(BitVec.ofInt IntKind.u32.bits (m:Int)).toNat=m:=yr h;have h2:(BitVec.ofInt IntKind.u32.bits (1:Int)).toNat=1:=rfl;rw[h1,h2,Nat.and_one_is_mod]
 rw[e];exact qz (by omega)
def yu(a b:Int):∃n:Nat,jZ .u32 a b=(n:Int)∧n<4294967296:=by
 refine⟨(BitVec.ofInt IntKind.u32.bits a ^^^ BitVec.ofInt IntKind.u32.bits b).toNat,?_,(BitVec.ofInt IntKind.u32.bits a ^^^ BitVec.ofInt IntKind.u32.bits b).isLt⟩;unfold jZ;exact qz (BitVec.isLt _)
def Zg{m:Nat}(h:m<4294967296):jZ .u32 (m:Int) 0=(m:Int):=by
 unfold jZ
 have e:(BitVec.ofInt IntKind.u32.bits (m:Int) ^^^ BitVec.ofInt IntKind.u32.bits (0:Int)).toNat=m:=by
  rw[BitVec.toNat_xor];have h1:(BitVec.ofInt IntKind.u32.bits (m:Int)).toNat=m:=yr h;have h2:(BitVec.ofInt IntKind.u32.bits (0:Int)).toNat=0:=rfl;rw[h1,h2,Nat.xor_zero]
 rw[e];exact qz h
def Px{m:Nat}(h:m<4294967296):kl (m:Int)=if m%2=1 then jZ .u32 ((m/2:Nat):Int) 2197175160 else((m/2:Nat):Int):=by
 unfold kl
 have hd:(m:Int).fdiv 2=((m/2:Nat):Int):=by
  rw[pF _ (by omega)];omega
 rw[hd,Zf h];by_cases h1:m%2=1
 ·rw[if_pos h1,h1];have:kE .u32 2197175160 (IntKind.u32.wrap (-((1:Nat):Int)))=2197175160:=by decide
  rw[this]
 ·rw[if_neg h1];have h0:m%2=0:=by omega
  rw[h0];have:kE .u32 2197175160 (IntKind.u32.wrap (-((0:Nat):Int)))=0:=by decide
  rw[this];exact Zg (by omega)
def Py{m:Nat}(h:m<4294967296):∃n:Nat,kl (m:Int)=(n:Int)∧n<4294967296:=by
 rw[Px h];split
 ·exact yu _ _
 ·exact⟨m/2,rfl,by omega⟩
theorem yv:∀(k:Nat) {m:Nat},m<4294967296→∃n:Nat,km k (m:Int)=(n:Int)∧n<4294967296
 |0,m,h=>⟨m,rfl,h⟩
 |k+1,m,h=>by
  obtain⟨n,e,hn⟩:=Py h;rw[km,e];exact yv k hn
def Zh(c:Int)(b:UInt8):∃n:Nat,iS c b=(n:Int)∧n<4294967296:=by
 unfold iS;obtain⟨n,e,hn⟩:=yu c (IntKind.u32.wrap (b.toNat:Int));rw[e];exact yv 8 hn
theorem Pz:∀(s:List UInt8) {m:Nat},m<4294967296→∃n:Nat,s.foldl iS (m:Int)=(n:Int)∧n<4294967296
 | [],m,h=>⟨m,rfl,h⟩
 |b::s,m,h=>by
  obtain⟨n,e,hn⟩:=Zh (m:Int) b;rw[vX,e];exact Pz s hn
def Zi{m:Nat}(h:m<4294967296):IntKind.u32.wrap (BitVec.ofInt 32 4294967295 ^^^ BitVec.ofInt 32 (m:Int)).toNat=4294967295-(m:Int):=by
 have e:(BitVec.ofInt 32 4294967295 ^^^ BitVec.ofInt 32 (m:Int)).toNat=4294967295-m:=by
  have h1:BitVec.ofInt 32 4294967295=BitVec.allOnes 32:=by decide
  rw[h1,BitVec.allOnes_xor,BitVec.toNat_not,yr h]
 rw[e,qz (by omega)];omega
def Zj(s:List UInt8):∃n:Nat,s.foldl iS 4294967295=(n:Int)∧n<4294967296∧kF s=4294967295-(n:Int):=by
 obtain⟨n,e,hn⟩:=Pz s (m:=4294967295) (by omega);refine⟨n,e,hn,?_⟩;unfold kF pV;have e':s.foldl iS 4294967295=(n:Int):=e;rw[e'];exact Zi hn
def QA{m:Nat}:arith .rem (.int .u32 (m:Int)) (.int .u32 2)=some (.int .u32 ((m%2:Nat):Int)):=by
 have:(m:Int).tmod 2=((m%2:Nat):Int):=by rw[lx (by omega)];omega
 simp[arith,eX,fV,this]
def Zk{m d:Nat}(h:m<4294967296)(hd:0<d):arith .quo (.int .u32 (m:Int)) (.int .u32 (d:Int))=some (.int .u32 ((m/d:Nat):Int)):=by
 have e:(m:Int).tdiv (d:Int)=((m/d:Nat):Int):=by rw[Ap (by omega)];exact(Int.natCast_ediv m d).symm
 have hlt:m/d<4294967296:=sL (vk _ _) h;have h0:¬(d:Int)=0:=by omega
 simp only[arith,eX,fV,e,qz hlt,h0,if_false,bp,if_true]
def Zl{v:PV}{S:St}{K:List Kt}{Q:Fr→St→Prop}:∀(n j:Nat),n+j=8→∀(fr:Fr) (m:Nat),m<4294967296→fr 3=.int .u32 (m:Int)→fr 5=.int .i64 (j:Int) →
  (∀fr',fr' 3=.int .u32 (km n (m:Int))→fr' 0=fr 0→fr' 4=fr 4→Ok (aE T K fr' S) Q) →
  Ok (aE T (.lp tP::.blk 2::K) fr S) Q:=by
 intro n
 induction n with
 |zero=>
  intro j hj fr m hm h3 h5 k;have hj:j=8:=by omega
  subst hj;rw[aV];simp -implicitDefEqProofs [h5]
  exact k _ (by simp[h3,km]) (by simp) (by simp)
 |succ n ih=>
  intro j hj fr m hm h3 h5 k;have hlt:(j:Int)<8:=by omega
  have hw:=jt (a:=j) (by omega);obtain⟨m',e,hm'⟩:=Py hm
  have hL:∀fr',fr' 3=.int .u32 (m':Int)→fr' 0=fr 0→fr' 4=fr 4→fr' 5=.int .i64 ((j+1:Nat):Int)→Ok (aE T (.lp tP::.blk 2::K) fr' S) Q:=by
   intro fr' g3 g0 g4 g5;refine ih (j+1) (by omega) fr' m' hm' g3 g5 (fun fr2 q3 q0 q4=>k fr2 ?_ (q0.trans g0) (q4.trans g4));rw[q3,km,e]
  clear k ih;rw[Px hm]at e;have hq:arith .quo (.int .u32 (m:Int)) (.int .u32 2)=some (.int .u32 ((m/2:Nat):Int)):=Zk (d:=2) hm (by omega);rw[aV];by_cases h1:m%2=1
  ·rw[if_pos h1]at e;have h1r:=QA (m:=m);rw[h1]at h1r
   push_cast at hq e h1r
   simp -implicitDefEqProofs [h3,h5,hlt,h1r,hq,e];exact hL _ (by simp) (by simp) (by simp) (by simp[hw])
  ·rw[if_neg h1]at e;have h1r:=QA (m:=m);rw[show m%2=0 by omega]at h1r
   push_cast at hq e h1r
   simp -implicitDefEqProofs [h3,h5,hlt,h1r,hq,e];exact hL _ (by simp) (by simp) (by simp) (by simp[hw])
def Zm{s:List UInt8}{v:PV}(hv:bW 1 v (aI s))(hs:s.length≤67108864){S:St}{K:List Kt}{Q:Fr→St→Prop}:∀(rest pre:List UInt8),s=pre++rest→∀(fr:Fr) (m:Nat),m<4294967296 →
  fr 0=v→fr 3=.int .u32 (m:Int)→fr 4=.int .i64 (pre.length:Int) →
  (∀fr',fr' 3=.int .u32 (rest.foldl iS (m:Int))→Ok (aE T K fr' S) Q) →
  Ok (aE T (.lp tQ::.blk 0::K) fr S) Q:=by
 have hlen:=hv.len;rw[bN]at hlen;intro rest
 induction rest with
 |nil=>
  intro pre hp fr m hm h0 h3 h4 k;rw[dR]at hp;subst hp;rw[aV];simp -implicitDefEqProofs [h0,h4,hlen]
  exact k _ (by simp[h3])
 |cons b rest ih=>
  intro pre hp fr m hm h0 h3 h4 k;have hi:pre.length<s.length:=by rw[hp];simp
  have hg:=hv.get pre.length (by rw[bN];exact hi) .i64;have hgx:(aI s)[pre.length]'(by rw[bN];exact hi)=.int .u8 b.toNat:=by simp[aI,hp]
  rw[hgx,Aa]at hg;have hw:=jt (a:=pre.length) (by omega);obtain⟨x,ex,hx⟩:=yu (m:Int) (IntKind.u32.wrap (b.toNat:Int));obtain⟨y,ey,hy⟩:=yv 8 hx;have hb:iS (m:Int) b=(y:Int):=by rw[iS,ex,ey]
  have hL:∀fr',fr' 0=v→fr' 3=.int .u32 (y:Int)→fr' 4=.int .i64 ((pre.length+1:Nat):Int)→Ok (aE T (.lp tQ::.blk 0::K) fr' S) Q:=by
   intro fr' g0 g3 g4;exact ih (pre++[b]) (by simp[hp]) fr' y hy g0 g3 (by simpa using g4) (fun fr2 q=>k fr2 (by rw[q,vX,hb]))
  clear k ih;rw[aV];simp -implicitDefEqProofs [-Xt,h0,h3,h4,hlen,hi,hg,q1,ex];refine Zl (v:=v) 8 0 rfl _ x hx (by simp[ex]) (by simp) (fun fr' g3 g0 g4=>?_);simp at g0 g4;rw[ey]at g3;simp -implicitDefEqProofs [g4,h4];exact hL _ (by simp[g0,h0]) (by simp[g3]) (by simp[hw])
def Zn{s:List UInt8}{v:PV}(hv:bW 1 v (aI s))(hs:s.length≤67108864)(S:St):aM T 259 [v] S=some (.int .u32 (kF s),S):=by
 obtain⟨n,e,hn,e2⟩:=Zj s;refine bP Ze rfl ?_;simp -implicitDefEqProofs [qQ];refine Zm hv hs (S:=S) s [] rfl _ 4294967295 (by omega) (by simp) (by simp) (by simp) (fun fr' g3=>?_);have g3:fr' 3=.int .u32 (n:Int):=by rw[g3,←e];rfl
 have hw:IntKind.u32.wrap (4294967295-(n:Int))=4294967295-(n:Int):=by
  show(4294967295-(n:Int))%4294967296=_;omega
 simp -implicitDefEqProofs [g3,hw,e2]
end Ps
set_option linter.defProp false
namespace Ps
set_option linter.unusedSimpArgs false
set_option linter.unusedVariables false
open Go Go.Proofs
set_option maxRecDepth 100000
def eQ(s:Wd):Bool→List Wd→List Wd
 |d,[]=>if d then []else [s]
 |d,x::l=>(if !d&&Op.bytesLess s x then [s]else [])++(x::eQ s (d||Op.bytesLess s x) l)
def withT(s:Wd)(l:List Wd):List Wd:=if s∈l then l else eQ s false l
theorem QB(s:Wd):∀(d:Bool) (l:List Wd),(eQ s d l).length=l.length+(if d then 0 else 1)
 |d,[]=>by cases d<;>simp[eQ]
 |d,x::l=>by
  have h:=QB s (d||Op.bytesLess s x) l;simp only[eQ,aZ,bE,h];cases d<;>cases Op.bytesLess s x<;>simp<;>omega
def Zo(l:List Wd):PV.freeL (l.map PV.str)=true:=gv _ (fun _=>rfl) l
def Zp(l:List Wd):PV.frzL (l.map PV.str)=l.map PV.str:=gS _ (fun _=>rfl) l
def Zq(l:List Wd):∀e∈l.map PV.str,e.cells.length=1:=by
 intro e he;obtain⟨x,_,rfl⟩:=List.mem_map.1 he;rfl
def Zr:T.fn 238=some (.code kz):=rfl
def Zs{l:List Wd}{v:PV}(hv:am 1 v (l.map PV.str))(hl:l.length≤1048576){s:Wd}{S0:St}{K:List Kt}{Q:Fr→St→Prop}
  (k1:s∈l→∀fr' S',aN S0 S'→fr' 4=v→Q fr' S')
  (k2:∀fr' S' d p,s∉l→fr' 1=.str s→fr' 6=.bool d→ad S0 1 S' (fr' 5) (p.map PV.str)→eQ s false l=p++eQ s d []→p.length≤2*l.length→Ok (aE T K fr' S') Q) :
  ∀(n i:Nat),l.length-i=n→i≤l.length→∀(fr:Fr) (S:St) (d:Bool) (p:List Wd),fr 0=v→fr 1=.str s→fr 7=.int .i64 (i:Int)→fr 6=.bool d→ad S0 1 S (fr 5) (p.map PV.str)→p.length≤2*i→s∉l.take i →
   eQ s false l=p++eQ s d (l.drop i)→Ok (aE T (.lp pr::.blk 0::K) fr S) Q:=by
 have hlen:=hv.len;rw[bU]at hlen;intro n
 induction n with
 |zero=>
  intro i hni hil fr S d p h0 h1 h7 h6 ha hpl hns hp;have hi:i=l.length:=by omega
  subst hi;rw[List.take_length]at hns;rw[List.drop_length]at hp;rw[aV];simp -implicitDefEqProofs [h0,h7,hlen]
  exact k2 _ S d p hns (by simp[h1]) (by simp[h6]) (by simpa using ha) hp hpl
 |succ n ih=>
  intro i hni hil fr S d p h0 h1 h7 h6 ha hpl hns hp;have hi:i<l.length:=by omega
  have hw:IntKind.i64.wrap ((i:Int)+1)=((i+1:Nat):Int):=by rw[au]<;>omega
  have hg:=hv.reads.get i (by simpa using hi) .i64;have hx:(l.map PV.str)[i]'(by simpa using hi)=.str l[i]:=by simp
  rw[hx]at hg;have hg:cC 1 v (.int .i64 (i:Int))=some (.ref [.str l[i]]):=hg;have hd:l.drop i=l[i]::l.drop (i+1):=vV hi;rw[hd]at hp;simp only[eQ]at hp;have htk:l.take (i+1)=l.take i++[l[i]]:=by rw[List.take_add_one,bX hi];rfl
  by_cases he:l[i]=s
  ·have hmem:s∈l:=by rw[←he];exact cr hi
   have heb:(l[i]==s)=true:=by rw[beq_iff_eq];exact he
   have k1:=fun fr'=>k1 hmem fr' S ha.grows;clear k2 ih;rw[aV];simp -implicitDefEqProofs [h0,h1,h7,hlen,hi,hg,bM,heb];exact k1 _ (by simp)
  ·have heb:(l[i]==s)=false:=by rw[beq_eq_false_iff_ne];exact he
   have hns1:s∉l.take (i+1):=by
    rw[htk,bd,mB];rintro(h|h)
    ·exact hns h
    ·exact he h.symm
   by_cases c:(!d&&Op.bytesLess s l[i])=true
   ·have hd':d=false:=by cases d<;>simp_all
    have hlt:Op.bytesLess s l[i]=true:=by cases d<;>simp_all
    subst hd';rw[if_pos c,hlt]at hp;obtain⟨v1,S1,a1,a2,a3⟩:=ha.push (bytes:=16) (.str s) (by simp;omega);obtain⟨v2,S2,b1,b2,b3⟩:=a2.push (bytes:=16) (.str l[i]) (by simp;omega)
    have hk:∀fr',fr' 0=v→fr' 1=.str s→fr' 7=.int .i64 ((i+1:Nat):Int)→fr' 6=.bool true→fr' 5=v2→Ok (aE T (.lp pr::.blk 0::K) fr' S2) Q:=fun fr' q0 q1 q7 q6 q5=>
     ih (i+1) (by omega) (by omega) fr' S2 true (p++[s]++[l[i]]) q0 q1 q7 q6 (by rw[q5];simpa using b2) (by simp;omega) hns1 (by rw[hp];simp)
    clear ih k1 k2;rw[aV];simp -implicitDefEqProofs [h0,h1,h7,h6,hlen,hi,hg,bM,heb,hlt,aH,cA,cc,a1,b1];exact hk _ (by simp[h0]) (by simp[h1]) (by simp[hw]) (by simp) (by simp)
   ·have c':(!d&&Op.bytesLess s l[i])=false:=by simpa using c
    rw[if_neg c]at hp;have hdd:(d||Op.bytesLess s l[i])=d:=by cases d<;>simp_all
    rw[hdd]at hp;obtain⟨v2,S2,b1,b2,b3⟩:=ha.push (bytes:=16) (.str l[i]) (by simp;omega)
    have hk:∀fr',fr' 0=v→fr' 1=.str s→fr' 7=.int .i64 ((i+1:Nat):Int)→fr' 6=.bool d→fr' 5=v2→Ok (aE T (.lp pr::.blk 0::K) fr' S2) Q:=fun fr' q0 q1 q7 q6 q5=>
     ih (i+1) (by omega) (by omega) fr' S2 d (p++[l[i]]) q0 q1 q7 q6 (by rw[q5];simpa using b2) (by simp;omega) hns1 (by rw[hp];simp)
    clear ih k1 k2;rw[aV]
    cases d with
    |true=>
     simp -implicitDefEqProofs [h0,h1,h7,h6,hlen,hi,hg,bM,heb,aH,cA,cc,b1]
     exact hk _ (by simp[h0]) (by simp[h1]) (by simp[hw]) (by simp[h6]) (by simp)
    |false=>
     have hlt:Op.bytesLess s l[i]=false:=by simpa using c'
     simp -implicitDefEqProofs [h0,h1,h7,h6,hlen,hi,hg,bM,heb,hlt,aH,cA,cc,b1];exact hk _ (by simp[h0]) (by simp[h1]) (by simp[hw]) (by simp[h6]) (by simp)
def QC{l:List Wd}{v:PV}(hv:am 1 v (l.map PV.str))(hl:l.length≤1048576){s:Wd}{S:St}:∃v',aM T 238 [v,.str s] S=some (v',S)∧am 1 v' ((withT s l).map PV.str):=by
 have main:∀Q:Fr→St→Prop,(s∈l→∀fr' S',aN S S'→fr' 4=v→Q fr' S')→(s∉l→∀fr' S',ad S 1 S' (fr' 4) ((eQ s false l).map PV.str)→Q fr' S')→Ok (aE T [.code kz.body] (bg [v,.str s]) S) Q:=by
  intro Q q1 q2;simp -implicitDefEqProofs [kz];refine Zs hv hl q1 (fun fr' S' d p hns h1 h6 ha hp hpl=>?_) l.length 0 (by omega) (by omega) _ S false [] (by simp) (by simp) (by simp) (by simp) (by simpa using oS 1 (aN.refl S)) (by simp) (by simp) (by simp)
  cases d with
  |true=>
   simp only[eQ,if_true,dR]at hp;rw[←hp]at ha;simp -implicitDefEqProofs [h1,h6]
   exact q2 hns _ _ (by simpa using ha)
  |false=>
   simp only[eQ,bp,if_false]at hp;obtain⟨v',S1,a1,a2,a3⟩:=ha.push (bytes:=16) (.str s) (by simp;omega);have a2:ad S 1 S1 v' ((p++[s]).map PV.str):=by rw[dS];exact a2
   rw[←hp]at a2;simp -implicitDefEqProofs [h1,h6,aH,cA,cc,a1];exact q2 hns _ _ (by simpa using a2)
 obtain⟨r,S2,h,h2,h3⟩:=gt (T:=T) Zr (args:=[v,.str s]) (S:=S) rfl (R:=fun r S2=>S2=S∧am 1 r ((withT s l).map PV.str)) (main _ (fun hm fr' S' hg h4=>by
  refine⟨[v],by simp[kz,bh,fN,h4],?_⟩;have e:ak false S S' v=(v,S):=by rw[eR hg hv.free,hv.frz]
  have hT:withT s l=l:=if_pos hm;rw[hT];exact⟨congrArg Prod.snd e,by show am 1 (ak false S S' v).1 _;rw[e];exact hv⟩) (fun hm fr' S' ha=>by
  obtain⟨f1,f2⟩:=ha.sl0 (Zq _) (Zo _) (Zp _);have hT:withT s l=eQ s false l:=if_neg hm;rw[hT];exact⟨[fr' 4],by simp[kz,bh,fN],congrArg Prod.snd f1,by show am 1 (ak false S S' (fr' 4)).1 _;rw[f1];exact f2⟩))
 subst h2;exact⟨r,h,h3⟩
end Ps
set_option linter.defProp false
namespace Ps
set_option linter.unusedSimpArgs false
set_option linter.unusedVariables false
open Go Go.Proofs
set_option maxRecDepth 100000
theorem yw(s:Wd):∀l,eQ s true l=l
 | []=>rfl
 |x::l=>by simp[eQ,yw s l]
theorem yx{s a:Wd}:∀{l:List Wd},a∈eQ s false l↔a=s∨a∈l
 | []=>by simp[eQ]
 |x::l=>by
  simp only[eQ,Am,vP,vN]
  cases h:Op.bytesLess s x with
  |true=>simp[yw]
  |false=>
   have:=yx (s:=s) (a:=a) (l:=l);simp only[bp,if_false,nX,cQ,this];constructor
   ·rintro(h|h|h)
    ·exact .inr (.inl h)
    ·exact .inl h
    ·exact .inr (.inr h)
   ·rintro(h|h|h)
    ·exact .inr (.inl h)
    ·exact .inl h
    ·exact .inr (.inr h)
theorem QD{s:Wd}:∀{l:List Wd},l.Pairwise (· < ·)→s∉l→(eQ s false l).Pairwise (· < ·)
 | [],_,_=>by simp[eQ]
 |x::l,h,hn=>by
  simp only[eQ,Am,vP,vN];rw[na]at h
  cases hb:Op.bytesLess s x with
  |true=>
   have hsx:=kj.1 hb;simp only[if_true,yw,List.singleton_append,na];refine⟨fun a ha=>?_,h⟩;rcases cQ.1 ha with rfl|ha
   ·exact hsx
   ·exact Az hsx (h.1 a ha)
  |false=>
   have hxs:x<s:=by
    have h2:s≠x:=fun e=>hn (by simp[e]);exact BS.1 (by rw[hb,vN,beq_eq_false_iff_ne];exact h2)
   simp only[bp,if_false,nX,na];refine⟨fun a ha=>?_,QD h.2 (fun e=>hn (by simp[e]))⟩;rcases yx.1 ha with rfl|ha
   ·exact hxs
   ·exact h.1 a ha
def Zt{s:Wd}{l:List Wd}(h:l.Pairwise (· < ·)):(withT s l).Pairwise (· < ·)∧(∀a,a∈withT s l↔a=s∨a∈l)∧(withT s l).length≤l.length+1:=by
 unfold withT;split
 ·rename_i hm;refine⟨h,fun a=>⟨.inr,?_⟩,by omega⟩;rintro(rfl|h)
  ·exact hm
  ·exact h
 ·rename_i hm;refine⟨QD h hm,fun a=>yx,?_⟩;rw[QB];simp
def dW(ws:List Wd):List Wd:=ws.foldl (fun l s=>withT s l) []
def QE(ws:List Wd)(s:Wd):dW (ws++[s])=withT s (dW ws):=by simp[dW]
def QF(ws:List Wd):(dW ws).Pairwise (· < ·)∧(∀a,a∈dW ws↔a∈ws)∧(dW ws).length≤ws.length:=by
 have key:∀(r:List Wd) (l:List Wd),l.Pairwise (· < ·)→(r.foldl (fun l s=>withT s l) l).Pairwise (· < ·)∧(∀a,a∈r.foldl (fun l s=>withT s l) l↔a∈r∨a∈l)∧(r.foldl (fun l s=>withT s l) l).length≤r.length+l.length:=by
  intro r
  induction r with
  |nil=>intro l h;exact⟨h,by simp,by simp⟩
  |cons s r ih=>
   intro l h;obtain⟨h1,h2,h3⟩:=Zt (s:=s) h;obtain⟨i1,i2,i3⟩:=ih (withT s l) h1;rw[vX];refine⟨i1,fun a=>?_,by rw[bE];omega⟩;rw[i2,h2,cQ];constructor
   ·rintro(h|h|h)
    ·exact .inl (.inr h)
    ·exact .inl (.inl h)
    ·exact .inr h
   ·rintro((h|h)|h)
    ·exact .inr (.inl h)
    ·exact .inl h
    ·exact .inr (.inr h)
 obtain⟨a,b,c⟩:=key ws [] List.Pairwise.nil;exact⟨a,fun x=>by rw[show dW ws=ws.foldl (fun l s=>withT s l) []from rfl,b];simp,by simpa[dW]using c⟩
def Zu{ls:List (List aT)}{ws:List Wd}(hm:∀k,k∈ws↔k∈dp ls):dW ws=bY ls:=by
 obtain⟨h1,h2,_⟩:=QF ws;have hnd:(dW ws).Nodup:=(List.Pairwise.imp (fun {a b} (h:a<b) (e:a=b)=>sH a (by rw[←e]at h;exact h)) h1:List.Pairwise (· ≠ ·) (dW ws));rw[←CF hnd (fun k=>(h2 k).trans (hm k))];exact(TB (h1.imp fun k=>by simpa[leB]using List.le_of_lt k)).symm
def Zv:T.fn 236=some (.code qc):=rfl
def Zw{ks:List Wd}{v:PV}(hv:bW 1 v (ks.map PV.str))(hl:ks.length≤1048576){s:Wd}(hs:s∈ks){K:List Kt}{Q:Fr→St→Prop}{S:St}(k:∀fr',fr' 4=.int .i64 ((ks.idxOf s:Nat):Int)→Q fr' S) :
  ∀(r p:List Wd),ks=p++r→s∉p→∀fr,fr 0=v→fr 1=.str s→fr 5=.int .i64 (p.length:Int)→Ok (aE T (.lp yT::.blk 0::K) fr S) Q:=by
 have hlen:=hv.len;rw[bU]at hlen;intro r
 induction r with
 |nil=>intro p hp hn;exact absurd hs (by rw[hp,dR];exact hn)
 |cons x r ih=>
  intro p hp hn fr h0 h1 h5;have hi:p.length<ks.length:=by rw[hp];simp
  have hw:IntKind.i64.wrap ((p.length:Int)+1)=((p.length+1:Nat):Int):=by rw[au]<;>omega
  have hg:=hv.get p.length (by simpa using hi) .i64;have hx:(ks.map PV.str)[p.length]'(by simpa using hi)=.str x:=by simp[hp]
  rw[hx]at hg;have hg:cC 1 v (.int .i64 (p.length:Int))=some (.ref [.str x]):=hg;by_cases he:x=s
  ·have heb:(x==s)=true:=by rw[beq_iff_eq];exact he
   have hix:ks.idxOf s=p.length:=by
    rw[hp,List.idxOf_append,if_neg hn,he,List.idxOf_cons_self];simp
   rw[hix]at k;rw[aV];simp -implicitDefEqProofs [h0,h1,h5,hlen,hi,hg,bM,heb];exact k _ (by simp)
  ·have heb:(x==s)=false:=by rw[beq_eq_false_iff_ne];exact he
   rw[aV];simp -implicitDefEqProofs [h0,h1,h5,hlen,hi,hg,bM,heb,hw];refine ih (p++[x]) (by simp[hp]) (fun h=>?_) _ (by simp[h0]) (by simp[h1]) (by simp);rcases bd.1 h with h|h
   ·exact hn h
   ·exact he (mB.1 h).symm
def QH{ks:List Wd}{v:PV}(hv:bW 1 v (ks.map PV.str))(hl:ks.length≤1048576){s:Wd}(hs:s∈ks)(S:St):aM T 236 [v,.str s] S=some (.int .i64 ((ks.idxOf s:Nat):Int),S):=by
 refine bP Zv rfl ?_;simp -implicitDefEqProofs [qc];refine Zw hv hl hs (fun fr' h4=>?_) ks [] rfl (by simp) _ (by simp) (by simp) (by simp);simp -implicitDefEqProofs [h4,aN.refl]
end Ps
