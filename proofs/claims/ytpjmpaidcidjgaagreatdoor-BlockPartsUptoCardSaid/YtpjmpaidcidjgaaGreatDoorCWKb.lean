/- texts and Bytes of an index, whose calls come to this or to that. -/
import Derived.Test.YtpjmpaidcidjgaaGreatDoorDefsKb
import Derived.Test.YtpjmpaidcidjgaaGreatDoorBDKb
import Derived.Test.YtpjmpaidcidjgaaGreatDoorRowKb
import Derived.Test.YtpjmpaidcidjgaaGreatDoorCXKb
import Derived.Test.YtpjmpaidcidjgaaGreatDoorSimVKb
set_option linter.defProp false
namespace Ps
set_option linter.unusedSimpArgs false
set_option linter.unusedVariables false
open Go
def eF(n:Int):Nat:=if 0≤n then(2*n).toNat else(-2*n-1).toNat
def Xi:T.fn 378=some (.code sk):=rfl
def Xj{n:Int}(h1:-4611686018427387904≤n)(h2:n<4611686018427387904)(S:St):aN T 378 [.int .i64 n] S=some (.int .u64 (eF n:Nat),S):=by
 have hs1:arith .shl (.int .i64 n) (.int .u64 1)=some (.int .i64 (2*n)):=by
  have:arith .shl (.int .i64 n) (.int .u64 1)=some (.int .i64 (IntKind.i64.wrap (n*2))):=rfl;rw[this,au (by omega) (by omega),EL]
 have hs2:arith .shr (.int .i64 n) (.int .u64 63)=some (.int .i64 (if 0≤n then 0 else -1)):=by
  have:arith .shr (.int .i64 n) (.int .u64 63)=some (.int .i64 (n.fdiv 9223372036854775808)):=rfl;rw[this,pS _ (by decide)];split<;>(congr 2;omega)
 have hx:pi .u64 (IntKind.u64.wrap (2*n)) (IntKind.u64.wrap (if 0≤n then 0 else -1))=(eF n:Nat):=by
  unfold eF;split
  ·rename_i h;obtain⟨m,rfl⟩:=xi h;have e1:(2*(m:Int))=((2*m:Nat):Int):=by omega
   rw[e1,iY (by omega)];show IntKind.u64.wrap (((BitVec.ofInt 64 ((2*m:Nat):Int) ^^^ BitVec.ofInt 64 0).toNat:Nat):Int)=_;have e2:BitVec.ofInt 64 ((2*m:Nat):Int)=BitVec.ofNat 64 (2*m):=BitVec.ofInt_ofNat 64 (2*m);have e3:BitVec.ofInt 64 0=0#64:=rfl;rw[e2,e3,BitVec.xor_zero,BitVec.toNat_ofNat,iy (by omega),iY (by omega),rL]
  ·rename_i h;obtain⟨m,hm⟩:∃m:Nat,(m:Int) = -n-1:=⟨(-n-1).toNat,by omega⟩
   have e1:IntKind.u64.wrap (2*n)=((18446744073709551616-2*(m+1):Nat):Int):=by
    have:IntKind.u64.wrap (2*n)=(2*n)%18446744073709551616:=by simp[IntKind.wrap,IntKind.bits,IntKind.signed]
    rw[this];omega
   have e2:IntKind.u64.wrap (-1)=((18446744073709551615:Nat):Int):=rfl;rw[e1,e2];show IntKind.u64.wrap (((BitVec.ofInt 64 ((18446744073709551616-2*(m+1):Nat):Int) ^^^ BitVec.ofInt 64 ((18446744073709551615:Nat):Int)).toNat:Nat):Int)=_;have e3:BitVec.ofInt 64 ((18446744073709551616-2*(m+1):Nat):Int)=BitVec.ofNat 64 (18446744073709551616-2*(m+1)):=BitVec.ofInt_ofNat 64 _;have e4:BitVec.ofInt 64 ((18446744073709551615:Nat):Int)=BitVec.allOnes 64:=rfl;rw[e3,e4,BitVec.xor_allOnes,BitVec.toNat_not,BitVec.toNat_ofNat,iy (by omega),iY (by omega)];omega
 refine bZ Xi rfl ?_;simp -implicitDefEqProofs [sk,hs1,hs2,hx,aL.refl]
def uo{n:Int}(h1:-4611686018427387904≤n)(h2:n<4611686018427387904):eF n<2^64:=by
 unfold eF;split<;>omega
def Xk{n:Int}(h1:-4611686018427387904≤n)(h2:n<4611686018427387904):fc T 378 [.int .i64 n]=some (.int .u64 (eF n:Nat)):=pP (Xj h1 h2 cS) rfl
structure ja(S0 S:St)(w:Nat)(bl:List Bool):Prop where
 grows:aL S0 S
 new:S0.objs.length≤w
 ex:∃bv,ay 1 bv (aI (eZ bl))∧S.objs[w]?=some [bv,.int .i64 bl.length]
def Xl:T.fn 333=some (.code sb):=rfl
def Xm:T.fn 334=some (.code z2):=rfl
def lV(b:List UInt8):ay 1 (.sl none (aI b) []) (aI b):=od (md b) (jp _ (fun _=>rfl) b) (jq _ (fun _=>rfl) b)
def uq{S0 S:St}{w:Nat}{bl:List Bool}(h:ja S0 S w bl)(hb:bl.length≤1048576){u:Nat}(hu:u<2^64) :
  ∃S',aN T 333 [.ptr w 0,.int .u64 (u:Int)] S=some (.tup [],S')∧ja S0 S' w (bl++bP u)∧S'.objs.length=S.objs.length∧S'.tips=S.tips:=by
 obtain⟨hg,hn,bv,hv,ho⟩:=h;obtain⟨O,T0⟩:=S;simp only at ho;have hlw:w<O.length:=(aM.1 ho).1;have hp:=fun S=>Xh hv hb hu S;refine⟨⟨O.set w [.sl none (aI (eZ (bl++bP u))) [],.int .i64 ((bl++bP u).length:Nat)],T0⟩,?_,⟨da hg hn _,hn,_,lV _,by simp only;rw[cK hlw]⟩,by simp,rfl⟩;generalize eZ (bl++bP u)=B at *;generalize (bl++bP u).length=m at *;refine bZ Xl rfl ?_;simp -implicitDefEqProofs [sb,bI (S:=⟨O,T0⟩) ho,fN,hp,aG,ho,ak];rw[wb];exact iq (b:=false) (S:=⟨O,T0⟩) (S1:=⟨O.set w [.sl none (aI B) [],.int .i64 (m:Int)],T0⟩) (r:=.tup []) (by simp) rfl rfl rfl (fun _ _=>fg)
def ur{S0 S:St}{w:Nat}{bl:List Bool}(h:ja S0 S w bl)(hb:bl.length≤1048576){n:Int}(h1:-4611686018427387904≤n)(h2:n<4611686018427387904) :
  ∃S',aN T 334 [.ptr w 0,.int .i64 n] S=some (.tup [],S')∧ja S0 S' w (bl++bP (eF n)):=by
 have hz:=Xk h1 h2;obtain⟨S',p1,p2,p3,p4⟩:=uq h hb (uo h1 h2)
 obtain⟨r,S2,q1,q2,q3⟩:=qW (f:=334) (args:=[.ptr w 0,.int .i64 n]) (S:=S) (R:=fun r S'=>r=.tup []∧ja S0 S' w (bl++bP (eF n))) Xm rfl (by
  simp -implicitDefEqProofs [z2,hz,p1,dF];rw[iq (b:=false) (S:=S) (S1:=S') (r:=.tup []) p3 p4 rfl rfl (fun _ _=>fg)];exact⟨rfl,p2⟩)
 subst q2;exact⟨S2,q1,q3⟩
def aK(l:List Sm)(i:Nat):Int:=(l.getD i (0,0)).1
def bE(l:List Sm)(i:Nat):Int:=(l.getD i (0,0)).2
def kl(l:List Sm)(i:Nat):List Bool:=
 bP (if i=1 then(aK l 1-aK l 0).toNat else eF ((aK l i-aK l (i-1))-(aK l (i-1)-aK l (i-2))))++bP (eF (bE l i-bE l (i-1)))
def cI(l:List Sm):Nat→List Bool
 |0=>bP l.length++bP (aK l 0).toNat++bP (eF (bE l 0))
 |k+1=>cI l k++kl l (k+1)
def bo(l:List Sm):List UInt8:=eZ (cI l (l.length-1))
structure oF(l:List Sm):Prop where
 ne:l≠[]
 len:l.length≤120
 t0:∀i,0≤aK l i
 t1:∀i,aK l i≤1099511627776
 v0:∀i,-1152921504606846976≤bE l i
 v1:∀i,bE l i≤1152921504606846976
 rise:∀i,i+1<l.length→aK l i<aK l (i+1)
def Xn{l:List Sm}:∀(n i:Nat),l.length-i=n→de l i=0→∀j (h:j<l.length),i≤j→dq l j h=0:=by
 intro n
 induction n with
 |zero=>intro i hi _ j h hij;omega
 |succ n ih=>
  intro i hi h j hj hij;have hil:i<l.length:=by omega
  rw[de,dif_pos hil]at h;split at h
  ·rename_i hz;by_cases e:i=j
   ·subst e;exact hz
   ·exact ih (i+1) (by omega) h j hj (by omega)
  ·rename_i hz;exact absurd h hz
def uw{l:List Sm}(h:fV l=0):oF l:=by
 unfold fV at h;split at h
 ·cases h
 rename_i hl;have hs:=Xn l.length 0 (by omega) h;have hg:∀i (h:i<l.length),l.getD i (0,0)=l[i]:=fun i h=>by simp[List.getD_eq_getElem?_getD,h]
 have hm:∀i,eS (aK l i) (bE l i)=true:=by
  intro i;by_cases hi:i<l.length
  ·have:=hs i hi (cP _);unfold aK bE;rw[hg i hi];unfold dq at this
   cases e:eS l[i].1 l[i].2 with
   |true=>rfl
   |false=>rw[if_pos e]at this;cases this
  ·unfold aK bE;rw[List.getD_eq_getElem?_getD,dY (by omega)];rfl
 have hm':∀i,0≤aK l i∧aK l i≤1099511627776 ∧ -1152921504606846976≤bE l i∧bE l i≤1152921504606846976:=fun i=>by
  have:=hm i;simp only[eS,aJ,decide_eq_true_eq]at this;omega
 refine⟨fun e=>by subst e;simp at hl,by omega,fun i=>(hm' i).1,fun i=>(hm' i).2.1,fun i=>(hm' i).2.2.1,fun i=>(hm' i).2.2.2,fun i hi=>?_⟩;have:=hs (i+1) hi (cP _);unfold dq at this;have hmi:=hm (i+1);unfold aK bE at hmi;rw[hg (i+1) hi]at hmi;rw[if_neg (by rw[hmi];decide),dif_pos (by omega)]at this;unfold aK;rw[hg i (by omega),hg (i+1) hi];simp only[nq]at this;split at this
 ·cases this
 ·omega
def Fd{l:List Sm}(h:oF l):∀k,(cI l k).length≤213+142*k:=by
 have hz:∀n:Int,-4611686018427387904≤n→n<4611686018427387904→(bP (eF n)).length≤71:=fun n h1 h2=>by
  rw[lU];have:=mg (uo h1 h2);omega
 have hn:∀n:Nat,n<2^64→(bP n).length≤71:=fun n h=>by rw[lU];have:=mg h;omega
 have t0:=h.t0;have t1:=h.t1;have v0:=h.v0;have v1:=h.v1;intro k
 induction k with
 |zero=>
  have a:=hn l.length (by have:=h.len;omega);have b:=hn (aK l 0).toNat (by have:=t0 0;have:=t1 0;omega);have c:=hz (bE l 0) (by have:=v0 0;omega) (by have:=v1 0;omega)
  simp only[cI,am];omega
 |succ k ih=>
  have a:(bP (if k+1=1 then(aK l 1-aK l 0).toNat else eF ((aK l (k+1)-aK l (k+1-1))-(aK l (k+1-1)-aK l (k+1-2))))).length≤71:=by
   split
   ·exact hn _ (by have:=t0 0;have:=t1 1;omega)
   ·exact hz _ (by have:=t0 (k+1);have:=t1 (k+1-1);have:=t1 (k+1-1);have:=t0 (k+1-2);omega) (by have:=t1 (k+1);have:=t0 (k+1-1);have:=t1 (k+1-2);omega)
  have b:=hz (bE l (k+1)-bE l (k+1-1)) (by have:=v0 (k+1);have:=v1 (k+1-1);omega) (by have:=v1 (k+1);have:=v0 (k+1-1);omega);simp only[cI,kl,am];omega
end Ps
set_option linter.defProp false
namespace Ps
set_option linter.unusedSimpArgs false
set_option linter.unusedVariables false
open Go
def Xo:T.fn 264=some (.code z32):=rfl
def Fe(a b:Int)(ha:0≤a∧a≤1099511627776)(hb:0≤b∧b≤1099511627776):IntKind.i64.wrap (a-b)=a-b:=au (by omega) (by omega)
def Xp{l:List Sm}(h:oF l){v:PV}(hv:cM 2 v (l.map bC)){S0:St}{w:Nat}{K:List Kt}{Q:Fr→St→Prop}(k:Nat)(fr:Fr)(S:St)(hk:k<l.length-1)
  (f0:fr 0=v)(f6:fr 6=.bfn 333 [.ptr w 0])(f7:fr 7=.bfn 334 [.ptr w 0])(f5:fr 5=.ptr w 0)(f8:fr 8=.int .i64 ((k+1:Nat):Int))(he:ja S0 S w (cI l k))
  (kk:∀fr' S',fr' 0=v→fr' 6=.bfn 333 [.ptr w 0]→fr' 7=.bfn 334 [.ptr w 0]→fr' 5=.ptr w 0→fr' 8=.int .i64 ((k+2:Nat):Int)→ja S0 S' w (cI l (k+1))→Ok (aE T (.lp ve::.blk 0::K) fr' S') Q) :
  Ok (aE T (.lp ve::.blk 0::K) fr S) Q:=by
 have t0:=h.t0;have t1:=h.t1;have v0:=h.v0;have v1:=h.v1;have hl:=h.len;have hlen:=hv.len;rw[bz]at hlen
 have hg:∀i,i<l.length→ca 2 v (.int .i64 (i:Int))=some (.ref [.int .i64 (aK l i),.int .i64 (bE l i)]):=fun i hi=>by
  have:=hv.get i (by simpa using hi) .i64;rw[this];simp[aK,bE,List.getD_eq_getElem?_getD,hi]
 have hlt:((k+1:Nat):Int)<(l.length:Int):=by omega
 have hw1:IntKind.i64.wrap (((k+1:Nat):Int)-1)=((k:Nat):Int):=by rw[au]<;>omega
 have hw2:IntKind.i64.wrap (((k+1:Nat):Int)+1)=((k+2:Nat):Int):=by rw[au]<;>omega
 have g1:=hg (k+1) (by omega);have g0:=hg k (by omega);have hbl:=Fd h k;have hf:=Fe (aK l (k+1)) (aK l k) ⟨t0 _,t1 _⟩ ⟨t0 _,t1 _⟩;have hvw:IntKind.i64.wrap (bE l (k+1)-bE l k)=bE l (k+1)-bE l k:=au (by have:=v0 (k+1);have:=v1 k;omega) (by have:=v1 (k+1);have:=v0 k;omega);have hrise:=h.rise k (by omega);rw[ax];by_cases hk0:k=0
 ·subst hk0
  have hu:IntKind.u64.wrap (aK l 1-aK l 0)=(((aK l 1-aK l 0).toNat:Nat):Int):=by
   have hrise:aK l 0<aK l 1:=hrise;have e:aK l 1-aK l 0=(((aK l 1-aK l 0).toNat:Nat):Int):=by omega
   rw[e,iY (by have:=t1 1;have:=t0 0;omega)];simp
  obtain⟨S1,p1,p2,_⟩:=uq he (by omega) (u:=(aK l 1-aK l 0).toNat) (by have:=t1 1;have:=t0 0;omega);obtain⟨S2,q1,q2⟩:=ur p2 (by rw[am,lU];have:=mg (u:=(aK l 1-aK l 0).toNat) (k:=64) (by have:=t1 1;have:=t0 0;omega);omega) (n:=bE l 1-bE l 0) (by have:=v0 1;have:=v1 0;omega) (by have:=v1 1;have:=v0 0;omega)
  have q2:ja S0 S2 w (cI l 1):=by
   have e:cI l 1=cI l 0++kl l 1:=rfl;rw[e,kl,if_pos rfl,←fi];exact q2
  clear he p2 hbl;have hlt:(1:Int)<(l.length:Int):=by omega
  have f8:fr 8=.int .i64 1:=f8;have g1:ca 2 v (.int .i64 1)=some (.ref [.int .i64 (aK l 1),.int .i64 (bE l 1)]):=g1;have g0:ca 2 v (.int .i64 0)=some (.ref [.int .i64 (aK l 0),.int .i64 (bE l 0)]):=g0;have hw1:IntKind.i64.wrap 0=0:=rfl;have hw2:IntKind.i64.wrap 2=2:=rfl;have hf:IntKind.i64.wrap (aK l 1-aK l 0)=aK l 1-aK l 0:=hf;have hvw:IntKind.i64.wrap (bE l 1-bE l 0)=bE l 1-bE l 0:=hvw;generalize ((aK l 1-aK l 0).toNat:Int)=u at hu p1;simp -implicitDefEqProofs [f0,f5,f6,f7,f8,hlen,hlt,hw1,hw2,g1,g0,bD,hf,hvw,hu,p1,q1];exact kk _ _ (by simp[f0]) (by simp[f6]) (by simp[f7]) (by simp[f5]) (by simp) q2
 ·obtain⟨j,rfl⟩:∃j,k=j+1:=⟨k-1,by omega⟩;have hne:((((j+1+1:Nat):Int))==1)=false:=by rw[beq_eq_false_iff_ne];omega
  have hw3:IntKind.i64.wrap (((j+1+1:Nat):Int)-2)=((j:Nat):Int):=by rw[au]<;>omega
  have gj:=hg j (by omega);have hf2:=Fe (aK l (j+1)) (aK l j) ⟨t0 _,t1 _⟩ ⟨t0 _,t1 _⟩;have b1:-4611686018427387904≤(aK l (j+2)-aK l (j+1))-(aK l (j+1)-aK l j):=by have:=t0 (j+2);have:=t1 (j+1);have:=t0 j;omega
  have b2:(aK l (j+2)-aK l (j+1))-(aK l (j+1)-aK l j)<4611686018427387904:=by have:=t1 (j+2);have:=t0 (j+1);have:=t1 j;omega
  have hf3:IntKind.i64.wrap ((aK l (j+2)-aK l (j+1))-(aK l (j+1)-aK l j))=(aK l (j+2)-aK l (j+1))-(aK l (j+1)-aK l j):=au (by omega) (by omega);obtain⟨S1,p1,p2⟩:=ur he (by omega) b1 b2;obtain⟨S2,q1,q2⟩:=ur p2 (by rw[am,lU];have:=mg (uo b1 b2);omega) (n:=bE l (j+2)-bE l (j+1)) (by have:=v0 (j+2);have:=v1 (j+1);omega) (by have:=v1 (j+2);have:=v0 (j+1);omega)
  have q2:ja S0 S2 w (cI l (j+2)):=by
   have e:cI l (j+2)=cI l (j+1)++kl l (j+2):=rfl;rw[e,kl,if_neg (by omega),←fi];exact q2
  clear he p2 hbl;simp -implicitDefEqProofs [f0,f5,f6,f7,f8,hlen,hlt,hw1,hw2,hw3,g1,g0,gj,bD,hf,hf2,hf3,hvw,hne,p1,q1,-Int.natCast_add];exact kk _ _ (by simp[f0]) (by simp[f6]) (by simp[f7]) (by simp[f5]) (by simp) q2
def Xq{l:List Sm}{v:PV}(hv:cM 2 v (l.map bC))(hz:fV l=0)(S:St):∃bv,aN T 264 [v] S=some (.tup [bv,.int .i64 0],S)∧ay 1 bv (aI (bo l)):=by
 have h:=uw hz;have t0:=h.t0;have t1:=h.t1;have v0:=h.v0;have v1:=h.v1;have hl:=h.len;have hlen:=hv.len;rw[bz]at hlen;have hpos:0<l.length:=List.length_pos_iff.2 h.ne;have hck:=fun S=>FC hv S;rw[hz]at hck;have hck:∀S,aN T 154 [v] S=some (.int .i64 0,S):=hck
 have g0:ca 2 v (.int .i64 0)=some (.ref [.int .i64 (aK l 0),.int .i64 (bE l 0)]):=by
  have:=hv.get 0 (by simpa using hpos) .i64;rw[show(0:Int)=((0:Nat):Int)from rfl,this];simp[aK,bE,List.getD_eq_getElem?_getD,hpos]
 have hu1:IntKind.u64.wrap (l.length:Int)=(l.length:Int):=iY (by omega)
 have hu2:IntKind.u64.wrap (aK l 0)=(((aK l 0).toNat:Nat):Int):=by
  have e:aK l 0=(((aK l 0).toNat:Nat):Int):=by have:=t0 0;omega
  rw[e,iY (by have:=t1 0;omega)];simp
 have hlw:=mg (u:=l.length) (k:=64) (by omega);have hlt:=mg (u:=(aK l 0).toNat) (k:=64) (by have:=t1 0;omega);have he0:ja S ⟨S.objs++[[.nils,.int .i64 0]],S.tips⟩ S.objs.length []:=⟨(aL.refl S).obj _,aU _,.nils,jn 1,by simp⟩;obtain⟨S1,p1,e1,_⟩:=uq he0 (by simp) (u:=l.length) (by omega);obtain⟨S2,p2,e2,_⟩:=uq e1 (by simp[lU];omega) (u:=(aK l 0).toNat) (by have:=t1 0;omega);obtain⟨S3,p3,e3⟩:=ur e2 (by simp[lU];omega) (n:=bE l 0) (by have:=v0 0;omega) (by have:=v1 0;omega)
 have e3:ja S S3 S.objs.length (cI l 0):=by
  have:cI l 0=[]++bP l.length++bP (aK l 0).toNat++bP (eF (bE l 0)):=by simp[cI]
  rw[this];exact e3
 clear e1 e2 he0;generalize (((aK l 0).toNat:Nat):Int)=uu at hu2 p2
 have main:∀Q:Fr→St→Prop,(∀fr S' bv,aL S S'→ay 1 bv (aI (bo l))→fr 2=bv→fr 3=.int .i64 0→Q fr S')→Ok (aE T [.code z32.body] (bk [v]) S) Q:=by
  intro Q hQ;simp -implicitDefEqProofs [z32,hck,aG,aR,dx,ak,hlen,hu1,g0,bD,hu2,bt,p1,p2,p3];refine jm (l.length-1) (fun k fr' S'=>fr' 0=v∧fr' 6=.bfn 333 [.ptr S.objs.length 0]∧fr' 7=.bfn 334 [.ptr S.objs.length 0]∧fr' 5=.ptr S.objs.length 0∧fr' 8=.int .i64 ((k+1:Nat):Int)∧ja S S' S.objs.length (cI l k)) ?_ ?_ 0 (cP _) _ _ ⟨by simp,by simp,by simp,by simp,by simp,e3⟩
  ·rintro k fr' S' hk ⟨f0,f6,f7,f5,f8,he⟩ kk;exact Xp h hv k fr' S' hk f0 f6 f7 f5 f8 he (fun fr2 S2 a b c d e f=>kk fr2 S2 ⟨a,b,c,d,e,f⟩)
  ·rintro fr' S' ⟨f0,f6,f7,f5,f8,hg,hn,bv,hbv,ho⟩;have hn1:((l.length-1+1:Nat):Int)=(l.length:Int):=by omega
   rw[hn1]at f8;rw[ax];simp -implicitDefEqProofs [f0,f5,f8,hlen,bI ho,bD];exact hQ _ _ bv hg hbv (by simp) (by simp)
 obtain⟨r,S',h1,bv,h2,h3,h4⟩:=qW (R:=fun r S'=>∃bv,ay 1 bv (aI (bo l))∧r=.tup [bv,.int .i64 0]∧S'=S) Xo rfl (main _ (fun fr S' bv hg hbv f2 f3=>by
  refine⟨[bv,.int .i64 0],?_,bv,hbv,?_⟩
  ·simp[z32,cF,gu,f2,f3]
  ·have e:aW false S S' (.tup [bv,.int .i64 0])=(.tup [bv,.int .i64 0],S):=by
    rw[cZ hg (by simp[PV.free,PV.freeL,hbv.free])];simp[PV.frz,PV.frzL,hbv.frz]
   exact⟨congrArg Prod.fst e,congrArg Prod.snd e⟩))
 subst h3 h4;exact⟨bv,h1,h2⟩
end Ps
set_option linter.defProp false
namespace Ps
set_option linter.unusedSimpArgs false
set_option linter.unusedVariables false
open Go
def fX(b:List UInt8)(at_:Nat):Nat→Nat
 |0=>0
 |n+1=>2*fX b at_ n+(eY b (at_+n)).toNat
theorem yj(b:List UInt8)(a:Nat):∀n,fX b a n<2^n
 |0=>by simp[fX]
 |n+1=>by
  have:=yj b a n;have h2:(eY b (a+n)).toNat≤1:=by cases eY b (a+n)<;>decide
  rw[fX,uW];omega
def aw(b:List UInt8)(a n:Nat):Nat×Nat:=if 8*b.length<a then(0,2)else if 8*b.length-a<n then(0,4)else(fX b a n,0)
def dr(b:List UInt8)(a:Nat):Nat×Nat×Nat:=
 if(aw b a 7).2≠0 then(0,0,(aw b a 7).2)else if 64<(aw b a 7).1 then(0,0,5)else
 if(aw b (a+7) (aw b a 7).1).2≠0 then(0,0,(aw b (a+7) (aw b a 7).1).2)else if bW (aw b (a+7) (aw b a 7).1).1≠(aw b a 7).1 then(0,0,5)else
 ((aw b (a+7) (aw b a 7).1).1,a+7+(aw b a 7).1,0)
def Yj:T.fn 406=some (.code oQ):=rfl
def Yk{a k:Nat}(hk:k≤8){l:IntKind}:arith .shr (.int .u8 (a:Int)) (.int l (k:Int))=some (.int .u8 ((a/2^k:Nat):Int)):=by
 have h1:¬((k:Int)<0):=by omega
 have h2:min (k:Int).toNat IntKind.u8.bits=k:=by simp[IntKind.bits];omega
 simp only[arith,ef,ld,if_true,if_neg h1,h2];rw[pS _ (by exact_mod_cast cP (2^k))]
 norm_cast
def Yl:∀m:Fin 256,lS .u8 ((m.val:Nat):Int) 1=((m.val%2:Nat):Int):=by decide +kernel
def Ym{x:Nat}(hx:x<256):lS .u8 (x:Int) 1=((x%2:Nat):Int):=Yl ⟨x,hx⟩
def Yn(u:Nat)(b:Bool):(2*u ||| b.toNat)=2*u+b.toNat:=by
 have:=Nat.two_pow_add_eq_or_of_lt (i:=1) (b:=b.toNat) (by cases b<;>decide) u;simpa using this.symm
def Yo{b:List UInt8}{bv:PV}(hv:cM 1 bv (aI b)){a n:Nat}(hb:8*b.length≤1099511627776)(hn:n≤64)(han:a+n≤8*b.length){K:List Kt}{Q:Fr→St→Prop}{fr:Fr}{S:St}{c:PV}
  (h1:fr 1=.int .i64 (a:Int))(h3:fr 3=.ref [bv,c])(h37:fr 37=.int .i64 (n:Int))(h38:fr 38=.int .i64 0)(h8:fr 8=.int .u64 0)
  (kk:∀fr',fr' 8=.int .u64 ((fX b a n:Nat):Int)→Ok (aE T K fr' S) Q):Ok (aE T (.lp Bx::.blk 0::K) fr S) Q:=by
 refine jm n (fun i fr' S'=>fr' 1=.int .i64 (a:Int)∧fr' 3=.ref [bv,c]∧fr' 37=.int .i64 (n:Int)∧fr' 38=.int .i64 (i:Int)∧fr' 8=.int .u64 ((fX b a i:Nat):Int)∧S'=S) ?_ ?_ 0 (cP _) _ _
  ⟨h1,h3,h37,by simpa using h38,by simpa[fX]using h8,rfl⟩
 ·rintro i fr' S' hi ⟨g1,g3,g37,g38,g8,rfl⟩ k;have hlt:(i:Int)<(n:Int):=by omega
  have hvl:=yj b a i;have hp:2^i≤2^63:=nv (by decide) (by omega)
  have hs:arith .shl (.int .u64 ((fX b a i:Nat):Int)) (.int .u64 1)=some (.int .u64 ((2*fX b a i:Nat):Int)):=by
   have:arith .shl (.int .u64 ((fX b a i:Nat):Int)) (.int .u64 1)=some (.int .u64 (IntKind.u64.wrap (((fX b a i:Nat):Int)*2))):=rfl;rw[this,show((fX b a i:Nat):Int)*2=((2*fX b a i:Nat):Int)by omega,iY (by omega)]
  have hadd:IntKind.i64.wrap ((a:Int)+(i:Int))=((a+i:Nat):Int):=by rw[au]<;>omega
  have hdiv:IntKind.i64.wrap (((a+i:Nat):Int)/8)=(((a+i)/8:Nat):Int):=by rw[au]<;>omega
  have hmod:(((a+i:Nat):Int).tmod 8)=(((a+i)%8:Nat):Int):=by rw[uJ (by omega)];omega
  have hsub:IntKind.i64.wrap (7-(((a+i)%8:Nat):Int))=((7-(a+i)%8:Nat):Int):=by rw[au]<;>omega
  have hq:(a+i)/8<b.length:=by omega
  have hg:=hv.get ((a+i)/8) (by rw[bh];exact hq) .i64
  have hgx:(aI b)[(a+i)/8]'(by rw[bh];exact hq)=.int .u8 ((b.getD ((a+i)/8) 0).toNat:Int):=by
   simp[aI,List.getD_eq_getElem?_getD,hq]
  rw[hgx,EA]at hg;have hshr:=Yk (a:=(b.getD ((a+i)/8) 0).toNat) (k:=7-(a+i)%8) (by omega) (l:=.i64);have hand:=Ym (x:=(b.getD ((a+i)/8) 0).toNat/2^(7-(a+i)%8)) (Ee (Nat.div_le_self _ _) (UInt8.toNat_lt _))
  have hbit:(b.getD ((a+i)/8) 0).toNat/2^(7-(a+i)%8)%2=(eY b (a+i)).toNat:=by
   unfold eY;rw[Nat.testBit_eq_decide_div_mod_eq];have:=Nat.mod_two_eq_zero_or_one ((b.getD ((a+i)/8) 0).toNat/2^(7-(a+i)%8));rcases this with h|h<;>rw[h]<;>rfl
  rw[hbit]at hand;have hbl:(eY b (a+i)).toNat≤1:=by cases eY b (a+i)<;>decide
  have hto:IntKind.u64.wrap (((eY b (a+i)).toNat:Nat):Int)=(((eY b (a+i)).toNat:Nat):Int):=iY (by omega);have hor:=Ey (a:=2*fX b a i) (b:=(eY b (a+i)).toNat) (by omega) (by omega);rw[Yn]at hor;have hw:IntKind.i64.wrap ((i:Int)+1)=((i+1:Nat):Int):=by rw[au]<;>omega
  have hnext:2*fX b a i+(eY b (a+i)).toNat=fX b a (i+1):=rfl;rw[hnext]at hor;generalize (b.getD ((a+i)/8) 0).toNat/2^(7-(a+i)%8)=y at hshr hand;generalize (b.getD ((a+i)/8) 0).toNat=z at hg hshr;rw[ax];simp -implicitDefEqProofs [g1,g3,g37,g38,g8,hlt,hi,hs,hadd,hdiv,hmod,hsub,hg,bD,hshr,hand,hto,hor,-Int.natCast_ediv,-Int.natCast_emod,-Int.natCast_add,-Int.natCast_mul];exact k _ _ ⟨by simp[g1],by simp[g3],by simp[g37],by simp[hw],by simp,rfl⟩
 ·rintro fr' S' ⟨g1,g3,g37,g38,g8,rfl⟩;rw[ax];simp -implicitDefEqProofs [g37,g38];exact kk _ (by simp[g8])
def Yp(b:List UInt8):yY b (8*b.length):=⟨by omega,fun h=>by omega⟩
def GI{b:List UInt8}{bv:PV}(hv:ay 1 bv (aI b)){a n:Nat}(hb:8*b.length≤1099511627776)(ha:a≤1099511627776000)(hn:n≤64)(S:St) :
  aN T 406 [.agg [bv,.int .i64 ((8*b.length:Nat):Int)],.int .i64 (a:Int),.int .i64 (n:Int)] S=some (.tup [.int .u64 ((aw b a n).1:Nat),.int .i64 ((aw b a n).2:Nat)],S):=by
 obtain⟨o1,o2⟩:=hv.one;have hR:=fun S=>FZ hv (n:=8*b.length) (by omega) (Yp b) S;have h0:¬((n:Int)<0):=by omega
 have h1:¬((64:Int)<(n:Int)):=by omega
 have h2:¬((a:Int)<0):=by omega
 refine bZ Yj rfl ?_;by_cases hA:8*b.length<a
 ·have e:aw b a n=(0,2):=by rw[aw,if_pos hA]
  have h3:(((8*b.length:Nat):Int)<(a:Int)):=by omega
  rw[e];generalize ((8*b.length:Nat):Int)=L at *;simp -implicitDefEqProofs [oQ,aG,o1,o2,fN,bD,hR,h0,h1,h2,h3];exact cZ (aL.refl S) rfl
 ·have h3:¬(((8*b.length:Nat):Int)<(a:Int)):=by omega
  have hw:IntKind.i64.wrap (((8*b.length:Nat):Int)-(a:Int))=((8*b.length-a:Nat):Int):=by rw[au]<;>omega
  by_cases hB:8*b.length-a<n
  ·have e:aw b a n=(0,4):=by rw[aw,if_neg hA,if_pos hB]
   have h4:(((8*b.length-a:Nat):Int)<(n:Int)):=by omega
   rw[e];generalize ((8*b.length:Nat):Int)=L at *;generalize ((8*b.length-a:Nat):Int)=L2 at *;simp -implicitDefEqProofs [oQ,aG,o1,o2,fN,bD,hR,h0,h1,h2,h3,hw,h4];exact cZ (aL.refl S) rfl
  ·have e:aw b a n=(fX b a n,0):=by rw[aw,if_neg hA,if_neg hB]
   have h4:¬(((8*b.length-a:Nat):Int)<(n:Int)):=by omega
   rw[e];have hmx:a+n≤8*b.length:=by omega
   generalize ((8*b.length:Nat):Int)=L at *;generalize ((8*b.length-a:Nat):Int)=L2 at *;simp -implicitDefEqProofs [oQ,aG,o1,o2,fN,bD,hR,h0,h1,h2,h3,hw,h4];refine Yo hv.reads hb hn hmx (c:=.int .i64 L) (by simp) (by simp) (by simp) (by simp) (by simp) (fun fr' g8=>?_);simp -implicitDefEqProofs [g8];exact cZ (aL.refl S) rfl
def Yq:T.fn 380=some (.code lc):=rfl
def yk(b:List UInt8)(a n:Nat):(aw b a n).1<2^n:=by
 have h0:=Nat.two_pow_pos n;unfold aw;split
 ·exact h0
 ·split
  ·exact h0
  ·exact yj b a n
def Yr{b:List UInt8}{bv:PV}(hv:ay 1 bv (aI b)){a:Nat}(hb:8*b.length≤1099511627776)(ha:a≤1099511627776)(S:St) :
  aN T 380 [.agg [bv,.int .i64 ((8*b.length:Nat):Int)],.int .i64 (a:Int)] S=some (.tup [.int .u64 ((dr b a).1:Nat),.int .i64 ((dr b a).2.1:Nat),.int .i64 ((dr b a).2.2:Nat)],S):=by
 obtain⟨o1,o2⟩:=hv.one;have g1:∀S,aN T 406 [.agg [bv,.int .i64 ((8*b.length:Nat):Int)],.int .i64 (a:Int),.int .i64 7] S=some (.tup [.int .u64 ((aw b a 7).1:Nat),.int .i64 ((aw b a 7).2:Nat)],S):=fun S=>GI hv (n:=7) hb (by omega) (by decide) S;have hl7:=yk b a 7;have hw7:IntKind.i64.wrap ((a:Int)+7)=((a+7:Nat):Int):=by rw[au]<;>omega
 have hwn:IntKind.i64.wrap (((aw b a 7).1:Nat):Int)=(((aw b a 7).1:Nat):Int):=au (by omega) (by omega);refine bZ Yq rfl ?_;by_cases e1:(aw b a 7).2=0
 rotate_left
 ·have hc:(((aw b a 7).2:Nat):Int) != 0:=by simpa using e1
  have e:dr b a=(0,0,(aw b a 7).2):=by rw[dr,if_pos e1]
  rw[e];generalize ((8*b.length:Nat):Int)=L at *;generalize (((aw b a 7).2:Nat):Int)=x at *;simp -implicitDefEqProofs [lc,aG,o1,o2,fN,g1,hc];exact cZ (aL.refl S) rfl
 have z1:(((aw b a 7).2:Nat):Int)=0:=by omega
 rw[z1]at g1;by_cases e2:64<(aw b a 7).1
 ·have hc:(64:Int)<(((aw b a 7).1:Nat):Int):=by omega
  have e:dr b a=(0,0,5):=by rw[dr,if_neg (by omega),if_pos e2]
  rw[e];generalize ((8*b.length:Nat):Int)=L at *;generalize (((aw b a 7).1:Nat):Int)=x at *;simp -implicitDefEqProofs [lc,aG,o1,o2,fN,g1,hc];exact cZ (aL.refl S) rfl
 have hc2:¬(64:Int)<(((aw b a 7).1:Nat):Int):=by omega
 have g2:=fun S=>GI hv (a:=a+7) (n:=(aw b a 7).1) hb (by omega) (by omega) S;have hl2:=yk b (a+7) (aw b a 7).1;have hp:2^(aw b a 7).1≤2^64:=nv (by decide) (by omega);by_cases e3:(aw b (a+7) (aw b a 7).1).2=0
 rotate_left
 ·have hc:(((aw b (a+7) (aw b a 7).1).2:Nat):Int) != 0:=by simpa using e3
  have e:dr b a=(0,0,(aw b (a+7) (aw b a 7).1).2):=by rw[dr,if_neg (by omega),if_neg e2,if_pos e3]
  rw[e];generalize ((8*b.length:Nat):Int)=L at *;generalize (((aw b (a+7) (aw b a 7).1).2:Nat):Int)=y at *;generalize (((aw b (a+7) (aw b a 7).1).1:Nat):Int)=y1 at *;generalize (((aw b a 7).1:Nat):Int)=x at *;simp -implicitDefEqProofs [lc,aG,o1,o2,fN,g1,hc2,hw7,hwn,g2,hc,-Int.natCast_add];exact cZ (aL.refl S) rfl
 have z3:(((aw b (a+7) (aw b a 7).1).2:Nat):Int)=0:=by omega
 rw[z3]at g2;have hlen:=FY (u:=(aw b (a+7) (aw b a 7).1).1) (by omega);by_cases e4:bW (aw b (a+7) (aw b a 7).1).1=(aw b a 7).1
 rotate_left
 ·have hc:((((bW (aw b (a+7) (aw b a 7).1).1:Nat):Int)) != (((aw b a 7).1:Nat):Int))=true:=by rw[bne_iff_ne];omega
  have e:dr b a=(0,0,5):=by rw[dr,if_neg (by omega),if_neg e2,if_neg (by omega),if_pos e4]
  rw[e];generalize ((8*b.length:Nat):Int)=L at *;generalize ((bW (aw b (a+7) (aw b a 7).1).1:Nat):Int)=y2 at *;generalize (((aw b (a+7) (aw b a 7).1).1:Nat):Int)=y1 at *;generalize (((aw b a 7).1:Nat):Int)=x at *;simp -implicitDefEqProofs [lc,aG,o1,o2,fN,g1,hc2,hw7,hwn,g2,dF,hlen,hc,-Int.natCast_add];exact cZ (aL.refl S) rfl
 have hc:((((bW (aw b (a+7) (aw b a 7).1).1:Nat):Int)) != (((aw b a 7).1:Nat):Int))=false:=by rw[bne_eq_false_iff_eq];omega
 have e:dr b a=((aw b (a+7) (aw b a 7).1).1,a+7+(aw b a 7).1,0):=by rw[dr,if_neg (by omega),if_neg e2,if_neg (by omega),if_neg (by omega)]
 have hwe:IntKind.i64.wrap (((a+7:Nat):Int)+(((aw b a 7).1:Nat):Int))=((a+7+(aw b a 7).1:Nat):Int):=by rw[au]<;>omega
 rw[e];generalize ((8*b.length:Nat):Int)=L at *;generalize ((bW (aw b (a+7) (aw b a 7).1).1:Nat):Int)=y2 at *;generalize (((aw b (a+7) (aw b a 7).1).1:Nat):Int)=y1 at *;generalize ((a+7+(aw b a 7).1:Nat):Int)=y3 at *;generalize (((aw b a 7).1:Nat):Int)=x at *;simp -implicitDefEqProofs [lc,aG,o1,o2,fN,g1,hc2,hw7,hwn,g2,dF,hlen,hc,hwe,-Int.natCast_add];exact cZ (aL.refl S) rfl
def jc(u:Nat):Int:=if u%2=0 then((u/2:Nat):Int)else -((u/2:Nat):Int)-1
def Ys:T.fn 379=some (.code sr):=rfl
def Yt{u:Nat}(hu:u<2^64)(S:St):aN T 379 [.int .u64 (u:Int)] S=some (.int .i64 (jc u),S):=by
 have h1:arith .shr (.int .u64 (u:Int)) (.int .u64 1)=some (.int .u64 ((u/2:Nat):Int)):=XI (k:=1) (by decide);have h2:IntKind.i64.wrap ((u/2:Nat):Int)=((u/2:Nat):Int):=au (by omega) (by omega);have h3:=Fa hu;have h4:IntKind.i64.wrap ((u%2:Nat):Int)=((u%2:Nat):Int):=au (by omega) (by omega);have h5:IntKind.i64.wrap (-((u%2:Nat):Int)) = -((u%2:Nat):Int):=au (by omega) (by omega);have hm:u/2<9223372036854775808:=by omega
 have hx:pi .i64 ((u/2:Nat):Int) (-((u%2:Nat):Int))=jc u:=by
  unfold jc;generalize u/2=m at hm;have e1:BitVec.ofInt 64 (m:Int)=BitVec.ofNat 64 m:=BitVec.ofInt_ofNat 64 m;split
  ·rename_i h;rw[h];show IntKind.i64.wrap (((BitVec.ofInt 64 (m:Int) ^^^ BitVec.ofInt 64 0).toNat:Nat):Int)=_;have e3:BitVec.ofInt 64 0=0#64:=rfl;rw[e1,e3,BitVec.xor_zero,BitVec.toNat_ofNat,iy (by omega),au (by omega) (by omega)]
  ·rename_i h;have h1:u%2=1:=by omega
   rw[h1];show IntKind.i64.wrap (((BitVec.ofInt 64 (m:Int) ^^^ BitVec.ofInt 64 (-1)).toNat:Nat):Int)=_;have e4:BitVec.ofInt 64 (-1)=BitVec.allOnes 64:=rfl;rw[e1,e4,BitVec.xor_allOnes,BitVec.toNat_not,BitVec.toNat_ofNat,iy (by omega)]
   have hk:∀k:Nat,9223372036854775808≤k→k<18446744073709551616→IntKind.i64.wrap (k:Int)=(k:Int)-18446744073709551616:=by
    intro k h1 h2;simp only[IntKind.wrap,IntKind.bits,IntKind.signed];simp;omega
   rw[hk _ (by omega) (by omega)];omega
 refine bZ Ys rfl ?_;generalize ((u/2:Nat):Int)=x at *;generalize ((u%2:Nat):Int)=y at *;simp -implicitDefEqProofs [sr,h1,h2,h3,h4,h5,hx]
def Yu{u:Nat}(hu:u<2^64):fc T 379 [.int .u64 (u:Int)]=some (.int .i64 (jc u)):=pP (Yt hu cS) rfl
end Ps
set_option linter.defProp false
namespace Ps
set_option linter.unusedSimpArgs false
set_option linter.unusedVariables false
open Go Go.Proofs
def dm:tie.T=T:=rfl
def ZY{a b:PV}{l:List PV}:bG true 2 (a::b::l)=some (.agg [a,b]):=by simp[bG]
def kp(bv:PV)(b:List UInt8)(a:Nat):List PV:=[bv,.int .i64 ((8*b.length:Nat):Int),.int .i64 (a:Int)]
def eI(S:St)(r:Nat)(bv:PV)(b:List UInt8)(a:Nat):St:=⟨S.objs.set r (kp bv b a),S.tips⟩
def gH(b:List UInt8)(a:Nat):Option (Nat×Nat):=if(dr b a).2.2=0 then some ((dr b a).1,(dr b a).2.1)else none
def fm:PV:=.iface 11 (.agg [])
def sE{b:List UInt8}{a u nx:Nat}(h:gH b a=some (u,nx)):u<2^64∧nx≤8*b.length∧a<nx:=by
 unfold gH at h;split at h
 ·rename_i h0;simp only[ap,bc]at h;obtain⟨rfl,rfl⟩:=h;unfold dr at h0 ⊢;by_cases c1:(aw b a 7).2≠0
  ·rw[if_pos c1]at h0;simp only at h0;exact absurd h0 c1
  rw[if_neg c1]at h0 ⊢;by_cases c2:64<(aw b a 7).1
  ·rw[if_pos c2]at h0;simp at h0
  rw[if_neg c2]at h0 ⊢;by_cases c3:(aw b (a+7) (aw b a 7).1).2≠0
  ·rw[if_pos c3]at h0;simp only at h0;exact absurd h0 c3
  rw[if_neg c3]at h0 ⊢;by_cases c4:bW (aw b (a+7) (aw b a 7).1).1≠(aw b a 7).1
  ·rw[if_pos c4]at h0;simp at h0
  rw[if_neg c4];have hl:=yk b (a+7) (aw b a 7).1;have hp:2^(aw b a 7).1≤2^64:=nv (by decide) (by omega);refine⟨by simp only;omega,?_,by simp only;omega⟩;simp only;have h3:(aw b (a+7) (aw b a 7).1).2=0:=by omega
  revert h3;generalize (aw b a 7).1=n;intro h3;unfold aw at h3;split at h3
  ·cases h3
  ·split at h3
   ·cases h3
   ·omega
 ·cases h
def zD{S:St}{r:Nat}{bv:PV}{b:List UInt8}{a:Nat}(hv:ay 1 bv (aI b))(ho:S.objs[r]?=some (kp bv b a))(hb:8*b.length≤1099511627776)(ha:a≤8*b.length) :
  dc tie 338 [.ptr r 0] S (fun q=>match gH b a with|some (u,nx)=>q=.ret (.int .u64 (u:Int)) (eI S r bv b nx)|none=>q=.pan fm S):=by
 have hg:=fun S=>Yr hv hb (a:=a) (by omega) S;have hlo:=(aM.1 ho).1;simp only[eI,kp]at ho ⊢;generalize ((8*b.length:Nat):Int)=L at *;refine jy tieOk ZH ZI rfl ?_;show W tie yv.body _ _ _;unfold yv;simp only;refine bO tieOk rfl ?_;simp -implicitDefEqProofs [Bj];refine bO tieOk rfl ?_;simp -implicitDefEqProofs [dm,Bk,bI ho,bD,ZY,-Int.natCast_mul,hg];by_cases h0:(dr b a).2.2=0
 ·have hc:((((dr b a).2.2:Nat):Int) != 0)=false:=by rw[bne_eq_false_iff_eq];omega
  have hn:gH b a=some ((dr b a).1,(dr b a).2.1):=by rw[gH,if_pos h0]
  rw[hn];refine fT tieOk rfl ?_;simp -implicitDefEqProofs [dm,wB,hc];refine bO tieOk rfl ?_;simp -implicitDefEqProofs [dm,Bl,aG,ho,ak,-Int.natCast_mul];refine bO tieOk rfl ?_;simp -implicitDefEqProofs [Bm];refine kX ?_
  have hf:aW false S ⟨S.objs.set r [bv,.int .i64 L,.int .i64 ((dr b a).2.1:Nat)],S.tips⟩ (.int .u64 (((dr b a).1:Nat):Int))=(.int .u64 (((dr b a).1:Nat):Int),⟨S.objs.set r [bv,.int .i64 L,.int .i64 ((dr b a).2.1:Nat)],S.tips⟩):=
   iq (by simp) rfl rfl rfl (fun _ _=>fg)
  simp -implicitDefEqProofs [hf]
 ·have hc:((((dr b a).2.2:Nat):Int) != 0)=true:=by rw[bne_iff_ne];omega
  have hn:gH b a=none:=by rw[gH,if_neg h0]
  rw[hn];refine fT tieOk rfl ?_;simp -implicitDefEqProofs [dm,wB,hc];refine dC (dB tieOk ?_);unfold GQ;refine cw rfl ?_;simp -implicitDefEqProofs [aR,dx,cT,bu,nh];have hf:aW false S S fm=(fm,S):=iq rfl rfl rfl rfl (fun _ _=>fg);rw[show(PV.iface 11 (.agg []))=fm from rfl,hf];exact⟨rfl,rfl⟩
def Gk{S:St}{r:Nat}{bv:PV}{b:List UInt8}{a:Nat}(ho:S.objs[r]?=some (kp bv b a)):eI S r bv b a=S:=by
 have:S.objs.set r (kp bv b a)=S.objs:=by
  apply iV;intro i;rw[lM];split
  ·rename_i e;subst e;rw[ho];simp[(aM.1 ho).1]
  ·rfl
 unfold eI;rw[this]
def ZZ{S:St}{r:Nat}{bv:PV}{b:List UInt8}{a:Nat}(hr:r<S.objs.length):(eI S r bv b a).objs[r]?=some (kp bv b a):=cK hr
def sF{S:St}{r:Nat}{bv v:PV}{b:List UInt8}{a:Nat}(hf:v.free=true)(hz:v.frz=v):aW false S (eI S r bv b a) v=(v,eI S r bv b a):=iq (by simp[eI]) rfl hf hz (fun _ _=>fg)
def gI(b:List UInt8)(a:Nat):Option (Nat×Nat):=match gH b a with
 |some (u,nx)=>if 1099511627776<u then none else some (u,nx)
 |none=>none
def fO(b:List UInt8)(a:Nat)(most:Int):Option (Int×Nat):=match gH b a with
 |some (u,nx)=>if jc u < -most∨most<jc u then none else some (jc u,nx)
 |none=>none
def Gl{S:St}{r:Nat}{bv:PV}{b:List UInt8}{a:Nat}(hv:ay 1 bv (aI b))(ho:S.objs[r]?=some (kp bv b a))(hb:8*b.length≤1099511627776)(ha:a≤8*b.length) :
  dc tie 336 [.ptr r 0] S (fun q=>match gI b a with|some (u,nx)=>q=.ret (.int .i64 (u:Int)) (eI S r bv b nx)|none=>∃a',q=.pan fm (eI S r bv b a')):=by
 have hlo:=(aM.1 ho).1;have hnum:=zD hv ho hb ha;refine jy tieOk ZL ZM rfl ?_;show W tie yw.body _ _ _;unfold yw;simp only;refine bO tieOk rfl ?_;simp -implicitDefEqProofs [Bf];refine bw (dC (dB tieOk ?_));unfold GR;refine cw rfl ?_;simp -implicitDefEqProofs;refine ez (by simp[dG]) hnum ?_ ?_
 ·intro v S' hr;refine⟨fun q hq=>(by cases hq),?_⟩
  cases hn:gH b a with
  |none=>rw[hn]at hr;cases hr
  |some p=>
   obtain⟨u,nx⟩:=p;rw[hn]at hr;cases hr;have hlt:=(sE hn).1;refine eL rfl ?_;simp -implicitDefEqProofs;by_cases hc:1099511627776<u
   ·have ht:gI b a=none:=by rw[gI,hn];simp only;rw[if_pos hc]
    have hci:((1099511627776:Int)<(u:Int)):=by omega
    rw[ht];refine fT tieOk rfl ?_;simp -implicitDefEqProofs [vz,hci];refine dC (dB tieOk ?_);unfold GS;refine cw rfl ?_;simp -implicitDefEqProofs [aR,dx,cT,bu,nh];rw[show(PV.iface 11 (.agg []))=fm from rfl,sF rfl rfl];exact⟨rfl,nx,rfl⟩
   ·have ht:gI b a=some (u,nx):=by rw[gI,hn];simp only;rw[if_neg hc]
    have hci:¬((1099511627776:Int)<(u:Int)):=by omega
    have hw:IntKind.i64.wrap (u:Int)=(u:Int):=au (by omega) (by omega);rw[ht];refine fT tieOk rfl ?_;simp -implicitDefEqProofs [vz,hci];refine bO tieOk rfl ?_;simp -implicitDefEqProofs [Bg,hw];refine kX ?_;simp -implicitDefEqProofs;rw[sF rfl rfl];exact⟨rfl,rfl⟩
 ·intro v S' hr
  cases hn:gH b a with
  |some p=>rw[hn]at hr;cases hr
  |none=>
   rw[hn]at hr;cases hr;have ht:gI b a=none:=by rw[gI,hn]
   rw[ht];have hf:aW false S S fm=(fm,S):=iq rfl rfl rfl rfl (fun _ _=>fg);simp only[hf];exact⟨trivial,a,(Gk ho).symm⟩
def Gm{S:St}{r:Nat}{bv:PV}{b:List UInt8}{a:Nat}{most:Int}(hm:0≤most)(hm2:most<9223372036854775807)(hv:ay 1 bv (aI b))(ho:S.objs[r]?=some (kp bv b a))(hb:8*b.length≤1099511627776)(ha:a≤8*b.length) :
  dc tie 337 [.ptr r 0,.int .i64 most] S (fun q=>match fO b a most with|some (u,nx)=>q=.ret (.int .i64 u) (eI S r bv b nx)|none=>∃a',q=.pan fm (eI S r bv b a')):=by
 have hlo:=(aM.1 ho).1;have hnum:=zD hv ho hb ha;refine jy tieOk ZJ ZK rfl ?_;show W tie yy.body _ _ _;unfold yy;simp only;refine bO tieOk rfl ?_;simp -implicitDefEqProofs [Bh];refine bw (dC (dB tieOk ?_));unfold GT;refine cw rfl ?_;simp -implicitDefEqProofs;refine ez (by simp[dG]) hnum ?_ ?_
 ·intro v S' hr;refine⟨fun q hq=>(by cases hq),?_⟩
  cases hn:gH b a with
  |none=>rw[hn]at hr;cases hr
  |some p=>
   obtain⟨u,nx⟩:=p;rw[hn]at hr;cases hr;have hlt:=(sE hn).1;have hz:=Yu hlt;have hneg:IntKind.i64.wrap (0-most) = -most:=by rw[au]<;>omega
   have hneg2:IntKind.i64.wrap (-most) = -most:=by rw[au]<;>omega
   refine eL rfl ?_;simp -implicitDefEqProofs [dm,hz,dF];by_cases hc:jc u < -most
   ·have ht:fO b a most=none:=by rw[fO,hn];simp only;rw[if_pos (.inl hc)]
    rw[ht];refine fT tieOk rfl ?_;simp -implicitDefEqProofs [sh,hneg,hneg2,hc];refine dC (dB tieOk ?_);unfold yx;refine cw rfl ?_;simp -implicitDefEqProofs [aR,dx,cT,bu,nh];rw[show(PV.iface 11 (.agg []))=fm from rfl,sF rfl rfl];exact⟨rfl,nx,rfl⟩
   ·by_cases hc2:most<jc u
    ·have ht:fO b a most=none:=by rw[fO,hn];simp only;rw[if_pos (.inr hc2)]
     rw[ht];refine fT tieOk rfl ?_;simp -implicitDefEqProofs [sh,hneg,hneg2,hc,hc2];refine dC (dB tieOk ?_);unfold yx;refine cw rfl ?_;simp -implicitDefEqProofs [aR,dx,cT,bu,nh];rw[show(PV.iface 11 (.agg []))=fm from rfl,sF rfl rfl];exact⟨rfl,nx,rfl⟩
    ·have ht:fO b a most=some (jc u,nx):=by rw[fO,hn];simp only;rw[if_neg (by omega)]
     rw[ht];refine fT tieOk rfl ?_;simp -implicitDefEqProofs [sh,hneg,hneg2,hc,hc2];refine bO tieOk rfl ?_;simp -implicitDefEqProofs [Bi];refine kX ?_;simp -implicitDefEqProofs;rw[sF rfl rfl];exact⟨rfl,rfl⟩
 ·intro v S' hr
  cases hn:gH b a with
  |some p=>rw[hn]at hr;cases hr
  |none=>
   rw[hn]at hr;cases hr;have ht:fO b a most=none:=by rw[fO,hn]
   rw[ht];have hf:aW false S S fm=(fm,S):=iq rfl rfl rfl rfl (fun _ _=>fg);simp only[hf];exact⟨trivial,a,(Gk ho).symm⟩
end Ps
set_option linter.defProp false
namespace Ps
open Go Go.Proofs
def yp:List aA:=[M 10 0,bj 11 10,FA 12 1 11,LD 13 12]
def ry:List aA:=[EX 18 0 17,Q 5 (.alloc false [(.str []),(.str [])]),QN (.store 2 (V 5) (V 18))]
def yq:List aA:=[M 19 4,Q 20 (.iaddra 2 1 (V 5) (I 0)),Q 21 (.loadb 5 false 1 (V 20)),M 22 4,Q 23 (.iaddra 2 1 (V 5) (I 1)),Q 24 (.loadb 5 false 1 (V 23)),QN (.msb [5] true (V 19) (V 21) (I 0)),QN (.msb [5] true (V 22) (V 24) (I 0))]
def oH:List (Nat×Nat):=[(14,15),(15,17),(5,6),(17,19)]
def sA:aS:=.clr [(19,25)] (.region yq)
def yr:aX:=⟨1,[.tmp 2,.tmp 3],
 (.seq (.region BM) (.seq (.clr [(9,10)] (.region BN)) (.seq (.rng yp (V 13) 17 ry oH sA) (.seq (.clr [(25,28)] (.region BO)) (.seq (.seq (.region BP) (.block 2 (.loop BQ))) (.seq (.clr [(39,41)] (.region BR)) .ret)))))),false⟩
def GP:List aA:=[M 16 0]++(Q 17 (.wc [] (.cst (.fn 234 [])) [V 16])::[M 15 17,EX 18 0 15,EX 19 1 15,M 3 18,M 4 19])
def yu:aX:=⟨1,[.tmp 2],
 (.seq (.region AG) (.seq (.seq (.clr [(13,14)] (.region AH)) (.cond (V 14) (.seq (.region JX) .ret) .skip)) (.seq (.clr [(15,20)] (.region GP)) (.seq (.clr [(6,7),(20,26)] (.region AI)) (.seq (.seq (.region AJ) (.block 0 (.loop AK))) (.seq (.clr [(39,49)] (.region AL)) (.seq (.seq (.clr [(49,52)] (.region AM)) (.block 2 (.loop AO))) (.seq (.clr [(91,92)] (.region AP)) .ret)))))))),false⟩
def ZA(T:aV)(K:List Kt)(fr:Fr)(S:St):type_of% (aT ry.eq_1 T K fr S):=aT ry.eq_1 T K fr S
def ZB(T:aV)(K:List Kt)(fr:Fr)(S:St):type_of% (aT yq.eq_1 T K fr S):=aT yq.eq_1 T K fr S
def ZC(T:aV)(K:List Kt)(fr:Fr)(S:St):type_of% (bY sA.eq_1 T K fr S):=bY sA.eq_1 T K fr S
def lY:tie.T=T:=rfl
def ZD:tie.P.funcs[tie.fnOf 234]?=some Tryz.f50:=Tryz.func50
def ZE:fH tie Tryz.f50 yr=true:=by kernel_rfl
def ZF:tie.P.funcs[tie.fnOf 134]?=some Tryz.f23:=Tryz.func23
def ZG:fH tie Tryz.f23 yu=true:=by kernel_rfl
end Ps
