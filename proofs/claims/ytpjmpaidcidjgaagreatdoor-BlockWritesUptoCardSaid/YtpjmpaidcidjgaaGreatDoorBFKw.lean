/- An index is made: walked. -/
import Derived.Test.YtpjmpaidcidjgaaGreatDoorAbbKw
import Derived.Test.YtpjmpaidcidjgaaGreatDoorBDKw
import Derived.Test.YtpjmpaidcidjgaaGreatDoorRowKw
import Derived.Test.YtpjmpaidcidjgaaGreatDoorCXKw
import Derived.Test.YtpjmpaidcidjgaaGreatDoorOkDKw
set_option linter.defProp false
namespace Ps
set_option linter.unusedSimpArgs false
set_option linter.unusedVariables false
open Go
def cz(n:Int):Nat:=if 0≤n then(2*n).toNat else(-2*n-1).toNat
def Vd:T.fn 378=some (.code qY):=rfl
def Ve{n:Int}(h1:-4611686018427387904≤n)(h2:n<4611686018427387904)(S:St):aM T 378 [.int .i64 n] S=some (.int .u64 (cz n:Nat),S):=by
 have hs1:arith .shl (.int .i64 n) (.int .u64 1)=some (.int .i64 (2*n)):=by
  have:arith .shl (.int .i64 n) (.int .u64 1)=some (.int .i64 (IntKind.i64.wrap (n*2))):=rfl;rw[this,au (by omega) (by omega),Ao]
 have hs2:arith .shr (.int .i64 n) (.int .u64 63)=some (.int .i64 (if 0≤n then 0 else -1)):=by
  have:arith .shr (.int .i64 n) (.int .u64 63)=some (.int .i64 (n.fdiv 9223372036854775808)):=rfl;rw[this,pF _ (by decide)];split<;>(congr 2;omega)
 have hx:jZ .u64 (IntKind.u64.wrap (2*n)) (IntKind.u64.wrap (if 0≤n then 0 else -1))=(cz n:Nat):=by
  unfold cz;split
  ·rename_i h;obtain⟨m,rfl⟩:=vQ h;have e1:(2*(m:Int))=((2*m:Nat):Int):=by omega
   rw[e1,gG (by omega)];show IntKind.u64.wrap (((BitVec.ofInt 64 ((2*m:Nat):Int) ^^^ BitVec.ofInt 64 0).toNat:Nat):Int)=_;have e2:BitVec.ofInt 64 ((2*m:Nat):Int)=BitVec.ofNat 64 (2*m):=BitVec.ofInt_ofNat 64 (2*m);have e3:BitVec.ofInt 64 0=0#64:=rfl;rw[e2,e3,BitVec.xor_zero,BitVec.toNat_ofNat,kA (by omega),gG (by omega),pG]
  ·rename_i h;obtain⟨m,hm⟩:∃m:Nat,(m:Int) = -n-1:=⟨(-n-1).toNat,by omega⟩
   have e1:IntKind.u64.wrap (2*n)=((18446744073709551616-2*(m+1):Nat):Int):=by
    have:IntKind.u64.wrap (2*n)=(2*n)%18446744073709551616:=by simp[IntKind.wrap,IntKind.bits,IntKind.signed]
    rw[this];omega
   have e2:IntKind.u64.wrap (-1)=((18446744073709551615:Nat):Int):=rfl;rw[e1,e2];show IntKind.u64.wrap (((BitVec.ofInt 64 ((18446744073709551616-2*(m+1):Nat):Int) ^^^ BitVec.ofInt 64 ((18446744073709551615:Nat):Int)).toNat:Nat):Int)=_;have e3:BitVec.ofInt 64 ((18446744073709551616-2*(m+1):Nat):Int)=BitVec.ofNat 64 (18446744073709551616-2*(m+1)):=BitVec.ofInt_ofNat 64 _;have e4:BitVec.ofInt 64 ((18446744073709551615:Nat):Int)=BitVec.allOnes 64:=rfl;rw[e3,e4,BitVec.xor_allOnes,BitVec.toNat_not,BitVec.toNat_ofNat,kA (by omega),gG (by omega)];omega
 refine bP Vd rfl ?_;simp -implicitDefEqProofs [qY,hs1,hs2,hx,aN.refl]
def nl{n:Int}(h1:-4611686018427387904≤n)(h2:n<4611686018427387904):cz n<2^64:=by
 unfold cz;split<;>omega
def Vf{n:Int}(h1:-4611686018427387904≤n)(h2:n<4611686018427387904):di T 378 [.int .i64 n]=some (.int .u64 (cz n:Nat)):=nV (Ve h1 h2 bT) rfl
structure ge(S0 S:St)(w:Nat)(bl:List Bool):Prop where
 grows:aN S0 S
 new:S0.objs.length≤w
 ex:∃bv,am 1 bv (aI (bz bl))∧S.objs[w]?=some [bv,.int .i64 bl.length]
def Vg:T.fn 333=some (.code qO):=rfl
def Vh:T.fn 334=some (.code z2):=rfl
def pZ(b:List UInt8):am 1 (.sl none (aI b) []) (aI b):=ic (iE b) (gv _ (fun _=>rfl) b) (gS _ (fun _=>rfl) b)
def sa{S0 S:St}{w:Nat}{bl:List Bool}(h:ge S0 S w bl)(hb:bl.length≤1048576){u:Nat}(hu:u<2^64) :
  ∃S',aM T 333 [.ptr w 0,.int .u64 (u:Int)] S=some (.tup [],S')∧ge S0 S' w (bl++bR u)∧S'.objs.length=S.objs.length∧S'.tips=S.tips:=by
 obtain⟨hg,hn,bv,hv,ho⟩:=h;obtain⟨O,T0⟩:=S;simp only at ho;have hlw:w<O.length:=(aO.1 ho).1;have hp:=fun S=>Vc hv hb hu S;refine⟨⟨O.set w [.sl none (aI (bz (bl++bR u))) [],.int .i64 ((bl++bR u).length:Nat)],T0⟩,?_,⟨iF hg hn _,hn,_,pZ _,by simp only;rw[dd hlw]⟩,by simp,rfl⟩;generalize bz (bl++bR u)=B at *;generalize (bl++bR u).length=m at *;refine bP Vg rfl ?_;simp -implicitDefEqProofs [qO,dM (S:=⟨O,T0⟩) ho,fo,hp,aH,ho,bK];rw[tw];exact Ah (b:=false) (S:=⟨O,T0⟩) (S1:=⟨O.set w [.sl none (aI B) [],.int .i64 (m:Int)],T0⟩) (r:=.tup []) (by simp) rfl rfl rfl (fun _ _=>lX)
def sb{S0 S:St}{w:Nat}{bl:List Bool}(h:ge S0 S w bl)(hb:bl.length≤1048576){n:Int}(h1:-4611686018427387904≤n)(h2:n<4611686018427387904) :
  ∃S',aM T 334 [.ptr w 0,.int .i64 n] S=some (.tup [],S')∧ge S0 S' w (bl++bR (cz n)):=by
 have hz:=Vf h1 h2;obtain⟨S',p1,p2,p3,p4⟩:=sa h hb (nl h1 h2)
 obtain⟨r,S2,q1,q2,q3⟩:=gt (f:=334) (args:=[.ptr w 0,.int .i64 n]) (S:=S) (R:=fun r S'=>r=.tup []∧ge S0 S' w (bl++bR (cz n))) Vh rfl (by
  simp -implicitDefEqProofs [z2,hz,p1,dL];rw[Ah (b:=false) (S:=S) (S1:=S') (r:=.tup []) p3 p4 rfl rfl (fun _ _=>lX)];exact⟨rfl,p2⟩)
 subst q2;exact⟨S2,q1,q3⟩
def aR(l:List Sm)(i:Nat):Int:=(l.getD i (0,0)).1
def bS(l:List Sm)(i:Nat):Int:=(l.getD i (0,0)).2
def mJ(l:List Sm)(i:Nat):List Bool:=
 bR (if i=1 then(aR l 1-aR l 0).toNat else cz ((aR l i-aR l (i-1))-(aR l (i-1)-aR l (i-2))))++bR (cz (bS l i-bS l (i-1)))
def fA(l:List Sm):Nat→List Bool
 |0=>bR l.length++bR (aR l 0).toNat++bR (cz (bS l 0))
 |k+1=>fA l k++mJ l (k+1)
def cS(l:List Sm):List UInt8:=bz (fA l (l.length-1))
structure nm(l:List Sm):Prop where
 ne:l≠[]
 len:l.length≤120
 t0:∀i,0≤aR l i
 t1:∀i,aR l i≤1099511627776
 v0:∀i,-1152921504606846976≤bS l i
 v1:∀i,bS l i≤1152921504606846976
 rise:∀i,i+1<l.length→aR l i<aR l (i+1)
def Vi{l:List Sm}:∀(n i:Nat),l.length-i=n→cE l i=0→∀j (h:j<l.length),i≤j→cW l j h=0:=by
 intro n
 induction n with
 |zero=>intro i hi _ j h hij;omega
 |succ n ih=>
  intro i hi h j hj hij;have hil:i<l.length:=by omega
  rw[cE,dif_pos hil]at h;split at h
  ·rename_i hz;by_cases e:i=j
   ·subst e;exact hz
   ·exact ih (i+1) (by omega) h j hj (by omega)
  ·rename_i hz;exact absurd h hz
def wL{l:List Sm}(h:dZ l=0):nm l:=by
 unfold dZ at h;split at h
 ·cases h
 rename_i hl;have hs:=Vi l.length 0 (by omega) h;have hg:∀i (h:i<l.length),l.getD i (0,0)=l[i]:=fun i h=>by simp[ci,h]
 have hm:∀i,eu (aR l i) (bS l i)=true:=by
  intro i;by_cases hi:i<l.length
  ·have:=hs i hi (bb _);unfold aR bS;rw[hg i hi];unfold cW at this
   cases e:eu l[i].1 l[i].2 with
   |true=>rfl
   |false=>rw[if_pos e]at this;cases this
  ·unfold aR bS;rw[ci,dI (by omega)];rfl
 have hm':∀i,0≤aR l i∧aR l i≤1099511627776 ∧ -1152921504606846976≤bS l i∧bS l i≤1152921504606846976:=fun i=>by
  have:=hm i;simp only[eu,aJ,decide_eq_true_eq]at this;omega
 refine⟨fun e=>by subst e;simp at hl,by omega,fun i=>(hm' i).1,fun i=>(hm' i).2.1,fun i=>(hm' i).2.2.1,fun i=>(hm' i).2.2.2,fun i hi=>?_⟩;have:=hs (i+1) hi (bb _);unfold cW at this;have hmi:=hm (i+1);unfold aR bS at hmi;rw[hg (i+1) hi]at hmi;rw[if_neg (by rw[hmi];decide),dif_pos (by omega)]at this;unfold aR;rw[hg i (by omega),hg (i+1) hi];simp only[vj]at this;split at this
 ·cases this
 ·omega
def Bw{l:List Sm}(h:nm l):∀k,(fA l k).length≤213+142*k:=by
 have hz:∀n:Int,-4611686018427387904≤n→n<4611686018427387904→(bR (cz n)).length≤71:=fun n h1 h2=>by
  rw[jc];have:=jb (nl h1 h2);omega
 have hn:∀n:Nat,n<2^64→(bR n).length≤71:=fun n h=>by rw[jc];have:=jb h;omega
 have t0:=h.t0;have t1:=h.t1;have v0:=h.v0;have v1:=h.v1;intro k
 induction k with
 |zero=>
  have a:=hn l.length (by have:=h.len;omega);have b:=hn (aR l 0).toNat (by have:=t0 0;have:=t1 0;omega);have c:=hz (bS l 0) (by have:=v0 0;omega) (by have:=v1 0;omega)
  simp only[fA,aZ];omega
 |succ k ih=>
  have a:(bR (if k+1=1 then(aR l 1-aR l 0).toNat else cz ((aR l (k+1)-aR l (k+1-1))-(aR l (k+1-1)-aR l (k+1-2))))).length≤71:=by
   split
   ·exact hn _ (by have:=t0 0;have:=t1 1;omega)
   ·exact hz _ (by have:=t0 (k+1);have:=t1 (k+1-1);have:=t1 (k+1-1);have:=t0 (k+1-2);omega) (by have:=t1 (k+1);have:=t0 (k+1-1);have:=t1 (k+1-2);omega)
  have b:=hz (bS l (k+1)-bS l (k+1-1)) (by have:=v0 (k+1);have:=v1 (k+1-1);omega) (by have:=v1 (k+1);have:=v0 (k+1-1);omega);simp only[fA,mJ,aZ];omega
end Ps
set_option linter.defProp false
namespace Ps
set_option linter.unusedSimpArgs false
set_option linter.unusedVariables false
open Go
def Vj:T.fn 264=some (.code mS):=rfl
def sc(a b:Int)(ha:0≤a∧a≤1099511627776)(hb:0≤b∧b≤1099511627776):IntKind.i64.wrap (a-b)=a-b:=au (by omega) (by omega)
def Vk{l:List Sm}(h:nm l){v:PV}(hv:bW 2 v (l.map bB)){S0:St}{w:Nat}{K:List Kt}{Q:Fr→St→Prop}(k:Nat)(fr:Fr)(S:St)(hk:k<l.length-1)
  (f0:fr 0=v)(f6:fr 6=.bfn 333 [.ptr w 0])(f7:fr 7=.bfn 334 [.ptr w 0])(f5:fr 5=.ptr w 0)(f8:fr 8=.int .i64 ((k+1:Nat):Int))(he:ge S0 S w (fA l k))
  (kk:∀fr' S',fr' 0=v→fr' 6=.bfn 333 [.ptr w 0]→fr' 7=.bfn 334 [.ptr w 0]→fr' 5=.ptr w 0→fr' 8=.int .i64 ((k+2:Nat):Int)→ge S0 S' w (fA l (k+1))→Ok (aE T (.lp tF::.blk 0::K) fr' S') Q) :
  Ok (aE T (.lp tF::.blk 0::K) fr S) Q:=by
 have t0:=h.t0;have t1:=h.t1;have v0:=h.v0;have v1:=h.v1;have hl:=h.len;have hlen:=hv.len;rw[bU]at hlen
 have hg:∀i,i<l.length→cC 2 v (.int .i64 (i:Int))=some (.ref [.int .i64 (aR l i),.int .i64 (bS l i)]):=fun i hi=>by
  have:=hv.get i (by simpa using hi) .i64;rw[this];simp[aR,bS,ci,hi]
 have hlt:((k+1:Nat):Int)<(l.length:Int):=by omega
 have hw1:IntKind.i64.wrap (((k+1:Nat):Int)-1)=((k:Nat):Int):=by rw[au]<;>omega
 have hw2:IntKind.i64.wrap (((k+1:Nat):Int)+1)=((k+2:Nat):Int):=by rw[au]<;>omega
 have g1:=hg (k+1) (by omega);have g0:=hg k (by omega);have hbl:=Bw h k;have hf:=sc (aR l (k+1)) (aR l k) ⟨t0 _,t1 _⟩ ⟨t0 _,t1 _⟩;have hvw:IntKind.i64.wrap (bS l (k+1)-bS l k)=bS l (k+1)-bS l k:=au (by have:=v0 (k+1);have:=v1 k;omega) (by have:=v1 (k+1);have:=v0 k;omega);have hrise:=h.rise k (by omega);rw[aV];by_cases hk0:k=0
 ·subst hk0
  have hu:IntKind.u64.wrap (aR l 1-aR l 0)=(((aR l 1-aR l 0).toNat:Nat):Int):=by
   have hrise:aR l 0<aR l 1:=hrise;have e:aR l 1-aR l 0=(((aR l 1-aR l 0).toNat:Nat):Int):=by omega
   rw[e,gG (by have:=t1 1;have:=t0 0;omega)];simp
  obtain⟨S1,p1,p2,_⟩:=sa he (by omega) (u:=(aR l 1-aR l 0).toNat) (by have:=t1 1;have:=t0 0;omega);obtain⟨S2,q1,q2⟩:=sb p2 (by rw[aZ,jc];have:=jb (u:=(aR l 1-aR l 0).toNat) (k:=64) (by have:=t1 1;have:=t0 0;omega);omega) (n:=bS l 1-bS l 0) (by have:=v0 1;have:=v1 0;omega) (by have:=v1 1;have:=v0 0;omega)
  have q2:ge S0 S2 w (fA l 1):=by
   have e:fA l 1=fA l 0++mJ l 1:=rfl;rw[e,mJ,if_pos rfl,←List.append_assoc];exact q2
  clear he p2 hbl;have hlt:(1:Int)<(l.length:Int):=by omega
  have f8:fr 8=.int .i64 1:=f8;have g1:cC 2 v (.int .i64 1)=some (.ref [.int .i64 (aR l 1),.int .i64 (bS l 1)]):=g1;have g0:cC 2 v (.int .i64 0)=some (.ref [.int .i64 (aR l 0),.int .i64 (bS l 0)]):=g0;have hw1:IntKind.i64.wrap 0=0:=rfl;have hw2:IntKind.i64.wrap 2=2:=rfl;have hf:IntKind.i64.wrap (aR l 1-aR l 0)=aR l 1-aR l 0:=hf;have hvw:IntKind.i64.wrap (bS l 1-bS l 0)=bS l 1-bS l 0:=hvw;generalize ((aR l 1-aR l 0).toNat:Int)=u at hu p1;simp -implicitDefEqProofs [f0,f5,f6,f7,f8,hlen,hlt,hw1,hw2,g1,g0,bM,hf,hvw,hu,p1,q1];exact kk _ _ (by simp[f0]) (by simp[f6]) (by simp[f7]) (by simp[f5]) (by simp) q2
 ·obtain⟨j,rfl⟩:∃j,k=j+1:=⟨k-1,by omega⟩;have hne:((((j+1+1:Nat):Int))==1)=false:=by rw[beq_eq_false_iff_ne];omega
  have hw3:IntKind.i64.wrap (((j+1+1:Nat):Int)-2)=((j:Nat):Int):=by rw[au]<;>omega
  have gj:=hg j (by omega);have hf2:=sc (aR l (j+1)) (aR l j) ⟨t0 _,t1 _⟩ ⟨t0 _,t1 _⟩;have b1:-4611686018427387904≤(aR l (j+2)-aR l (j+1))-(aR l (j+1)-aR l j):=by have:=t0 (j+2);have:=t1 (j+1);have:=t0 j;omega
  have b2:(aR l (j+2)-aR l (j+1))-(aR l (j+1)-aR l j)<4611686018427387904:=by have:=t1 (j+2);have:=t0 (j+1);have:=t1 j;omega
  have hf3:IntKind.i64.wrap ((aR l (j+2)-aR l (j+1))-(aR l (j+1)-aR l j))=(aR l (j+2)-aR l (j+1))-(aR l (j+1)-aR l j):=au (by omega) (by omega);obtain⟨S1,p1,p2⟩:=sb he (by omega) b1 b2;obtain⟨S2,q1,q2⟩:=sb p2 (by rw[aZ,jc];have:=jb (nl b1 b2);omega) (n:=bS l (j+2)-bS l (j+1)) (by have:=v0 (j+2);have:=v1 (j+1);omega) (by have:=v1 (j+2);have:=v0 (j+1);omega)
  have q2:ge S0 S2 w (fA l (j+2)):=by
   have e:fA l (j+2)=fA l (j+1)++mJ l (j+2):=rfl;rw[e,mJ,if_neg (by omega),←List.append_assoc];exact q2
  clear he p2 hbl;simp -implicitDefEqProofs [f0,f5,f6,f7,f8,hlen,hlt,hw1,hw2,hw3,g1,g0,gj,bM,hf,hf2,hf3,hvw,hne,p1,q1,-Int.natCast_add];exact kk _ _ (by simp[f0]) (by simp[f6]) (by simp[f7]) (by simp[f5]) (by simp) q2
def Vl{l:List Sm}{v:PV}(hv:bW 2 v (l.map bB))(hz:dZ l=0)(S:St):∃bv,aM T 264 [v] S=some (.tup [bv,.int .i64 0],S)∧am 1 bv (aI (cS l)):=by
 have h:=wL hz;have t0:=h.t0;have t1:=h.t1;have v0:=h.v0;have v1:=h.v1;have hl:=h.len;have hlen:=hv.len;rw[bU]at hlen;have hpos:0<l.length:=List.length_pos_iff.2 h.ne;have hck:=fun S=>BW hv S;rw[hz]at hck;have hck:∀S,aM T 154 [v] S=some (.int .i64 0,S):=hck
 have g0:cC 2 v (.int .i64 0)=some (.ref [.int .i64 (aR l 0),.int .i64 (bS l 0)]):=by
  have:=hv.get 0 (by simpa using hpos) .i64;rw[show(0:Int)=((0:Nat):Int)from rfl,this];simp[aR,bS,ci,hpos]
 have hu1:IntKind.u64.wrap (l.length:Int)=(l.length:Int):=gG (by omega)
 have hu2:IntKind.u64.wrap (aR l 0)=(((aR l 0).toNat:Nat):Int):=by
  have e:aR l 0=(((aR l 0).toNat:Nat):Int):=by have:=t0 0;omega
  rw[e,gG (by have:=t1 0;omega)];simp
 have hlw:=jb (u:=l.length) (k:=64) (by omega);have hlt:=jb (u:=(aR l 0).toNat) (k:=64) (by have:=t1 0;omega);have he0:ge S ⟨S.objs++[[.nils,.int .i64 0]],S.tips⟩ S.objs.length []:=⟨(aN.refl S).obj _,aX _,.nils,ib 1,by simp⟩;obtain⟨S1,p1,e1,_⟩:=sa he0 (by simp) (u:=l.length) (by omega);obtain⟨S2,p2,e2,_⟩:=sa e1 (by simp[jc];omega) (u:=(aR l 0).toNat) (by have:=t1 0;omega);obtain⟨S3,p3,e3⟩:=sb e2 (by simp[jc];omega) (n:=bS l 0) (by have:=v0 0;omega) (by have:=v1 0;omega)
 have e3:ge S S3 S.objs.length (fA l 0):=by
  have:fA l 0=[]++bR l.length++bR (aR l 0).toNat++bR (cz (bS l 0)):=by simp[fA]
  rw[this];exact e3
 clear e1 e2 he0;generalize (((aR l 0).toNat:Nat):Int)=uu at hu2 p2
 have main:∀Q:Fr→St→Prop,(∀fr S' bv,aN S S'→am 1 bv (aI (cS l))→fr 2=bv→fr 3=.int .i64 0→Q fr S')→Ok (aE T [.code mS.body] (bg [v]) S) Q:=by
  intro Q hQ;simp -implicitDefEqProofs [mS,hck,aH,aW,ft,bK,hlen,hu1,g0,bM,hu2,cj,p1,p2,p3];refine db (l.length-1) (fun k fr' S'=>fr' 0=v∧fr' 6=.bfn 333 [.ptr S.objs.length 0]∧fr' 7=.bfn 334 [.ptr S.objs.length 0]∧fr' 5=.ptr S.objs.length 0∧fr' 8=.int .i64 ((k+1:Nat):Int)∧ge S S' S.objs.length (fA l k)) ?_ ?_ 0 (bb _) _ _ ⟨by simp,by simp,by simp,by simp,by simp,e3⟩
  ·rintro k fr' S' hk ⟨f0,f6,f7,f5,f8,he⟩ kk;exact Vk h hv k fr' S' hk f0 f6 f7 f5 f8 he (fun fr2 S2 a b c d e f=>kk fr2 S2 ⟨a,b,c,d,e,f⟩)
  ·rintro fr' S' ⟨f0,f6,f7,f5,f8,hg,hn,bv,hbv,ho⟩;have hn1:((l.length-1+1:Nat):Int)=(l.length:Int):=by omega
   rw[hn1]at f8;rw[aV];simp -implicitDefEqProofs [f0,f5,f8,hlen,dM ho,bM];exact hQ _ _ bv hg hbv (by simp) (by simp)
 obtain⟨r,S',h1,bv,h2,h3,h4⟩:=gt (R:=fun r S'=>∃bv,am 1 bv (aI (cS l))∧r=.tup [bv,.int .i64 0]∧S'=S) Vj rfl (main _ (fun fr S' bv hg hbv f2 f3=>by
  refine⟨[bv,.int .i64 0],?_,bv,hbv,?_⟩
  ·simp[mS,bh,fN,f2,f3]
  ·have e:ak false S S' (.tup [bv,.int .i64 0])=(.tup [bv,.int .i64 0],S):=by
    rw[eR hg (by simp[PV.free,PV.freeL,hbv.free])];simp[PV.frz,PV.frzL,hbv.frz]
   exact⟨congrArg Prod.fst e,congrArg Prod.snd e⟩))
 subst h3 h4;exact⟨bv,h1,h2⟩
end Ps
namespace Ps
set_option linter.unusedSimpArgs false
set_option linter.unusedVariables false
open Go
def Cf(b:List UInt8)(at_:Nat):Nat→Nat
 |0=>0
 |n+1=>2*Cf b at_ n+(fa b (at_+n)).toNat
def iG(b:List UInt8)(a n:Nat):Nat×Nat:=if 8*b.length<a then(0,2)else if 8*b.length-a<n then(0,4)else(Cf b a n,0)
def wQ(b:List UInt8)(a:Nat):Nat×Nat×Nat:=
 if(iG b a 7).2≠0 then(0,0,(iG b a 7).2)else if 64<(iG b a 7).1 then(0,0,5)else
 if(iG b (a+7) (iG b a 7).1).2≠0 then(0,0,(iG b (a+7) (iG b a 7).1).2)else if bD (iG b (a+7) (iG b a 7).1).1≠(iG b a 7).1 then(0,0,5)else
 ((iG b (a+7) (iG b a 7).1).1,a+7+(iG b a 7).1,0)
def wR(u:Nat):Int:=if u%2=0 then((u/2:Nat):Int)else -((u/2:Nat):Int)-1
end Ps
set_option linter.defProp false
namespace Ps
set_option linter.unusedSimpArgs false
set_option linter.unusedVariables false
open Go Go.Proofs
def wW(bv:PV)(b:List UInt8)(a:Nat):List PV:=[bv,.int .i64 ((8*b.length:Nat):Int),.int .i64 (a:Int)]
def sr(S:St)(r:Nat)(bv:PV)(b:List UInt8)(a:Nat):St:=⟨S.objs.set r (wW bv b a),S.tips⟩
def wX(b:List UInt8)(a:Nat):Option (Nat×Nat):=if(wQ b a).2.2=0 then some ((wQ b a).1,(wQ b a).2.1)else none
def Xq{S:St}{r:Nat}{bv:PV}{b:List UInt8}{a:Nat}(hr:r<S.objs.length):(sr S r bv b a).objs[r]?=some (wW bv b a):=dd hr
def Cs(b:List UInt8)(a:Nat):Option (Nat×Nat):=match wX b a with
 |some (u,nx)=>if 1099511627776<u then none else some (u,nx)
 |none=>none
def Ct(b:List UInt8)(a:Nat)(most:Int):Option (Int×Nat):=match wX b a with
 |some (u,nx)=>if wR u < -most∨most<wR u then none else some (wR u,nx)
 |none=>none
end Ps
set_option linter.defProp false
namespace Ps
open Go Go.Proofs
def wS:List aB:=[M 10 0,ba 11 10,FA 12 1 11,LD 13 12]
def pn:List aB:=[EX 18 0 17,Q 5 (.alloc false [(.str []),(.str [])]),QN (.store 2 (V 5) (V 18))]
def wT:List aB:=[M 19 4,Q 20 (.iaddra 2 1 (V 5) (I 0)),Q 21 (.loadb 5 false 1 (V 20)),M 22 4,Q 23 (.iaddra 2 1 (V 5) (I 1)),Q 24 (.loadb 5 false 1 (V 23)),QN (.msb [5] true (V 19) (V 21) (I 0)),QN (.msb [5] true (V 22) (V 24) (I 0))]
def mN:List (Nat×Nat):=[(14,15),(15,17),(5,6),(17,19)]
def po:aL:=.clr [(19,25)] (.region wT)
def wU:aU:=⟨1,[.tmp 2,.tmp 3],
 (.seq (.region yA) (.seq (.clr [(9,10)] (.region yB)) (.seq (.rng wS (V 13) 17 pn mN po) (.seq (.clr [(25,28)] (.region yC)) (.seq (.seq (.region yD) (.block 2 (.loop yE))) (.seq (.clr [(39,41)] (.region yF)) .ret)))))),false⟩
def Ci:List aB:=[M 16 0]++(Q 17 (.wc [] (.cst (.fn 234 [])) [V 16])::[M 15 17,EX 18 0 15,EX 19 1 15,M 3 18,M 4 19])
def wV:aU:=⟨1,[.tmp 2],
 (.seq (.region xP) (.seq (.seq (.clr [(13,14)] (.region xQ)) (.cond (V 14) (.seq (.region HJ) .ret) .skip)) (.seq (.clr [(15,20)] (.region Ci)) (.seq (.clr [(6,7),(20,26)] (.region xR)) (.seq (.seq (.region xS) (.block 0 (.loop xU))) (.seq (.clr [(39,49)] (.region xV)) (.seq (.seq (.clr [(49,52)] (.region xW)) (.block 2 (.loop xY))) (.seq (.clr [(91,92)] (.region xZ)) .ret)))))))),false⟩
def Wn(T:aQ)(K:List Kt)(fr:Fr)(S:St):type_of% (aP pn.eq_1 T K fr S):=aP pn.eq_1 T K fr S
def Wp(T:aQ)(K:List Kt)(fr:Fr)(S:St):type_of% (aP wT.eq_1 T K fr S):=aP wT.eq_1 T K fr S
def Wq(T:aQ)(K:List Kt)(fr:Fr)(S:St):type_of% (bL po.eq_1 T K fr S):=bL po.eq_1 T K fr S
def kG:tie.T=T:=rfl
def Wr:tie.P.funcs[tie.fnOf 234]?=some Tryz.f50:=Tryz.func50
def Ws:fW tie Tryz.f50 wU=true:=by kernel_rfl
def Wt:tie.P.funcs[tie.fnOf 134]?=some Tryz.f23:=Tryz.func23
def Wu:fW tie Tryz.f23 wV=true:=by kernel_rfl
end Ps
set_option linter.defProp false
namespace Ps
set_option linter.unusedSimpArgs false
set_option linter.unusedVariables false
open Go
def eL(S:St)(sz n0:Nat)(v:PV)(es:List PV):Prop:=(v=.nils∧es=[])∨∃id,n0≤id∧v=.sl (some (id,es.length)) es []∧S.tips[id]?=some (es.length,sz)
def dT:PV→Option Nat
 |.sl (some (id,_)) _ _=>some id
 |_=>none
def eL.reads{S:St}{sz n0:Nat}{v:PV}{es:List PV}(h:eL S sz n0 v es)(hc:∀e∈es,e.cells.length=sz):bW sz v es:=by
 rcases h with⟨rfl,rfl⟩|⟨id,_,rfl,_⟩
 ·exact tz sz
 ·exact uB hc
def eL.one{S:St}{sz n0:Nat}{v:PV}{es:List PV}(h:eL S sz n0 v es):v.one=true∧v.cells=[v]:=by
 rcases h with⟨rfl,rfl⟩|⟨id,_,rfl,_⟩<;>exact⟨rfl,rfl⟩
def BY(S:St)(sz n0:Nat):eL S sz n0 .nils []:=.inl ⟨rfl,rfl⟩
def eL.more{S:St}{sz n0:Nat}{v:PV}{es:List PV}(h:eL S sz n0 v es)(S':St)(t:List (Nat×Nat))(e:S'.tips=S.tips++t):eL S' sz n0 v es:=by
 rcases h with h|⟨id,h1,h2,h3⟩
 ·exact .inl h
 ·exact .inr ⟨id,h1,h2,by rw[e,bF (aO.1 h3).1];exact h3⟩
def eL.lt{S:St}{sz n0:Nat}{v:PV}{es:List PV}(h:eL S sz n0 v es){i:Nat}(e:dT v=some i):i<S.tips.length∧n0≤i:=by
 rcases h with⟨rfl,_⟩|⟨id,h1,rfl,h3⟩
 ·cases e
 ·cases e;exact⟨(aO.1 h3).1,h1⟩
def eL.push{S:St}{sz n0 bytes:Nat}{v:PV}{es:List PV}(h:eL S sz n0 v es)(hn:n0≤S.tips.length)(e:PV)(hb:(es.length+1)*bytes≤140737488355328) :
  ∃v' S',dF sz bytes S v [e]=some (v',S')∧eL S' sz n0 v' (es++[e])∧S'.objs=S.objs∧S'.tips.take n0=S.tips.take n0∧S.tips.length≤S'.tips.length∧(dT v'=dT v∨dT v'=some S.tips.length)∧dT v'≠none ∧
   ∀sz' u qs,eL S sz' n0 u qs→(dT u=none∨dT u≠dT v)→eL S' sz' n0 u qs:=by
 rcases h with⟨rfl,rfl⟩|⟨id,h1,rfl,h3⟩
 ·refine⟨.sl (some (S.tips.length,1)) [e] [],⟨S.objs,S.tips++[(1,sz)]⟩,?_,.inr ⟨S.tips.length,hn,rfl,by simp⟩,rfl,by simp[jy hn],by simp,.inr rfl,by simp[dT],fun sz' u qs hu _=>hu.more _ _ rfl⟩;have:bytes≤140737488355328:=by simpa using hb
  simp[dF,dQ,this]
 ·have hl:=(aO.1 h3).1;refine⟨.sl (some (id,es.length+1)) (es++[e]) [],⟨S.objs,S.tips.set id (es.length+1,sz)⟩,?_,.inr ⟨id,h1,by simp,by simp[hl]⟩,rfl,?_,by simp,.inl rfl,by simp[dT],fun sz' u qs hu hne=>?_⟩
  ·simp[dF,h3,hb]
  ·simp only;rw[List.take_set_of_le h1]
  ·rcases hu with h|⟨id',k1,rfl,k3⟩
   ·exact .inl h
   ·have:id'≠id:=by
     rcases hne with h|h
     ·cases h
     ·exact fun e=>h (by rw[e];rfl)
    exact .inr ⟨id',k1,rfl,by simp only;rw[bn (Ne.symm this)];exact k3⟩
abbrev K2:=List UInt8×List UInt8
def eD(k:K2):PV:=.agg [.str k.1,.str k.2]
def ca(l:List (K2×PV)):List PV:=l.flatMap fun e=>[eD e.1,e.2]
def fY(k:K2):List (K2×PV)→Option PV
 | []=>none
 |e::l=>if e.1=k then some e.2 else fY k l
def da(k:K2)(v:PV):List (K2×PV)→List (K2×PV)
 | []=>[(k,v)]
 |e::l=>if e.1=k then(k,v)::l else e::da k v l
def BZ(a b:K2):PV.beq (eD a) (eD b)=decide (a=b):=by
 obtain⟨a1,a2⟩:=a;obtain⟨b1,b2⟩:=b;rw[sE];simp[eD,PV.beq,PV.beqL]
def wE(l:List (K2×PV)):(ca l).length=2*l.length:=by
 induction l with
 |nil=>rfl
 |cons e l ih=>simp only[ca,dC,aZ,bE,cO]at ih ⊢;rw[show(List.flatMap (fun e=>[eD e.1,e.2]) l).length=2*l.length from ih];omega
theorem Ba(k:K2):∀l:List (K2×PV),ce (eD k) (ca l)=fY k l
 | []=>rfl
 |e::l=>by
  show(if PV.beq (eD e.1) (eD k)=true then some e.2 else ce (eD k) (ca l))=_;rw[BZ,Ba k l];simp[fY]
theorem Bb(k:K2)(v:PV):∀l:List (K2×PV),dG (eD k) v (ca l)=ca (da k v l)
 | []=>rfl
 |e::l=>by
  show(if PV.beq (eD e.1) (eD k)=true then eD k::v::ca l else eD e.1::e.2::dG (eD k) v (ca l))=_;rw[BZ,Bb k v l];by_cases h:e.1=k
  ·simp[da,h,ca]
  ·simp[da,h,ca]
theorem Bc(S:St):∀l:List (K2×PV),eP true S (ca l)=true
 | []=>rfl
 |e::l=>by
  show(cd true S (eD e.1)&&eP true S (ca l))=true;rw[Bc S l];rfl
theorem Bd(k:K2)(u v:PV):∀l:List (K2×PV),da k v (da k u l)=da k v l
 | []=>by simp[da]
 |e::l=>by
  by_cases h:e.1=k
  ·simp[da,h]
  ·simp[da,h,Bd k u v l]
def Be(k:K2)(v:PV)(l:List (K2×PV)):(da k v l).map (·.1)=if k∈l.map (·.1)then l.map (·.1)else l.map (·.1)++[k]:=by
 induction l with
 |nil=>simp[da]
 |cons e l ih=>
  by_cases h:e.1=k
  ·simp[da,h]
  ·have h':¬k=e.1:=fun q=>h q.symm;simp only[da,if_neg h,cV,ih,cQ,h',false_or];split<;>simp
def wF{k:K2}{v:PV}{l:List (K2×PV)}{e:K2×PV}(h:e∈da k v l):e=(k,v)∨(e∈l∧(e.1≠k∨¬(l.map (·.1)).Nodup)):=by
 induction l with
 |nil=>simp[da]at h;exact .inl h
 |cons a l ih=>
  by_cases ha:a.1=k
  ·simp only[da,if_pos ha,cQ]at h;rcases h with h|h
   ·exact .inl h
   ·refine .inr ⟨by simp[h],?_⟩;by_cases he:e.1=k
    ·right;simp only[cV,nY,not_and];intro q;exact absurd (List.mem_map.2 ⟨e,h,by rw[he,ha]⟩) q
    ·exact .inl he
  ·simp only[da,if_neg ha,cQ]at h;rcases h with rfl|h
   ·exact .inr ⟨by simp,.inl ha⟩
   ·rcases ih h with h|⟨h1,h2⟩
    ·exact .inl h
    ·refine .inr ⟨by simp[h1],h2.imp id fun q q'=>?_⟩;simp only[cV,nY]at q';exact q q'.2
theorem pW{k:K2}{v:PV}:∀{l:List (K2×PV)},fY k l=some v→(k,v)∈l
 |e::l,h=>by
  by_cases he:e.1=k
  ·simp only[fY,if_pos he,aw]at h;subst h;subst he;simp
  ·simp only[fY,if_neg he]at h;exact List.mem_cons_of_mem _ (pW h)
structure ja(S:St)(n0:Nat)(B:Nat)(w:PV)(l:List (K2×PV)):Prop where
 keys:(l.map (·.1)).Nodup
 own:∀e∈l,∃qs,eL S 1 n0 e.2 qs∧qs.length≤B∧dT e.2≠none
 dist:l.Pairwise fun a b=>dT a.2≠dT b.2
 apart:∀e∈l,dT e.2≠dT w
def ja.more{S:St}{n0 B:Nat}{w:PV}{l:List (K2×PV)}(h:ja S n0 B w l)(S':St)(t:List (Nat×Nat))(e:S'.tips=S.tips++t):ja S' n0 B w l:=
 ⟨h.keys,fun x hx=>by obtain⟨qs,h1,h2,h3⟩:=h.own x hx;exact⟨qs,h1.more S' t e,h2,h3⟩,h.dist,h.apart⟩
def ja.le{S:St}{n0 B B':Nat}{w:PV}{l:List (K2×PV)}(h:ja S n0 B w l)(hb:B≤B'):ja S n0 B' w l:=
 ⟨h.keys,fun x hx=>by obtain⟨qs,h1,h2,h3⟩:=h.own x hx;exact⟨qs,h1,Nat.le_trans h2 hb,h3⟩,h.dist,h.apart⟩
theorem Bf{α:Type}{R:α→α→Prop}(hs:∀a b,R a b→R b a):∀{l:List α},l.Pairwise R→∀a∈l,∀b∈l,a≠b→R a b
 | [],_,a,ha,_,_,_=>by simp at ha
 |x::l,h,a,ha,b,hb,hne=>by
  obtain⟨h1,h2⟩:=na.1 h;rcases cQ.1 ha with ea|ha1
  ·rcases cQ.1 hb with eb|hb1
   ·exact absurd (ea.trans eb.symm) hne
   ·rw[ea];exact h1 b hb1
  ·rcases cQ.1 hb with eb|hb1
   ·rw[eb];exact hs _ _ (h1 a ha1)
   ·exact Bf hs h2 a ha1 b hb1 hne
theorem Bg{k:K2}{v:PV}{R:K2×PV→K2×PV→Prop}(hs:∀a b,R a b→R b a):∀{l:List (K2×PV)},(l.map (·.1)).Nodup→l.Pairwise R→(∀e∈l,e.1≠k→R e (k,v))→(da k v l).Pairwise R
 | [],_,_,_=>by simp[da]
 |a::l,hn,hp,hk=>by
  simp only[cV,nY]at hn;obtain⟨hp1,hp2⟩:=na.1 hp;by_cases ha:a.1=k
  ·simp only[da,if_pos ha];refine na.2 ⟨fun e he=>hs _ _ (hk e (by simp[he]) (fun q=>hn.1 (List.mem_map.2 ⟨e,he,by rw[q,ha]⟩))),hp2⟩
  ·simp only[da,if_neg ha];refine na.2 ⟨fun e he=>?_,Bg hs hn.2 hp2 (fun e he=>hk e (by simp[he]))⟩;rcases wF he with rfl|⟨h1,_⟩
   ·exact hk a (by simp) ha
   ·exact hp1 e h1
def ja.put{S:St}{n0 B:Nat}{w:PV}{l:List (K2×PV)}(h:ja S n0 B w l)(hn:n0≤S.tips.length)(hB:(B+1)*8≤140737488355328)(hw:∀i,dT w=some i→i<S.tips.length)(k:K2)(x:PV) :
  ∃v' S',dF 1 8 S ((fY k l).getD .nils) [x]=some (v',S')∧ja S' n0 (B+1) w (da k v' l)∧S'.objs=S.objs∧S'.tips.take n0=S.tips.take n0∧S.tips.length≤S'.tips.length ∧
   ∀sz es,eL S sz n0 w es→eL S' sz n0 w es:=by
 have hv0:∃qs,eL S 1 n0 ((fY k l).getD .nils) qs∧qs.length≤B∧((fY k l).getD .nils=.nils∧fY k l=none∨fY k l=some ((fY k l).getD .nils)):=by
  cases hl:fY k l with
  |none=>exact⟨[],BY _ _ _,bb _,.inl ⟨rfl,rfl⟩⟩
  |some v=>
   obtain⟨qs,h1,h2,h3⟩:=h.own (k,v) (pW hl);exact⟨qs,h1,h2,.inr rfl⟩
 obtain⟨qs,ho,hq,hcase⟩:=hv0;obtain⟨v',S',a1,a2,a3,a4,a5,a6,a7,a8⟩:=ho.push hn x (bytes:=8) (by omega)
 have hoth:∀e∈l,e.1≠k→dT e.2≠dT ((fY k l).getD .nils)∧dT e.2≠dT v':=by
  intro e he hne;obtain⟨qe,h1,h2,h3⟩:=h.own e he
  have hd:dT e.2≠dT ((fY k l).getD .nils):=by
   rcases hcase with⟨h4,_⟩|h4
   ·rw[h4];exact h3
   ·have hm:=pW h4
    have hp:∀a∈l,∀b∈l,a≠b→dT a.2≠dT b.2:=by
     intro a ha b hb hab;exact Bf (fun a b q=>Ne.symm q) h.dist a ha b hb hab
    exact hp e he _ hm (fun q=>hne (by rw[q]))
  refine⟨hd,?_⟩;rcases a6 with q|q
  ·rw[q];exact hd
  ·intro q2;rw[q]at q2;have:=(h1.lt q2).1;omega
 refine⟨v',S',a1,⟨?_,fun e he=>?_,?_,fun e he=>?_⟩,a3,a4,a5,fun sz es hw'=>?_⟩
 ·rw[Be];split
  ·exact h.keys
  ·rename_i hk;exact BA.2 ⟨h.keys,by simp,fun a ha b hb=>by simp at hb;subst hb;exact fun q=>hk (q▸ha)⟩
 ·rcases wF he with rfl|⟨h1,h2|h2⟩
  ·exact⟨_,a2,by simp;omega,a7⟩
  ·obtain⟨qe,k1,k2,k3⟩:=h.own e h1;exact⟨qe,a8 1 e.2 qe k1 (.inr (hoth e h1 h2).1),by omega,k3⟩
  ·exact absurd h.keys h2
 ·exact Bg (fun a b q=>Ne.symm q) h.keys h.dist (fun e he hne=>(hoth e he hne).2)
 ·rcases wF he with rfl|⟨h1,_⟩
  ·simp only;rcases a6 with q|q
   ·rw[q];rcases hcase with⟨h4,h5⟩|h4
    ·rw[q,h4]at a7;exact absurd rfl a7
    ·exact h.apart _ (pW h4)
   ·rw[q];intro q2;have:=hw _ q2.symm;omega
  ·exact h.apart e h1
 ·refine a8 sz w es hw' ?_;rcases hcase with⟨h4,h5⟩|h4
  ·cases hq2:dT w with
   |none=>exact .inl rfl
   |some i=>right;rw[h4];simp[dT]
  ·exact .inr (Ne.symm (h.apart _ (pW h4)))
end Ps
set_option linter.defProp false
namespace Ps
set_option linter.unusedSimpArgs false
set_option linter.unusedVariables false
open Go
def Bh:T.fn 130=some (.code z4):=rfl
def wG:T.fn 51=some (.code mR):=rfl
def Ug(l:List aT):∀e∈l.map ac,e.cells.length=2∧e.cells.all PV.one=true:=by
 intro e he;obtain⟨x,_,rfl⟩:=List.mem_map.1 he;exact⟨rfl,rfl⟩
def Uh:gV false .s .nils=some (.bool true):=rfl
def Bi{tip:Option (Nat×Nat)}{es sp:List PV}:gV false .s (.sl tip es sp)=some (.bool false):=rfl
def Ui{v:PV}{l:List aT}(h:cF 2 v (l.map ac))(hb:l.length≤4000000000):∃v',(∀S,aM T 130 [v] S=some (v',S))∧am 2 v' (l.map ac):=by
 have happ:=fun S=>h.appdS (S:=S);rcases h with⟨rfl,he⟩|⟨tip,sp,rfl,_⟩
 ·refine⟨.nils,fun S=>?_,by rw[he];exact ib 2⟩;refine bP Bh rfl ?_;simp -implicitDefEqProofs [z4,Uh];exact eR (aN.refl S) rfl
 ·refine⟨.sl none (l.map ac) [],fun S=>?_,ic (nh l) (kD l) (jY l)⟩;refine bP Bh rfl ?_
  cases l with
  |nil=>
   simp -implicitDefEqProofs [z4,Bi,happ,gr,aH]
   exact ml (aN.refl S) (YT (k:=39))
  |cons x l=>
   have h32:(l.length+1)*32≤140737488355328:=by simp only[bE]at hb;omega
   simp -implicitDefEqProofs [z4,Bi,happ,gr,kM,aH,h32];have hcs:(PV.str x.fst::PV.str x.snd.fst::List.flatMap PV.cells (List.map ac l))=(List.map ac (x::l)).flatMap PV.cells:=rfl;rw[hcs];have hfl:((List.map ac (x::l)).flatMap PV.cells).length=(l.length+1)*2:=by rw[ye (nh (x::l))];simp
   have hfree:PV.freeL ((List.map ac (x::l)).flatMap PV.cells)=true:=gT fun c hc=>by
    obtain⟨e,he,hce⟩:=List.mem_flatMap.1 hc;obtain⟨y,_,rfl⟩:=List.mem_map.1 he;simp at hce;rcases hce with rfl|rfl<;>rfl
   have hch:ct 2 (l.length+1) ((List.map ac (x::l)).flatMap PV.cells)=List.map ac (x::l):=by
    have:=PT (sz:=2) (by omega) (l:=(x::l).map fun y=>[PV.str y.1,PV.str y.2.1]) (fun c hc=>by obtain⟨y,_,rfl⟩:=List.mem_map.1 hc;rfl) (r:=[]);rw[bU,dR]at this
    have e1:((x::l).map fun y:aT=>[PV.str y.1,PV.str y.2.1]).flatten=(List.map ac (x::l)).flatMap PV.cells:=by
     simp[List.flatMap_def,Function.comp_def]
    rw[e1]at this;show ct 2 (x::l).length _=_;rw[this,sI];rfl
   have:=ml (S:=S) (S1:=⟨S.objs++[(List.map ac (x::l)).flatMap PV.cells],S.tips⟩) (r:=.osl S.objs.length 0 (l.length+1) 2) ((aN.refl S).obj _)
    (PW (k:=39) (aX _) (by omega) (by simp) hfl (PS fun e he=>(Ug _ e he).2) (tf hfree) hch)
   rw[this];simp[PV.frz,jY,PV.frzL]
def eM(x:aT):K2:=(x.1,x.2.1)
structure gZ(S0 S:St)(sv:PV)(qs:List PV)(kv:List (K2×PV))(B:Nat):Prop where
 pre:S.objs.take S0.objs.length=S0.objs
 tpre:S.tips.take S0.tips.length=S0.tips
 tl:S0.tips.length≤S.tips.length
 swt:∀i,dT sv=some i→i<S.tips.length
 om:S.objs[S0.objs.length]?=some (ca kv)
 ox:S.objs[S0.objs.length+1]?=some [sv,.map S0.objs.length]
 sets:eL S 1 S0.tips.length sv qs
 posts:ja S S0.tips.length B sv kv
def gZ.more{S0 S:St}{sv:PV}{qs:List PV}{kv:List (K2×PV)}{B:Nat}(h:gZ S0 S sv qs kv B)(o:List (List PV))(t:List (Nat×Nat)):gZ S0 ⟨S.objs++o,S.tips++t⟩ sv qs kv B:=by
 have h1:=(aO.1 h.om).1;have h2:=(aO.1 h.ox).1
 exact⟨by simp only;rw[jy (by omega)];exact h.pre,by simp only;rw[jy h.tl];exact h.tpre,by simp only[aZ];have:=h.tl;omega,fun i e=>by simp only[aZ];have:=h.swt i e;omega,
  by simp only;rw[bF h1];exact h.om,by simp only;rw[bF h2];exact h.ox,h.sets.more _ t rfl,h.posts.more _ t rfl⟩
def Uj{l:List aT}{lv v:PV}(hlv:bW 2 lv (l.map ac))(hl:l.length≤8){S0:St}{i N:Nat}{sv:PV}{qs:List PV}{K:List Kt}{Q:Fr→St→Prop}:∀(n j:Nat),l.length-j=n→j≤l.length→∀(B:Nat) (fr:Fr) (S:St) (kv:List (K2×PV)),
  fr 0=v→fr 4=.ptr (S0.objs.length+1) 0→fr 5=.int .i64 i→fr 17=v→fr 18=.int .i64 N→fr 19=.int .i64 i→fr 52=lv→fr 53=.int .i64 l.length→fr 54=.int .i64 j →
  gZ S0 S sv qs kv B→B+(l.length-j)≤4096 →
  (∀fr' S' kv',fr' 0=v→fr' 4=.ptr (S0.objs.length+1) 0→fr' 17=v→fr' 18=.int .i64 N→fr' 19=.int .i64 i→gZ S0 S' sv qs kv' (B+(l.length-j)) →
   (∀k,k∈kv'.map (·.1)↔k∈kv.map (·.1)∨k∈(l.drop j).map eM)→Ok (aE T K fr' S') Q)→Ok (aE T (.lp tD::.blk 2::K) fr S) Q:=by
 intro n
 induction n with
 |zero=>
  intro j hnj hjl B fr S kv h0 h4 h5 h17 h18 h19 h52 h53 h54 hA hB k;have hj:j=l.length:=by omega
  rw[aV];simp -implicitDefEqProofs [h52,h53,h54,hj];refine k _ _ kv (by simp[h0]) (by simp[h4]) (by simp[h17]) (by simp[h18]) (by simp[h19]) (by rw[hj,Nat.sub_self];exact hA) (fun x=>?_)
  rw[hj,List.drop_length];simp
 |succ n ih=>
  intro j hnj hjl B fr S kv h0 h4 h5 h17 h18 h19 h52 h53 h54 hA hB k;have hj:j<l.length:=by omega
  have hget:=hlv.get j (by simpa using hj) .i64;have hx:(l.map ac)[j]'(by simpa using hj)=ac l[j]:=by simp
  rw[hx,ki]at hget;have hw:IntKind.i64.wrap ((j:Int)+1)=((j+1:Nat):Int):=by rw[au]<;>omega
  have hpo:∀{a b:PV},az true 2 [a,b]=some (.agg [a,b]):=fun {a b}=>rfl;have hp1:∀{a:PV} {m:List PV},az false 1 (a::m)=some a:=fun {a m}=>by simp[az]
  have hom:=(aO.1 hA.om).1;have hox:=(aO.1 hA.ox).1;have hox2:∀t,(S.objs++t)[S0.objs.length+1]?=some [sv,.map S0.objs.length]:=fun t=>by rw[bF hox];exact hA.ox
  have hom2:∀t,(S.objs++t)[S0.objs.length]?=some (ca kv):=fun t=>by rw[bF hom];exact hA.om
  have hld:∀t tt ag n off,cg ⟨S.objs++t,tt⟩ ag n (.ptr (S0.objs.length+1) off)=az ag n ([sv,.map S0.objs.length].drop off):=fun t tt ag n off=>dM (hox2 t);have hk1:∀S',cd true S' (.agg [.str l[j].1,.str l[j].2.1])=true:=fun _=>rfl;have hk2:=fun(S':St) (m:List (K2×PV))=>Bc S' m;have hev:∀m:List (K2×PV),(ca m).length%2=0:=fun m=>by rw[wE];omega
  have hpf:ce (.agg [.str l[j].1,.str l[j].2.1]) (ca kv)=fY (eM l[j]) kv:=Ba (eM l[j]) kv;have hpp:∀(m:List (K2×PV)) (u:PV),dG (.agg [.str l[j].1,.str l[j].2.1]) u (ca m)=ca (da (eM l[j]) u m):=fun m u=>Bb (eM l[j]) u m;obtain⟨X,hX⟩:∃X:List (List PV),X=[[PV.str l[j].1,PV.str l[j].2.1],[PV.str l[j].1,PV.str l[j].2.1]]:=⟨_,rfl⟩;have htl:=hA.tl
  obtain⟨v',S',a1,a2,a3,a4,a5,a6⟩:=(hA.posts.more ⟨(S.objs++X).set S0.objs.length (ca (da (eM l[j]) ((fY (eM l[j]) kv).getD .nils) kv)++[.und]),S.tips++[(1,1)]⟩ [(1,1)] rfl).put (by simp;omega) (by omega)
   (fun i e=>by simp only[aZ];have:=hA.swt i e;omega) (eM l[j]) (.int .i64 i)
  have hol:S0.objs.length<(S.objs++X).length:=by simp;omega
  have hself:∀c:List PV,((S.objs++X).set S0.objs.length c)[S0.objs.length]?=some c:=fun c=>dd hol;have hX1:X[1]?=some [PV.str l[j].1,PV.str l[j].2.1]:=by rw[hX];rfl
  have hlast:∀m:List (K2×PV),((ca m).length+1)%2=1:=fun m=>by rw[wE];omega
  rw[aV];simp -implicitDefEqProofs [h0,h4,h5,h17,h18,h19,h52,h53,h54,hj,hget,hpo,hp1,aH,bK,cA,cc,aW,ft,hld,hom2,hk1,hk2,hev,hpf,hpp,←hX,hX1,a1,a3,hself,Bd,hlast];refine ih (j+1) (by omega) (by omega) (B+1) _ _ (da (eM l[j]) v' kv) (by simp[h0]) (by simp[h4]) (by simp[h5]) (by simp[h17]) (by simp[h18]) (by simp[h19]) (by simp[h52]) (by simp[h53]) (by simp[hw]) ?_ (by omega) (fun fr' S2 kv2 g0 g4 g17 g18 g19 gA gk=>?_)
  ·refine⟨?_,?_,?_,fun i e=>?_,?_,?_,?_,?_⟩
   ·simp only;rw[List.take_set_of_le (aX _),jy (by omega)];exact hA.pre
   ·simp only;rw[a4];simp only;rw[jy htl];exact hA.tpre
   ·simp only[aZ,bE,cO]at a5 ⊢;omega
   ·have:=hA.swt i e;simp only[aZ,bE,cO]at a5 ⊢;omega
   ·exact hself _
   ·simp only;rw[bn (by omega)];exact hox2 X
   ·exact(a6 1 qs (hA.sets.more _ [(1,1)] rfl)).more _ [] (by simp)
   ·exact a2.more _ [] (by simp)
  ·refine k fr' S2 kv2 g0 g4 g17 g18 g19 (by rw[show B+(l.length-j)=B+1+(l.length-(j+1))by omega];exact gA) (fun q=>?_);rw[gk q,Be]
   have hd:(l.drop j).map eM=eM l[j]::(l.drop (j+1)).map eM:=by
    rw[vV hj];rfl
   rw[hd,cQ];split
   ·rename_i hm;constructor
    ·rintro(h|h)
     ·exact .inl h
     ·exact .inr (.inr h)
    ·rintro(h|h|h)
     ·exact .inl h
     ·subst h;exact .inl hm
     ·exact .inr h
   ·rw[bd,mB,or_assoc]
end Ps
