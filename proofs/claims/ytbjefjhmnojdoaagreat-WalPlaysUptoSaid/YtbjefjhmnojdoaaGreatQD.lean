/- The document's frames: the sum, a frame, and the one at a place. -/
import Derived.Test.YtbjefjhmnojdoaaGreatDefs
import Derived.Test.YtbjefjhmnojdoaaGreatLK
set_option linter.defProp false
namespace Ps
set_option linter.unusedSimpArgs false
set_option linter.unusedVariables false
open Go
def aBo:T.fn 256=some (.code ti):=rfl
def aBp:T.fn 270=some (.code tG):=rfl
def aBq:T.fn 342=some (.code tL):=rfl
def aBr:T.fn 328=some (.code qZ):=rfl
def yP:T.fn 319=some (.code nQ):=rfl
def mV(k:IntKind)(a b:Int):Int:=k.wrap (BitVec.ofInt k.bits a ^^^ BitVec.ofInt k.bits b).toNat
@[simp]def aQh{k:IntKind}{a b:Int}:arith .xor (.int k a) (.int k b)=some (.int k (mV k a b)):=by simp[arith,fk,gH,mV]
def aBs{a:Int}:arith .shr (.int .u32 a) (.int .u64 1)=some (.int .u32 (a.fdiv 2)):=rfl
def nh(c:Int):Int:=mV .u32 (c.fdiv 2) (lX .u32 2197175160 (IntKind.u32.wrap (-lX .u32 c 1)))
def nj:Nat→Int→Int
 |0,c=>c
 |n+1,c=>nj n (nh c)
def kF(c:Int)(b:UInt8):Int:=nj 8 (mV .u32 c (IntKind.u32.wrap (b.toNat:Int)))
def Uz(s:List UInt8):Int:=s.foldl kF 4294967295
def nk(s:List UInt8):Int:=IntKind.u32.wrap (BitVec.ofInt 32 4294967295 ^^^ BitVec.ofInt 32 (Uz s)).toNat
def q1{a:PV}{m:List PV}:ae false 1 (a::m)=some a:=by simp[ae]
def aBt{o:List (List PV)}{c:Int}{t:List (Nat×Nat)}:aO T 342 [.ptr o.length 0] ⟨o++[[.int .u32 c]],t⟩=some (.tup [],⟨o++[[.int .u32 (nh c)]],t⟩):=by
 refine aW aBq rfl ?_;have ho:(o++[[PV.int .u32 c]])[o.length]?=some [.int .u32 c]:=by simp
 simp -implicitDefEqProofs [tL,aI,uo,q1,aBs,ho,aR];rw[pZ];exact ZY (b:=false) (S:=⟨o++[[.int .u32 c]],t⟩) (S1:=⟨o++[[.int .u32 (nh c)]],t⟩) (r:=.tup []) (by simp) rfl rfl rfl (fun _ _=>oS)
def aBu{v:PV}{o:List (List PV)}{t:List (Nat×Nat)}{K:List Kt}{Q:Fr→St→Prop}:∀(n j:Nat),n+j=8→∀(fr:Fr) (c:Int),fr 4=.fn 342 [.ptr o.length 0]→fr 18=.int .i64 (j:Int) →
  (∀fr',fr' 3=fr 3→fr' 4=fr 4→fr' 8=fr 8→fr' 9=fr 9→fr' 10=fr 10→Ok (aJ T K fr' ⟨o++[[.int .u32 (nj n c)]],t⟩) Q) →
  Ok (aJ T (.lp wu::.blk 2::K) fr ⟨o++[[.int .u32 c]],t⟩) Q:=by
 intro n
 induction n with
 |zero=>
  intro j hj fr c h4 h18 k;have hj:j=8:=by omega
  subst hj;rw[af];simp -implicitDefEqProofs [h18]
  exact k _ (by simp) (by simp) (by simp) (by simp) (by simp)
 |succ n ih=>
  intro j hj fr c h4 h18 k;have hlt:(j:Int)<8:=by omega
  have hw:=dR (a:=j) (by omega)
  have hL:∀fr',fr' 3=fr 3→fr' 4=fr 4→fr' 8=fr 8→fr' 9=fr 9→fr' 10=fr 10→fr' 18=.int .i64 ((j+1:Nat):Int)→Ok (aJ T (.lp wu::.blk 2::K) fr' ⟨o++[[.int .u32 (nh c)]],t⟩) Q:=by
   intro fr' g3 g4 g8 g9 g10 g18;exact ih (j+1) (by omega) fr' (nh c) (by rw[g4,h4]) g18 (fun fr2 q3 q4 q8 q9 q10=>k fr2 (q3.trans g3) (q4.trans g4) (q8.trans g8) (q9.trans g9) (q10.trans g10))
  clear k ih;rw[af];simp -implicitDefEqProofs [h18,h4,hlt,qK,aBt];exact hL _ (by simp) (by simp[h4]) (by simp) (by simp) (by simp) (by simp[hw])
def aBv{s:List UInt8}{v:PV}(hv:bT 1 v (aL s))(hs:s.length≤67108864){o:List (List PV)}{t:List (Nat×Nat)}{K:List Kt}{Q:Fr→St→Prop}:∀(rest pre:List UInt8),s=pre++rest→∀(fr:Fr) (c:Int),
  fr 3=.ptr o.length 0→fr 4=.fn 342 [.ptr o.length 0]→fr 8=v→fr 9=.int .i64 s.length→fr 10=.int .i64 (pre.length:Int) →
  (∀fr',fr' 3=.ptr o.length 0→Ok (aJ T K fr' ⟨o++[[.int .u32 (rest.foldl kF c)]],t⟩) Q) →
  Ok (aJ T (.lp ww::.blk 0::K) fr ⟨o++[[.int .u32 c]],t⟩) Q:=by
 intro rest
 induction rest with
 |nil=>
  intro pre hp fr c h3 h4 h8 h9 h10 k;rw[cI]at hp;subst hp;rw[af];simp -implicitDefEqProofs [h9,h10]
  exact k _ (by simp[h3])
 |cons b rest ih=>
  intro pre hp fr c h3 h4 h8 h9 h10 k;have hi:pre.length<s.length:=by rw[hp];simp
  have hg:=hv.get pre.length (by rw[bO];exact hi) .i64;have hgx:(aL s)[pre.length]'(by rw[bO];exact hi)=.int .u8 b.toNat:=by simp[aL,hp]
  rw[hgx,oc]at hg;have hw:=dR (a:=pre.length) (by omega)
  have hL:∀fr',fr' 3=.ptr o.length 0→fr' 4=.fn 342 [.ptr o.length 0]→fr' 8=v→fr' 9=.int .i64 s.length→fr' 10=.int .i64 ((pre.length+1:Nat):Int)→Ok (aJ T (.lp ww::.blk 0::K) fr' ⟨o++[[.int .u32 (kF c b)]],t⟩) Q:=by
   intro fr' g3 g4 g8 g9 g10;exact ih (pre++[b]) (by simp[hp]) fr' _ g3 g4 g8 g9 (by simpa using g10) k
  clear k ih;have ho:(o++[[PV.int .u32 c]])[o.length]?=some [.int .u32 c]:=by simp
  rw[af];simp -implicitDefEqProofs [-Zo,h3,h8,h9,h10,hi,hg,q1,aI,uo,ho,aR];simp -implicitDefEqProofs;refine aBu (v:=v) 8 0 rfl _ _ (by simp[h4]) (by simp) (fun fr' g3 g4 g8 g9 g10=>?_);simp at g3 g4 g8 g9 g10;simp -implicitDefEqProofs [g10,h10];exact hL _ (by simp[g3,h3]) (by simp[g4,h4]) (by simp[g8,h8]) (by simp[g9,h9]) (by simp[hw])
def aBw{s:List UInt8}{v:PV}(hv:bT 1 v (aL s))(hs:s.length≤67108864)(S:St):aO T 270 [v] S=some (.int .u32 (nk s),S):=by
 have hlen:=hv.len;rw[bO]at hlen;refine aW aBp rfl ?_;simp -implicitDefEqProofs [tG,aI,dg,aR,hlen];refine aBv hv hs (o:=S.objs) (t:=S.tips) s [] rfl _ _ (by simp) (by simp) (by simp) (by simp) (by simp) (fun fr' g3=>?_);simp -implicitDefEqProofs [g3,uo,q1];have hg:aP S ⟨S.objs++[[.int .u32 (s.foldl kF 4294967295)]],S.tips⟩:=(aP.refl S).obj _;rw[ez hg];rfl
end Ps
set_option linter.defProp false
namespace Ps
set_option linter.unusedSimpArgs false
set_option linter.unusedVariables false
open Go
def lO(n:Int):IntKind.u8.wrap n=n%256:=by simp[IntKind.wrap,IntKind.bits,IntKind.signed]
def DA(n:Int):[PV.int .u8 (IntKind.u8.wrap n)]=aL [UInt8.ofNat (IntKind.u8.wrap n).toNat]:=by
 have h:0≤IntKind.u8.wrap n∧IntKind.u8.wrap n<256:=by rw[lO];omega
 simp only[aL,dS,sc,kW,and_true]
 congr 1
 simp only[UInt8.toNat_ofNat'];omega
def yQ(c:Int)(i:Nat):UInt8:=UInt8.ofNat (IntKind.u8.wrap (c.fdiv (2^(8*i)))).toNat
def pT(c:Int):Nat→Nat→List UInt8
 |0,_=>[]
 |n+1,i=>yQ c i::pT c n (i+1)
def iG(x:List UInt8):List UInt8:=pT (nk x) 4 0
def VA(x:List UInt8):(iG x).length=4:=rfl
theorem aBx{c:Int}:∀{i:Nat},i<4→arith .shr (.int .u32 c) (.int .i64 (8*(i:Int)))=some (.int .u32 (c.fdiv (2^(8*i))))
 |0,_=>rfl
 |1,_=>rfl
 |2,_=>rfl
 |3,_=>rfl
 |n+4,h=>by omega
def aBy{c:Int}{S0:St}{K:List Kt}{Q:Fr→St→Prop}:∀(n i:Nat),n+i=4→∀(s:List UInt8) (fr:Fr) (S:St),s.length+n≤1000004→bB S0 1 S (fr 0) (aL s)→fr 5=.int .u32 c→fr 9=.int .i64 (i:Int) →
  (∀fr' S',bB S0 1 S' (fr' 0) (aL (s++pT c n i))→S'.objs=S.objs→S.tips.length≤S'.tips.length→Ok (aJ T K fr' S') Q) →
  Ok (aJ T (.lp wN::.blk 0::K) fr S) Q:=by
 intro n
 induction n with
 |zero=>
  intro i hi s fr S hs ha h5 h9 k;have hi:i=4:=by omega
  subst hi;rw[af];simp -implicitDefEqProofs [h9]
  exact k _ S (by simpa[pT]using ha) rfl (aj _)
 |succ n ih=>
  intro i hi s fr S hs ha h5 h9 k;have hlt:(i:Int)<4:=by omega
  have hw:=dR (a:=i) (by omega);have hw8:IntKind.i64.wrap (8*(i:Int))=8*(i:Int):=bJ (by omega) (by omega);have hsh:=aBx (c:=c) (i:=i) (by omega);obtain⟨v',S',a1,a2,a3⟩:=(ha.arrs [(1,1)]).app (bytes:=1) [PV.int .u8 (IntKind.u8.wrap (c.fdiv (2^(8*i))))] (by rw[bO];simp;omega);rw[DA]at a2
  have htl:S.tips.length≤S'.tips.length:=by
   have h1:∀(v:PV) (S1:St) (new:List PV) (v2:PV) (S2:St),fL 1 1 S1 v new=some (v2,S2)→S1.tips.length≤S2.tips.length:=by
    intro v S1 new v2 S2 h;unfold fL at h;split at h
    ·split at h
     ·cases h;exact aj _
     ·split at h
      ·cases h;simp[bp]
      ·cases h
    ·split at h
     ·cases h;exact aj _
     ·split at h
      ·split at h
       ·cases h;simp
       ·cases h
      ·cases h
    ·split at h
     ·cases h;exact aj _
     ·split at h
      ·cases h;simp[bp]
      ·cases h
    ·cases h
   have:=h1 _ _ _ _ _ a1;simp only[List.length_append]at this;omega
  have hL:∀fr',fr' 0=v'→fr' 5=.int .u32 c→fr' 9=.int .i64 ((i+1:Nat):Int)→Ok (aJ T (.lp wN::.blk 0::K) fr' S') Q:=by
   intro fr' g0 g5 g9;refine ih (i+1) (by omega) (s++[yQ c i]) fr' S' (by simp;omega) (by rw[g0,fc];exact a2) g5 g9 (fun fr2 S2 q1 q2 q3=>k fr2 S2 ?_ (by rw[q2,a3]) (Nat.le_trans htl q3));simp only[pT];rw[iv]at q1;exact q1
  clear k ih;rw[af];simp -implicitDefEqProofs [h9,h5,hlt,hw8,hsh,aI,bL,bR,a1];exact hL _ (by simp) (by simp[h5]) (by simp[hw])
def VB{s x:List UInt8}{v xv:PV}{S0 S:St}(ha:bB S0 1 S v (aL s))(hs:s.length≤1000000)(hx:bG 1 xv (aL x))(hxl:x.length≤1000000) :
  ∃v' S',aO T 328 [v,xv] S=some (v',S')∧fF v' (s++iG x)∧aP S0 S'∧S'.objs=S.objs:=by
 have hsum:=aBw hx.reads (by omega) S
 have key:=eB (T:=T) (f:=328) (c:=qZ) aBr (args:=[v,xv]) (S:=S) rfl
  (R:=fun r S2=>fF r (s++iG x)∧aP S0 S2∧S2.objs=S.objs) ?_
 ·obtain⟨r,S2,h1,h2,h3,h4⟩:=key;exact⟨r,S2,h1,h2,h3,h4⟩
 simp -implicitDefEqProofs [qZ,hsum];refine aBy (c:=nk x) (S0:=S0) 4 0 rfl s _ S (by omega) (by simpa using ha) (by simp) (by simp) (fun fr' S' q1 q2 q3=>?_)
 have hfree:(fr' 0).free=true:=by
  rcases q1.acc with⟨h,_⟩|⟨id,_,h,_⟩
  ·rw[h];rfl
  ·rw[h];simp[PV.free,kf,PV.freeL]
 have hb:=jK q1
 have hfr:(fr' 0).frz=bo (fr' 0) (aL (s++pT (nk x) 4 0)):=by
  rcases q1.acc with⟨h,_⟩|⟨id,_,h,_⟩
  ·rw[h];rfl
  ·rw[h];simp[PV.frz,bo,kg,PV.frzL]
 have hfin:ac false S S' (fr' 0)=((fr' 0).frz,⟨S.objs,S'.tips.take S.tips.length⟩):=by
  unfold ac;have:bQ S'.objs S.objs.length eM (fr' 0)=some (fr' 0):=zA hfree;simp only[cF,if_false];rw[this];simp[q2,iy,vm]
 simp -implicitDefEqProofs [hfin];refine⟨by rw[hfr];exact hb,?_⟩;obtain⟨o1,t1,e1⟩:=ha.grows;obtain⟨o2,t2,e2⟩:=q1.grows;refine⟨o1,t2.take (S.tips.length-S0.tips.length),?_⟩;rw[e1,e2];simp only[List.length_append];rw[Af,mu (by omega)]
def fp(n:Nat):List UInt8:=[UInt8.ofNat (IntKind.u8.wrap ((n:Int).fdiv 256)).toNat,UInt8.ofNat (IntKind.u8.wrap (n:Int)).toNat]
def eo(x:List UInt8):List UInt8:=(fp x.length++x)++iG (fp x.length++x)
def DB(x:List UInt8):(eo x).length=x.length+6:=by
 simp only[eo,List.length_append,VA,fp,bV,cT];omega
def aBz{a:Int}:arith .shr (.int .i64 a) (.int .u64 8)=some (.int .i64 (a.fdiv 256)):=rfl
def aBA{x:List UInt8}{xv:PV}(hx:bG 1 xv (aL x))(hl:x.length≤65535)(S:St):∃v',aO T 256 [.nils,xv] S=some (.tup [v',.int .i64 0],S)∧fF v' (eo x):=by
 have hn:bG 1 .nils (aL []):=.inl ⟨rfl,rfl⟩;obtain⟨v1,S1,e1,e2,e3⟩:=Dq hn (m:=x.length+6) (by simp;omega) (aP.refl S);have hlen:=hx.len;rw[bO]at hlen;have hw:IntKind.i64.wrap ((x.length:Int)+6)=(x.length:Int)+6:=bJ (by omega) (by omega);have e1:aO T 218 [.nils,.int .i64 ((x.length:Int)+6)] S=some (v1,S1):=e1;have hgt:¬(65535:Int)<(x.length:Int):=by omega
 obtain⟨v2,S2,a1,a2,a3⟩:=(e2.arrs [(2,1)]).app (bytes:=1) [PV.int .u8 (IntKind.u8.wrap ((x.length:Int).fdiv 256)),PV.int .u8 (IntKind.u8.wrap (x.length:Int))] (by simp[aL])
 have hh:[PV.int .u8 (IntKind.u8.wrap ((x.length:Int).fdiv 256)),PV.int .u8 (IntKind.u8.wrap (x.length:Int))]=aL (fp x.length):=by
  have u1:=DA ((x.length:Int).fdiv 256);have u2:=DA (x.length:Int);have:fp x.length=[UInt8.ofNat (IntKind.u8.wrap ((x.length:Int).fdiv 256)).toNat]++[UInt8.ofNat (IntKind.u8.wrap (x.length:Int)).toNat]:=rfl;rw[this,fc,←u1,←u2];rfl
 rw[hh]at a2;have a2:bB S 1 S2 v2 (aL (fp x.length)):=by simpa[aL]using a2
 obtain⟨v3,S3,b1,b2,b3⟩:=a2.app (bytes:=1) (aL x) (by rw[bO,bO];simp[fp];omega);rw[←fc]at b2;have hsl:=b2.isSl (gn _);obtain⟨v4,c1,c2⟩:=hsl.lo (lo:=0) (k:=.i64) (by omega);rw[oh]at c2;obtain⟨v5,S5,d1,d2,d3,d4⟩:=VB b2 (by simp[fp];omega) c2 (by simp[fp];omega);refine⟨v5,aW aBo rfl ?_,d2⟩;have c1':eQ 1 (some (.int .i64 0)) none v3=some v4:=c1;have hnl:cz false .nils=some (.int .i64 0):=rfl;have hap:=fun S=>hx.appdS (S:=S);simp -implicitDefEqProofs [ti,hlen,hgt,hw,e1,aBz,aI,bL,bR,a1,hap,b1,hnl,c1',d1];have hf:=cN (r:=.tup [v5,.int .i64 0]) d3 (by simp[PV.free,PV.freeL,d2.free]);rw[hf];simp[PV.frz,PV.frzL,d2.frz]
def gX(s:List UInt8)(i:Nat):Option (List UInt8×Nat):=
 match s.drop i with
 |b0::b1::r=>
  let n:=b0.toNat*256+b1.toNat
  if r.length<4∨r.length-4<n then none
  else if iG ((b0::b1::r).take (2+n))=((b0::b1::r).take (6+n)).drop (2+n)then some (((b0::b1::r).take (2+n)).drop 2,i+6+n)else none
 |_=>none
def nOf(b0 b1:UInt8):lW .i64 (IntKind.i64.wrap ((b0.toNat:Int)*256)) (b1.toNat:Int)=((b0.toNat*256+b1.toNat:Nat):Int):=by
 have h0:=b0.toNat_lt;have h1:=b1.toNat_lt;rw[bJ (by omega) (by omega)];unfold lW
 have e:(BitVec.ofInt IntKind.i64.bits ((b0.toNat:Int)*256) ||| BitVec.ofInt IntKind.i64.bits (b1.toNat:Int)).toNat=b0.toNat*256+b1.toNat:=by
  rw[BitVec.toNat_or]
  have e1:(BitVec.ofInt IntKind.i64.bits ((b0.toNat:Int)*256)).toNat=2^8*b0.toNat:=by
   rw[BitVec.toNat_ofInt];show(((b0.toNat:Int)*256)%((2^64:Nat):Int)).toNat=_;rw[Int.emod_eq_of_lt (by omega) (by omega)];omega
  have e2:(BitVec.ofInt IntKind.i64.bits (b1.toNat:Int)).toNat=b1.toNat:=by
   rw[BitVec.toNat_ofInt];show((b1.toNat:Int)%((2^64:Nat):Int)).toNat=_;rw[Int.emod_eq_of_lt (by omega) (by omega)];omega
  rw[e1,e2,←Nat.two_pow_add_eq_or_of_lt (by omega:b1.toNat<2^8)];omega
 rw[e,bJ (by omega) (by omega)]
def bG.hiW{sz:Nat}{v:PV}{es:List PV}(h:bG sz v es){hi:Nat}{j:IntKind}(hh:hi≤es.length):∃v',eQ sz none (some (.int j (hi:Int))) v=some v'∧bG sz v' (es.take hi):=by
 rcases h with⟨rfl,rfl⟩|⟨tip,sp,rfl,h⟩
 ·refine⟨.nils,?_,.inl ⟨rfl,by simp⟩⟩;have:hi=0:=by simpa using hh
  subst this;rw[vn,pb (by omega)]
 ·refine⟨.sl (if hi=es.length then tip else none) (((es++sp).take hi).drop 0) ((es++sp).drop hi),?_,.inr ⟨if hi=es.length then tip else none,(es++sp).drop hi,?_,?_⟩⟩
  ·rw[sX,oH h,pb (by omega)];rfl
  ·rw[sm hh,oh]
  ·intro e he;refine h e ?_;rcases dA.1 he with he|he
   ·exact qS _ (jz he)
   ·exact iZ he
def rM(s:List UInt8)(n:Nat):(aL s).take n=aL (s.take n):=by simp[aL,sd]
def DC(s:List UInt8)(n:Nat):(aL s).drop n=aL (s.drop n):=by simp[aL,List.map_drop]
def yR:Option (List UInt8×Nat)→PV→Prop
 |some (x,n),r=>∃v',r=.tup [v',.int .i64 (n:Int),.int .i64 0]∧fF v' x
 |none,r=>∃e:Int,(e==0)=false∧r=.tup [.nils,.int .i64 0,.int .i64 e]
def DD{a:Int}:arith .shl (.int .i64 a) (.int .u64 8)=some (.int .i64 (IntKind.i64.wrap (a*256))):=rfl
def aBC{s:List UInt8}{bv:PV}(hv:bG 1 bv (aL s))(hs:s.length≤5000000){i:Nat}(hi:i≤s.length)(S:St):∃r,aO T 319 [bv,.int .i64 (i:Int)] S=some (r,S)∧yR (gX s i) r:=by
 have hlen:=hv.len;rw[bO]at hlen;obtain⟨rv,e1,e2⟩:=hv.lo (lo:=i) (k:=.i64) (by rw[bO];exact hi);rw[DC]at e2;have hi1:¬(i:Int)<0:=by omega
 have hi2:¬(s.length:Int)<(i:Int):=by omega
 obtain⟨r,hr⟩:∃r,r=s.drop i:=⟨_,rfl⟩;rw[←hr]at e2;have hrl:r.length=s.length-i:=by rw[hr,kX]
 have hrlen:=e2.len;rw[bO]at hrlen
 have fno:∀(S1:St) (e:Int),aP S S1→ac false S S1 (.tup [.nils,.int .i64 0,.int .i64 e])=(.tup [.nils,.int .i64 0,.int .i64 e],S):=fun S1 e hg=>by
  have:=cN (r:=.tup [.nils,.int .i64 0,.int .i64 e]) hg rfl;rw[this];rfl
 have bad:∀e:Int,(e==0)=false→gX s i=none→yR (gX s i) (.tup [.nils,.int .i64 0,.int .i64 e]):=fun e he hn=>by rw[hn];exact⟨e,he,rfl⟩
 by_cases h6:r.length<6
 ·have h6':(r.length:Int)<6:=by omega
  have hn:gX s i=none:=by
   unfold gX;rw[←hr]
   match r,h6 with
   | [],_=>rfl
   | [_],_=>rfl
   |b0::b1::t,h6=>
    simp only[bV]at h6;simp only;rw[if_pos (.inl (by omega))]
  refine⟨_,aW yP rfl ?_,bad 4 rfl hn⟩;simp -implicitDefEqProofs [nQ,hlen,hi1,hi2,e1,hrlen,h6,h6',fno S 4 (aP.refl S)]
 ·have h6':¬(r.length:Int)<6:=by omega
  obtain⟨b0,b1,t,ht⟩:∃b0 b1 t,r=b0::b1::t:=by
   match r,h6 with
   | [],h6=>simp at h6
   | [_],h6=>simp at h6
   |b0::b1::t,_=>exact⟨_,_,_,rfl⟩
  have htl:t.length+2=r.length:=by rw[ht];simp
  have h0:=e2.reads.get 0 (by rw[bO];omega) .i64;have h1:=e2.reads.get 1 (by rw[bO];omega) .i64;have hx0:(aL r)[0]'(by rw[bO];omega)=.int .u8 b0.toNat:=by simp[aL,ht]
  have hx1:(aL r)[1]'(by rw[bO];omega)=.int .u8 b1.toNat:=by simp[aL,ht]
  rw[hx0,oc]at h0;rw[hx1,oc]at h1;have h0:dQ 1 rv (.int .i64 0)=some (.ref [.int .u8 b0.toNat]):=h0;have h1:dQ 1 rv (.int .i64 1)=some (.ref [.int .u8 b1.toNat]):=h1;have l0:=b0.toNat_lt;have l1:=b1.toNat_lt;have w0:IntKind.i64.wrap (b0.toNat:Int)=(b0.toNat:Int):=bJ (by omega) (by omega);have w1:IntKind.i64.wrap (b1.toNat:Int)=(b1.toNat:Int):=bJ (by omega) (by omega);have hn:=nOf b0 b1;obtain⟨n,hnn⟩:∃n:Nat,n=b0.toNat*256+b1.toNat:=⟨_,rfl⟩;rw[←hnn]at hn;have w6:IntKind.i64.wrap ((r.length:Int)-6)=(r.length:Int)-6:=bJ (by omega) (by omega)
  have hget:gX s i=if r.length-6<n then none else if iG (r.take (2+n))=(r.take (6+n)).drop (2+n)then some ((r.take (2+n)).drop 2,i+6+n)else none:=by
   unfold gX;rw[←hr,ht];simp only[←hnn,bV];have q1:(t.length<4∨t.length-4<n)↔(t.length+1+1-6<n):=by omega
   by_cases hc:t.length+1+1-6<n
   ·rw[if_pos (q1.2 hc),if_pos hc]
   ·rw[if_neg (fun h=>hc (q1.1 h)),if_neg hc]
  by_cases hlt:r.length-6<n
  ·have hlt':(r.length:Int)-6<(n:Int):=by omega
   refine⟨_,aW yP rfl ?_,bad 4 rfl (by rw[hget,if_pos hlt])⟩;simp -implicitDefEqProofs [nQ,hlen,hi1,hi2,e1,hrlen,h6,h6',h0,h1,q1,w0,w1,DD,hn,w6,hlt',fno S 4 (aP.refl S)]
  ·have hlt':¬(r.length:Int)-6<(n:Int):=by omega
   have w2:IntKind.i64.wrap (2+(n:Int))=((2+n:Nat):Int):=by rw[bJ (by omega) (by omega)];omega
   have w7:IntKind.i64.wrap (6+(n:Int))=((6+n:Nat):Int):=by rw[bJ (by omega) (by omega)];omega
   obtain⟨va,a1,a2⟩:=e2.hiW (hi:=2+n) (j:=.i64) (by rw[bO];omega);obtain⟨vb,b1',b2⟩:=e2.lh (lo:=2+n) (hi:=6+n) (k:=.i64) (j:=.i64) (by omega) (by rw[bO];omega);obtain⟨vc,c1,c2⟩:=e2.lh (lo:=2) (hi:=2+n) (k:=.i64) (j:=.i64) (by omega) (by rw[bO];omega);rw[rM]at a2;rw[rM,DC]at b2 c2;have c1:eQ 1 (some (.int .i64 2)) (some (.int .i64 ((2+n:Nat):Int))) rv=some vc:=c1;obtain⟨v5,S5,d1,d2,d3,d4⟩:=VB (s:=[]) (ip 1 (aP.refl S)) (by simp) a2 (by rw[List.length_take];omega);rw[eE]at d2
   push_cast at w2 w7 a1 b1' c1
   have st1:=mZ d2.isl;have st2:=mZ b2;by_cases he:iG (r.take (2+n))=(r.take (6+n)).drop (2+n)
   ·obtain⟨v6,S6,f1,f2,f3⟩:=Dq c2 (m:=0) (by rw[kX,List.length_take];omega) d3;have f1:aO T 218 [vc,.int .i64 0] S5=some (v6,S6):=f1;have w8:IntKind.i64.wrap ((i:Int)+6)=(i:Int)+6:=bJ (by omega) (by omega);have w9:IntKind.i64.wrap ((i:Int)+6+(n:Int))=(i:Int)+6+(n:Int):=bJ (by omega) (by omega);have hb:=jK f2
    have hfree:v6.free=true:=by
     rcases f2.acc with⟨h,_⟩|⟨id,_,h,_⟩
     ·rw[h];rfl
     ·rw[h];simp[PV.free,kf,PV.freeL]
    have hfr:v6.frz=bo v6 (aL ((r.take (2+n)).drop 2)):=by
     rcases f2.acc with⟨h,_⟩|⟨id,_,h,_⟩
     ·rw[h];rfl
     ·rw[h];simp[PV.frz,bo,kg,PV.frzL]
    have hfin:ac false S S6 (.tup [v6,.int .i64 ((i:Int)+6+(n:Int)),.int .i64 0])=(.tup [bo v6 (aL ((r.take (2+n)).drop 2)),.int .i64 ((i:Int)+6+(n:Int)),.int .i64 0],S):=by
     rw[cN f2.grows (by simp[PV.free,PV.freeL,hfree])];simp[PV.frz,PV.frzL,hfr]
    refine⟨_,aW yP rfl ?_,by rw[hget,if_neg hlt,if_pos he];exact⟨_,rfl,hb⟩⟩;rw[←he]at st2;simp -implicitDefEqProofs [nQ,hlen,hi1,hi2,e1,hrlen,h6,h6',h0,h1,q1,w0,w1,DD,hn,w6,hlt',w2,w7,a1,b1',c1,d1,st1,st2,f1,w8,w9,hfin]
   ·have he':(iG (r.take (2+n))==(r.take (6+n)).drop (2+n))=false:=by simpa using he
    refine⟨_,aW yP rfl ?_,bad 5 rfl (by rw[hget,if_neg hlt,if_neg he])⟩;simp -implicitDefEqProofs [nQ,hlen,hi1,hi2,e1,hrlen,h6,h6',h0,h1,q1,w0,w1,DD,hn,w6,hlt',w2,w7,a1,b1',c1,d1,st1,st2,he',fno S5 5 d3]
end Ps
set_option linter.defProp false
namespace Ps
set_option linter.unusedSimpArgs false
set_option linter.unusedVariables false
open Go
def aEp:T.fn 259=some (.code tA):=rfl
def aEq:T.fn 255=some (.code z63):=rfl
def zC:T.fn 324=some (.code nR):=rfl
def ut{n:Nat}(h:n<4294967296):IntKind.u32.wrap (n:Int)=(n:Int):=by
 show((n:Int)%4294967296)=_;omega
def EC{n:Nat}(h:n<4294967296):(BitVec.ofInt 32 (n:Int)).toNat=n:=by
 rw[BitVec.toNat_ofInt];show((n:Int)%((2^32:Nat):Int)).toNat=n;omega
def aEr{m:Nat}(h:m<4294967296):lX .u32 (m:Int) 1=((m%2:Nat):Int):=by
 unfold lX
 have e:(BitVec.ofInt IntKind.u32.bits (m:Int) &&& BitVec.ofInt IntKind.u32.bits (1:Int)).toNat=m%2:=by
  rw[BitVec.toNat_and];have h1:(BitVec.ofInt IntKind.u32.bits (m:Int)).toNat=m:=EC h;have h2:(BitVec.ofInt IntKind.u32.bits (1:Int)).toNat=1:=rfl;rw[h1,h2,Nat.and_one_is_mod]
 rw[e];exact ut (by omega)
def ED(a b:Int):∃n:Nat,mV .u32 a b=(n:Int)∧n<4294967296:=by
 refine⟨(BitVec.ofInt IntKind.u32.bits a ^^^ BitVec.ofInt IntKind.u32.bits b).toNat,?_,(BitVec.ofInt IntKind.u32.bits a ^^^ BitVec.ofInt IntKind.u32.bits b).isLt⟩;unfold mV;exact ut (BitVec.isLt _)
def aEs{m:Nat}(h:m<4294967296):mV .u32 (m:Int) 0=(m:Int):=by
 unfold mV
 have e:(BitVec.ofInt IntKind.u32.bits (m:Int) ^^^ BitVec.ofInt IntKind.u32.bits (0:Int)).toNat=m:=by
  rw[BitVec.toNat_xor];have h1:(BitVec.ofInt IntKind.u32.bits (m:Int)).toNat=m:=EC h;have h2:(BitVec.ofInt IntKind.u32.bits (0:Int)).toNat=0:=rfl;rw[h1,h2,Nat.xor_zero]
 rw[e];exact ut h
def Wc{m:Nat}(h:m<4294967296):nh (m:Int)=if m%2=1 then mV .u32 ((m/2:Nat):Int) 2197175160 else((m/2:Nat):Int):=by
 unfold nh
 have hd:(m:Int).fdiv 2=((m/2:Nat):Int):=by
  rw[AU _ (by omega)];omega
 rw[hd,aEr h];by_cases h1:m%2=1
 ·rw[if_pos h1,h1];have:lX .u32 2197175160 (IntKind.u32.wrap (-((1:Nat):Int)))=2197175160:=by decide
  rw[this]
 ·rw[if_neg h1];have h0:m%2=0:=by omega
  rw[h0];have:lX .u32 2197175160 (IntKind.u32.wrap (-((0:Nat):Int)))=0:=by decide
  rw[this];exact aEs (by omega)
def Wd{m:Nat}(h:m<4294967296):∃n:Nat,nh (m:Int)=(n:Int)∧n<4294967296:=by
 rw[Wc h];split
 ·exact ED _ _
 ·exact⟨m/2,rfl,by omega⟩
theorem EE:∀(k:Nat) {m:Nat},m<4294967296→∃n:Nat,nj k (m:Int)=(n:Int)∧n<4294967296
 |0,m,h=>⟨m,rfl,h⟩
 |k+1,m,h=>by
  obtain⟨n,e,hn⟩:=Wd h;rw[nj,e];exact EE k hn
def aEt(c:Int)(b:UInt8):∃n:Nat,kF c b=(n:Int)∧n<4294967296:=by
 unfold kF;obtain⟨n,e,hn⟩:=ED c (IntKind.u32.wrap (b.toNat:Int));rw[e];exact EE 8 hn
theorem We:∀(s:List UInt8) {m:Nat},m<4294967296→∃n:Nat,s.foldl kF (m:Int)=(n:Int)∧n<4294967296
 | [],m,h=>⟨m,rfl,h⟩
 |b::s,m,h=>by
  obtain⟨n,e,hn⟩:=aEt (m:Int) b;rw[vz,e];exact We s hn
def aEu{m:Nat}(h:m<4294967296):IntKind.u32.wrap (BitVec.ofInt 32 4294967295 ^^^ BitVec.ofInt 32 (m:Int)).toNat=4294967295-(m:Int):=by
 have e:(BitVec.ofInt 32 4294967295 ^^^ BitVec.ofInt 32 (m:Int)).toNat=4294967295-m:=by
  have h1:BitVec.ofInt 32 4294967295=BitVec.allOnes 32:=by decide
  rw[h1,BitVec.allOnes_xor,BitVec.toNat_not,EC h]
 rw[e,ut (by omega)];omega
def Wg(s:List UInt8):∃n:Nat,s.foldl kF 4294967295=(n:Int)∧n<4294967296∧nk s=4294967295-(n:Int):=by
 obtain⟨n,e,hn⟩:=We s (m:=4294967295) (by omega);refine⟨n,e,hn,?_⟩;unfold nk Uz;have e':s.foldl kF 4294967295=(n:Int):=e;rw[e'];exact aEu hn
def Wh{m:Nat}:arith .rem (.int .u32 (m:Int)) (.int .u32 2)=some (.int .u32 ((m%2:Nat):Int)):=by
 have:(m:Int).tmod 2=((m%2:Nat):Int):=by rw[oe (by omega)];omega
 simp[arith,fk,gH,this]
def zD{m d:Nat}(h:m<4294967296)(hd:0<d):arith .quo (.int .u32 (m:Int)) (.int .u32 (d:Int))=some (.int .u32 ((m/d:Nat):Int)):=by
 have e:(m:Int).tdiv (d:Int)=((m/d:Nat):Int):=by rw[vv (by omega)];exact(Int.natCast_ediv m d).symm
 have hlt:m/d<4294967296:=Nat.lt_of_le_of_lt (Nat.div_le_self _ _) h;have h0:¬(d:Int)=0:=by omega
 simp only[arith,fk,gH,e,ut hlt,h0,if_false,cF,if_true]
def zE{k:IntKind}{m d:Nat}(hd:0<d):arith .rem (.int k (m:Int)) (.int k (d:Int))=some (.int k ((m%d:Nat):Int)):=by
 have e:(m:Int).tmod (d:Int)=((m%d:Nat):Int):=by rw[oe (by omega)];exact(Int.natCast_emod m d).symm
 have h0:¬(d:Int)=0:=by omega
 simp only[arith,fk,gH,e,h0,if_false,cF,if_true]
def aEv{v:PV}{S:St}{K:List Kt}{Q:Fr→St→Prop}:∀(n j:Nat),n+j=8→∀(fr:Fr) (m:Nat),m<4294967296→fr 3=.int .u32 (m:Int)→fr 5=.int .i64 (j:Int) →
  (∀fr',fr' 3=.int .u32 (nj n (m:Int))→fr' 0=fr 0→fr' 4=fr 4→Ok (aJ T K fr' S) Q) →
  Ok (aJ T (.lp wL::.blk 2::K) fr S) Q:=by
 intro n
 induction n with
 |zero=>
  intro j hj fr m hm h3 h5 k;have hj:j=8:=by omega
  subst hj;rw[af];simp -implicitDefEqProofs [h5]
  exact k _ (by simp[h3,nj]) (by simp) (by simp)
 |succ n ih=>
  intro j hj fr m hm h3 h5 k;have hlt:(j:Int)<8:=by omega
  have hw:=dR (a:=j) (by omega);obtain⟨m',e,hm'⟩:=Wd hm
  have hL:∀fr',fr' 3=.int .u32 (m':Int)→fr' 0=fr 0→fr' 4=fr 4→fr' 5=.int .i64 ((j+1:Nat):Int)→Ok (aJ T (.lp wL::.blk 2::K) fr' S) Q:=by
   intro fr' g3 g0 g4 g5;refine ih (j+1) (by omega) fr' m' hm' g3 g5 (fun fr2 q3 q0 q4=>k fr2 ?_ (q0.trans g0) (q4.trans g4));rw[q3,nj,e]
  clear k ih;rw[Wc hm]at e;have hq:arith .quo (.int .u32 (m:Int)) (.int .u32 2)=some (.int .u32 ((m/2:Nat):Int)):=zD (d:=2) hm (by omega);rw[af];by_cases h1:m%2=1
  ·rw[if_pos h1]at e;have h1r:=Wh (m:=m);rw[h1]at h1r
   push_cast at hq e h1r
   simp -implicitDefEqProofs [h3,h5,hlt,h1r,hq,e];exact hL _ (by simp) (by simp) (by simp) (by simp[hw])
  ·rw[if_neg h1]at e;have h1r:=Wh (m:=m);rw[show m%2=0 by omega]at h1r
   push_cast at hq e h1r
   simp -implicitDefEqProofs [h3,h5,hlt,h1r,hq,e];exact hL _ (by simp) (by simp) (by simp) (by simp[hw])
def aEw{s:List UInt8}{v:PV}(hv:bT 1 v (aL s))(hs:s.length≤67108864){S:St}{K:List Kt}{Q:Fr→St→Prop}:∀(rest pre:List UInt8),s=pre++rest→∀(fr:Fr) (m:Nat),m<4294967296 →
  fr 0=v→fr 3=.int .u32 (m:Int)→fr 4=.int .i64 (pre.length:Int) →
  (∀fr',fr' 3=.int .u32 (rest.foldl kF (m:Int))→Ok (aJ T K fr' S) Q) →
  Ok (aJ T (.lp wM::.blk 0::K) fr S) Q:=by
 have hlen:=hv.len;rw[bO]at hlen;intro rest
 induction rest with
 |nil=>
  intro pre hp fr m hm h0 h3 h4 k;rw[cI]at hp;subst hp;rw[af];simp -implicitDefEqProofs [h0,h4,hlen]
  exact k _ (by simp[h3])
 |cons b rest ih=>
  intro pre hp fr m hm h0 h3 h4 k;have hi:pre.length<s.length:=by rw[hp];simp
  have hg:=hv.get pre.length (by rw[bO];exact hi) .i64;have hgx:(aL s)[pre.length]'(by rw[bO];exact hi)=.int .u8 b.toNat:=by simp[aL,hp]
  rw[hgx,oc]at hg;have hw:=dR (a:=pre.length) (by omega);obtain⟨x,ex,hx⟩:=ED (m:Int) (IntKind.u32.wrap (b.toNat:Int));obtain⟨y,ey,hy⟩:=EE 8 hx;have hb:kF (m:Int) b=(y:Int):=by rw[kF,ex,ey]
  have hL:∀fr',fr' 0=v→fr' 3=.int .u32 (y:Int)→fr' 4=.int .i64 ((pre.length+1:Nat):Int)→Ok (aJ T (.lp wM::.blk 0::K) fr' S) Q:=by
   intro fr' g0 g3 g4;exact ih (pre++[b]) (by simp[hp]) fr' y hy g0 g3 (by simpa using g4) (fun fr2 q=>k fr2 (by rw[q,vz,hb]))
  clear k ih;rw[af];simp -implicitDefEqProofs [-Zn,h0,h3,h4,hlen,hi,hg,q1,ex];refine aEv (v:=v) 8 0 rfl _ x hx (by simp[ex]) (by simp) (fun fr' g3 g0 g4=>?_);simp at g0 g4;rw[ey]at g3;simp -implicitDefEqProofs [g4,h4];exact hL _ (by simp[g0,h0]) (by simp[g3]) (by simp[hw])
def aEx{s:List UInt8}{v:PV}(hv:bT 1 v (aL s))(hs:s.length≤67108864)(S:St):aO T 259 [v] S=some (.int .u32 (nk s),S):=by
 obtain⟨n,e,hn,e2⟩:=Wg s;refine aW aEp rfl ?_;simp -implicitDefEqProofs [tA];refine aEw hv hs (S:=S) s [] rfl _ 4294967295 (by omega) (by simp) (by simp) (by simp) (fun fr' g3=>?_);have g3:fr' 3=.int .u32 (n:Int):=by rw[g3,←e];rfl
 have hw:IntKind.u32.wrap (4294967295-(n:Int))=4294967295-(n:Int):=by
  show(4294967295-(n:Int))%4294967296=_;omega
 simp -implicitDefEqProofs [g3,hw,e2]
def aEy{n:Nat}:∀i,yQ (n:Int) i=UInt8.ofNat (n/2^(8*i)%256):=by
 intro i;unfold yQ
 have e:(n:Int).fdiv (2^(8*i))=((n/2^(8*i):Nat):Int):=by
  rw[AU _ (Int.le_of_lt (Int.pow_pos (by decide)))]
  push_cast;rfl
 rw[e,lO];have:(((n/2^(8*i):Nat):Int)%256).toNat=n/2^(8*i)%256:=by omega
 rw[this]
end Ps
