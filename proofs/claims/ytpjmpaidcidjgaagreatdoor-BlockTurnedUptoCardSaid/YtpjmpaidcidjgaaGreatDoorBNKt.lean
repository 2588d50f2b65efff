/- A dA is laid down. -/
import Derived.Test.YtpjmpaidcidjgaaGreatDoorAbbKt
import Derived.Test.YtpjmpaidcidjgaaGreatDoorBKKt
import Derived.Test.YtpjmpaidcidjgaaGreatDoorBDKt
set_option linter.defProp false
namespace Ps
set_option linter.unusedSimpArgs false
set_option linter.unusedVariables false
open Go
def SK:T.fn 414=some (.code lf):=rfl
structure qw(S0 S:St)(o id:Nat)(bs:List UInt8)(n:Nat):Prop where
 grows:aV S0 S
 newo:S0.objs.length≤o
 newi:S0.objs.length≤id
 ne:id≠o
 ho:S.objs[o]?=some [.osl id 0 bs.length 1,.int .i64 n]
 hi:S.objs[id]?=some (if bs=[]then [.int .u8 0]else aJ bs)
def fZ(S0 S:St)(o:Nat)(bs:List UInt8)(n:Nat):Prop:=∃id,qw S0 S o id bs n
def iy{S0 S:St}(h:aV S0 S){i:Nat}(hi:S0.objs.length≤i)(x:List PV):aV S0 ⟨S.objs.set i x,S.tips⟩:=by
 obtain⟨o,t,rfl⟩:=h;exact⟨o.set (i-S0.objs.length) x,t,by simp[tj _ _ hi]⟩
def SM{S0:St}{O:List (List PV)}{T0:List (Nat×Nat)}{o id:Nat}{bs:List UInt8}{n:Nat}(h:qw S0 ⟨O,T0⟩ o id bs n)(hb:bs.length≤1099511627776) :
  gD 1 1 ⟨O,T0++[(1,1)]⟩ (.osl id 0 bs.length 1) [.int .u8 0]=some (.osl O.length 0 (bs.length+1) 1,⟨O.set id []++[aJ (bs++[0])],T0++[(1,1)]⟩) ∧
  (O.set id []++[aJ (bs++[0])])[o]?=some [.osl id 0 bs.length 1,.int .i64 n] ∧
  qw S0 ⟨(O.set id []++[aJ (bs++[0])]).set o [.osl O.length 0 (bs.length+1) 1,.int .i64 n],T0++[(1,1)]⟩ o O.length (bs++[0]) n:=by
 have hi:=h.hi;have ho:=h.ho;simp only at hi ho;have hlo:o<O.length:=(aL.1 ho).1;have hli:id<O.length:=(aL.1 hi).1
 have hcs:0<(if bs=[]then [PV.int .u8 0]else aJ bs).length:=by
  split
  ·decide
  ·rename_i hne;rw[bo];exact List.length_pos_iff.2 hne
 have htk:(if bs=[]then [PV.int .u8 0]else aJ bs).take bs.length=aJ bs:=by
  split
  ·rename_i e;subst e;rfl
  ·rw[←bo];exact il
 have hle:bs.length≤(if bs=[]then [PV.int .u8 0]else aJ bs).length:=by
  split
  ·rename_i e;subst e;decide
  ·rw[bo];exact aR _
 have hone:(aJ bs).all PV.one=true:=by simp[aJ,PV.one]
 have e1:(O.set id []++[aJ (bs++[0])])[o]?=some [.osl id 0 bs.length 1,.int .i64 n]:=by
  rw[aw (by simpa using hlo),bq h.ne];exact ho
 refine⟨?_,e1,?_⟩
 ·unfold gD;simp only[qf,bg,if_false,hi];rw[if_pos ⟨trivial,trivial,hcs,by simpa using hle,by simpa[htk]using hone,by simp;omega⟩];have e9:aJ bs++[PV.int .u8 0].flatMap PV.cells=aJ (bs++[0]):=by simp[aJ]
  simp only[mt,htk,e9];rfl
 ·have hg:aV S0 ⟨O.set id []++[aJ (bs++[0])],T0++[(1,1)]⟩:=((iy h.grows h.newi []).objs [aJ (bs++[0])]).arrs [(1,1)];refine⟨iy hg h.newo _,h.newo,Nat.le_trans h.newo (Nat.le_of_lt hlo),by omega,?_,?_⟩
  ·simp only;rw[dd (by simp;omega)];simp
  ·simp only;rw[bq (by omega),eH (by simp),if_neg (by simp)];simp
def SN{a k:Nat}(hk:k≤64){l:IntKind}:arith .shr (.int .u64 (a:Int)) (.int l (k:Int))=some (.int .u64 ((a/2^k:Nat):Int)):=by
 have h1:¬((k:Int)<0):=by omega
 have h2:min (k:Int).toNat IntKind.u64.bits=k:=by simp[IntKind.bits];omega
 simp only[arith,eN,nL,if_true,if_neg h1,h2];rw[ml _ (by exact_mod_cast bh (2^k))]
 norm_cast
def SO{x:Nat}(hx:x<2^64):ja .u64 (x:Int) 1=((x%2:Nat):Int):=by
 show IntKind.u64.wrap (((BitVec.ofInt 64 (x:Int) &&& BitVec.ofInt 64 1).toNat:Nat):Int)=_;have e1:BitVec.ofInt 64 (x:Int)=BitVec.ofNat 64 x:=BitVec.ofInt_ofNat 64 x
 have e2:(BitVec.ofNat 64 x &&& BitVec.ofInt 64 1).toNat=x%2:=by
  rw[BitVec.toNat_and,BitVec.toNat_ofNat,ge hx];exact Nat.and_one_is_mod x
 rw[e1,e2,jc (by omega)]
def SP{k:Nat}(hk:k<8):arith .shr (.int .u8 128) (.int .i64 (k:Int))=some (.int .u8 ((gt k).toNat:Int)):=by
 have:∀k,k<8→arith .shr (.int .u8 128) (.int .i64 ((k:Nat):Int))=some (.int .u8 ((gt k).toNat:Int)):=by
  intro k hk
  match k,hk with
  |0,_|1,_|2,_|3,_|4,_|5,_|6,_|7,_=>rfl
  |n+8,h=>omega
 exact this k hk
def SQ(a b:UInt8):my .u8 (a.toNat:Int) (b.toNat:Int)=((a ||| b).toNat:Int):=by
 show IntKind.u8.wrap (((BitVec.ofInt 8 (a.toNat:Int) ||| BitVec.ofInt 8 (b.toNat:Int)).toNat:Nat):Int)=_;have e:∀x:UInt8,BitVec.ofInt 8 (x.toNat:Int)=BitVec.ofNat 8 x.toNat:=fun x=>BitVec.ofInt_ofNat 8 x.toNat
 have e2:∀x:UInt8,x.toNat%2^8=x.toNat:=fun x=>ge x.toNat_lt;rw[e a,e b,BitVec.toNat_or,BitVec.toNat_ofNat,BitVec.toNat_ofNat,e2,e2,←UInt8.toNat_or,jb,ge (UInt8.toNat_lt _)]
def AJ{S0 S:St}{o id k u i n:Nat}{bs:List UInt8}(hu:u<2^64)(hk:k≤64)(hik:i<k)(hn:n<4611686018427387904)(hne:bs≠[])(hq:n/8<bs.length)(hw:qw S0 S o id bs n){K:List Kt}{Q:Fr→St→Prop}{fr:Fr}
  (h0:fr 0=.int .u64 (u:Int))(h1:fr 1=.int .i64 (k:Int))(h2:fr 2=.ptr o 0)(h5:fr 5=.int .i64 (i:Int))(h6:fr 6=.int .i64 (k:Int))(h7:fr 7=.int .i64 (i:Int))
  (kk:∀fr' S',fZ S0 S' o (if u.testBit (k-1-i)then bs.set (n/8) (bs.getD (n/8) 0 ||| gt (n%8))else bs) (n+1)→fr' 0=fr 0→fr' 1=fr 1→fr' 2=fr 2→fr' 6=fr 6→fr' 7=.int .i64 ((i+1:Nat):Int) →
   Ok (aF T (.lp nI::.blk 0::K) fr' S') Q) :
  Ok (aF T (Kt.ops vU::Kt.clr [(19,26)]::Kt.code (aN.cond (V 26) (aN.clr [(27,40)] (aN.region vV)) aN.skip) ::
       Kt.code (aN.clr [(40,44)] (aN.region vW))::Kt.blk 1::Kt.code (aN.clr [(44,45)] (aN.region vX))::Kt.lp nI::Kt.blk 0::K) fr S) Q:=by
 obtain⟨O,T0⟩:=S;obtain⟨hg,hno,hni,hneio,ho,hi⟩:=hw;simp only at ho hi;rw[if_neg hne]at hi;have s1:IntKind.i64.wrap ((k:Int)-1)=((k-1:Nat):Int):=by rw[bT]<;>omega
 have s2:IntKind.i64.wrap (((k-1:Nat):Int)-(i:Int))=((k-1-i:Nat):Int):=by rw[bT]<;>omega
 have s3:=SN (a:=u) (k:=k-1-i) (by omega) (l:=.i64)
 have s5:(((u/2^(k-1-i)%2:Nat):Int)==1)=u.testBit (k-1-i):=by
  rw[Nat.testBit_eq_decide_div_mod_eq,qa,beq_iff_eq,decide_eq_true_iff];omega
 have s4:=SO (x:=u/2^(k-1-i)) (Nat.lt_of_le_of_lt (Nat.div_le_self _ _) hu);generalize u/2^(k-1-i)=x at s3 s4 s5;have hw1:IntKind.i64.wrap ((i:Int)+1)=((i+1:Nat):Int):=by rw[bT]<;>omega
 have hw2:IntKind.i64.wrap ((n:Int)+1)=((n+1:Nat):Int):=by rw[bT]<;>omega
 have hmod:((n:Int).tmod 8)=((n%8:Nat):Int):=by rw[qb (by omega)];omega
 have hdiv:IntKind.i64.wrap ((n:Int)/8)=((n/8:Nat):Int):=by rw[bT]<;>omega
 have hpc:∀{a b c:PV},bB [a,b] 1 [c]=[a,c]:=rfl
 have hia:cb 1 (.osl id 0 bs.length 1) (.int .i64 ((n/8:Nat):Int))=some (.ptr id (n/8)):=by
  have:(0:Int)≤((n/8:Nat):Int)∧((n/8:Nat):Int)<bs.length:=⟨by omega,by omega⟩;simp only[QC,if_pos this,tU];simp
 have hld:ap false 1 ((aJ bs).drop (n/8))=some (.int .u8 ((bs.getD (n/8) 0).toNat:Int)):=by
  rw[zL (by rw[bo];exact hq),dD];simp[aJ,cH,hq]
 have hms:=SP (k:=n%8) (io _ (by decide));have hor:=SQ (bs.getD (n/8) 0) (gt (n%8))
 have hput:bB (aJ bs) (n/8) [.int .u8 ((bs.getD (n/8) 0 ||| gt (n%8)).toNat:Int)]=aJ (bs.set (n/8) (bs.getD (n/8) 0 ||| gt (n%8))):=by
  simp only[bB,aJ,←oQ,←qj,List.set_eq_take_append_cons_drop,if_pos hq,dp,cB,bE,cP];simp
 have hpl:n/8+1≤(aJ bs).length:=by rw[bo];omega
 have hlo:o<O.length:=(aL.1 ho).1;have hli:id<O.length:=(aL.1 hi).1;obtain⟨B,hB⟩:∃B,B=bs.set (n/8) (bs.getD (n/8) 0 ||| gt (n%8)):=⟨_,rfl⟩;rw[←hB]at hput kk;have hBl:B.length=bs.length:=by rw[hB];simp
 have hBn:B≠[]:=fun e=>by rw[e]at hBl;exact hne (QJ hBl.symm)
 generalize (bs.getD (n/8) 0 ||| gt (n%8))=mb at hor hput;generalize (bs.getD (n/8) 0)=b0 at hor hld;have ho2:(O.set id (aJ B))[o]?=some [.osl id 0 bs.length 1,.int .i64 n]:=by rw[bq hneio];exact ho
 have hA:fZ S0 ⟨(O.set id (aJ B)).set o [.osl id 0 bs.length 1,.int .i64 ((n+1:Nat):Int)],T0⟩ o B (n+1):=
  ⟨id,iy (iy hg hni _) hno _,hno,hni,hneio,by simp only;rw[dd (by simpa using hlo),hBl],by
   simp only;rw[bq (Ne.symm hneio),dd hli,if_neg hBn]⟩
 have hN:fZ S0 ⟨O.set o [.osl id 0 bs.length 1,.int .i64 ((n+1:Nat):Int)],T0⟩ o bs (n+1):=
  ⟨id,iy hg hno _,hno,hni,hneio,by simp only;rw[dd hlo],by
   simp only;rw[bq (Ne.symm hneio),if_neg hne];exact hi⟩
 simp -implicitDefEqProofs [h0,h1,h2,h5,h6,h7,s1,s2,s3,s4,s5,hw1,hw2,hmod,hdiv,hia,hms,hor,dG (S:=⟨O,T0⟩) ho,dG (S:=⟨O,T0⟩) hi,dG (S:=⟨O.set id (aJ B),T0⟩) ho2,dD,hld,aH,hi,ho,ho2,hput,hpl,hpc,-QC,-Int.natCast_emod,-Int.natCast_ediv,-Int.natCast_add];refine cF (fun a=>?_) (fun a=>?_)
 ·rw[if_pos a]at kk;exact kk _ _ hA (by simp[h0]) (by simp[h1]) (by simp[h2]) (by simp[h6]) (by simp)
 ·rw[if_neg (by simp[a])]at kk;exact kk _ _ hN (by simp[h0]) (by simp[h1]) (by simp[h2]) (by simp[h6]) (by simp)
def SS{S0:St}{o k u:Nat}(hu:u<2^64)(hk:k≤64){K:List Kt}{Q:Fr→St→Prop}:∀(m i:Nat),i+m=k→∀(bs:List UInt8) (n:Nat),n+m≤1099511627776→bs.length=(n+7)/8→∀(fr:Fr) (S:St),
  fZ S0 S o bs n→fr 0=.int .u64 (u:Int)→fr 1=.int .i64 (k:Int)→fr 2=.ptr o 0→fr 6=.int .i64 (k:Int)→fr 7=.int .i64 (i:Int) →
  (∀fr' S',fZ S0 S' o (fY bs n (dz u m)) (n+m)→Ok (aF T K fr' S') Q) →
  Ok (aF T (.lp nI::.blk 0::K) fr S) Q:=by
 intro m
 induction m with
 |zero=>
  intro i hi bs n hn hb fr S hw h0 h1 h2 h6 h7 kk;have hi:i=k:=by omega
  subst hi;rw[bH];simp -implicitDefEqProofs [h6,h7]
  exact kk _ _ (by simpa[dz,fY]using hw)
 |succ m ih=>
  intro i hi bs n hn hb fr S hw h0 h1 h2 h6 h7 kk;obtain⟨id,hw⟩:=hw;obtain⟨O,T0⟩:=S;have hlt:(i:Int)<(k:Int):=by omega
  have ho:=hw.ho;simp only at ho;have hmod:((n:Int).tmod 8)=((n%8:Nat):Int):=by rw[qb (by omega)];omega
  obtain⟨g1,g2,g3⟩:=SM hw (by omega);rw[bH];simp -implicitDefEqProofs [-Ut,h0,h1,h2,h6,h7,hlt,dG (S:=⟨O,T0⟩) ho,dD,hmod,aH,cx,eP,g1,g2,bB,-Int.natCast_emod];have hm:k-1-i=m:=by omega
  have hbl:=AF (b:=u.testBit m) hb
  have hL:∀fr' S',fZ S0 S' o (kO bs n (u.testBit m)) (n+1)→fr' 0=fr 0→fr' 1=fr 1→fr' 2=fr 2→fr' 6=fr 6→fr' 7=.int .i64 ((i+1:Nat):Int)→Ok (aF T (.lp nI::.blk 0::K) fr' S') Q:=by
   intro fr' S' hw' e0 e1 e2 e6 e7;refine ih (i+1) (by omega) _ (n+1) (by omega) hbl fr' S' hw' (e0.trans h0) (e1.trans h1) (e2.trans h2) (e6.trans h6) e7 (fun fr2 S2 hw2=>kk fr2 S2 ?_);rw[Rr,show n+(m+1)=n+1+m by omega];exact hw2
  clear ih kk;refine cF (fun a=>?_) (fun a=>?_)
  ·have h8:n%8=0:=by rw[beq_iff_eq]at a;omega
   refine AJ (u:=u) (k:=k) (i:=i) hu hk (by omega) (by omega) (by simp) (by simp;omega) g3 (by simp[h0]) (by simp[h1]) (by simp[h2]) (by simp) (by simp[h6]) (by simp[h7]) (fun fr' S' hw' e0 e1 e2 e6 e7=>?_);rw[hm]at hw';refine hL fr' S' ?_ (by simp[e0]) (by simp[e1]) (by simp[e2]) (by simp[e6]) e7;unfold kO;simp only[if_pos h8];exact hw'
  ·have h8:n%8≠0:=by rw[beq_eq_false_iff_ne]at a;omega
   have hne:bs≠[]:=fun e=>by rw[e]at hb;simp at hb;omega
   refine AJ (u:=u) (k:=k) (i:=i) hu hk (by omega) (by omega) hne (by omega) hw (by simp[h0]) (by simp[h1]) (by simp[h2]) (by simp) (by simp[h6]) (by simp[h7]) (fun fr' S' hw' e0 e1 e2 e6 e7=>?_);rw[hm]at hw';refine hL fr' S' ?_ (by simp[e0]) (by simp[e1]) (by simp[e2]) (by simp[e6]) e7;unfold kO;simp only[if_neg h8];exact hw'
def ST{S0 S S1:St}{o n n1:Nat}{bs bs1:List UInt8}(h:fZ S0 S o bs n)(h1:fZ S0 S1 o bs1 n1)(hb:n1=n→bs1=bs):∃S2,ac false S S1 (.tup [])=(.tup [],S2)∧fZ S0 S2 o bs1 n1:=by
 obtain⟨id,h⟩:=h;have ho:=h.ho;have hlo:o<S.objs.length:=(aL.1 ho).1;obtain⟨id1,h1'⟩:=h1;have ho1:=h1'.ho;have hs:aj S1.objs S.objs.length dJ (.tup [])=some (.tup []):=pX rfl;unfold ac;rw[if_neg (by decide),hs];simp only;by_cases hq:PV.beqLL (S1.objs.take S.objs.length) S.objs=true
 ·rw[if_pos hq];have e:=jL hq
  have ho2:S.objs[o]?=some [.osl id1 0 bs1.length 1,.int .i64 n1]:=by
   rw[←e,cT hlo];exact ho1
  rw[ho]at ho2;have hn:n1=n:=by simp at ho2;omega
  have hbs:=hb hn;subst hbs hn;refine⟨_,rfl,id,?_,h.newo,h.newi,h.ne,h.ho,h.hi⟩;obtain⟨o1,t1,e1⟩:=h.grows;obtain⟨o2,t2,e2⟩:=h1'.grows;refine⟨o1,t2.take (S.tips.length-S0.tips.length),?_⟩;have el:S.tips.length=S0.tips.length+t1.length:=by rw[e1];simp
  simp only[St.mk.injEq];refine⟨by rw[e1],?_⟩;rw[e2];simp only;rw[zX,jX (by omega)]
 ·rw[if_neg hq]
  have hnf:kd (S1.objs.take S.objs.length)=false:=by
   have hm:[PV.osl id1 0 bs1.length 1,.int .i64 n1]∈S1.objs.take S.objs.length:=ct (i:=o) (by rw[cT hlo];exact ho1)
   cases e:kd (S1.objs.take S.objs.length)with
   |false=>rfl
   |true=>
    have key:∀{l:List (List PV)},kd l=true→∀x∈l,PV.freeL x=true:=by
     intro l
     induction l with
     |nil=>intro _ x hx;cases hx
     |cons a l ih=>
      intro h x hx;simp only[kd,aI]at h;rcases cY.1 hx with rfl|hx
      ·exact h.1
      ·exact ih h.2 x hx
    have:=key e _ hm;simp[PV.freeL,PV.free]at this
  rw[if_neg (by rw[hnf];decide)];exact⟨S1,rfl,id1,h1'⟩
def AK{S0 S:St}{o n k u:Nat}{bs:List UInt8}(hu:u<2^64)(hk:k≤64)(hn:n+k≤1099511627776)(hb:bs.length=(n+7)/8)(hw:fZ S0 S o bs n) :
  ∃S',aS T 414 [.int .u64 (u:Int),.int .i64 (k:Int),.ptr o 0] S=some (.tup [],S')∧fZ S0 S' o (fY bs n (dz u k)) (n+k):=by
 have main:∀Q:Fr→St→Prop,(∀fr S',fZ S0 S' o (fY bs n (dz u k)) (n+k)→Q fr S')→Ok (aF T [.code lf.body] (bX [.int .u64 (u:Int),.int .i64 (k:Int),.ptr o 0]) S) Q:=by
  intro Q hQ;simp -implicitDefEqProofs [lf];refine SS hu hk k 0 (by omega) bs n hn hb _ S hw (by simp) (by simp) (by simp) (by simp) (by simp) (fun fr' S' hw'=>?_);simp -implicitDefEqProofs;exact hQ _ _ hw'
 obtain⟨r,S',h1,h2,h3⟩:=nY (R:=fun r S'=>r=.tup []∧fZ S0 S' o (fY bs n (dz u k)) (n+k)) SK rfl (main _ (fun fr S1 hw1=>by
  obtain⟨S2,f1,f2⟩:=ST hw hw1 (fun e=>by
   have:k=0:=by omega
   subst this;simp[dz,fY])
  refine⟨[],rfl,?_⟩;rw[show bP []=PV.tup []from rfl,show lf.raw=false from rfl,f1];exact⟨rfl,f2⟩))
 subst h2;exact⟨S',h1,h3⟩
def SU:T.fn 415=some (.code z27):=rfl
def SV{S0 S:St}{o n:Nat}{bs:List UInt8}(hw:fZ S0 S o bs n)(hbs:bs≠[]) :
  ∃id S',aS T 415 [.ptr o 0] S=some (.agg [.osl id 0 bs.length 1,.int .i64 n],S')∧aV S0 S'∧S0.objs.length≤id∧S'.objs[id]?=some (aJ bs):=by
 obtain⟨id,hw⟩:=hw;obtain⟨O,T0⟩:=S;have ho:=hw.ho;have hi:=hw.hi;simp only at ho hi;rw[if_neg hbs]at hi;have hlo:o<O.length:=(aL.1 ho).1;have hli:id<O.length:=(aL.1 hi).1;refine⟨id,⟨O++[[.osl id 0 bs.length 1,.int .i64 n]],T0⟩,?_,hw.grows.objs _,hw.newi,by simp only;rw[aw hli];exact hi⟩;refine cM SU rfl ?_;have ho2:(O++[[PV.nils,.int .i64 0]])[o]?=some [.osl id 0 bs.length 1,.int .i64 n]:=by rw[aw hlo];exact ho
 have hf:ac false ⟨O,T0⟩ ⟨O++[[.osl id 0 bs.length 1,.int .i64 n]],T0⟩ (.agg [.osl id 0 bs.length 1,.int .i64 n])=(.agg [.osl id 0 bs.length 1,.int .i64 n],⟨O++[[.osl id 0 bs.length 1,.int .i64 n]],T0⟩):=by
  unfold ac;rw[if_neg (by decide)];have hn:¬(O.length≤id∧0<1):=by omega
  have hsn:∀k,aj (O++[[PV.osl id 0 bs.length 1,.int .i64 n]]) O.length k (.osl id 0 bs.length 1)=none:=by
   intro k
   cases k with
   |zero=>rfl
   |succ k=>
    rw[aj,if_neg (by simp[PV.free])];simp only[if_neg hn]
  have:aj (O++[[PV.osl id 0 bs.length 1,.int .i64 n]]) O.length dJ (.agg [.osl id 0 bs.length 1,.int .i64 n])=none:=by
   show aj _ _ (39+1) _=none;rw[aj,if_neg (by simp[PV.free,PV.freeL])];simp only[cD,hsn]
  rw[this]
 simp -implicitDefEqProofs [z27,aH,cR,dG (S:=⟨O++[[PV.nils,.int .i64 0]],T0⟩) ho2,lY,bB];exact VE (by simp[lY]) hf
end Ps
set_option linter.defProp false
namespace Ps
set_option linter.unusedSimpArgs false
set_option linter.unusedVariables false
open Go
def SW:T.fn 405=some (.code pA):=rfl
theorem AL:∀(l:List UInt8),(aJ l).flatMap PV.cells=aJ l
 | []=>rfl
 |b::l=>by
  have:=AL l;simp only[aJ,cB,dB]at this ⊢;rw[this];rfl
def SX{S:St}{bs:List UInt8}(hb:bs.length≤1099511627776) :
  ∃id S2,gD 1 1 ⟨S.objs++[[.int .u8 0]],S.tips⟩ (.osl S.objs.length 0 0 1) (aJ bs)=some (.osl id 0 bs.length 1,S2)∧aV S S2∧S.objs.length≤id∧id<S2.objs.length∧S2.objs[id]?=some (if bs=[]then [.int .u8 0]else aJ bs):=by
 cases bs with
 |nil=>exact⟨S.objs.length,⟨S.objs++[[.int .u8 0]],S.tips⟩,rfl,(aV.refl S).obj _,aR _,by simp,by simp⟩
 |cons b r=>
  refine⟨S.objs.length+1,⟨(S.objs++[[PV.int .u8 0]]).set S.objs.length []++[aJ (b::r)],S.tips⟩,?_,?_,by omega,by simp,by simp⟩
  ·unfold gD;rw[if_neg (by simp[aJ])];have e:(S.objs++[[PV.int .u8 0]])[S.objs.length]?=some [.int .u8 0]:=by simp
   have hone:([PV.int IntKind.u8 0].take (0*1)).all PV.one=true:=rfl;simp only[e];rw[if_pos ⟨trivial,trivial,by decide,by decide,hone,by rw[bo];simp at hb ⊢;omega⟩]
   have e9:([PV.int IntKind.u8 0].take (0*1))++(aJ (b::r)).flatMap PV.cells=aJ (b::r):=by
    rw[AL];rfl
   simp only[e9,bo];simp
  ·have h:=((aV.refl S).obj [PV.int .u8 0]).obj (aJ (b::r));refine⟨[[],aJ (b::r)],[],by simp⟩
def SY{S S1:St}{r:PV}:ac true S S1 r=(r,S1):=rfl
def SZ{bs:List UInt8}{bv:PV}(hv:bM 1 bv (aJ bs)){n:Nat}(hb:bs.length≤1099511627776)(S:St) :
  ∃o S',aS T 405 [.agg [bv,.int .i64 (n:Int)]] S=some (.tup [.fn 414 [.ptr o 0],.fn 415 [.ptr o 0]],S')∧fZ S S' o bs n:=by
 obtain⟨id,S2,g1,g2,g3,g4,g5⟩:=SX (S:=S) hb;have hlen:=hv.len;rw[bo]at hlen;obtain⟨o1,o2⟩:=hv.one;have hw:IntKind.i64.wrap ((bs.length:Int)+17)=(bs.length:Int)+17:=bT (by omega) (by omega);have hc:(1:Int)≤(bs.length:Int)+17∧(bs.length:Int)+17≤140737488355328:=⟨by omega,by omega⟩;have hap:=hv.appd
 refine⟨S2.objs.length,⟨S2.objs++[[.osl id 0 bs.length 1,.int .i64 n]],S2.tips⟩,?_,id,g2.obj _,?_,g3,by omega,by simp,by
  simp only;rw[aw g4];exact g5⟩
 ·refine cM SW rfl ?_;simp -implicitDefEqProofs [pA,aH,dD,o1,o2,hlen,hw,hc,hap,g1,aQ,ff,bB,cR];exact SY
 ·obtain⟨a,t,rfl⟩:=g2;simp
def bi(u:Nat):List Bool:=dz (bR u) 7++dz u (bR u)
def kP(u:Nat):(bi u).length=7+bR u:=by simp[bi,uT]
def Sa{objs:List (List PV)}{n0 id:Nat}{bs:List UInt8}{n:Int}(h1:n0≤id)(h2:objs[id]?=some (aJ bs))(r:PV)(hr:r.free=true) :
  aj objs n0 dJ (.tup [.agg [.osl id 0 bs.length 1,.int .i64 n],r])=some (.tup [.agg [.sl none (aJ bs) [],.int .i64 n],r]):=by
 have hfree:PV.freeL (aJ bs)=true:=ju _ (fun _=>rfl) bs
 have hch:dA 1 bs.length (aJ bs)=aJ bs:=by
  have:=Ml (l:=aJ bs) (r:=[])
  rwa [dn,bo]at this
 have e1:∀k,aj objs n0 (k+2) (.osl id 0 bs.length 1)=some (.sl none (aJ bs) []):=fun k=>
  Mm (cs:=aJ bs) (ds:=aJ bs) h1 (by decide) h2 (by rw[bo];omega) (by simp[aJ,PV.one]) (ww hfree) hch
 have e2:∀k,aj objs n0 (k+3) (.agg [.osl id 0 bs.length 1,.int .i64 n])=some (.agg [.sl none (aJ bs) [],.int .i64 n]):=by
  intro k;rw[aj,if_neg (by simp[PV.free,PV.freeL])];have e3:aj objs n0 (k+2) (.int .i64 n)=some (.int .i64 n):=oG rfl;simp only[cD,e1,e3]
 show aj objs n0 (36+3+1) _=_;rw[aj,if_neg (by simp[PV.free,PV.freeL])];have e4:aj objs n0 (36+3) r=some r:=oG hr;simp only[cD,e2,e4]
def Sb:T.fn 377=some (.code ow):=rfl
def Sc{l:List Bool}{bv:PV}(hv:bM 1 bv (aJ (dO l)))(hl:l.length≤1048576){u:Nat}(hu:u<2^64)(S:St) :
  aS T 377 [.agg [bv,.int .i64 (l.length:Int)],.int .u64 (u:Int)] S=some (.tup [.agg [.sl none (aJ (dO (l++bi u))) [],.int .i64 ((l++bi u).length:Nat)],.int .i64 0],S):=by
 obtain⟨o1,o2⟩:=hv.one;have hpk:=qv l;have hbl:=hpk.1;have hlen:bR u≤64:=lX hu;have hR:=fun S=>SJ hv (n:=l.length) (by omega) hpk.rightB S;obtain⟨S1,hS1⟩:∃S1:St,S1=⟨S.objs++[[.nils,.int .i64 0]],S.tips⟩:=⟨_,rfl⟩;obtain⟨o,S2,w1,w2⟩:=SZ hv (n:=l.length) (by omega) S1;have h64:=SC hu;obtain⟨S3,p1,p2⟩:=AK (u:=bR u) (k:=7) (by omega) (by decide) (by omega) hbl w2
 have hb3:(fY (dO l) l.length (dz (bR u) 7)).length=(l.length+7+7)/8:=by
  have:=uS (l++dz (bR u) 7);rw[uR]at this;simpa[uT]using this
 obtain⟨S4,p3,p4⟩:=AK (u:=u) (k:=bR u) hu hlen (by omega) hb3 p2
 have hbs:fY (fY (dO l) l.length (dz (bR u) 7)) (l.length+7) (dz u (bR u))=dO (l++bi u):=by
  have e1:=uR (l++dz (bR u) 7) (dz u (bR u));rw[uR l,ak,uT,eh]at e1;exact e1.symm
 have hn:l.length+7+bR u=(l++bi u).length:=by rw[ak,kP];omega
 rw[hbs,hn]at p4
 have hne:dO (l++bi u)≠[]:=fun e=>by
  have:=uS (l++bi u);rw[e,ak,kP]at this;simp at this;omega
 obtain⟨id,S5,d1,d2,d3,d4⟩:=SV p4 hne;have hw7:IntKind.u64.wrap ((bR u:Nat):Int)=((bR u:Nat):Int):=jc (by omega)
 have hL:S5.objs[S.objs.length]?=some [.nils,.int .i64 0]:=by
  obtain⟨a,t,rfl⟩:=d2;rw[hS1];simp
 have hlL:S.objs.length<S5.objs.length:=(aL.1 hL).1;have hidL:S.objs.length<id:=by rw[hS1]at d3;simp at d3;omega
 have hg:aV S ⟨S5.objs.set S.objs.length [.osl id 0 (dO (l++bi u)).length 1,.int .i64 ((l++bi u).length:Nat)],S5.tips⟩:=by
  refine iy ?_ (aR _) _;have:aV S S1:=by rw[hS1];exact(aV.refl S).obj _
  exact this.trans d2
 have hid:(S5.objs.set S.objs.length [.osl id 0 (dO (l++bi u)).length 1,.int .i64 ((l++bi u).length:Nat)])[id]?=some (aJ (dO (l++bi u))):=by
  rw[bq (by omega)];exact d4
 have hfz:PV.frzL (aJ (dO (l++bi u)))=aJ (dO (l++bi u)):=jv _ (fun _=>rfl) _
 have hfin:ac false S ⟨S5.objs.set S.objs.length [.osl id 0 (dO (l++bi u)).length 1,.int .i64 ((l++bi u).length:Nat)],S5.tips⟩ (.tup [.agg [.osl id 0 (dO (l++bi u)).length 1,.int .i64 ((l++bi u).length:Nat)],.int .i64 0]) =
   (.tup [.agg [.sl none (aJ (dO (l++bi u))) [],.int .i64 ((l++bi u).length:Nat)],.int .i64 0],S):=by
  rw[sG hg (Sa (by omega) hid (.int .i64 0) rfl)];simp[PV.frz,PV.frzL,hfz]
 have p1:aS T 414 [.int .u64 ((bR u:Nat):Int),.int .i64 7,.ptr o 0] S2=some (.tup [],S3):=p1;generalize dO (l++bi u)=B at *;generalize (l++bi u).length=m at *;clear hbs hn hb3 hpk hbl p2 p4 w2;refine cM Sb rfl ?_;simp -implicitDefEqProofs [ow,aH,o1,o2,cR,lY,←hS1,hR,w1,h64,qU,hw7,p1,p3,d1,hL,bB,ck];exact VF (by simp[dG (S:=⟨S5.objs.set S.objs.length [.osl id 0 B.length 1,.int .i64 (m:Int)],S5.tips⟩) (show _=_ from dd hlL),lY]) (by simp) hfin
end Ps
set_option linter.defProp false
namespace Ps
set_option linter.unusedSimpArgs false
set_option linter.unusedVariables false
open Go
def fw(n:Int):Nat:=if 0≤n then(2*n).toNat else(-2*n-1).toNat
def Sd:T.fn 378=some (.code oy):=rfl
def Se{n:Int}(h1:-4611686018427387904≤n)(h2:n<4611686018427387904)(S:St):aS T 378 [.int .i64 n] S=some (.int .u64 (fw n:Nat),S):=by
 have hs1:arith .shl (.int .i64 n) (.int .u64 1)=some (.int .i64 (2*n)):=by
  have:arith .shl (.int .i64 n) (.int .u64 1)=some (.int .i64 (IntKind.i64.wrap (n*2))):=rfl;rw[this,bT (by omega) (by omega),zH]
 have hs2:arith .shr (.int .i64 n) (.int .u64 63)=some (.int .i64 (if 0≤n then 0 else -1)):=by
  have:arith .shr (.int .i64 n) (.int .u64 63)=some (.int .i64 (n.fdiv 9223372036854775808)):=rfl;rw[this,ml _ (by decide)];split<;>(congr 2;omega)
 have hx:gN .u64 (IntKind.u64.wrap (2*n)) (IntKind.u64.wrap (if 0≤n then 0 else -1))=(fw n:Nat):=by
  unfold fw;split
  ·rename_i h;obtain⟨m,rfl⟩:=zG h;have e1:(2*(m:Int))=((2*m:Nat):Int):=by omega
   rw[e1,jc (by omega)];show IntKind.u64.wrap (((BitVec.ofInt 64 ((2*m:Nat):Int) ^^^ BitVec.ofInt 64 0).toNat:Nat):Int)=_;have e2:BitVec.ofInt 64 ((2*m:Nat):Int)=BitVec.ofNat 64 (2*m):=BitVec.ofInt_ofNat 64 (2*m);have e3:BitVec.ofInt 64 0=0#64:=rfl;rw[e2,e3,BitVec.xor_zero,BitVec.toNat_ofNat,ge (by omega),jc (by omega),tU]
  ·rename_i h;obtain⟨m,hm⟩:∃m:Nat,(m:Int) = -n-1:=⟨(-n-1).toNat,by omega⟩
   have e1:IntKind.u64.wrap (2*n)=((18446744073709551616-2*(m+1):Nat):Int):=by
    have:IntKind.u64.wrap (2*n)=(2*n)%18446744073709551616:=by simp[IntKind.wrap,IntKind.bits,IntKind.signed]
    rw[this];omega
   have e2:IntKind.u64.wrap (-1)=((18446744073709551615:Nat):Int):=rfl;rw[e1,e2];show IntKind.u64.wrap (((BitVec.ofInt 64 ((18446744073709551616-2*(m+1):Nat):Int) ^^^ BitVec.ofInt 64 ((18446744073709551615:Nat):Int)).toNat:Nat):Int)=_;have e3:BitVec.ofInt 64 ((18446744073709551616-2*(m+1):Nat):Int)=BitVec.ofNat 64 (18446744073709551616-2*(m+1)):=BitVec.ofInt_ofNat 64 _;have e4:BitVec.ofInt 64 ((18446744073709551615:Nat):Int)=BitVec.allOnes 64:=rfl;rw[e3,e4,BitVec.xor_allOnes,BitVec.toNat_not,BitVec.toNat_ofNat,ge (by omega),jc (by omega)];omega
 refine cM Sd rfl ?_;simp -implicitDefEqProofs [oy,hs1,hs2,hx,aV.refl]
def uV{n:Int}(h1:-4611686018427387904≤n)(h2:n<4611686018427387904):fw n<2^64:=by
 unfold fw;split<;>omega
def Sf{n:Int}(h1:-4611686018427387904≤n)(h2:n<4611686018427387904):ef T 378 [.int .i64 n]=some (.int .u64 (fw n:Nat)):=qW (Se h1 h2 bF) rfl
structure gu(S0 S:St)(w:Nat)(bl:List Bool):Prop where
 grows:aV S0 S
 new:S0.objs.length≤w
 ex:∃bv,bM 1 bv (aJ (dO bl))∧S.objs[w]?=some [bv,.int .i64 bl.length]
def Sg:T.fn 333=some (.code pM):=rfl
def Sh:T.fn 334=some (.code z2):=rfl
def nA(b:List UInt8):bM 1 (.sl none (aJ b) []) (aJ b):=nP (kN b) (ju _ (fun _=>rfl) b) (jv _ (fun _=>rfl) b)
def qx{S0 S:St}{w:Nat}{bl:List Bool}(h:gu S0 S w bl)(hb:bl.length≤1048576){u:Nat}(hu:u<2^64) :
  ∃S',aS T 333 [.ptr w 0,.int .u64 (u:Int)] S=some (.tup [],S')∧gu S0 S' w (bl++bi u)∧S'.objs.length=S.objs.length∧S'.tips=S.tips:=by
 obtain⟨hg,hn,bv,hv,ho⟩:=h;obtain⟨O,T0⟩:=S;simp only at ho;have hlw:w<O.length:=(aL.1 ho).1;have hp:=fun S=>Sc hv hb hu S;refine⟨⟨O.set w [.sl none (aJ (dO (bl++bi u))) [],.int .i64 ((bl++bi u).length:Nat)],T0⟩,?_,⟨iy hg hn _,hn,_,nA _,by simp only;rw[dd hlw]⟩,by simp,rfl⟩;generalize dO (bl++bi u)=B at *;generalize (bl++bi u).length=m at *;refine cM Sg rfl ?_;simp -implicitDefEqProofs [pM,dG (S:=⟨O,T0⟩) ho,lY,hp,aH,ho,bB];rw[sF];exact tP (b:=false) (S:=⟨O,T0⟩) (S1:=⟨O.set w [.sl none (aJ B) [],.int .i64 (m:Int)],T0⟩) (r:=.tup []) (by simp) rfl rfl rfl (fun _ _=>jL)
def qy{S0 S:St}{w:Nat}{bl:List Bool}(h:gu S0 S w bl)(hb:bl.length≤1048576){n:Int}(h1:-4611686018427387904≤n)(h2:n<4611686018427387904) :
  ∃S',aS T 334 [.ptr w 0,.int .i64 n] S=some (.tup [],S')∧gu S0 S' w (bl++bi (fw n)):=by
 have hz:=Sf h1 h2;obtain⟨S',p1,p2,p3,p4⟩:=qx h hb (uV h1 h2)
 obtain⟨r,S2,q1,q2,q3⟩:=nY (f:=334) (args:=[.ptr w 0,.int .i64 n]) (S:=S) (R:=fun r S'=>r=.tup []∧gu S0 S' w (bl++bi (fw n))) Sh rfl (by
  simp -implicitDefEqProofs [z2,hz,p1,ck];rw[tP (b:=false) (S:=S) (S1:=S') (r:=.tup []) p3 p4 rfl rfl (fun _ _=>jL)];exact⟨rfl,p2⟩)
 subst q2;exact⟨S2,q1,q3⟩
def am(l:List Sm)(i:Nat):Int:=(l.getD i (0,0)).1
def cI(l:List Sm)(i:Nat):Int:=(l.getD i (0,0)).2
def nB(l:List Sm)(i:Nat):List Bool:=
 bi (if i=1 then(am l 1-am l 0).toNat else fw ((am l i-am l (i-1))-(am l (i-1)-am l (i-2))))++bi (fw (cI l i-cI l (i-1)))
def ez(l:List Sm):Nat→List Bool
 |0=>bi l.length++bi (am l 0).toNat++bi (fw (cI l 0))
 |k+1=>ez l k++nB l (k+1)
def eT(l:List Sm):List UInt8:=dO (ez l (l.length-1))
structure uW(l:List Sm):Prop where
 ne:l≠[]
 len:l.length≤120
 t0:∀i,0≤am l i
 t1:∀i,am l i≤1099511627776
 v0:∀i,-1152921504606846976≤cI l i
 v1:∀i,cI l i≤1152921504606846976
 rise:∀i,i+1<l.length→am l i<am l (i+1)
def Si{l:List Sm}:∀(n i:Nat),l.length-i=n→ce l i=0→∀j (h:j<l.length),i≤j→cw l j h=0:=by
 intro n
 induction n with
 |zero=>intro i hi _ j h hij;omega
 |succ n ih=>
  intro i hi h j hj hij;have hil:i<l.length:=by omega
  rw[ce,dif_pos hil]at h;split at h
  ·rename_i hz;by_cases e:i=j
   ·subst e;exact hz
   ·exact ih (i+1) (by omega) h j hj (by omega)
  ·rename_i hz;exact absurd h hz
def AM{l:List Sm}(h:eS l=0):uW l:=by
 unfold eS at h;split at h
 ·cases h
 rename_i hl;have hs:=Si l.length 0 (by omega) h;have hg:∀i (h:i<l.length),l.getD i (0,0)=l[i]:=fun i h=>by simp[cH,h]
 have hm:∀i,fM (am l i) (cI l i)=true:=by
  intro i;by_cases hi:i<l.length
  ·have:=hs i hi (bh _);unfold am cI;rw[hg i hi];unfold cw at this
   cases e:fM l[i].1 l[i].2 with
   |true=>rfl
   |false=>rw[if_pos e]at this;cases this
  ·unfold am cI;rw[cH,cr (by omega)];rfl
 have hm':∀i,0≤am l i∧am l i≤1099511627776 ∧ -1152921504606846976≤cI l i∧cI l i≤1152921504606846976:=fun i=>by
  have:=hm i;simp only[fM,aI,decide_eq_true_eq]at this;omega
 refine⟨fun e=>by subst e;simp at hl,by omega,fun i=>(hm' i).1,fun i=>(hm' i).2.1,fun i=>(hm' i).2.2.1,fun i=>(hm' i).2.2.2,fun i hi=>?_⟩;have:=hs (i+1) hi (bh _);unfold cw at this;have hmi:=hm (i+1);unfold am cI at hmi;rw[hg (i+1) hi]at hmi;rw[if_neg (by rw[hmi];decide),dif_pos (by omega)]at this;unfold am;rw[hg i (by omega),hg (i+1) hi];simp only[tn]at this;split at this
 ·cases this
 ·omega
def AN{l:List Sm}(h:uW l):∀k,(ez l k).length≤213+142*k:=by
 have hz:∀n:Int,-4611686018427387904≤n→n<4611686018427387904→(bi (fw n)).length≤71:=fun n h1 h2=>by
  rw[kP];have:=lX (uV h1 h2);omega
 have hn:∀n:Nat,n<2^64→(bi n).length≤71:=fun n h=>by rw[kP];have:=lX h;omega
 have t0:=h.t0;have t1:=h.t1;have v0:=h.v0;have v1:=h.v1;intro k
 induction k with
 |zero=>
  have a:=hn l.length (by have:=h.len;omega);have b:=hn (am l 0).toNat (by have:=t0 0;have:=t1 0;omega);have c:=hz (cI l 0) (by have:=v0 0;omega) (by have:=v1 0;omega)
  simp only[ez,ak];omega
 |succ k ih=>
  have a:(bi (if k+1=1 then(am l 1-am l 0).toNat else fw ((am l (k+1)-am l (k+1-1))-(am l (k+1-1)-am l (k+1-2))))).length≤71:=by
   split
   ·exact hn _ (by have:=t0 0;have:=t1 1;omega)
   ·exact hz _ (by have:=t0 (k+1);have:=t1 (k+1-1);have:=t1 (k+1-1);have:=t0 (k+1-2);omega) (by have:=t1 (k+1);have:=t0 (k+1-1);have:=t1 (k+1-2);omega)
  have b:=hz (cI l (k+1)-cI l (k+1-1)) (by have:=v0 (k+1);have:=v1 (k+1-1);omega) (by have:=v1 (k+1);have:=v0 (k+1-1);omega);simp only[ez,nB,ak];omega
end Ps
