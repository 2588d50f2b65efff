/- Samples of a ct: whether they may be; the label sets of series. -/
import Derived.Test.YtpjmpaidcidjgaaGreatDoorAbbKw
import Derived.Test.YtpjmpaidcidjgaaGreatDoorBKKw
import Derived.Test.YtpjmpaidcidjgaaGreatDoorBIKw
set_option linter.defProp false
namespace Ps
set_option linter.unusedSimpArgs false
set_option linter.unusedVariables false
open Go
def VN:T.fn 414=some (.code z28):=rfl
structure sZ(S0 S:St)(o id:Nat)(bs:List UInt8)(n:Nat):Prop where
 grows:aN S0 S
 newo:S0.objs.length≤o
 newi:S0.objs.length≤id
 ne:id≠o
 ho:S.objs[o]?=some [.osl id 0 bs.length 1,.int .i64 n]
 hi:S.objs[id]?=some (if bs=[]then [.int .u8 0]else aI bs)
def gI(S0 S:St)(o:Nat)(bs:List UInt8)(n:Nat):Prop:=∃id,sZ S0 S o id bs n
def iF{S0 S:St}(h:aN S0 S){i:Nat}(hi:S0.objs.length≤i)(x:List PV):aN S0 ⟨S.objs.set i x,S.tips⟩:=by
 obtain⟨o,t,rfl⟩:=h;exact⟨o.set (i-S0.objs.length) x,t,by simp[vg _ _ hi]⟩
def VO{S0:St}{O:List (List PV)}{T0:List (Nat×Nat)}{o id:Nat}{bs:List UInt8}{n:Nat}(h:sZ S0 ⟨O,T0⟩ o id bs n)(hb:bs.length≤1099511627776) :
  gr 1 1 ⟨O,T0++[(1,1)]⟩ (.osl id 0 bs.length 1) [.int .u8 0]=some (.osl O.length 0 (bs.length+1) 1,⟨O.set id []++[aI (bs++[0])],T0++[(1,1)]⟩) ∧
  (O.set id []++[aI (bs++[0])])[o]?=some [.osl id 0 bs.length 1,.int .i64 n] ∧
  sZ S0 ⟨(O.set id []++[aI (bs++[0])]).set o [.osl O.length 0 (bs.length+1) 1,.int .i64 n],T0++[(1,1)]⟩ o O.length (bs++[0]) n:=by
 have hi:=h.hi;have ho:=h.ho;simp only at hi ho;have hlo:o<O.length:=(aO.1 ho).1;have hli:id<O.length:=(aO.1 hi).1
 have hcs:0<(if bs=[]then [PV.int .u8 0]else aI bs).length:=by
  split
  ·decide
  ·rename_i hne;rw[bN];exact List.length_pos_iff.2 hne
 have htk:(if bs=[]then [PV.int .u8 0]else aI bs).take bs.length=aI bs:=by
  split
  ·rename_i e;subst e;rfl
  ·rw[←bN];exact List.take_length
 have hle:bs.length≤(if bs=[]then [PV.int .u8 0]else aI bs).length:=by
  split
  ·rename_i e;subst e;decide
  ·rw[bN];exact aX _
 have hone:(aI bs).all PV.one=true:=by simp[aI,PV.one]
 have e1:(O.set id []++[aI (bs++[0])])[o]?=some [.osl id 0 bs.length 1,.int .i64 n]:=by
  rw[bF (by simpa using hlo),bn h.ne];exact ho
 refine⟨?_,e1,?_⟩
 ·unfold gr;simp only[pK,bp,if_false,hi];rw[if_pos ⟨trivial,trivial,hcs,by simpa using hle,by simpa[htk]using hone,by simp;omega⟩];have e9:aI bs++[PV.int .u8 0].flatMap PV.cells=aI (bs++[0]):=by simp[aI]
  simp only[pP,htk,e9];rfl
 ·have hg:aN S0 ⟨O.set id []++[aI (bs++[0])],T0++[(1,1)]⟩:=((iF h.grows h.newi []).objs [aI (bs++[0])]).arrs [(1,1)];refine⟨iF hg h.newo _,h.newo,Nat.le_trans h.newo (BC hlo),by omega,?_,?_⟩
  ·simp only;rw[dd (by simp;omega)];simp
  ·simp only;rw[bn (by omega),eJ (by simp),if_neg (by simp)];simp
def VP{a k:Nat}(hk:k≤64){l:IntKind}:arith .shr (.int .u64 (a:Int)) (.int l (k:Int))=some (.int .u64 ((a/2^k:Nat):Int)):=by
 have h1:¬((k:Int)<0):=by omega
 have h2:min (k:Int).toNat IntKind.u64.bits=k:=by simp[IntKind.bits];omega
 simp only[arith,eX,qm,if_true,if_neg h1,h2];rw[pF _ (by exact_mod_cast bb (2^k))]
 norm_cast
def VQ{x:Nat}(hx:x<2^64):kE .u64 (x:Int) 1=((x%2:Nat):Int):=by
 show IntKind.u64.wrap (((BitVec.ofInt 64 (x:Int) &&& BitVec.ofInt 64 1).toNat:Nat):Int)=_;have e1:BitVec.ofInt 64 (x:Int)=BitVec.ofNat 64 x:=BitVec.ofInt_ofNat 64 x
 have e2:(BitVec.ofNat 64 x &&& BitVec.ofInt 64 1).toNat=x%2:=by
  rw[BitVec.toNat_and,BitVec.toNat_ofNat,kA hx];exact Nat.and_one_is_mod x
 rw[e1,e2,gG (by omega)]
def VS{k:Nat}(hk:k<8):arith .shr (.int .u8 128) (.int .i64 (k:Int))=some (.int .u8 ((eW k).toNat:Int)):=by
 have:∀k,k<8→arith .shr (.int .u8 128) (.int .i64 ((k:Nat):Int))=some (.int .u8 ((eW k).toNat:Int)):=by
  intro k hk
  match k,hk with
  |0,_|1,_|2,_|3,_|4,_|5,_|6,_|7,_=>rfl
  |n+8,h=>omega
 exact this k hk
def VT(a b:UInt8):ni .u8 (a.toNat:Int) (b.toNat:Int)=((a ||| b).toNat:Int):=by
 show IntKind.u8.wrap (((BitVec.ofInt 8 (a.toNat:Int) ||| BitVec.ofInt 8 (b.toNat:Int)).toNat:Nat):Int)=_;have e:∀x:UInt8,BitVec.ofInt 8 (x.toNat:Int)=BitVec.ofNat 8 x.toNat:=fun x=>BitVec.ofInt_ofNat 8 x.toNat
 have e2:∀x:UInt8,x.toNat%2^8=x.toNat:=fun x=>kA x.toNat_lt;rw[e a,e b,BitVec.toNat_or,BitVec.toNat_ofNat,BitVec.toNat_ofNat,e2,e2,←UInt8.toNat_or,iD,kA (UInt8.toNat_lt _)]
def Bt{S0 S:St}{o id k u i n:Nat}{bs:List UInt8}(hu:u<2^64)(hk:k≤64)(hik:i<k)(hn:n<4611686018427387904)(hne:bs≠[])(hq:n/8<bs.length)(hw:sZ S0 S o id bs n){K:List Kt}{Q:Fr→St→Prop}{fr:Fr}
  (h0:fr 0=.int .u64 (u:Int))(h1:fr 1=.int .i64 (k:Int))(h2:fr 2=.ptr o 0)(h5:fr 5=.int .i64 (i:Int))(h6:fr 6=.int .i64 (k:Int))(h7:fr 7=.int .i64 (i:Int))
  (kk:∀fr' S',gI S0 S' o (if u.testBit (k-1-i)then bs.set (n/8) (bs.getD (n/8) 0 ||| eW (n%8))else bs) (n+1)→fr' 0=fr 0→fr' 1=fr 1→fr' 2=fr 2→fr' 6=fr 6→fr' 7=.int .i64 ((i+1:Nat):Int) →
   Ok (aE T (.lp ny::.blk 0::K) fr' S') Q) :
  Ok (aE T (Kt.ops we::Kt.clr [(19,26)]::Kt.code (aL.cond (V 26) (aL.clr [(27,40)] (aL.region wg)) aL.skip) ::
       Kt.code (aL.clr [(40,44)] (aL.region wh))::Kt.blk 1::Kt.code (aL.clr [(44,45)] (aL.region wi))::Kt.lp ny::Kt.blk 0::K) fr S) Q:=by
 obtain⟨O,T0⟩:=S;obtain⟨hg,hno,hni,hneio,ho,hi⟩:=hw;simp only at ho hi;rw[if_neg hne]at hi;have s1:IntKind.i64.wrap ((k:Int)-1)=((k-1:Nat):Int):=by rw[au]<;>omega
 have s2:IntKind.i64.wrap (((k-1:Nat):Int)-(i:Int))=((k-1-i:Nat):Int):=by rw[au]<;>omega
 have s3:=VP (a:=u) (k:=k-1-i) (by omega) (l:=.i64)
 have s5:(((u/2^(k-1-i)%2:Nat):Int)==1)=u.testBit (k-1-i):=by
  rw[Nat.testBit_eq_decide_div_mod_eq,sE,beq_iff_eq,decide_eq_true_iff];omega
 have s4:=VQ (x:=u/2^(k-1-i)) (sL (vk _ _) hu);generalize u/2^(k-1-i)=x at s3 s4 s5;have hw1:IntKind.i64.wrap ((i:Int)+1)=((i+1:Nat):Int):=by rw[au]<;>omega
 have hw2:IntKind.i64.wrap ((n:Int)+1)=((n+1:Nat):Int):=by rw[au]<;>omega
 have hmod:((n:Int).tmod 8)=((n%8:Nat):Int):=by rw[lx (by omega)];omega
 have hdiv:IntKind.i64.wrap ((n:Int)/8)=((n/8:Nat):Int):=by rw[au]<;>omega
 have hpc:∀{a b c:PV},bK [a,b] 1 [c]=[a,c]:=rfl
 have hia:cC 1 (.osl id 0 bs.length 1) (.int .i64 ((n/8:Nat):Int))=some (.ptr id (n/8)):=by
  have:(0:Int)≤((n/8:Nat):Int)∧((n/8:Nat):Int)<bs.length:=⟨by omega,by omega⟩;simp only[vH,if_pos this,pG];simp
 have hld:az false 1 ((aI bs).drop (n/8))=some (.int .u8 ((bs.getD (n/8) 0).toNat:Int)):=by
  rw[vV (by rw[bN];exact hq),bM];simp[aI,ci,hq]
 have hms:=VS (k:=n%8) (kB _ (by decide));have hor:=VT (bs.getD (n/8) 0) (eW (n%8))
 have hput:bK (aI bs) (n/8) [.int .u8 ((bs.getD (n/8) 0 ||| eW (n%8)).toNat:Int)]=aI (bs.set (n/8) (bs.getD (n/8) 0 ||| eW (n%8))):=by
  simp only[bK,aI,←ve,←vd,List.set_eq_take_append_cons_drop,if_pos hq,dS,cV,bE,cO];simp
 have hpl:n/8+1≤(aI bs).length:=by rw[bN];omega
 have hlo:o<O.length:=(aO.1 ho).1;have hli:id<O.length:=(aO.1 hi).1;obtain⟨B,hB⟩:∃B,B=bs.set (n/8) (bs.getD (n/8) 0 ||| eW (n%8)):=⟨_,rfl⟩;rw[←hB]at hput kk;have hBl:B.length=bs.length:=by rw[hB];simp
 have hBn:B≠[]:=fun e=>by rw[e]at hBl;exact hne (vW hBl.symm)
 generalize (bs.getD (n/8) 0 ||| eW (n%8))=mb at hor hput;generalize (bs.getD (n/8) 0)=b0 at hor hld;have ho2:(O.set id (aI B))[o]?=some [.osl id 0 bs.length 1,.int .i64 n]:=by rw[bn hneio];exact ho
 have hA:gI S0 ⟨(O.set id (aI B)).set o [.osl id 0 bs.length 1,.int .i64 ((n+1:Nat):Int)],T0⟩ o B (n+1):=
  ⟨id,iF (iF hg hni _) hno _,hno,hni,hneio,by simp only;rw[dd (by simpa using hlo),hBl],by
   simp only;rw[bn (Ne.symm hneio),dd hli,if_neg hBn]⟩
 have hN:gI S0 ⟨O.set o [.osl id 0 bs.length 1,.int .i64 ((n+1:Nat):Int)],T0⟩ o bs (n+1):=
  ⟨id,iF hg hno _,hno,hni,hneio,by simp only;rw[dd hlo],by
   simp only;rw[bn (Ne.symm hneio),if_neg hne];exact hi⟩
 simp -implicitDefEqProofs [h0,h1,h2,h5,h6,h7,s1,s2,s3,s4,s5,hw1,hw2,hmod,hdiv,hia,hms,hor,dM (S:=⟨O,T0⟩) ho,dM (S:=⟨O,T0⟩) hi,dM (S:=⟨O.set id (aI B),T0⟩) ho2,bM,hld,aH,hi,ho,ho2,hput,hpl,hpc,-vH,-Int.natCast_emod,-Int.natCast_ediv,-Int.natCast_add];refine bV (fun a=>?_) (fun a=>?_)
 ·rw[if_pos a]at kk;exact kk _ _ hA (by simp[h0]) (by simp[h1]) (by simp[h2]) (by simp[h6]) (by simp)
 ·rw[if_neg (by simp[a])]at kk;exact kk _ _ hN (by simp[h0]) (by simp[h1]) (by simp[h2]) (by simp[h6]) (by simp)
def VU{S0:St}{o k u:Nat}(hu:u<2^64)(hk:k≤64){K:List Kt}{Q:Fr→St→Prop}:∀(m i:Nat),i+m=k→∀(bs:List UInt8) (n:Nat),n+m≤1099511627776→bs.length=(n+7)/8→∀(fr:Fr) (S:St),
  gI S0 S o bs n→fr 0=.int .u64 (u:Int)→fr 1=.int .i64 (k:Int)→fr 2=.ptr o 0→fr 6=.int .i64 (k:Int)→fr 7=.int .i64 (i:Int) →
  (∀fr' S',gI S0 S' o (gH bs n (cX u m)) (n+m)→Ok (aE T K fr' S') Q) →
  Ok (aE T (.lp ny::.blk 0::K) fr S) Q:=by
 intro m
 induction m with
 |zero=>
  intro i hi bs n hn hb fr S hw h0 h1 h2 h6 h7 kk;have hi:i=k:=by omega
  subst hi;rw[aV];simp -implicitDefEqProofs [h6,h7]
  exact kk _ _ (by simpa[cX,gH]using hw)
 |succ m ih=>
  intro i hi bs n hn hb fr S hw h0 h1 h2 h6 h7 kk;obtain⟨id,hw⟩:=hw;obtain⟨O,T0⟩:=S;have hlt:(i:Int)<(k:Int):=by omega
  have ho:=hw.ho;simp only at ho;have hmod:((n:Int).tmod 8)=((n%8:Nat):Int):=by rw[lx (by omega)];omega
  obtain⟨g1,g2,g3⟩:=VO hw (by omega);rw[aV];simp -implicitDefEqProofs [-Xr,h0,h1,h2,h6,h7,hlt,dM (S:=⟨O,T0⟩) ho,bM,hmod,aH,cA,cc,g1,g2,bK,-Int.natCast_emod];have hm:k-1-i=m:=by omega
  have hbl:=Bo (b:=u.testBit m) hb
  have hL:∀fr' S',gI S0 S' o (iz bs n (u.testBit m)) (n+1)→fr' 0=fr 0→fr' 1=fr 1→fr' 2=fr 2→fr' 6=fr 6→fr' 7=.int .i64 ((i+1:Nat):Int)→Ok (aE T (.lp ny::.blk 0::K) fr' S') Q:=by
   intro fr' S' hw' e0 e1 e2 e6 e7;refine ih (i+1) (by omega) _ (n+1) (by omega) hbl fr' S' hw' (e0.trans h0) (e1.trans h1) (e2.trans h2) (e6.trans h6) e7 (fun fr2 S2 hw2=>kk fr2 S2 ?_);rw[Bp,show n+(m+1)=n+1+m by omega];exact hw2
  clear ih kk;refine bV (fun a=>?_) (fun a=>?_)
  ·have h8:n%8=0:=by rw[beq_iff_eq]at a;omega
   refine Bt (u:=u) (k:=k) (i:=i) hu hk (by omega) (by omega) (by simp) (by simp;omega) g3 (by simp[h0]) (by simp[h1]) (by simp[h2]) (by simp) (by simp[h6]) (by simp[h7]) (fun fr' S' hw' e0 e1 e2 e6 e7=>?_);rw[hm]at hw';refine hL fr' S' ?_ (by simp[e0]) (by simp[e1]) (by simp[e2]) (by simp[e6]) e7;unfold iz;simp only[if_pos h8];exact hw'
  ·have h8:n%8≠0:=by rw[beq_eq_false_iff_ne]at a;omega
   have hne:bs≠[]:=fun e=>by rw[e]at hb;simp at hb;omega
   refine Bt (u:=u) (k:=k) (i:=i) hu hk (by omega) (by omega) hne (by omega) hw (by simp[h0]) (by simp[h1]) (by simp[h2]) (by simp) (by simp[h6]) (by simp[h7]) (fun fr' S' hw' e0 e1 e2 e6 e7=>?_);rw[hm]at hw';refine hL fr' S' ?_ (by simp[e0]) (by simp[e1]) (by simp[e2]) (by simp[e6]) e7;unfold iz;simp only[if_neg h8];exact hw'
def VV{S0 S S1:St}{o n n1:Nat}{bs bs1:List UInt8}(h:gI S0 S o bs n)(h1:gI S0 S1 o bs1 n1)(hb:n1=n→bs1=bs):∃S2,ak false S S1 (.tup [])=(.tup [],S2)∧gI S0 S2 o bs1 n1:=by
 obtain⟨id,h⟩:=h;have ho:=h.ho;have hlo:o<S.objs.length:=(aO.1 ho).1;obtain⟨id1,h1'⟩:=h1;have ho1:=h1'.ho;have hs:sol S1.objs S.objs.length eF (.tup [])=some (.tup []):=rC rfl;unfold ak;rw[if_neg (by decide),hs];simp only;by_cases hq:PV.beqLL (S1.objs.take S.objs.length) S.objs=true
 ·rw[if_pos hq];have e:=lX hq
  have ho2:S.objs[o]?=some [.osl id1 0 bs1.length 1,.int .i64 n1]:=by
   rw[←e,cx hlo];exact ho1
  rw[ho]at ho2;have hn:n1=n:=by simp at ho2;omega
  have hbs:=hb hn;subst hbs hn;refine⟨_,rfl,id,?_,h.newo,h.newi,h.ne,h.ho,h.hi⟩;obtain⟨o1,t1,e1⟩:=h.grows;obtain⟨o2,t2,e2⟩:=h1'.grows;refine⟨o1,t2.take (S.tips.length-S0.tips.length),?_⟩;have el:S.tips.length=S0.tips.length+t1.length:=by rw[e1];simp
  simp only[St.mk.injEq];refine⟨by rw[e1],?_⟩;rw[e2];simp only;rw[List.take_append,jz (by omega)]
 ·rw[if_neg hq]
  have hnf:lG (S1.objs.take S.objs.length)=false:=by
   have hm:[PV.osl id1 0 bs1.length 1,.int .i64 n1]∈S1.objs.take S.objs.length:=dY (i:=o) (by rw[cx hlo];exact ho1)
   cases e:lG (S1.objs.take S.objs.length)with
   |false=>rfl
   |true=>
    have key:∀{l:List (List PV)},lG l=true→∀x∈l,PV.freeL x=true:=by
     intro l
     induction l with
     |nil=>intro _ x hx;cases hx
     |cons a l ih=>
      intro h x hx;simp only[lG,aJ]at h;rcases cQ.1 hx with rfl|hx
      ·exact h.1
      ·exact ih h.2 x hx
    have:=key e _ hm;simp[PV.freeL,PV.free]at this
  rw[if_neg (by rw[hnf];decide)];exact⟨S1,rfl,id1,h1'⟩
def Bu{S0 S:St}{o n k u:Nat}{bs:List UInt8}(hu:u<2^64)(hk:k≤64)(hn:n+k≤1099511627776)(hb:bs.length=(n+7)/8)(hw:gI S0 S o bs n) :
  ∃S',aM T 414 [.int .u64 (u:Int),.int .i64 (k:Int),.ptr o 0] S=some (.tup [],S')∧gI S0 S' o (gH bs n (cX u k)) (n+k):=by
 have main:∀Q:Fr→St→Prop,(∀fr S',gI S0 S' o (gH bs n (cX u k)) (n+k)→Q fr S')→Ok (aE T [.code z28.body] (bg [.int .u64 (u:Int),.int .i64 (k:Int),.ptr o 0]) S) Q:=by
  intro Q hQ;simp -implicitDefEqProofs [z28];refine VU hu hk k 0 (by omega) bs n hn hb _ S hw (by simp) (by simp) (by simp) (by simp) (by simp) (fun fr' S' hw'=>?_);simp -implicitDefEqProofs;exact hQ _ _ hw'
 obtain⟨r,S',h1,h2,h3⟩:=gt (R:=fun r S'=>r=.tup []∧gI S0 S' o (gH bs n (cX u k)) (n+k)) VN rfl (main _ (fun fr S1 hw1=>by
  obtain⟨S2,f1,f2⟩:=VV hw hw1 (fun e=>by
   have:k=0:=by omega
   subst this;simp[cX,gH])
  refine⟨[],rfl,?_⟩;rw[show bu []=PV.tup []from rfl,show z28.raw=false from rfl,f1];exact⟨rfl,f2⟩))
 subst h2;exact⟨S',h1,h3⟩
def VW:T.fn 415=some (.code px):=rfl
def VX{S0 S:St}{o n:Nat}{bs:List UInt8}(hw:gI S0 S o bs n)(hbs:bs≠[]) :
  ∃id S',aM T 415 [.ptr o 0] S=some (.agg [.osl id 0 bs.length 1,.int .i64 n],S')∧aN S0 S'∧S0.objs.length≤id∧S'.objs[id]?=some (aI bs):=by
 obtain⟨id,hw⟩:=hw;obtain⟨O,T0⟩:=S;have ho:=hw.ho;have hi:=hw.hi;simp only at ho hi;rw[if_neg hbs]at hi;have hlo:o<O.length:=(aO.1 ho).1;have hli:id<O.length:=(aO.1 hi).1;refine⟨id,⟨O++[[.osl id 0 bs.length 1,.int .i64 n]],T0⟩,?_,hw.grows.objs _,hw.newi,by simp only;rw[bF hli];exact hi⟩;refine bP VW rfl ?_;have ho2:(O++[[PV.nils,.int .i64 0]])[o]?=some [.osl id 0 bs.length 1,.int .i64 n]:=by rw[bF hlo];exact ho
 have hf:ak false ⟨O,T0⟩ ⟨O++[[.osl id 0 bs.length 1,.int .i64 n]],T0⟩ (.agg [.osl id 0 bs.length 1,.int .i64 n])=(.agg [.osl id 0 bs.length 1,.int .i64 n],⟨O++[[.osl id 0 bs.length 1,.int .i64 n]],T0⟩):=by
  unfold ak;rw[if_neg (by decide)];have hn:¬(O.length≤id∧0<1):=by omega
  have hsn:∀k,sol (O++[[PV.osl id 0 bs.length 1,.int .i64 n]]) O.length k (.osl id 0 bs.length 1)=none:=by
   intro k
   cases k with
   |zero=>rfl
   |succ k=>
    rw[sol,if_neg (by simp[PV.free])];simp only[if_neg hn]
  have:sol (O++[[PV.osl id 0 bs.length 1,.int .i64 n]]) O.length eF (.agg [.osl id 0 bs.length 1,.int .i64 n])=none:=by
   show sol _ _ (39+1) _=none;rw[sol,if_neg (by simp[PV.free,PV.freeL])];simp only[cT,hsn]
  rw[this]
 simp -implicitDefEqProofs [px,aH,cj,dM (S:=⟨O++[[PV.nils,.int .i64 0]],T0⟩) ho2,fo,bK];exact YS (by simp[fo]) hf
end Ps
set_option linter.defProp false
namespace Ps
set_option linter.unusedSimpArgs false
set_option linter.unusedVariables false
open Go
def VY:T.fn 405=some (.code z41):=rfl
theorem pY:∀(l:List UInt8),(aI l).flatMap PV.cells=aI l
 | []=>rfl
 |b::l=>by
  have:=pY l;simp only[aI,cV,dC]at this ⊢;rw[this];rfl
def VZ{S:St}{bs:List UInt8}(hb:bs.length≤1099511627776) :
  ∃id S2,gr 1 1 ⟨S.objs++[[.int .u8 0]],S.tips⟩ (.osl S.objs.length 0 0 1) (aI bs)=some (.osl id 0 bs.length 1,S2)∧aN S S2∧S.objs.length≤id∧id<S2.objs.length∧S2.objs[id]?=some (if bs=[]then [.int .u8 0]else aI bs):=by
 cases bs with
 |nil=>exact⟨S.objs.length,⟨S.objs++[[.int .u8 0]],S.tips⟩,rfl,(aN.refl S).obj _,aX _,by simp,by simp⟩
 |cons b r=>
  refine⟨S.objs.length+1,⟨(S.objs++[[PV.int .u8 0]]).set S.objs.length []++[aI (b::r)],S.tips⟩,?_,?_,by omega,by simp,by simp⟩
  ·unfold gr;rw[if_neg (by simp[aI])];have e:(S.objs++[[PV.int .u8 0]])[S.objs.length]?=some [.int .u8 0]:=by simp
   have hone:([PV.int IntKind.u8 0].take (0*1)).all PV.one=true:=rfl;simp only[e];rw[if_pos ⟨trivial,trivial,by decide,by decide,hone,by rw[bN];simp at hb ⊢;omega⟩]
   have e9:([PV.int IntKind.u8 0].take (0*1))++(aI (b::r)).flatMap PV.cells=aI (b::r):=by
    rw[pY];rfl
   simp only[e9,bN];simp
  ·have h:=((aN.refl S).obj [PV.int .u8 0]).obj (aI (b::r));refine⟨[[],aI (b::r)],[],by simp⟩
def wK{S S1:St}{r:PV}:ak true S S1 r=(r,S1):=rfl
def Va{bs:List UInt8}{bv:PV}(hv:am 1 bv (aI bs)){n:Nat}(hb:bs.length≤1099511627776)(S:St) :
  ∃o S',aM T 405 [.agg [bv,.int .i64 (n:Int)]] S=some (.tup [.fn 414 [.ptr o 0],.fn 415 [.ptr o 0]],S')∧gI S S' o bs n:=by
 obtain⟨id,S2,g1,g2,g3,g4,g5⟩:=VZ (S:=S) hb;have hlen:=hv.len;rw[bN]at hlen;obtain⟨o1,o2⟩:=hv.one;have hw:IntKind.i64.wrap ((bs.length:Int)+17)=(bs.length:Int)+17:=au (by omega) (by omega);have hc:(1:Int)≤(bs.length:Int)+17∧(bs.length:Int)+17≤140737488355328:=⟨by omega,by omega⟩;have hap:=hv.appd
 refine⟨S2.objs.length,⟨S2.objs++[[.osl id 0 bs.length 1,.int .i64 n]],S2.tips⟩,?_,id,g2.obj _,?_,g3,by omega,by simp,by
  simp only;rw[bF g4];exact g5⟩
 ·refine bP VY rfl ?_;simp -implicitDefEqProofs [z41,aH,bM,o1,o2,hlen,hw,hc,hap,g1,aW,ft,bK,cj];exact wK
 ·obtain⟨a,t,rfl⟩:=g2;simp
def bR(u:Nat):List Bool:=cX (bD u) 7++cX u (bD u)
def jc(u:Nat):(bR u).length=7+bD u:=by simp[bR,pX]
def Bv{objs:List (List PV)}{n0 id:Nat}{bs:List UInt8}{n:Int}(h1:n0≤id)(h2:objs[id]?=some (aI bs))(r:PV)(hr:r.free=true) :
  sol objs n0 eF (.tup [.agg [.osl id 0 bs.length 1,.int .i64 n],r])=some (.tup [.agg [.sl none (aI bs) [],.int .i64 n],r]):=by
 have hfree:PV.freeL (aI bs)=true:=gv _ (fun _=>rfl) bs
 have hch:ct 1 bs.length (aI bs)=aI bs:=by
  have:=PU (l:=aI bs) (r:=[])
  rwa [dR,bN]at this
 have e1:∀k,sol objs n0 (k+2) (.osl id 0 bs.length 1)=some (.sl none (aI bs) []):=fun k=>
  PW (cs:=aI bs) (ds:=aI bs) h1 (by decide) h2 (by rw[bN];omega) (by simp[aI,PV.one]) (tf hfree) hch
 have e2:∀k,sol objs n0 (k+3) (.agg [.osl id 0 bs.length 1,.int .i64 n])=some (.agg [.sl none (aI bs) [],.int .i64 n]):=by
  intro k;rw[sol,if_neg (by simp[PV.free,PV.freeL])];have e3:sol objs n0 (k+2) (.int .i64 n)=some (.int .i64 n):=nP rfl;simp only[cT,e1,e3]
 show sol objs n0 (36+3+1) _=_;rw[sol,if_neg (by simp[PV.free,PV.freeL])];have e4:sol objs n0 (36+3) r=some r:=nP hr;simp only[cT,e2,e4]
def Vb:T.fn 377=some (.code qX):=rfl
def Vc{l:List Bool}{bv:PV}(hv:am 1 bv (aI (bz l)))(hl:l.length≤1048576){u:Nat}(hu:u<2^64)(S:St) :
  aM T 377 [.agg [bv,.int .i64 (l.length:Int)],.int .u64 (u:Int)] S=some (.tup [.agg [.sl none (aI (bz (l++bR u))) [],.int .i64 ((l++bR u).length:Nat)],.int .i64 0],S):=by
 obtain⟨o1,o2⟩:=hv.one;have hpk:=nk l;have hbl:=hpk.1;have hlen:bD u≤64:=jb hu;have hR:=fun S=>VM hv (n:=l.length) (by omega) hpk.rightB S;obtain⟨S1,hS1⟩:∃S1:St,S1=⟨S.objs++[[.nils,.int .i64 0]],S.tips⟩:=⟨_,rfl⟩;obtain⟨o,S2,w1,w2⟩:=Va hv (n:=l.length) (by omega) S1;have h64:=VG hu;obtain⟨S3,p1,p2⟩:=Bu (u:=bD u) (k:=7) (by omega) (by decide) (by omega) hbl w2
 have hb3:(gH (bz l) l.length (cX (bD u) 7)).length=(l.length+7+7)/8:=by
  have:=sX (l++cX (bD u) 7);rw[sW]at this;simpa[pX]using this
 obtain⟨S4,p3,p4⟩:=Bu (u:=u) (k:=bD u) hu hlen (by omega) hb3 p2
 have hbs:gH (gH (bz l) l.length (cX (bD u) 7)) (l.length+7) (cX u (bD u))=bz (l++bR u):=by
  have e1:=sW (l++cX (bD u) 7) (cX u (bD u));rw[sW l,aZ,pX,List.append_assoc]at e1;exact e1.symm
 have hn:l.length+7+bD u=(l++bR u).length:=by rw[aZ,jc];omega
 rw[hbs,hn]at p4
 have hne:bz (l++bR u)≠[]:=fun e=>by
  have:=sX (l++bR u);rw[e,aZ,jc]at this;simp at this;omega
 obtain⟨id,S5,d1,d2,d3,d4⟩:=VX p4 hne;have hw7:IntKind.u64.wrap ((bD u:Nat):Int)=((bD u:Nat):Int):=gG (by omega)
 have hL:S5.objs[S.objs.length]?=some [.nils,.int .i64 0]:=by
  obtain⟨a,t,rfl⟩:=d2;rw[hS1];simp
 have hlL:S.objs.length<S5.objs.length:=(aO.1 hL).1;have hidL:S.objs.length<id:=by rw[hS1]at d3;simp at d3;omega
 have hg:aN S ⟨S5.objs.set S.objs.length [.osl id 0 (bz (l++bR u)).length 1,.int .i64 ((l++bR u).length:Nat)],S5.tips⟩:=by
  refine iF ?_ (aX _) _;have:aN S S1:=by rw[hS1];exact(aN.refl S).obj _
  exact this.trans d2
 have hid:(S5.objs.set S.objs.length [.osl id 0 (bz (l++bR u)).length 1,.int .i64 ((l++bR u).length:Nat)])[id]?=some (aI (bz (l++bR u))):=by
  rw[bn (by omega)];exact d4
 have hfz:PV.frzL (aI (bz (l++bR u)))=aI (bz (l++bR u)):=gS _ (fun _=>rfl) _
 have hfin:ak false S ⟨S5.objs.set S.objs.length [.osl id 0 (bz (l++bR u)).length 1,.int .i64 ((l++bR u).length:Nat)],S5.tips⟩ (.tup [.agg [.osl id 0 (bz (l++bR u)).length 1,.int .i64 ((l++bR u).length:Nat)],.int .i64 0]) =
   (.tup [.agg [.sl none (aI (bz (l++bR u))) [],.int .i64 ((l++bR u).length:Nat)],.int .i64 0],S):=by
  rw[ml hg (Bv (by omega) hid (.int .i64 0) rfl)];simp[PV.frz,PV.frzL,hfz]
 have p1:aM T 414 [.int .u64 ((bD u:Nat):Int),.int .i64 7,.ptr o 0] S2=some (.tup [],S3):=p1;generalize bz (l++bR u)=B at *;generalize (l++bR u).length=m at *;clear hbs hn hb3 hpk hbl p2 p4 w2;refine bP Vb rfl ?_;simp -implicitDefEqProofs [qX,aH,o1,o2,cj,fo,←hS1,hR,w1,h64,sA,hw7,p1,p3,d1,hL,bK,dL];exact yc (by simp[dM (S:=⟨S5.objs.set S.objs.length [.osl id 0 B.length 1,.int .i64 (m:Int)],S5.tips⟩) (show _=_ from dd hlL),fo]) (by simp) hfin
end Ps
set_option linter.defProp false
namespace Ps
set_option linter.unusedSimpArgs false
set_option linter.unusedVariables false
open Go
abbrev Sm:=Int×Int
def bB(x:Sm):PV:=pU x.1 x.2
@[simp]def sV(x:Sm):(bB x).cells=[.int .i64 x.1,.int .i64 x.2]:=rfl
def nj(l:List Sm):PV.freeL (l.map bB)=true:=gv bB (fun _=>rfl) l
def mH(l:List Sm):PV.frzL (l.map bB)=l.map bB:=gS bB (fun _=>rfl) l
def BV(l:List Sm):∀e∈l.map bB,e.cells.length=2:=by
 intro e he;obtain⟨x,_,rfl⟩:=List.mem_map.1 he;rfl
def Ud:T.fn 154=some (.code qI):=rfl
def cW(l:List Sm)(i:Nat)(h:i<l.length):Nat:=
 if eu l[i].1 l[i].2=false then 11 else if h0:0<i then(if l[i].1≤l[i-1].1 then 13 else 0)else 0
def cE(l:List Sm)(i:Nat):Nat:=
 if h:i<l.length then(if cW l i h=0 then cE l (i+1)else cW l i h)else 0
termination_by l.length-i
def dZ(l:List Sm):Nat:=if l.length=0∨120<l.length then 2 else cE l 0
def Ue{l:List Sm}{v:PV}(hv:bW 2 v (l.map bB))(hl:l.length≤120){K:List Kt}{Q:Fr→St→Prop}{S0:St}:∀(n i:Nat),l.length-i=n→i≤l.length→∀(fr:Fr) (S:St),
  fr 0=v→fr 13=v→fr 14=.int .i64 l.length→fr 15=.int .i64 i→aN S0 S→(cE l i=0→∀fr' S',aN S0 S'→Ok (aE T K fr' S') Q) →
  (cE l i≠0→∀fr' S',aN S0 S'→fr' 2=.int .i64 (cE l i)→Q fr' S')→Ok (aE T (.lp tH::.blk 0::K) fr S) Q:=by
 intro n
 induction n with
 |zero=>
  intro i hni hil fr S h0 h8 h9 h10 hg k1 k2;have hi:i=l.length:=by omega
  have hc:cE l i=0:=by rw[cE,dif_neg (by omega)]
  rw[aV];simp -implicitDefEqProofs [h0,h8,h9,h10,hi]
  exact k1 hc _ _ hg
 |succ n ih=>
  intro i hni hil fr S h0 h8 h9 h10 hg k1 k2;have hi:i<l.length:=by omega
  have hget:=hv.get i (by simpa using hi) .i64;have hx:(l.map bB)[i]'(by simpa using hi)=bB l[i]:=by simp
  rw[hx,sV]at hget;have hmay:∀S,aM T 260 [.agg [.int .i64 l[i].1,.int .i64 l[i].2]] S=some (.bool (eu l[i].1 l[i].2),S):=fun S=>UU l[i].1 l[i].2 S;have hw:IntKind.i64.wrap ((i:Int)+1)=((i+1:Nat):Int):=by rw[au]<;>omega
  have hpo:∀{a b:PV},az true 2 [a,b]=some (.agg [a,b]):=fun {a b}=>rfl;have hp1:∀{a:PV} {m:List PV},az false 1 (a::m)=some a:=fun {a m}=>by simp[az]
  rw[cE,dif_pos hi]at k1 k2
  have hL:cW l i hi=0→∀fr' S',fr' 0=v→fr' 13=v→fr' 14=.int .i64 l.length→fr' 15=.int .i64 ((i+1:Nat):Int)→aN S0 S'→Ok (aE T (.lp tH::.blk 0::K) fr' S') Q:=by
   intro hz fr' S' g0 g8 g9 g10 gg;rw[if_pos hz]at k1 k2;exact ih (i+1) (by omega) (by omega) fr' S' g0 g8 g9 g10 gg k1 k2
  have hR:∀(e:Nat),e≠0→cW l i hi=e→∀fr' S',fr' 2=.int .i64 e→aN S0 S'→Q fr' S':=by
   intro e he hz fr' S' g2 gg;rw[if_neg (by rw[hz];exact he),hz]at k2;exact k2 he fr' S' gg g2
  clear k1 k2 ih;by_cases hi0:0<i
  ·have hgetp:=hv.get (i-1) (by simp;omega) .i64;have hxp:(l.map bB)[i-1]'(by simp;omega)=bB l[i-1]:=by simp
   rw[hxp,sV]at hgetp;have hsub:IntKind.i64.wrap ((i:Int)-1)=((i-1:Nat):Int):=by rw[au]<;>omega
   rw[aV];simp -implicitDefEqProofs [h0,h8,h9,h10,hi,hget,hpo,hp1,hmay,hi0,hgetp,hsub,aH,bK];refine bV (fun a1=>dj (hR 11 (by decide) ?_ _ _ (by simp) (hg.obj _))) (fun a1=>bV (fun a4=>dj (hR 13 (by decide) ?_ _ _ (by simp) (hg.obj _))) (fun a4=>hL ?_ _ _ (by simp[h0]) (by simp[h8]) (by simp[h9]) (by simp[hw]) (hg.obj _)))
   ·rw[cW,if_pos (by simpa using a1)]
   ·rw[cW,if_neg (by simpa using a1),dif_pos hi0,if_pos (by simpa using a4)]
   ·rw[cW,if_neg (by simpa using a1),dif_pos hi0,if_neg (by simpa using a4)]
  ·rw[aV];simp -implicitDefEqProofs [h0,h8,h9,h10,hi,hget,hpo,hp1,hmay,hi0,aH,bK];refine bV (fun a1=>dj (hR 11 (by decide) ?_ _ _ (by simp) (hg.obj _))) (fun a1=>hL ?_ _ _ (by simp[h0]) (by simp[h8]) (by simp[h9]) (by simp[hw]) (hg.obj _))
   ·rw[cW,if_pos (by simpa using a1)]
   ·rw[cW,if_neg (by simpa using a1),dif_neg hi0]
def BW{l:List Sm}{v:PV}(hv:bW 2 v (l.map bB))(S:St):aM T 154 [v] S=some (.int .i64 (dZ l),S):=by
 have hlen:=hv.len;rw[bU]at hlen;refine bP Ud rfl ?_;simp -implicitDefEqProofs [qI,hlen];refine bV (fun a=>?_) (fun a=>?_)
 ·have h:dZ l=2:=by
   rw[dZ,if_pos ?_];simp only[gW,beq_iff_eq,decide_eq_true_eq]at a;omega
  simp[h]
 ·have h:¬(l.length=0∨120<l.length):=by
   simp only[Bool.or_eq_false_iff,beq_eq_false_iff_ne,decide_eq_false_iff_not,ne_eq]at a;omega
  have hn:dZ l=cE l 0:=by rw[dZ,if_neg h]
  refine Ue hv (by omega) l.length 0 (by omega) (by omega) _ S (by simp) (by simp) (by simp) (by simp) (aN.refl S) (fun hz fr' S' gg=>?_) (fun hz fr' S' gg g2=>?_)
  ·simp[gg,hn,hz]
  ·simp[gg,g2,hn]
abbrev bf:=List aT×List Sm
def iT(v:PV)(s:bf):Prop:=∃lv sv,v=.agg [lv,sv]∧am 2 lv (s.1.map ac)∧am 2 sv (s.2.map bB)
def eK(v:PV)(l:List bf):Prop:=∃es,am 2 v es∧es.length=l.length∧∀(i:Nat) (h:i<l.length) (h':i<es.length),iT es[i] l[i]
def iU(v:PV)(l:List (List aT)):Prop:=∃es,cF 1 v es∧es.length=l.length∧∀(i:Nat) (h:i<l.length) (h':i<es.length),cF 2 es[i] (l[i].map ac)
def cF.one{sz:Nat}{v:PV}{es:List PV}(h:cF sz v es):v.one=true∧v.cells=[v]:=by
 rcases h with⟨rfl,rfl⟩|⟨tip,sp,rfl,_⟩<;>exact⟨rfl,rfl⟩
def Uf:T.fn 153=some (.code oA):=rfl
def BX{l:List bf}{v:PV}(hv:eK v l)(hl:l.length≤256)(S:St):∃v',aM T 153 [v] S=some (v',S)∧iU v' (l.map (·.1)):=by
 obtain⟨es,hes,hlen,hser⟩:=hv;have hvl:=hes.len;rw[hlen]at hvl
 have main:∀Q:Fr→St→Prop,(∀fr S' v' qs,ad S 1 S' v' qs→qs.length=l.length→(∀(i:Nat) (h:i<l.length) (h':i<qs.length),am 2 qs[i] (l[i].1.map ac))→fr 2=v'→Q fr S') →
   Ok (aE T [.code oA.body] (bg [v]) S) Q:=by
  intro Q hQ;simp -implicitDefEqProofs [oA,hvl];refine db l.length (fun i fr S'=>fr 6=v∧fr 7=.int .i64 l.length∧fr 8=.int .i64 i∧∃qs,ad S 1 S' (fr 3) qs∧qs.length=i∧∀(j:Nat) (h:j<l.length) (h':j<qs.length),am 2 qs[j] (l[j].1.map ac)) ?_ ?_ 0 (by omega) _ _ ⟨by simp,by simp,by simp,[],by simpa using oS 1 (aN.refl S),rfl,fun j h h'=>by simp at h'⟩
  ·rintro i fr S' hi ⟨h6,h7,h8,qs,ha,hq,hqs⟩ k;have hie:i<es.length:=by omega
   obtain⟨lv,sv,he,hlv,hsv⟩:=hser i hi hie;have hget:=hes.reads.get i hie .i64;rw[he]at hget;have hw:IntKind.i64.wrap ((i:Int)+1)=((i+1:Nat):Int):=by rw[au]<;>omega
   have hpo:∀{a b:PV},az true 2 [a,b]=some (.agg [a,b]):=fun {a b}=>rfl;have hp1:∀{a:PV} {m:List PV},az false 1 (a::m)=some a:=fun {a m}=>by simp[az]
   obtain⟨o1,o2⟩:=hlv.one;obtain⟨s1,s2⟩:=hsv.one;have hc0:(PV.agg [lv,sv]).cells=[lv,sv]:=rfl;rw[hc0]at hget;have hn:PV.nils.cells=[.nils]:=rfl;obtain⟨v',S2,a1,a2,a3⟩:=(ha.objs [[lv,sv]]).push (bytes:=24) lv (by omega);rw[aV];simp -implicitDefEqProofs [h6,h7,h8,hi,hget,hpo,hp1,aH,bK,hc0,hn,o1,o2,s1,s2,cA,cc,a1];refine k _ _ ?_;refine⟨by simp[h6],by simp[h7],by simp[hw],qs++[lv],by simpa using a2,by simp[hq],fun j h h'=>?_⟩;simp only[aZ,bE,cO]at h';by_cases hj:j<qs.length
   ·rw[List.getElem_append_left hj];exact hqs j h hj
   ·have:j=i:=by omega
    subst this;rw[List.getElem_append_right (by omega)];simpa[hq]using hlv
  ·rintro fr S' ⟨h6,h7,h8,qs,ha,hq,hqs⟩;rw[aV];simp -implicitDefEqProofs [h6,h7,h8];exact hQ _ _ _ qs ha hq hqs (by simp)
 obtain⟨⟨fr,S'⟩,hg,v',qs,ha,hq,hqs,h2⟩:=main (fun fr S'=>∃v' qs,ad S 1 S' v' qs∧qs.length=l.length∧(∀(i:Nat) (h:i<l.length) (h':i<qs.length),am 2 qs[i] (l[i].1.map ac))∧fr 2=v') (fun fr S' v' qs h1 h2 h3 h4=>⟨v',qs,h1,h2,h3,h4⟩);simp only at h2 ha;subst h2
 have hfree:PV.freeL qs=true:=gT fun x hx=>by
  obtain⟨i,hi,rfl⟩:=eC hx;exact(hqs i (by omega) hi).free
 have hfrz:PV.frzL qs=qs:=by
  rw[fH]
  have:qs.map PV.frz=qs.map id:=ly fun x hx=>by
   obtain⟨i,hi,rfl⟩:=eC hx;exact(hqs i (by omega) hi).frz
  rw[this,pM]
 have hcells:∀e∈qs,e.cells.length=1:=fun x hx=>by
  obtain⟨i,hi,rfl⟩:=eC hx;rw[(hqs i (by omega) hi).one.2];rfl
 obtain⟨f1,f2⟩:=ha.sl0 hcells hfree hfrz;refine⟨gu (fr 2) qs,bP Uf rfl ⟨(fr,S'),hg,[fr 2],rfl,f1⟩,qs,f2.isl,by simpa using hq,fun i h h'=>?_⟩;simp only[bU]at h;simpa using (hqs i h h').isl
end Ps
