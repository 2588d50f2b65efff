/- Samples of a db: whether they may be; the label sets of series. -/
import Derived.Test.YtpjmpaidcidjgaaGreatDoorDefsKb
import Derived.Test.YtpjmpaidcidjgaaGreatDoorBKKb
set_option linter.defProp false
namespace Ps
set_option linter.unusedSimpArgs false
set_option linter.unusedVariables false
open Go
def XS:T.fn 414=some (.code oR):=rfl
structure ul(S0 S:St)(o id:Nat)(bs:List UInt8)(n:Nat):Prop where
 grows:aL S0 S
 newo:S0.objs.length≤o
 newi:S0.objs.length≤id
 ne:id≠o
 ho:S.objs[o]?=some [.osl id 0 bs.length 1,.int .i64 n]
 hi:S.objs[id]?=some (if bs=[]then [.int .u8 0]else aI bs)
def iM(S0 S:St)(o:Nat)(bs:List UInt8)(n:Nat):Prop:=∃id,ul S0 S o id bs n
def da{S0 S:St}(h:aL S0 S){i:Nat}(hi:S0.objs.length≤i)(x:List PV):aL S0 ⟨S.objs.set i x,S.tips⟩:=by
 obtain⟨o,t,rfl⟩:=h;exact⟨o.set (i-S0.objs.length) x,t,by simp[xu _ _ hi]⟩
def XT{S0:St}{O:List (List PV)}{T0:List (Nat×Nat)}{o id:Nat}{bs:List UInt8}{n:Nat}(h:ul S0 ⟨O,T0⟩ o id bs n)(hb:bs.length≤1099511627776) :
  gt 1 1 ⟨O,T0++[(1,1)]⟩ (.osl id 0 bs.length 1) [.int .u8 0]=some (.osl O.length 0 (bs.length+1) 1,⟨O.set id []++[aI (bs++[0])],T0++[(1,1)]⟩) ∧
  (O.set id []++[aI (bs++[0])])[o]?=some [.osl id 0 bs.length 1,.int .i64 n] ∧
  ul S0 ⟨(O.set id []++[aI (bs++[0])]).set o [.osl O.length 0 (bs.length+1) 1,.int .i64 n],T0++[(1,1)]⟩ o O.length (bs++[0]) n:=by
 have hi:=h.hi;have ho:=h.ho;simp only at hi ho;have hlo:o<O.length:=(aM.1 ho).1;have hli:id<O.length:=(aM.1 hi).1
 have hcs:0<(if bs=[]then [PV.int .u8 0]else aI bs).length:=by
  split
  ·decide
  ·rename_i hne;rw[bh];exact List.length_pos_iff.2 hne
 have htk:(if bs=[]then [PV.int .u8 0]else aI bs).take bs.length=aI bs:=by
  split
  ·rename_i e;subst e;rfl
  ·rw[←bh];exact kf
 have hle:bs.length≤(if bs=[]then [PV.int .u8 0]else aI bs).length:=by
  split
  ·rename_i e;subst e;decide
  ·rw[bh];exact aU _
 have hone:(aI bs).all PV.one=true:=by simp[aI,PV.one]
 have e1:(O.set id []++[aI (bs++[0])])[o]?=some [.osl id 0 bs.length 1,.int .i64 n]:=by
  rw[bK (by simpa using hlo),bU h.ne];exact ho
 refine⟨?_,e1,?_⟩
 ·unfold gt;simp only[uN,cH,if_false,hi];rw[if_pos ⟨trivial,trivial,hcs,by simpa using hle,by simpa[htk]using hone,by simp;omega⟩];have e9:aI bs++[PV.int .u8 0].flatMap PV.cells=aI (bs++[0]):=by simp[aI]
  simp only[rR,htk,e9];rfl
 ·have hg:aL S0 ⟨O.set id []++[aI (bs++[0])],T0++[(1,1)]⟩:=((da h.grows h.newi []).objs [aI (bs++[0])]).arrs [(1,1)];refine⟨da hg h.newo _,h.newo,Nat.le_trans h.newo (Nat.le_of_lt hlo),by omega,?_,?_⟩
  ·simp only;rw[cK (by simp;omega)];simp
  ·simp only;rw[bU (by omega),fU (by simp),if_neg (by simp)];simp
def XU{a k:Nat}(hk:k≤64){l:IntKind}:arith .shr (.int .u64 (a:Int)) (.int l (k:Int))=some (.int .u64 ((a/2^k:Nat):Int)):=by
 have h1:¬((k:Int)<0):=by omega
 have h2:min (k:Int).toNat IntKind.u64.bits=k:=by simp[IntKind.bits];omega
 simp only[arith,ef,ld,if_true,if_neg h1,h2];rw[pS _ (by exact_mod_cast cP (2^k))]
 norm_cast
def Fa{x:Nat}(hx:x<2^64):lS .u64 (x:Int) 1=((x%2:Nat):Int):=by
 show IntKind.u64.wrap (((BitVec.ofInt 64 (x:Int) &&& BitVec.ofInt 64 1).toNat:Nat):Int)=_;have e1:BitVec.ofInt 64 (x:Int)=BitVec.ofNat 64 x:=BitVec.ofInt_ofNat 64 x
 have e2:(BitVec.ofNat 64 x &&& BitVec.ofInt 64 1).toNat=x%2:=by
  rw[BitVec.toNat_and,BitVec.toNat_ofNat,iy hx];exact Nat.and_one_is_mod x
 rw[e1,e2,iY (by omega)]
def XV{k:Nat}(hk:k<8):arith .shr (.int .u8 128) (.int .i64 (k:Int))=some (.int .u8 ((jZ k).toNat:Int)):=by
 have:∀k,k<8→arith .shr (.int .u8 128) (.int .i64 ((k:Nat):Int))=some (.int .u8 ((jZ k).toNat:Int)):=by
  intro k hk
  match k,hk with
  |0,_|1,_|2,_|3,_|4,_|5,_|6,_|7,_=>rfl
  |n+8,h=>omega
 exact this k hk
def XW(a b:UInt8):lR .u8 (a.toNat:Int) (b.toNat:Int)=((a ||| b).toNat:Int):=by
 show IntKind.u8.wrap (((BitVec.ofInt 8 (a.toNat:Int) ||| BitVec.ofInt 8 (b.toNat:Int)).toNat:Nat):Int)=_;have e:∀x:UInt8,BitVec.ofInt 8 (x.toNat:Int)=BitVec.ofNat 8 x.toNat:=fun x=>BitVec.ofInt_ofNat 8 x.toNat
 have e2:∀x:UInt8,x.toNat%2^8=x.toNat:=fun x=>iy x.toNat_lt;rw[e a,e b,BitVec.toNat_or,BitVec.toNat_ofNat,BitVec.toNat_ofNat,e2,e2,←UInt8.toNat_or,mc,iy (UInt8.toNat_lt _)]
def Fb{S0 S:St}{o id k u i n:Nat}{bs:List UInt8}(hu:u<2^64)(hk:k≤64)(hik:i<k)(hn:n<4611686018427387904)(hne:bs≠[])(hq:n/8<bs.length)(hw:ul S0 S o id bs n){K:List Kt}{Q:Fr→St→Prop}{fr:Fr}
  (h0:fr 0=.int .u64 (u:Int))(h1:fr 1=.int .i64 (k:Int))(h2:fr 2=.ptr o 0)(h5:fr 5=.int .i64 (i:Int))(h6:fr 6=.int .i64 (k:Int))(h7:fr 7=.int .i64 (i:Int))
  (kk:∀fr' S',iM S0 S' o (if u.testBit (k-1-i)then bs.set (n/8) (bs.getD (n/8) 0 ||| jZ (n%8))else bs) (n+1)→fr' 0=fr 0→fr' 1=fr 1→fr' 2=fr 2→fr' 6=fr 6→fr' 7=.int .i64 ((i+1:Nat):Int) →
   Ok (aE T (.lp qG::.blk 0::K) fr' S') Q) :
  Ok (aE T (Kt.ops By::Kt.clr [(19,26)]::Kt.code (aS.cond (V 26) (aS.clr [(27,40)] (aS.region Bz)) aS.skip) ::
       Kt.code (aS.clr [(40,44)] (aS.region CA))::Kt.blk 1::Kt.code (aS.clr [(44,45)] (aS.region CB))::Kt.lp qG::Kt.blk 0::K) fr S) Q:=by
 obtain⟨O,T0⟩:=S;obtain⟨hg,hno,hni,hneio,ho,hi⟩:=hw;simp only at ho hi;rw[if_neg hne]at hi;have s1:IntKind.i64.wrap ((k:Int)-1)=((k-1:Nat):Int):=by rw[au]<;>omega
 have s2:IntKind.i64.wrap (((k-1:Nat):Int)-(i:Int))=((k-1-i:Nat):Int):=by rw[au]<;>omega
 have s3:=XU (a:=u) (k:=k-1-i) (by omega) (l:=.i64)
 have s5:(((u/2^(k-1-i)%2:Nat):Int)==1)=u.testBit (k-1-i):=by
  rw[Nat.testBit_eq_decide_div_mod_eq,rK,beq_iff_eq,decide_eq_true_iff];omega
 have s4:=Fa (x:=u/2^(k-1-i)) (Ee (Nat.div_le_self _ _) hu);generalize u/2^(k-1-i)=x at s3 s4 s5;have hw1:IntKind.i64.wrap ((i:Int)+1)=((i+1:Nat):Int):=by rw[au]<;>omega
 have hw2:IntKind.i64.wrap ((n:Int)+1)=((n+1:Nat):Int):=by rw[au]<;>omega
 have hmod:((n:Int).tmod 8)=((n%8:Nat):Int):=by rw[uJ (by omega)];omega
 have hdiv:IntKind.i64.wrap ((n:Int)/8)=((n/8:Nat):Int):=by rw[au]<;>omega
 have hpc:∀{a b c:PV},ak [a,b] 1 [c]=[a,c]:=rfl
 have hia:ca 1 (.osl id 0 bs.length 1) (.int .i64 ((n/8:Nat):Int))=some (.ptr id (n/8)):=by
  have:(0:Int)≤((n/8:Nat):Int)∧((n/8:Nat):Int)<bs.length:=⟨by omega,by omega⟩;simp only[Uz,if_pos this,rL];simp
 have hld:bG false 1 ((aI bs).drop (n/8))=some (.int .u8 ((bs.getD (n/8) 0).toNat:Int)):=by
  rw[rM (by rw[bh];exact hq),bD];simp[aI,List.getD_eq_getElem?_getD,hq]
 have hms:=XV (k:=n%8) (mV _ (by decide));have hor:=XW (bs.getD (n/8) 0) (jZ (n%8))
 have hput:ak (aI bs) (n/8) [.int .u8 ((bs.getD (n/8) 0 ||| jZ (n%8)).toNat:Int)]=aI (bs.set (n/8) (bs.getD (n/8) 0 ||| jZ (n%8))):=by
  simp only[ak,aI,←np,←rO,List.set_eq_take_append_cons_drop,if_pos hq,eQ,cb,bL,cW];simp
 have hpl:n/8+1≤(aI bs).length:=by rw[bh];omega
 have hlo:o<O.length:=(aM.1 ho).1;have hli:id<O.length:=(aM.1 hi).1;obtain⟨B,hB⟩:∃B,B=bs.set (n/8) (bs.getD (n/8) 0 ||| jZ (n%8)):=⟨_,rfl⟩;rw[←hB]at hput kk;have hBl:B.length=bs.length:=by rw[hB];simp
 have hBn:B≠[]:=fun e=>by rw[e]at hBl;exact hne (xk hBl.symm)
 generalize (bs.getD (n/8) 0 ||| jZ (n%8))=mb at hor hput;generalize (bs.getD (n/8) 0)=b0 at hor hld;have ho2:(O.set id (aI B))[o]?=some [.osl id 0 bs.length 1,.int .i64 n]:=by rw[bU hneio];exact ho
 have hA:iM S0 ⟨(O.set id (aI B)).set o [.osl id 0 bs.length 1,.int .i64 ((n+1:Nat):Int)],T0⟩ o B (n+1):=
  ⟨id,da (da hg hni _) hno _,hno,hni,hneio,by simp only;rw[cK (by simpa using hlo),hBl],by
   simp only;rw[bU (Ne.symm hneio),cK hli,if_neg hBn]⟩
 have hN:iM S0 ⟨O.set o [.osl id 0 bs.length 1,.int .i64 ((n+1:Nat):Int)],T0⟩ o bs (n+1):=
  ⟨id,da hg hno _,hno,hni,hneio,by simp only;rw[cK hlo],by
   simp only;rw[bU (Ne.symm hneio),if_neg hne];exact hi⟩
 simp -implicitDefEqProofs [h0,h1,h2,h5,h6,h7,s1,s2,s3,s4,s5,hw1,hw2,hmod,hdiv,hia,hms,hor,bI (S:=⟨O,T0⟩) ho,bI (S:=⟨O,T0⟩) hi,bI (S:=⟨O.set id (aI B),T0⟩) ho2,bD,hld,aG,hi,ho,ho2,hput,hpl,hpc,-Uz,-Int.natCast_emod,-Int.natCast_ediv,-Int.natCast_add];refine cA (fun a=>?_) (fun a=>?_)
 ·rw[if_pos a]at kk;exact kk _ _ hA (by simp[h0]) (by simp[h1]) (by simp[h2]) (by simp[h6]) (by simp)
 ·rw[if_neg (by simp[a])]at kk;exact kk _ _ hN (by simp[h0]) (by simp[h1]) (by simp[h2]) (by simp[h6]) (by simp)
def XX{S0:St}{o k u:Nat}(hu:u<2^64)(hk:k≤64){K:List Kt}{Q:Fr→St→Prop}:∀(m i:Nat),i+m=k→∀(bs:List UInt8) (n:Nat),n+m≤1099511627776→bs.length=(n+7)/8→∀(fr:Fr) (S:St),
  iM S0 S o bs n→fr 0=.int .u64 (u:Int)→fr 1=.int .i64 (k:Int)→fr 2=.ptr o 0→fr 6=.int .i64 (k:Int)→fr 7=.int .i64 (i:Int) →
  (∀fr' S',iM S0 S' o (iL bs n (eE u m)) (n+m)→Ok (aE T K fr' S') Q) →
  Ok (aE T (.lp qG::.blk 0::K) fr S) Q:=by
 intro m
 induction m with
 |zero=>
  intro i hi bs n hn hb fr S hw h0 h1 h2 h6 h7 kk;have hi:i=k:=by omega
  subst hi;rw[ax];simp -implicitDefEqProofs [h6,h7]
  exact kk _ _ (by simpa[eE,iL]using hw)
 |succ m ih=>
  intro i hi bs n hn hb fr S hw h0 h1 h2 h6 h7 kk;obtain⟨id,hw⟩:=hw;obtain⟨O,T0⟩:=S;have hlt:(i:Int)<(k:Int):=by omega
  have ho:=hw.ho;simp only at ho;have hmod:((n:Int).tmod 8)=((n%8:Nat):Int):=by rw[uJ (by omega)];omega
  obtain⟨g1,g2,g3⟩:=XT hw (by omega);rw[ax];simp -implicitDefEqProofs [-Zc,h0,h1,h2,h6,h7,hlt,bI (S:=⟨O,T0⟩) ho,bD,hmod,aG,cY,dU,g1,g2,ak,-Int.natCast_emod];have hm:k-1-i=m:=by omega
  have hbl:=FT (b:=u.testBit m) hb
  have hL:∀fr' S',iM S0 S' o (me bs n (u.testBit m)) (n+1)→fr' 0=fr 0→fr' 1=fr 1→fr' 2=fr 2→fr' 6=fr 6→fr' 7=.int .i64 ((i+1:Nat):Int)→Ok (aE T (.lp qG::.blk 0::K) fr' S') Q:=by
   intro fr' S' hw' e0 e1 e2 e6 e7;refine ih (i+1) (by omega) _ (n+1) (by omega) hbl fr' S' hw' (e0.trans h0) (e1.trans h1) (e2.trans h2) (e6.trans h6) e7 (fun fr2 S2 hw2=>kk fr2 S2 ?_);rw[XF,show n+(m+1)=n+1+m by omega];exact hw2
  clear ih kk;refine cA (fun a=>?_) (fun a=>?_)
  ·have h8:n%8=0:=by rw[beq_iff_eq]at a;omega
   refine Fb (u:=u) (k:=k) (i:=i) hu hk (by omega) (by omega) (by simp) (by simp;omega) g3 (by simp[h0]) (by simp[h1]) (by simp[h2]) (by simp) (by simp[h6]) (by simp[h7]) (fun fr' S' hw' e0 e1 e2 e6 e7=>?_);rw[hm]at hw';refine hL fr' S' ?_ (by simp[e0]) (by simp[e1]) (by simp[e2]) (by simp[e6]) e7;unfold me;simp only[if_pos h8];exact hw'
  ·have h8:n%8≠0:=by rw[beq_eq_false_iff_ne]at a;omega
   have hne:bs≠[]:=fun e=>by rw[e]at hb;simp at hb;omega
   refine Fb (u:=u) (k:=k) (i:=i) hu hk (by omega) (by omega) hne (by omega) hw (by simp[h0]) (by simp[h1]) (by simp[h2]) (by simp) (by simp[h6]) (by simp[h7]) (fun fr' S' hw' e0 e1 e2 e6 e7=>?_);rw[hm]at hw';refine hL fr' S' ?_ (by simp[e0]) (by simp[e1]) (by simp[e2]) (by simp[e6]) e7;unfold me;simp only[if_neg h8];exact hw'
def XY{S0 S S1:St}{o n n1:Nat}{bs bs1:List UInt8}(h:iM S0 S o bs n)(h1:iM S0 S1 o bs1 n1)(hb:n1=n→bs1=bs):∃S2,aW false S S1 (.tup [])=(.tup [],S2)∧iM S0 S2 o bs1 n1:=by
 obtain⟨id,h⟩:=h;have ho:=h.ho;have hlo:o<S.objs.length:=(aM.1 ho).1;obtain⟨id1,h1'⟩:=h1;have ho1:=h1'.ho;have hs:ai S1.objs S.objs.length eU (.tup [])=some (.tup []):=qY rfl;unfold aW;rw[if_neg (by decide),hs];simp only;by_cases hq:PV.beqLL (S1.objs.take S.objs.length) S.objs=true
 ·rw[if_pos hq];have e:=fg hq
  have ho2:S.objs[o]?=some [.osl id1 0 bs1.length 1,.int .i64 n1]:=by
   rw[←e,dH hlo];exact ho1
  rw[ho]at ho2;have hn:n1=n:=by simp at ho2;omega
  have hbs:=hb hn;subst hbs hn;refine⟨_,rfl,id,?_,h.newo,h.newi,h.ne,h.ho,h.hi⟩;obtain⟨o1,t1,e1⟩:=h.grows;obtain⟨o2,t2,e2⟩:=h1'.grows;refine⟨o1,t2.take (S.tips.length-S0.tips.length),?_⟩;have el:S.tips.length=S0.tips.length+t1.length:=by rw[e1];simp
  simp only[St.mk.injEq];refine⟨by rw[e1],?_⟩;rw[e2];simp only;rw[Ed,lP (by omega)]
 ·rw[if_neg hq]
  have hnf:nA (S1.objs.take S.objs.length)=false:=by
   have hm:[PV.osl id1 0 bs1.length 1,.int .i64 n1]∈S1.objs.take S.objs.length:=eB (i:=o) (by rw[dH hlo];exact ho1)
   cases e:nA (S1.objs.take S.objs.length)with
   |false=>rfl
   |true=>
    have key:∀{l:List (List PV)},nA l=true→∀x∈l,PV.freeL x=true:=by
     intro l
     induction l with
     |nil=>intro _ x hx;cases hx
     |cons a l ih=>
      intro h x hx;simp only[nA,aJ]at h;rcases dI.1 hx with rfl|hx
      ·exact h.1
      ·exact ih h.2 x hx
    have:=key e _ hm;simp[PV.freeL,PV.free]at this
  rw[if_neg (by rw[hnf];decide)];exact⟨S1,rfl,id1,h1'⟩
def Fc{S0 S:St}{o n k u:Nat}{bs:List UInt8}(hu:u<2^64)(hk:k≤64)(hn:n+k≤1099511627776)(hb:bs.length=(n+7)/8)(hw:iM S0 S o bs n) :
  ∃S',aN T 414 [.int .u64 (u:Int),.int .i64 (k:Int),.ptr o 0] S=some (.tup [],S')∧iM S0 S' o (iL bs n (eE u k)) (n+k):=by
 have main:∀Q:Fr→St→Prop,(∀fr S',iM S0 S' o (iL bs n (eE u k)) (n+k)→Q fr S')→Ok (aE T [.code oR.body] (bk [.int .u64 (u:Int),.int .i64 (k:Int),.ptr o 0]) S) Q:=by
  intro Q hQ;simp -implicitDefEqProofs [oR];refine XX hu hk k 0 (by omega) bs n hn hb _ S hw (by simp) (by simp) (by simp) (by simp) (by simp) (fun fr' S' hw'=>?_);simp -implicitDefEqProofs;exact hQ _ _ hw'
 obtain⟨r,S',h1,h2,h3⟩:=qW (R:=fun r S'=>r=.tup []∧iM S0 S' o (iL bs n (eE u k)) (n+k)) XS rfl (main _ (fun fr S1 hw1=>by
  obtain⟨S2,f1,f2⟩:=XY hw hw1 (fun e=>by
   have:k=0:=by omega
   subst this;simp[eE,iL])
  refine⟨[],rfl,?_⟩;rw[show bb []=PV.tup []from rfl,show oR.raw=false from rfl,f1];exact⟨rfl,f2⟩))
 subst h2;exact⟨S',h1,h3⟩
def XZ:T.fn 415=some (.code sy):=rfl
def Xa{S0 S:St}{o n:Nat}{bs:List UInt8}(hw:iM S0 S o bs n)(hbs:bs≠[]) :
  ∃id S',aN T 415 [.ptr o 0] S=some (.agg [.osl id 0 bs.length 1,.int .i64 n],S')∧aL S0 S'∧S0.objs.length≤id∧S'.objs[id]?=some (aI bs):=by
 obtain⟨id,hw⟩:=hw;obtain⟨O,T0⟩:=S;have ho:=hw.ho;have hi:=hw.hi;simp only at ho hi;rw[if_neg hbs]at hi;have hlo:o<O.length:=(aM.1 ho).1;have hli:id<O.length:=(aM.1 hi).1;refine⟨id,⟨O++[[.osl id 0 bs.length 1,.int .i64 n]],T0⟩,?_,hw.grows.objs _,hw.newi,by simp only;rw[bK hli];exact hi⟩;refine bZ XZ rfl ?_;have ho2:(O++[[PV.nils,.int .i64 0]])[o]?=some [.osl id 0 bs.length 1,.int .i64 n]:=by rw[bK hlo];exact ho
 have hf:aW false ⟨O,T0⟩ ⟨O++[[.osl id 0 bs.length 1,.int .i64 n]],T0⟩ (.agg [.osl id 0 bs.length 1,.int .i64 n])=(.agg [.osl id 0 bs.length 1,.int .i64 n],⟨O++[[.osl id 0 bs.length 1,.int .i64 n]],T0⟩):=by
  unfold aW;rw[if_neg (by decide)];have hn:¬(O.length≤id∧0<1):=by omega
  have hsn:∀k,ai (O++[[PV.osl id 0 bs.length 1,.int .i64 n]]) O.length k (.osl id 0 bs.length 1)=none:=by
   intro k
   cases k with
   |zero=>rfl
   |succ k=>
    rw[ai,if_neg (by simp[PV.free])];simp only[if_neg hn]
  have:ai (O++[[PV.osl id 0 bs.length 1,.int .i64 n]]) O.length eU (.agg [.osl id 0 bs.length 1,.int .i64 n])=none:=by
   show ai _ _ (39+1) _=none;rw[ai,if_neg (by simp[PV.free,PV.freeL])];simp only[cc,hsn]
  rw[this]
 simp -implicitDefEqProofs [sy,aG,bt,bI (S:=⟨O++[[PV.nils,.int .i64 0]],T0⟩) ho2,fN,ak];exact aBZ (by simp[fN]) hf
end Ps
set_option linter.defProp false
namespace Ps
set_option linter.unusedSimpArgs false
set_option linter.unusedVariables false
open Go
def Xb:T.fn 405=some (.code z44):=rfl
theorem yZ:∀(l:List UInt8),(aI l).flatMap PV.cells=aI l
 | []=>rfl
 |b::l=>by
  have:=yZ l;simp only[aI,cb,dd]at this ⊢;rw[this];rfl
def Xc{S:St}{bs:List UInt8}(hb:bs.length≤1099511627776) :
  ∃id S2,gt 1 1 ⟨S.objs++[[.int .u8 0]],S.tips⟩ (.osl S.objs.length 0 0 1) (aI bs)=some (.osl id 0 bs.length 1,S2)∧aL S S2∧S.objs.length≤id∧id<S2.objs.length∧S2.objs[id]?=some (if bs=[]then [.int .u8 0]else aI bs):=by
 cases bs with
 |nil=>exact⟨S.objs.length,⟨S.objs++[[.int .u8 0]],S.tips⟩,rfl,(aL.refl S).obj _,aU _,by simp,by simp⟩
 |cons b r=>
  refine⟨S.objs.length+1,⟨(S.objs++[[PV.int .u8 0]]).set S.objs.length []++[aI (b::r)],S.tips⟩,?_,?_,by omega,by simp,by simp⟩
  ·unfold gt;rw[if_neg (by simp[aI])];have e:(S.objs++[[PV.int .u8 0]])[S.objs.length]?=some [.int .u8 0]:=by simp
   have hone:([PV.int IntKind.u8 0].take (0*1)).all PV.one=true:=rfl;simp only[e];rw[if_pos ⟨trivial,trivial,by decide,by decide,hone,by rw[bh];simp at hb ⊢;omega⟩]
   have e9:([PV.int IntKind.u8 0].take (0*1))++(aI (b::r)).flatMap PV.cells=aI (b::r):=by
    rw[yZ];rfl
   simp only[e9,bh];simp
  ·have h:=((aL.refl S).obj [PV.int .u8 0]).obj (aI (b::r));refine⟨[[],aI (b::r)],[],by simp⟩
def Xd{S S1:St}{r:PV}:aW true S S1 r=(r,S1):=rfl
def Xe{bs:List UInt8}{bv:PV}(hv:ay 1 bv (aI bs)){n:Nat}(hb:bs.length≤1099511627776)(S:St) :
  ∃o S',aN T 405 [.agg [bv,.int .i64 (n:Int)]] S=some (.tup [.fn 414 [.ptr o 0],.fn 415 [.ptr o 0]],S')∧iM S S' o bs n:=by
 obtain⟨id,S2,g1,g2,g3,g4,g5⟩:=Xc (S:=S) hb;have hlen:=hv.len;rw[bh]at hlen;obtain⟨o1,o2⟩:=hv.one;have hw:IntKind.i64.wrap ((bs.length:Int)+17)=(bs.length:Int)+17:=au (by omega) (by omega);have hc:(1:Int)≤(bs.length:Int)+17∧(bs.length:Int)+17≤140737488355328:=⟨by omega,by omega⟩;have hap:=hv.appd
 refine⟨S2.objs.length,⟨S2.objs++[[.osl id 0 bs.length 1,.int .i64 n]],S2.tips⟩,?_,id,g2.obj _,?_,g3,by omega,by simp,by
  simp only;rw[bK g4];exact g5⟩
 ·refine bZ Xb rfl ?_;simp -implicitDefEqProofs [z44,aG,bD,o1,o2,hlen,hw,hc,hap,g1,aR,dx,ak,bt];exact Xd
 ·obtain⟨a,t,rfl⟩:=g2;simp
def bP(u:Nat):List Bool:=eE (bW u) 7++eE u (bW u)
def lU(u:Nat):(bP u).length=7+bW u:=by simp[bP,oE]
def Xf{objs:List (List PV)}{n0 id:Nat}{bs:List UInt8}{n:Int}(h1:n0≤id)(h2:objs[id]?=some (aI bs))(r:PV)(hr:r.free=true) :
  ai objs n0 eU (.tup [.agg [.osl id 0 bs.length 1,.int .i64 n],r])=some (.tup [.agg [.sl none (aI bs) [],.int .i64 n],r]):=by
 have hfree:PV.freeL (aI bs)=true:=jp _ (fun _=>rfl) bs
 have hch:db 1 bs.length (aI bs)=aI bs:=by
  have:=Cb (l:=aI bs) (r:=[])
  rwa [eP,bh]at this
 have e1:∀k,ai objs n0 (k+2) (.osl id 0 bs.length 1)=some (.sl none (aI bs) []):=fun k=>
  Cc (cs:=aI bs) (ds:=aI bs) h1 (by decide) h2 (by rw[bh];omega) (by simp[aI,PV.one]) (wV hfree) hch
 have e2:∀k,ai objs n0 (k+3) (.agg [.osl id 0 bs.length 1,.int .i64 n])=some (.agg [.sl none (aI bs) [],.int .i64 n]):=by
  intro k;rw[ai,if_neg (by simp[PV.free,PV.freeL])];have e3:ai objs n0 (k+2) (.int .i64 n)=some (.int .i64 n):=tx rfl;simp only[cc,e1,e3]
 show ai objs n0 (36+3+1) _=_;rw[ai,if_neg (by simp[PV.free,PV.freeL])];have e4:ai objs n0 (36+3) r=some r:=tx hr;simp only[cc,e2,e4]
def Xg:T.fn 377=some (.code z36):=rfl
def Xh{l:List Bool}{bv:PV}(hv:ay 1 bv (aI (eZ l)))(hl:l.length≤1048576){u:Nat}(hu:u<2^64)(S:St) :
  aN T 377 [.agg [bv,.int .i64 (l.length:Int)],.int .u64 (u:Int)] S=some (.tup [.agg [.sl none (aI (eZ (l++bP u))) [],.int .i64 ((l++bP u).length:Nat)],.int .i64 0],S):=by
 obtain⟨o1,o2⟩:=hv.one;have hpk:=rb l;have hbl:=hpk.1;have hlen:bW u≤64:=mg hu;have hR:=fun S=>FZ hv (n:=l.length) (by omega) hpk.rightB S;obtain⟨S1,hS1⟩:∃S1:St,S1=⟨S.objs++[[.nils,.int .i64 0]],S.tips⟩:=⟨_,rfl⟩;obtain⟨o,S2,w1,w2⟩:=Xe hv (n:=l.length) (by omega) S1;have h64:=FY hu;obtain⟨S3,p1,p2⟩:=Fc (u:=bW u) (k:=7) (by omega) (by decide) (by omega) hbl w2
 have hb3:(iL (eZ l) l.length (eE (bW u) 7)).length=(l.length+7+7)/8:=by
  have:=yW (l++eE (bW u) 7);rw[yV]at this;simpa[oE]using this
 obtain⟨S4,p3,p4⟩:=Fc (u:=u) (k:=bW u) hu hlen (by omega) hb3 p2
 have hbs:iL (iL (eZ l) l.length (eE (bW u) 7)) (l.length+7) (eE u (bW u))=eZ (l++bP u):=by
  have e1:=yV (l++eE (bW u) 7) (eE u (bW u));rw[yV l,am,oE,fi]at e1;exact e1.symm
 have hn:l.length+7+bW u=(l++bP u).length:=by rw[am,lU];omega
 rw[hbs,hn]at p4
 have hne:eZ (l++bP u)≠[]:=fun e=>by
  have:=yW (l++bP u);rw[e,am,lU]at this;simp at this;omega
 obtain⟨id,S5,d1,d2,d3,d4⟩:=Xa p4 hne;have hw7:IntKind.u64.wrap ((bW u:Nat):Int)=((bW u:Nat):Int):=iY (by omega)
 have hL:S5.objs[S.objs.length]?=some [.nils,.int .i64 0]:=by
  obtain⟨a,t,rfl⟩:=d2;rw[hS1];simp
 have hlL:S.objs.length<S5.objs.length:=(aM.1 hL).1;have hidL:S.objs.length<id:=by rw[hS1]at d3;simp at d3;omega
 have hg:aL S ⟨S5.objs.set S.objs.length [.osl id 0 (eZ (l++bP u)).length 1,.int .i64 ((l++bP u).length:Nat)],S5.tips⟩:=by
  refine da ?_ (aU _) _;have:aL S S1:=by rw[hS1];exact(aL.refl S).obj _
  exact this.trans d2
 have hid:(S5.objs.set S.objs.length [.osl id 0 (eZ (l++bP u)).length 1,.int .i64 ((l++bP u).length:Nat)])[id]?=some (aI (eZ (l++bP u))):=by
  rw[bU (by omega)];exact d4
 have hfz:PV.frzL (aI (eZ (l++bP u)))=aI (eZ (l++bP u)):=jq _ (fun _=>rfl) _
 have hfin:aW false S ⟨S5.objs.set S.objs.length [.osl id 0 (eZ (l++bP u)).length 1,.int .i64 ((l++bP u).length:Nat)],S5.tips⟩ (.tup [.agg [.osl id 0 (eZ (l++bP u)).length 1,.int .i64 ((l++bP u).length:Nat)],.int .i64 0]) =
   (.tup [.agg [.sl none (aI (eZ (l++bP u))) [],.int .i64 ((l++bP u).length:Nat)],.int .i64 0],S):=by
  rw[qX hg (Xf (by omega) hid (.int .i64 0) rfl)];simp[PV.frz,PV.frzL,hfz]
 have p1:aN T 414 [.int .u64 ((bW u:Nat):Int),.int .i64 7,.ptr o 0] S2=some (.tup [],S3):=p1;generalize eZ (l++bP u)=B at *;generalize (l++bP u).length=m at *;clear hbs hn hb3 hpk hbl p2 p4 w2;refine bZ Xg rfl ?_;simp -implicitDefEqProofs [z36,aG,o1,o2,bt,fN,←hS1,hR,w1,h64,uF,hw7,p1,p3,d1,hL,ak,dF];exact aB0 (by simp[bI (S:=⟨S5.objs.set S.objs.length [.osl id 0 B.length 1,.int .i64 (m:Int)],S5.tips⟩) (show _=_ from cK hlL),fN]) (by simp) hfin
end Ps
set_option linter.defProp false
namespace Ps
set_option linter.unusedSimpArgs false
set_option linter.unusedVariables false
open Go
abbrev Sm:=Int×Int
def bC(x:Sm):PV:=uf x.1 x.2
@[simp]def FB(x:Sm):(bC x).cells=[.int .i64 x.1,.int .i64 x.2]:=rfl
def pk(l:List Sm):PV.freeL (l.map bC)=true:=jp bC (fun _=>rfl) l
def oC(l:List Sm):PV.frzL (l.map bC)=l.map bC:=jq bC (fun _=>rfl) l
def oD(l:List Sm):∀e∈l.map bC,e.cells.length=2:=by
 intro e he;obtain⟨x,_,rfl⟩:=List.mem_map.1 he;rfl
def Wj:T.fn 154=some (.code sP):=rfl
def dq(l:List Sm)(i:Nat)(h:i<l.length):Nat:=
 if eS l[i].1 l[i].2=false then 11 else if h0:0<i then(if l[i].1≤l[i-1].1 then 13 else 0)else 0
def de(l:List Sm)(i:Nat):Nat:=
 if h:i<l.length then(if dq l i h=0 then de l (i+1)else dq l i h)else 0
termination_by l.length-i
def fV(l:List Sm):Nat:=if l.length=0∨120<l.length then 2 else de l 0
def Wk{l:List Sm}{v:PV}(hv:cM 2 v (l.map bC))(hl:l.length≤120){K:List Kt}{Q:Fr→St→Prop}{S0:St}:∀(n i:Nat),l.length-i=n→i≤l.length→∀(fr:Fr) (S:St),
  fr 0=v→fr 13=v→fr 14=.int .i64 l.length→fr 15=.int .i64 i→aL S0 S→(de l i=0→∀fr' S',aL S0 S'→Ok (aE T K fr' S') Q) →
  (de l i≠0→∀fr' S',aL S0 S'→fr' 2=.int .i64 (de l i)→Q fr' S')→Ok (aE T (.lp vf::.blk 0::K) fr S) Q:=by
 intro n
 induction n with
 |zero=>
  intro i hni hil fr S h0 h8 h9 h10 hg k1 k2;have hi:i=l.length:=by omega
  have hc:de l i=0:=by rw[de,dif_neg (by omega)]
  rw[ax];simp -implicitDefEqProofs [h0,h8,h9,h10,hi]
  exact k1 hc _ _ hg
 |succ n ih=>
  intro i hni hil fr S h0 h8 h9 h10 hg k1 k2;have hi:i<l.length:=by omega
  have hget:=hv.get i (by simpa using hi) .i64;have hx:(l.map bC)[i]'(by simpa using hi)=bC l[i]:=by simp
  rw[hx,FB]at hget;have hmay:∀S,aN T 260 [.agg [.int .i64 l[i].1,.int .i64 l[i].2]] S=some (.bool (eS l[i].1 l[i].2),S):=fun S=>Ez l[i].1 l[i].2 S;have hw:IntKind.i64.wrap ((i:Int)+1)=((i+1:Nat):Int):=by rw[au]<;>omega
  have hpo:∀{a b:PV},bG true 2 [a,b]=some (.agg [a,b]):=fun {a b}=>rfl;have hp1:∀{a:PV} {m:List PV},bG false 1 (a::m)=some a:=fun {a m}=>by simp[bG]
  rw[de,dif_pos hi]at k1 k2
  have hL:dq l i hi=0→∀fr' S',fr' 0=v→fr' 13=v→fr' 14=.int .i64 l.length→fr' 15=.int .i64 ((i+1:Nat):Int)→aL S0 S'→Ok (aE T (.lp vf::.blk 0::K) fr' S') Q:=by
   intro hz fr' S' g0 g8 g9 g10 gg;rw[if_pos hz]at k1 k2;exact ih (i+1) (by omega) (by omega) fr' S' g0 g8 g9 g10 gg k1 k2
  have hR:∀(e:Nat),e≠0→dq l i hi=e→∀fr' S',fr' 2=.int .i64 e→aL S0 S'→Q fr' S':=by
   intro e he hz fr' S' g2 gg;rw[if_neg (by rw[hz];exact he),hz]at k2;exact k2 he fr' S' gg g2
  clear k1 k2 ih;by_cases hi0:0<i
  ·have hgetp:=hv.get (i-1) (by simp;omega) .i64;have hxp:(l.map bC)[i-1]'(by simp;omega)=bC l[i-1]:=by simp
   rw[hxp,FB]at hgetp;have hsub:IntKind.i64.wrap ((i:Int)-1)=((i-1:Nat):Int):=by rw[au]<;>omega
   rw[ax];simp -implicitDefEqProofs [h0,h8,h9,h10,hi,hget,hpo,hp1,hmay,hi0,hgetp,hsub,aG,ak];refine cA (fun a1=>iD (hR 11 (by decide) ?_ _ _ (by simp) (hg.obj _))) (fun a1=>cA (fun a4=>iD (hR 13 (by decide) ?_ _ _ (by simp) (hg.obj _))) (fun a4=>hL ?_ _ _ (by simp[h0]) (by simp[h8]) (by simp[h9]) (by simp[hw]) (hg.obj _)))
   ·rw[dq,if_pos (by simpa using a1)]
   ·rw[dq,if_neg (by simpa using a1),dif_pos hi0,if_pos (by simpa using a4)]
   ·rw[dq,if_neg (by simpa using a1),dif_pos hi0,if_neg (by simpa using a4)]
  ·rw[ax];simp -implicitDefEqProofs [h0,h8,h9,h10,hi,hget,hpo,hp1,hmay,hi0,aG,ak];refine cA (fun a1=>iD (hR 11 (by decide) ?_ _ _ (by simp) (hg.obj _))) (fun a1=>hL ?_ _ _ (by simp[h0]) (by simp[h8]) (by simp[h9]) (by simp[hw]) (hg.obj _))
   ·rw[dq,if_pos (by simpa using a1)]
   ·rw[dq,if_neg (by simpa using a1),dif_neg hi0]
def FC{l:List Sm}{v:PV}(hv:cM 2 v (l.map bC))(S:St):aN T 154 [v] S=some (.int .i64 (fV l),S):=by
 have hlen:=hv.len;rw[bz]at hlen;refine bZ Wj rfl ?_;simp -implicitDefEqProofs [sP,hlen];refine cA (fun a=>?_) (fun a=>?_)
 ·have h:fV l=2:=by
   rw[fV,if_pos ?_];simp only[ir,beq_iff_eq,decide_eq_true_eq]at a;omega
  simp[h]
 ·have h:¬(l.length=0∨120<l.length):=by
   simp only[Bool.or_eq_false_iff,beq_eq_false_iff_ne,decide_eq_false_iff_not,ne_eq]at a;omega
  have hn:fV l=de l 0:=by rw[fV,if_neg h]
  refine Wk hv (by omega) l.length 0 (by omega) (by omega) _ S (by simp) (by simp) (by simp) (by simp) (aL.refl S) (fun hz fr' S' gg=>?_) (fun hz fr' S' gg g2=>?_)
  ·simp[gg,hn,hz]
  ·simp[gg,g2,hn]
abbrev cD:=List aQ×List Sm
def iZ(v:PV)(s:cD):Prop:=∃lv sv,v=.agg [lv,sv]∧ay 2 lv (s.1.map bH)∧ay 2 sv (s.2.map bC)
def iK(v:PV)(l:List cD):Prop:=∃es,ay 2 v es∧es.length=l.length∧∀(i:Nat) (h:i<l.length) (h':i<es.length),iZ es[i] l[i]
def yO(v:PV)(l:List (List aQ)):Prop:=∃es,ba 1 v es∧es.length=l.length∧∀(i:Nat) (h:i<l.length) (h':i<es.length),ba 2 es[i] (l[i].map bH)
def ba.one{sz:Nat}{v:PV}{es:List PV}(h:ba sz v es):v.one=true∧v.cells=[v]:=by
 rcases h with⟨rfl,rfl⟩|⟨tip,sp,rfl,_⟩<;>exact⟨rfl,rfl⟩
def Wl:T.fn 153=some (.code qD):=rfl
def FD{l:List cD}{v:PV}(hv:iK v l)(hl:l.length≤256)(S:St):∃v',aN T 153 [v] S=some (v',S)∧yO v' (l.map (·.1)):=by
 obtain⟨es,hes,hlen,hser⟩:=hv;have hvl:=hes.len;rw[hlen]at hvl
 have main:∀Q:Fr→St→Prop,(∀fr S' v' qs,ah S 1 S' v' qs→qs.length=l.length→(∀(i:Nat) (h:i<l.length) (h':i<qs.length),ay 2 qs[i] (l[i].1.map bH))→fr 2=v'→Q fr S') →
   Ok (aE T [.code qD.body] (bk [v]) S) Q:=by
  intro Q hQ;simp -implicitDefEqProofs [qD,hvl];refine jm l.length (fun i fr S'=>fr 6=v∧fr 7=.int .i64 l.length∧fr 8=.int .i64 i∧∃qs,ah S 1 S' (fr 3) qs∧qs.length=i∧∀(j:Nat) (h:j<l.length) (h':j<qs.length),ay 2 qs[j] (l[j].1.map bH)) ?_ ?_ 0 (by omega) _ _ ⟨by simp,by simp,by simp,[],by simpa using lG 1 (aL.refl S),rfl,fun j h h'=>by simp at h'⟩
  ·rintro i fr S' hi ⟨h6,h7,h8,qs,ha,hq,hqs⟩ k;have hie:i<es.length:=by omega
   obtain⟨lv,sv,he,hlv,hsv⟩:=hser i hi hie;have hget:=hes.reads.get i hie .i64;rw[he]at hget;have hw:IntKind.i64.wrap ((i:Int)+1)=((i+1:Nat):Int):=by rw[au]<;>omega
   have hpo:∀{a b:PV},bG true 2 [a,b]=some (.agg [a,b]):=fun {a b}=>rfl;have hp1:∀{a:PV} {m:List PV},bG false 1 (a::m)=some a:=fun {a m}=>by simp[bG]
   obtain⟨o1,o2⟩:=hlv.one;obtain⟨s1,s2⟩:=hsv.one;have hc0:(PV.agg [lv,sv]).cells=[lv,sv]:=rfl;rw[hc0]at hget;have hn:PV.nils.cells=[.nils]:=rfl;obtain⟨v',S2,a1,a2,a3⟩:=(ha.objs [[lv,sv]]).push (bytes:=24) lv (by omega);rw[ax];simp -implicitDefEqProofs [h6,h7,h8,hi,hget,hpo,hp1,aG,ak,hc0,hn,o1,o2,s1,s2,cY,dU,a1];refine k _ _ ?_;refine⟨by simp[h6],by simp[h7],by simp[hw],qs++[lv],by simpa using a2,by simp[hq],fun j h h'=>?_⟩;simp only[am,bL,cW]at h';by_cases hj:j<qs.length
   ·rw[List.getElem_append_left hj];exact hqs j h hj
   ·have:j=i:=by omega
    subst this;rw[List.getElem_append_right (by omega)];simpa[hq]using hlv
  ·rintro fr S' ⟨h6,h7,h8,qs,ha,hq,hqs⟩;rw[ax];simp -implicitDefEqProofs [h6,h7,h8];exact hQ _ _ _ qs ha hq hqs (by simp)
 obtain⟨⟨fr,S'⟩,hg,v',qs,ha,hq,hqs,h2⟩:=main (fun fr S'=>∃v' qs,ah S 1 S' v' qs∧qs.length=l.length∧(∀(i:Nat) (h:i<l.length) (h':i<qs.length),ay 2 qs[i] (l[i].1.map bH))∧fr 2=v') (fun fr S' v' qs h1 h2 h3 h4=>⟨v',qs,h1,h2,h3,h4⟩);simp only at h2 ha;subst h2
 have hfree:PV.freeL qs=true:=il fun x hx=>by
  obtain⟨i,hi,rfl⟩:=dz hx;exact(hqs i (by omega) hi).free
 have hfrz:PV.frzL qs=qs:=by
  rw[gL]
  have:qs.map PV.frz=qs.map id:=mS fun x hx=>by
   obtain⟨i,hi,rfl⟩:=dz hx;exact(hqs i (by omega) hi).frz
  rw[this,rP]
 have hcells:∀e∈qs,e.cells.length=1:=fun x hx=>by
  obtain⟨i,hi,rfl⟩:=dz hx;rw[(hqs i (by omega) hi).one.2];rfl
 obtain⟨f1,f2⟩:=ha.sl0 hcells hfree hfrz;refine⟨jo (fr 2) qs,bZ Wl rfl ⟨(fr,S'),hg,[fr 2],rfl,f1⟩,qs,f2.isl,by simpa using hq,fun i h h'=>?_⟩;simp only[bz]at h;simpa using (hqs i h h').isl
end Ps
