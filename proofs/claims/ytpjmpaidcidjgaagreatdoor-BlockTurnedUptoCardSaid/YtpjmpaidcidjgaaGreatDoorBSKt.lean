/- An index's texts, and its bytes. -/
import Derived.Test.YtpjmpaidcidjgaaGreatDoorAbbKt
import Derived.Test.YtpjmpaidcidjgaaGreatDoorBNKt
import Derived.Test.YtpjmpaidcidjgaaGreatDoorCWKt
import Derived.Test.YtpjmpaidcidjgaaGreatDoorBKKt
set_option linter.defProp false
namespace Ps
set_option linter.unusedSimpArgs false
set_option linter.unusedVariables false
open Go
def Sj:T.fn 264=some (.code z29):=rfl
def AO(a b:Int)(ha:0≤a∧a≤1099511627776)(hb:0≤b∧b≤1099511627776):IntKind.i64.wrap (a-b)=a-b:=bT (by omega) (by omega)
def Sk{l:List Sm}(h:uW l){v:PV}(hv:cn 2 v (l.map bJ)){S0:St}{w:Nat}{K:List Kt}{Q:Fr→St→Prop}(k:Nat)(fr:Fr)(S:St)(hk:k<l.length-1)
  (f0:fr 0=v)(f6:fr 6=.bfn 333 [.ptr w 0])(f7:fr 7=.bfn 334 [.ptr w 0])(f5:fr 5=.ptr w 0)(f8:fr 8=.int .i64 ((k+1:Nat):Int))(he:gu S0 S w (ez l k))
  (kk:∀fr' S',fr' 0=v→fr' 6=.bfn 333 [.ptr w 0]→fr' 7=.bfn 334 [.ptr w 0]→fr' 5=.ptr w 0→fr' 8=.int .i64 ((k+2:Nat):Int)→gu S0 S' w (ez l (k+1))→Ok (aF T (.lp rU::.blk 0::K) fr' S') Q) :
  Ok (aF T (.lp rU::.blk 0::K) fr S) Q:=by
 have t0:=h.t0;have t1:=h.t1;have v0:=h.v0;have v1:=h.v1;have hl:=h.len;have hlen:=hv.len;rw[dN]at hlen
 have hg:∀i,i<l.length→cb 2 v (.int .i64 (i:Int))=some (.ref [.int .i64 (am l i),.int .i64 (cI l i)]):=fun i hi=>by
  have:=hv.get i (by simpa using hi) .i64;rw[this];simp[am,cI,cH,hi]
 have hlt:((k+1:Nat):Int)<(l.length:Int):=by omega
 have hw1:IntKind.i64.wrap (((k+1:Nat):Int)-1)=((k:Nat):Int):=by rw[bT]<;>omega
 have hw2:IntKind.i64.wrap (((k+1:Nat):Int)+1)=((k+2:Nat):Int):=by rw[bT]<;>omega
 have g1:=hg (k+1) (by omega);have g0:=hg k (by omega);have hbl:=AN h k;have hf:=AO (am l (k+1)) (am l k) ⟨t0 _,t1 _⟩ ⟨t0 _,t1 _⟩;have hvw:IntKind.i64.wrap (cI l (k+1)-cI l k)=cI l (k+1)-cI l k:=bT (by have:=v0 (k+1);have:=v1 k;omega) (by have:=v1 (k+1);have:=v0 k;omega);have hrise:=h.rise k (by omega);rw[bH];by_cases hk0:k=0
 ·subst hk0
  have hu:IntKind.u64.wrap (am l 1-am l 0)=(((am l 1-am l 0).toNat:Nat):Int):=by
   have hrise:am l 0<am l 1:=hrise;have e:am l 1-am l 0=(((am l 1-am l 0).toNat:Nat):Int):=by omega
   rw[e,jc (by have:=t1 1;have:=t0 0;omega)];simp
  obtain⟨S1,p1,p2,_⟩:=qx he (by omega) (u:=(am l 1-am l 0).toNat) (by have:=t1 1;have:=t0 0;omega);obtain⟨S2,q1,q2⟩:=qy p2 (by rw[ak,kP];have:=lX (u:=(am l 1-am l 0).toNat) (k:=64) (by have:=t1 1;have:=t0 0;omega);omega) (n:=cI l 1-cI l 0) (by have:=v0 1;have:=v1 0;omega) (by have:=v1 1;have:=v0 0;omega)
  have q2:gu S0 S2 w (ez l 1):=by
   have e:ez l 1=ez l 0++nB l 1:=rfl;rw[e,nB,if_pos rfl,←eh];exact q2
  clear he p2 hbl;have hlt:(1:Int)<(l.length:Int):=by omega
  have f8:fr 8=.int .i64 1:=f8;have g1:cb 2 v (.int .i64 1)=some (.ref [.int .i64 (am l 1),.int .i64 (cI l 1)]):=g1;have g0:cb 2 v (.int .i64 0)=some (.ref [.int .i64 (am l 0),.int .i64 (cI l 0)]):=g0;have hw1:IntKind.i64.wrap 0=0:=rfl;have hw2:IntKind.i64.wrap 2=2:=rfl;have hf:IntKind.i64.wrap (am l 1-am l 0)=am l 1-am l 0:=hf;have hvw:IntKind.i64.wrap (cI l 1-cI l 0)=cI l 1-cI l 0:=hvw;generalize ((am l 1-am l 0).toNat:Int)=u at hu p1;simp -implicitDefEqProofs [f0,f5,f6,f7,f8,hlen,hlt,hw1,hw2,g1,g0,dD,hf,hvw,hu,p1,q1];exact kk _ _ (by simp[f0]) (by simp[f6]) (by simp[f7]) (by simp[f5]) (by simp) q2
 ·obtain⟨j,rfl⟩:∃j,k=j+1:=⟨k-1,by omega⟩;have hne:((((j+1+1:Nat):Int))==1)=false:=by rw[beq_eq_false_iff_ne];omega
  have hw3:IntKind.i64.wrap (((j+1+1:Nat):Int)-2)=((j:Nat):Int):=by rw[bT]<;>omega
  have gj:=hg j (by omega);have hf2:=AO (am l (j+1)) (am l j) ⟨t0 _,t1 _⟩ ⟨t0 _,t1 _⟩;have b1:-4611686018427387904≤(am l (j+2)-am l (j+1))-(am l (j+1)-am l j):=by have:=t0 (j+2);have:=t1 (j+1);have:=t0 j;omega
  have b2:(am l (j+2)-am l (j+1))-(am l (j+1)-am l j)<4611686018427387904:=by have:=t1 (j+2);have:=t0 (j+1);have:=t1 j;omega
  have hf3:IntKind.i64.wrap ((am l (j+2)-am l (j+1))-(am l (j+1)-am l j))=(am l (j+2)-am l (j+1))-(am l (j+1)-am l j):=bT (by omega) (by omega);obtain⟨S1,p1,p2⟩:=qy he (by omega) b1 b2;obtain⟨S2,q1,q2⟩:=qy p2 (by rw[ak,kP];have:=lX (uV b1 b2);omega) (n:=cI l (j+2)-cI l (j+1)) (by have:=v0 (j+2);have:=v1 (j+1);omega) (by have:=v1 (j+2);have:=v0 (j+1);omega)
  have q2:gu S0 S2 w (ez l (j+2)):=by
   have e:ez l (j+2)=ez l (j+1)++nB l (j+2):=rfl;rw[e,nB,if_neg (by omega),←eh];exact q2
  clear he p2 hbl;simp -implicitDefEqProofs [f0,f5,f6,f7,f8,hlen,hlt,hw1,hw2,hw3,g1,g0,gj,dD,hf,hf2,hf3,hvw,hne,p1,q1,-Int.natCast_add];exact kk _ _ (by simp[f0]) (by simp[f6]) (by simp[f7]) (by simp[f5]) (by simp) q2
def Sl{l:List Sm}{v:PV}(hv:cn 2 v (l.map bJ))(hz:eS l=0)(S:St):∃bv,aS T 264 [v] S=some (.tup [bv,.int .i64 0],S)∧bM 1 bv (aJ (eT l)):=by
 have h:=AM hz;have t0:=h.t0;have t1:=h.t1;have v0:=h.v0;have v1:=h.v1;have hl:=h.len;have hlen:=hv.len;rw[dN]at hlen;have hpos:0<l.length:=List.length_pos_iff.2 h.ne;have hck:=fun S=>zm hv S;rw[hz]at hck;have hck:∀S,aS T 154 [v] S=some (.int .i64 0,S):=hck
 have g0:cb 2 v (.int .i64 0)=some (.ref [.int .i64 (am l 0),.int .i64 (cI l 0)]):=by
  have:=hv.get 0 (by simpa using hpos) .i64;rw[show(0:Int)=((0:Nat):Int)from rfl,this];simp[am,cI,cH,hpos]
 have hu1:IntKind.u64.wrap (l.length:Int)=(l.length:Int):=jc (by omega)
 have hu2:IntKind.u64.wrap (am l 0)=(((am l 0).toNat:Nat):Int):=by
  have e:am l 0=(((am l 0).toNat:Nat):Int):=by have:=t0 0;omega
  rw[e,jc (by have:=t1 0;omega)];simp
 have hlw:=lX (u:=l.length) (k:=64) (by omega);have hlt:=lX (u:=(am l 0).toNat) (k:=64) (by have:=t1 0;omega);have he0:gu S ⟨S.objs++[[.nils,.int .i64 0]],S.tips⟩ S.objs.length []:=⟨(aV.refl S).obj _,aR _,.nils,kg 1,by simp⟩;obtain⟨S1,p1,e1,_⟩:=qx he0 (by simp) (u:=l.length) (by omega);obtain⟨S2,p2,e2,_⟩:=qx e1 (by simp[kP];omega) (u:=(am l 0).toNat) (by have:=t1 0;omega);obtain⟨S3,p3,e3⟩:=qy e2 (by simp[kP];omega) (n:=cI l 0) (by have:=v0 0;omega) (by have:=v1 0;omega)
 have e3:gu S S3 S.objs.length (ez l 0):=by
  have:ez l 0=[]++bi l.length++bi (am l 0).toNat++bi (fw (cI l 0)):=by simp[ez]
  rw[this];exact e3
 clear e1 e2 he0;generalize (((am l 0).toNat:Nat):Int)=uu at hu2 p2
 have main:∀Q:Fr→St→Prop,(∀fr S' bv,aV S S'→bM 1 bv (aJ (eT l))→fr 2=bv→fr 3=.int .i64 0→Q fr S')→Ok (aF T [.code z29.body] (bX [v]) S) Q:=by
  intro Q hQ;simp -implicitDefEqProofs [z29,hck,aH,aQ,ff,bB,hlen,hu1,g0,dD,hu2,cR,p1,p2,p3];refine jp (l.length-1) (fun k fr' S'=>fr' 0=v∧fr' 6=.bfn 333 [.ptr S.objs.length 0]∧fr' 7=.bfn 334 [.ptr S.objs.length 0]∧fr' 5=.ptr S.objs.length 0∧fr' 8=.int .i64 ((k+1:Nat):Int)∧gu S S' S.objs.length (ez l k)) ?_ ?_ 0 (bh _) _ _ ⟨by simp,by simp,by simp,by simp,by simp,e3⟩
  ·rintro k fr' S' hk ⟨f0,f6,f7,f5,f8,he⟩ kk;exact Sk h hv k fr' S' hk f0 f6 f7 f5 f8 he (fun fr2 S2 a b c d e f=>kk fr2 S2 ⟨a,b,c,d,e,f⟩)
  ·rintro fr' S' ⟨f0,f6,f7,f5,f8,hg,hn,bv,hbv,ho⟩;have hn1:((l.length-1+1:Nat):Int)=(l.length:Int):=by omega
   rw[hn1]at f8;rw[bH];simp -implicitDefEqProofs [f0,f5,f8,hlen,dG ho,dD];exact hQ _ _ bv hg hbv (by simp) (by simp)
 obtain⟨r,S',h1,bv,h2,h3,h4⟩:=nY (R:=fun r S'=>∃bv,bM 1 bv (aJ (eT l))∧r=.tup [bv,.int .i64 0]∧S'=S) Sj rfl (main _ (fun fr S' bv hg hbv f2 f3=>by
  refine⟨[bv,.int .i64 0],?_,bv,hbv,?_⟩
  ·simp[z29,bb,hI,f2,f3]
  ·have e:ac false S S' (.tup [bv,.int .i64 0])=(.tup [bv,.int .i64 0],S):=by
    rw[gE hg (by simp[PV.free,PV.freeL,hbv.free])];simp[PV.frz,PV.frzL,hbv.frz]
   exact⟨congrArg Prod.fst e,congrArg Prod.snd e⟩))
 subst h3 h4;exact⟨bv,h1,h2⟩
end Ps
set_option linter.defProp false
namespace Ps
set_option linter.unusedSimpArgs false
set_option linter.unusedVariables false
open Go
abbrev Wd:=List UInt8
def bV:List (Wd×Nat)→List PV
 | []=>[]
 |(q,n)::l=>.str q::.int .i64 (n:Int)::bV l
def fa(k:Wd):List (Wd×Nat)→Option Nat
 | []=>none
 |(q,n)::l=>if k==q then some n else fa k l
def dI(k:Wd)(n:Nat):List (Wd×Nat)→List (Wd×Nat)
 | []=>[(k,n)]
 |(q,u)::l=>if k==q then(k,n)::l else(q,u)::dI k n l
theorem AP:∀l:List (Wd×Nat),(bV l).length=2*l.length
 | []=>rfl
 |(q,u)::l=>by simp only[bV,bE,AP l];omega
theorem AQ(k:Wd):∀l:List (Wd×Nat),iO (.str k) (bV l)=some ((fa k l).map fun n=>.int .i64 (n:Int))
 | []=>rfl
 |(q,f)::l=>by
  simp only[bV,iO,kZ,fa];cases h:(k==q)
  ·simpa using AQ k l
  ·simp
theorem rC(k:Wd)(n:Nat):∀l:List (Wd×Nat),fg (.str k) (.int .i64 (n:Int)) (bV l)=some (bV (dI k n l))
 | []=>rfl
 |(q,u)::l=>by
  simp only[bV,fg,kZ,dI];cases h:(k==q)
  ·simp only[rC k n l];rfl
  ·simp[AP,bV]
theorem AR:∀l:List (Wd×Nat),lw (bV l)=some (l.map (·.1))
 | []=>rfl
 |(q,u)::l=>by simp only[bV,lw,AR l,cB]
def AS(k:Wd)(n:Nat)(l:List (Wd×Nat)):(dI k n l).map (·.1)=if k∈l.map (·.1)then l.map (·.1)else l.map (·.1)++[k]:=by
 induction l with
 |nil=>simp[dI]
 |cons e l ih=>
  obtain⟨q,u⟩:=e;by_cases h:k=q
  ·subst h;simp[dI]
  ·have hb:(k==q)=false:=by simpa using h
   simp only[dI,hb,bg,if_false,cB,ih,cY,h,false_or];split<;>simp
def AU{k:Wd}{n:Nat}{l:List (Wd×Nat)}(h:(l.map (·.1)).Nodup):((dI k n l).map (·.1)).Nodup:=by
 rw[AS];split
 ·exact h
 ·rename_i hk;rw[zU];exact⟨h,by simp,fun a ha b hb=>by simp at hb;subst hb;exact fun e=>hk (e▸ha)⟩
def AV{k q:Wd}{n:Nat}{l:List (Wd×Nat)}:q∈(dI k n l).map (·.1)↔q=k∨q∈l.map (·.1):=by
 rw[AS];split
 ·rename_i h;exact⟨.inr,fun h'=>h'.elim (fun e=>e▸h) id⟩
 ·simp only[bn,qk];exact⟨fun h=>h.symm,fun h=>h.symm⟩
theorem AW{k q:Wd}{n:Nat}:∀{l:List (Wd×Nat)},fa q (dI k n l)=if q=k then some n else fa q l
 | []=>by
  simp only[dI,fa];by_cases h:q=k
  ·subst h;simp
  ·have:(q==k)=false:=by simpa using h
   simp[this,h]
 |(r,u)::l=>by
  simp only[dI];by_cases h:k=r
  ·subst h;simp only[beq_self_eq_true,if_true,fa];by_cases e:q=k
   ·subst e;simp
   ·have:(q==k)=false:=by simpa using e
    simp[this,e]
  ·have hb:(k==r)=false:=by simpa using h
   simp only[hb,bg,if_false,fa];by_cases e:q=r
   ·subst e;simp only[beq_self_eq_true,if_true];rw[if_neg (fun e=>h e.symm)]
   ·have:(q==r)=false:=by simpa using e
    simp only[this,bg,if_false];exact AW
def fb:List Wd→List Wd
 | []=>[]
 |a::l=>if a∈fb l then fb l else a::fb l
theorem oa{a:Wd}:∀{l:List Wd},a∈fb l↔a∈l
 | []=>by simp[fb]
 |b::l=>by
  simp only[fb];split
  ·rename_i h;rw[oa,cY];exact⟨.inr,fun h'=>h'.elim (fun e=>e▸oa.1 h) id⟩
  ·simp[oa]
theorem rD:∀l:List Wd,(fb l).Nodup
 | []=>by simp[fb]
 |a::l=>by
  simp only[fb];split
  ·exact rD l
  ·rename_i h;exact mm.2 ⟨h,rD l⟩
def eU(ls:List (List ad)):List Wd:=ls.flatMap fun l=>l.flatMap fun x=>[x.1,x.2.1]
def bp(ls:List (List ad)):List Wd:=(fb (eU ls)).mergeSort leB
def Ss{ls:List (List ad)}{ks:List Wd}(hn:ks.Nodup)(hm:∀k,k∈ks↔k∈eU ls):ks.mergeSort leB=bp ls:=by
 have hp:ks.Perm (fb (eU ls)):=(List.perm_ext_iff_of_nodup hn (rD _)).2 (fun a=>by rw[hm,oa]);exact mergeSort_of_perm hp
def rE{ls:List (List ad)}{k:Wd}:k∈bp ls↔k∈eU ls:=by
 unfold bp;rw[List.mem_mergeSort,oa]
def Su(ls:List (List ad)):(bp ls).Nodup:=(List.mergeSort_perm _ _).nodup_iff.2 (rD _)
def fx(ls:List (List ad))(s:Wd):Nat:=(bp ls).idxOf s
def df(ls:List (List ad)):List UInt8:=
 bU (bp ls).length++(bp ls).flatMap fL++bU ls.length++ls.flatMap fun l=>bU l.length++l.flatMap fun x=>bU (fx ls x.1)++bU (fx ls x.2.1)
end Ps
set_option linter.defProp false
namespace Ps
set_option linter.unusedSimpArgs false
set_option linter.unusedVariables false
open Go Go.Proofs
structure uX(O:List (List PV))(T0:List (Nat×Nat))(done:List K2)(pl:List (Wd×Nat))(S:St):Prop where
 st:∃xs,S=⟨O++[bV pl]++xs,T0⟩
 nd:(pl.map (·.1)).Nodup
 mem:∀k,k∈pl.map (·.1)↔∃e∈done,k=e.1∨k=e.2
def Sv{O:List (List PV)}{T0:List (Nat×Nat)}{Post:Fr→St→Prop}:∀(N:Nat) (ps:List (PV×PV)) (rem done:List K2) (pl:List (Wd×Nat)) (fr:Fr) (S:St),(ps.map (·.1)).Perm (rem.map de)→rem.length=N →
  uX O T0 done pl S→fr 4=.map O.length→(∀fr' S' pl' done',fr' 4=.map O.length→uX O T0 done' pl' S'→(∀e,e∈done'↔e∈done∨e∈rem)→Post fr' S') →
  mj tie (qP la) 17 oe la og Post N ps fr S:=by
 intro N
 induction N with
 |zero=>
  intro ps rem done pl fr S hp hr hA h4 hQ;have hr':rem=[]:=fW.1 hr;subst hr';have hps:ps=[]:=by simpa using hp
  subst hps
  exact⟨rfl,hQ fr S pl done h4 hA (fun e=>by simp)⟩
 |succ N ih=>
  intro ps rem done pl fr S hp hr hA h4 hQ;refine aAv ?_;intro k v rem' r hpp;have hmem:k∈rem.map de:=hp.mem_iff.1 ((hpp.map (·.1)).mem_iff.2 (by simp));obtain⟨e,he,rfl⟩:=List.mem_map.1 hmem;have hpr:rem.Perm (e::rem.erase e):=zW he
  have hp2:(rem'.map (·.1)).Perm ((rem.erase e).map de):=by
   have h1:=((hpp.map (·.1)).symm.trans hp).trans (hpr.map _);simpa using h1
  obtain⟨a,b⟩:=e;obtain⟨⟨xs,rfl⟩,hnd,hmm⟩:=hA
  have hA2:uX O T0 (done++[(a,b)]) (dI b 0 (dI a 0 pl)) ⟨O++[bV (dI b 0 (dI a 0 pl))]++(xs++[[.str a,.str b]]),T0⟩:=by
   refine⟨⟨_,rfl⟩,AU (AU hnd),fun k=>?_⟩;rw[AV,AV,hmm];constructor
   ·rintro(rfl|rfl|⟨e,he,h⟩)
    ·exact⟨(a,k),by simp,.inr rfl⟩
    ·exact⟨(k,b),by simp,.inl rfl⟩
    ·exact⟨e,by simp[he],h⟩
   ·rintro⟨e,he,h⟩;rcases bn.1 he with he|he
    ·exact .inr (.inr ⟨e,he,h⟩)
    ·simp at he;subst he;rcases h with h|h
     ·exact .inr (.inl h)
     ·exact .inl h
  have hnext:∀fr':Fr,fr' 4=.map O.length→mj tie (qP la) 17 oe la og Post N rem' fr' ⟨O++bV (dI b 0 (dI a 0 pl))::(xs++[[.str a,.str b]]),T0⟩:=by
   intro fr' h4'
   have:=ih rem' (rem.erase (a,b)) (done++[(a,b)]) _ fr' _ hp2 (by have:=hpr.length_eq;simp at this;omega) hA2 h4' (fun fr2 S2 pl2 done2 g4 gA gm=>hQ fr2 S2 pl2 done2 g4 gA (fun e=>by
    rw[gm e,hpr.mem_iff];simp only[bn,cY,zV,or_false];constructor
    ·rintro((h|h)|h)
     ·exact .inl h
     ·exact .inr (.inl h)
     ·exact .inr (.inr h)
    ·rintro(h|h|h)
     ·exact .inl (.inl h)
     ·exact .inl (.inr h)
     ·exact .inr h))
   simpa using this
  have hn:∀c:List PV,(O++c::(xs++[[PV.str a,.str b]]))[O.length+(xs.length+1)]?=some [.str a,.str b]:=fun c=>by
   rw[eH (by omega)];simp
  have ht:∀c:List PV,(O++c::(xs++[[PV.str a,.str b]]))[O.length]?=some c:=fun c=>by simp
  have hset:∀c d:List PV,(O++c::(xs++[[PV.str a,.str b]])).set O.length d=O++d::(xs++[[PV.str a,.str b]]):=fun c d=>by simp
  have hld:∀(c:List PV) (j:Nat),cO ⟨O++c::(xs++[[PV.str a,.str b]]),T0⟩ false 1 (.ptr (O.length+(xs.length+1)) j)=ap false 1 ([PV.str a,.str b].drop j):=fun c j=>dG (hn c);have hm1:fg (.str a) (.int .i64 0) (bV pl)=some (bV (dI a 0 pl)):=rC a 0 pl;have hm2:fg (.str b) (.int .i64 0) (bV (dI a 0 pl))=some (bV (dI b 0 (dI a 0 pl))):=rC b 0 (dI a 0 pl);have hni:(O.length+(xs.length+1) != O.length)=true:=by simp
  simp -implicitDefEqProofs [Tw,de,aH,cR,bB];refine yq tieOk rfl ?_;simp -implicitDefEqProofs [jg,UA,Tx,h4,hld,dD,aH,ht,hm1,hm2,nN,hni,hset,la,qP,eB];exact hnext _ (by simp[h4])
def gv(l:List Wd):PV:=if l.isEmpty then .nils else .sl none (l.map .str) []
def rF(l:List Wd):bM 1 (gv l) (l.map .str):=by
 unfold gv
 cases l with
 |nil=>exact kg 1
 |cons a r=>exact nP (fun e he=>by obtain⟨x,_,rfl⟩:=List.mem_map.1 he;rfl) (ju _ (fun _=>rfl) _) (jv _ (fun _=>rfl) _)
def Sw:T.fn 314=some (.code ov):=rfl
def Sy:T.fn 199=some (.exs (nO 362)):=rfl
def kQ{T:aM}{f:Nat}{e:List PV→St→Option (PV×St)}(hf:T.fn f=some (.exs e)){args:List PV}{S:St}{r:PV×St}(h:e args S=some r):aS T f args S=some r:=by
 exact xB 1 (by simp only[ax,hf];exact h)
def Sz{S:St}{m:Nat}:aS T 314 [.map m] S=some (.fn 362 [.ptr S.objs.length 0],⟨S.objs++[[.map m]],S.tips⟩):=by
 refine cM Sw rfl ?_;simp -implicitDefEqProofs [ov,aH,cR];unfold ac
 have:aj (S.objs++[[PV.map m]]) S.objs.length dJ (.fn 362 [.ptr S.objs.length 0])=none:=by
  have a1:aj (S.objs++[[PV.map m]]) S.objs.length 38 (.map m)=none:=rfl
  have a2:aj (S.objs++[[PV.map m]]) S.objs.length 39 (.ptr S.objs.length 0)=none:=by
   rw[aj];simp only[PV.free,bg,if_false,aR,if_true];simp[cD,a1]
  show aj (S.objs++[[PV.map m]]) S.objs.length (39+1) (.fn 362 [.ptr S.objs.length 0])=none;rw[aj];simp only[PV.free,PV.freeL,Bool.false_and,bg,if_false];simp only[cD,a2]
 simp[this]
def TA{S:St}{m:Nat}{l:List (Wd×Nat)}(hm:S.objs[m]?=some (bV l))(hl:l.length≤1048576)(hn:∀p∈l,p.1.length≤maxLen) :
  aS T 199 [.fn 362 [.ptr S.objs.length 0]] ⟨S.objs++[[.map m]],S.tips⟩=some (gv ((l.map (·.1)).mergeSort leB),⟨S.objs++[[.map m]],S.tips⟩):=by
 refine kQ Sy ?_;have h1:(S.objs++[[PV.map m]])[S.objs.length]?=some [PV.map m]:=by simp
 have h2:(S.objs++[[PV.map m]])[m]?=some (bV l):=by rw[aw (aL.1 hm).1];exact hm
 have h3:(l.map (·.1)).length≤1048576∧(l.map (·.1)).all (fun k=>decide (k.length≤maxLen))=true:=by
  refine⟨by simpa using hl,?_⟩;simp only[List.all_eq_true,List.mem_map,decide_eq_true_eq];rintro k ⟨p,hp,rfl⟩;exact hn p hp
 simp only[nO,if_true,h1,h2,AR,if_pos h3]
 have:((l.map (·.1)).mergeSort leB).isEmpty=(l.map (·.1)).isEmpty:=by
  cases h:l.map (·.1)with
  |nil=>rw[List.mergeSort_nil]
  |cons a r=>
   have:=zR (le:=leB) (a::r)
   cases hq:(a::r).mergeSort leB with
   |nil=>rw[hq]at this;simp at this
   |cons _ _=>rfl
 unfold gv;rw[this]
theorem AX:∀l:List (K2×PV),jo (cQ l)=l.map fun e=>(de e.1,e.2)
 | []=>rfl
 |e::l=>by
  have:cQ (e::l)=de e.1::e.2::cQ l:=rfl;rw[this,jo,AX l,cB]
def TB{S S1:St}{v:PV}{t:Nat}:ac false S S1 (.tup [v,.map t])=(.tup [v,.map t],S1):=by
 have a1:∀k,aj S1.objs S.objs.length k (.map t)=none:=fun k=>by cases k<;>rfl
 have:aj S1.objs S.objs.length dJ (.tup [v,.map t])=none:=by
  show aj _ _ (39+1) _=none;rw[aj,if_neg (by simp[PV.free,PV.freeL])]
  have:cD (aj S1.objs S.objs.length 39) [v,.map t]=none:=by
   simp only[cD,a1];split<;>rfl
  simp only[this]
 simp[ac,this]
def TC{L:List Wd}(hnd:L.Nodup)(hL:L.length≤4000000000){B:List (List PV)}{T0:List (Nat×Nat)}{t:Nat}(htl:t<B.length){K:List Kt}{Q:Fr→St→Prop}{fr:Fr}{pl:List (Wd×Nat)}(hB:B[t]?=some (bV pl))
  (h28:fr 28=gv L)(h29:fr 29=.int .i64 (L.length:Int))(h4:fr 4=.map t)(h6:fr 6=gv L)(h30:fr 30=.int .i64 0)
  (kk:∀fr' pl',fr' 4=.map t→fr' 6=gv L→(∀(i:Nat)(h:i<L.length),fa L[i] pl'=some i)→Ok (aF T K fr' ⟨B.set t (bV pl'),T0⟩) Q) :
  Ok (aF T (.lp wo::.blk 2::K) fr ⟨B,T0⟩) Q:=by
 refine jp L.length (fun i fr' S'=>fr' 28=gv L∧fr' 29=.int .i64 (L.length:Int)∧fr' 4=.map t∧fr' 6=gv L∧fr' 30=.int .i64 (i:Int)∧∃pl',S'=⟨B.set t (bV pl'),T0⟩∧∀(j:Nat) (h:j<L.length),j<i→fa L[j] pl'=some j) ?_ ?_ 0 (bh _) _ _
  ⟨h28,h29,h4,h6,by simpa using h30,pl,by
   have:B.set t (bV pl)=B:=by
    apply lP;intro i;rw[tc];split
    ·rename_i e;subst e;rw[hB]
    ·rfl
   rw[this],fun j h hj=>absurd hj (Nat.not_lt_zero j)⟩
 ·rintro i fr' S' hi ⟨g28,g29,g4,g6,g30,pl',rfl,hp⟩ k;have hg:=(rF L).reads.get i (by simpa using hi) .i64;have hgx:(L.map PV.str)[i]'(by simpa using hi)=.str L[i]:=by simp
  rw[hgx]at hg;have hcs:(PV.str L[i]).cells=[.str L[i]]:=rfl;rw[hcs]at hg;have hw:IntKind.i64.wrap ((i:Int)+1)=((i+1:Nat):Int):=by rw[bT]<;>omega
  have hlt:(i:Int)<(L.length:Int):=by omega
  have ht:(B.set t (bV pl'))[t]?=some (bV pl'):=dd htl;have hm:=rC L[i] i pl';have hss:(B.set t (bV pl')).set t (bV (dI L[i] i pl'))=B.set t (bV (dI L[i] i pl')):=List.set_set ..;rw[bH];simp -implicitDefEqProofs [g28,g29,g4,g6,g30,hg,hlt,hi,dD,aH,ht,hm,eB,hss];refine k _ _ ⟨by simp[g28],by simp[g29],by simp[g4],by simp[g6],by simp[hw],_,rfl,fun j hj hji=>?_⟩;rw[AW];by_cases e:j=i
  ·subst e;rw[if_pos rfl]
  ·rw[if_neg (fun q=>e ((List.getElem_inj hnd).1 q))];exact hp j hj (by omega)
 ·rintro fr' S' ⟨g28,g29,g4,g6,g30,pl',rfl,hp⟩;rw[bH];simp -implicitDefEqProofs [g29,g30];exact kk _ pl' (by simp[g4]) (by simp[g6]) (fun i h=>hp i h h)
end Ps
set_option linter.defProp false
namespace Ps
set_option linter.unusedSimpArgs false
set_option linter.unusedVariables false
open Go Go.Proofs
def TF{ls:List (List ad)}{kv:List (K2×PV)}(hk:∀k,k∈kv.map (·.1)↔∃l∈ls,k∈l.map dr)(w:Wd):(∃e∈kv.map (·.1),w=e.1∨w=e.2)↔w∈eU ls:=by
 unfold eU;simp only[List.mem_flatMap];constructor
 ·rintro⟨e,he,hw⟩;obtain⟨l,hl,hx⟩:=(hk e).1 he;obtain⟨x,hx',rfl⟩:=List.mem_map.1 hx;refine⟨l,hl,x,hx',?_⟩;simp only[dr]at hw;rcases hw with rfl|rfl<;>simp
 ·rintro⟨l,hl,x,hx,hw⟩;refine⟨dr x,(hk _).2 ⟨l,hl,List.mem_map.2 ⟨x,hx,rfl⟩⟩,?_⟩;simpa[dr]using hw
def TG(ls:List (List ad))(S:St)(r:Rs):Prop:=∃t xs pl,r=.ret (.tup [gv (bp ls),.map t]) ⟨S.objs++xs,S.tips⟩∧(S.objs++xs)[t]?=some (bV pl)∧∀(i:Nat) (h:i<(bp ls).length),fa (bp ls)[i] pl=some i
def TH{S:St}{p:PV}{ls:List (List ad)}(h:iw S p ls)(hw:∀w∈eU ls,w.length≤maxLen)(hn:(bp ls).length≤1048576):ca tie 234 [p] S (TG ls S):=by
 obtain⟨ox,om,n0,sv,qs,kv,rfl,hne,hox,hom,hown,hql,hqs,hnd,hk⟩:=h.at_;have hlx:=(aL.1 hox).1;have hlm:=(aL.1 hom).1;refine tK tieOk UB UC rfl ?_;show W tie ul.body _ _ _;unfold ul;simp only;refine iE tieOk rfl ?_;simp -implicitDefEqProofs [wk];refine iE tieOk rfl ?_;simp -implicitDefEqProofs [wl,aH,cR];refine(fun key=>key _ ?_ ?_:(∀fr:Fr,fr 0=.ptr ox 0→fr 4=.map S.objs.length→W tie _ fr _ _)→W tie _ _ _ _) ?_
 ·simp[bX]
 ·simp
 intro fr f0 f4;have hev:(cQ kv).length%2=0:=by rw[uL];omega
 have hox1:(S.objs++[[]])[ox]?=some [sv,.map om]:=by rw[aw hlx];exact hox
 obtain⟨fr1,S1,hpre,hS1,g13,g4⟩:=yr (T:=T) (l:=ui) (fr:=fr) (S:=⟨S.objs++[[]],S.tips⟩) (P:=fun fr' S'=>S'=⟨S.objs++[[]],S.tips⟩∧fr' 13=.map om∧fr' 4=.map S.objs.length) (by
  simp -implicitDefEqProofs [ui,f0,f4,dG (S:=⟨S.objs++[[]],S.tips⟩) hox1,dD])
 subst hS1;refine lN (aAp tieOk (fr1:=fr1) (S1:=⟨S.objs++[[]],S.tips⟩) (id:=om) (cs:=cQ kv) hpre g13 (by simp only;rw[aw hlm];exact hom) hev ?_);rw[AX]
 have hum:dM om (cQ kv++[.und]) ⟨S.objs++[[]],S.tips⟩=⟨S.objs.set om (cQ kv++[.und])++[bV []]++[],S.tips⟩:=by
  simp[dM,bV,List.set_append_left _ _ hlm]
 have hOl:(S.objs.set om (cQ kv++[.und])).length=S.objs.length:=by simp
 rw[hum];refine Sv (O:=S.objs.set om (cQ kv++[.und])) (T0:=S.tips) _ _ (kv.map (·.1)) [] [] _ _ (by simp[Function.comp_def]) (by simp) ⟨⟨[],rfl⟩,by simp,fun k=>by simp⟩ (by rw[hOl];simp[la,g4]) (fun fr' S' pl done g4' hA hdone=>?_);rw[hOl]at g4';obtain⟨⟨xs,rfl⟩,hnd2,hmem⟩:=hA
 have hun2:dM om (cQ kv) ⟨S.objs.set om (cQ kv++[.und])++[bV pl]++xs,S.tips⟩=⟨S.objs++(bV pl::xs),S.tips⟩:=by
  simp only[dM,eh];rw[List.set_append_left _ _ (by rw[hOl];exact hlm),List.set_set]
  congr 2
  apply lP;intro i;rw[tc];split
  ·rename_i e;subst e;rw[hom]
  ·rfl
 simp only[hun2]
 have hks:(pl.map (·.1)).mergeSort leB=bp ls:=Ss hnd2 (fun k=>by
  rw[hmem,←TF hk];constructor
  ·rintro⟨e,he,h⟩;exact⟨e,by have:=(hdone e).1 he;simpa using this,h⟩
  ·rintro⟨e,he,h⟩;exact⟨e,(hdone e).2 (.inr he),h⟩)
 have hmw:∀q∈pl,q.1∈eU ls:=fun q hq=>by
  rw[←rE,←hks,List.mem_mergeSort];exact List.mem_map.2 ⟨q,hq,rfl⟩
 have hpll:pl.length=(bp ls).length:=by rw[←hks];simp
 have ht:(S.objs++(bV pl::xs))[S.objs.length]?=some (bV pl):=by simp
 have hsv:=TA (S:=⟨S.objs++(bV pl::xs),S.tips⟩) (m:=S.objs.length) ht (by omega) (fun q hq=>hw _ (hmw q hq));rw[hks]at hsv;have hkv:=Sz (S:=⟨S.objs++(bV pl::xs),S.tips⟩) (m:=S.objs.length);have hln:=(rF (bp ls)).len;rw[dN]at hln;obtain⟨B,hB⟩:∃B,B=S.objs++(bV pl::xs)++[[.map S.objs.length]]:=⟨_,rfl⟩;simp only at hsv hkv;rw[←hB]at hsv hkv;have hpl:(S.objs++(bV pl::xs)).length=S.objs.length+(xs.length+1):=by simp
 rw[hpl]at hsv hkv;have hBt:B[S.objs.length]?=some (bV pl):=by rw[hB,eh];simp
 have hBl:S.objs.length<B.length:=(aL.1 hBt).1;have hBg:∀c,∃ys,B.set S.objs.length c=S.objs++ys:=fun c=>⟨c::(xs++[[.map S.objs.length]]),by rw[hB,eh,tj _ _ (aR _)];simp⟩;clear hpre hum hun2 hmem hdone;refine iE tieOk rfl ?_;simp -implicitDefEqProofs [jg,wm,g4',hkv,hsv];refine iE tieOk rfl ?_;simp -implicitDefEqProofs [jg,wn,hln];refine TC (Su ls) (by omega) hBl hBt (by simp) (by simp) (by simp[g4']) (by simp) (by simp) (fun fr2 pl2 k4 k6 hpl2=>?_);simp -implicitDefEqProofs;refine Pq tieOk rfl ?_;simp -implicitDefEqProofs [jg,wq,k4,k6];rw[TB];obtain⟨ys,hys⟩:=hBg (bV pl2);refine⟨S.objs.length,ys,pl2,by rw[hys],by rw[←hys];exact dd hBl,hpl2⟩
end Ps
