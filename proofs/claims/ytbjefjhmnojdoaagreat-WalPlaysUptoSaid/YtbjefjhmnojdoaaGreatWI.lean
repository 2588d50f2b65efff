/- wal.Of, whole. -/
import Derived.Test.YtbjefjhmnojdoaaGreatDefs
import Derived.Test.YtbjefjhmnojdoaaGreatWG
set_option linter.defProp false
namespace Ps
set_option linter.unusedSimpArgs false
set_option linter.unusedVariables false
open Go
def aL1:T.fn 143=some (.code qk):=rfl
def aL2:T.fn 246=some (.code z6):=rfl
def aL3{a b:List UInt8}{va vb:PV}(ha:bT 1 va (aL a))(hb:bT 1 vb (aL b))(hl:a.length=b.length)(hm:a.length≤67108864){K:List Kt}{Q:Fr→St→Prop}{S:St}:∀(r q p1 p2:List UInt8) (fr:Fr),a=p1++r→b=p2++q→p1.length=p2.length →
  fr 0=va→fr 1=vb→fr 12=.int .i64 a.length→fr 13=.int .i64 p1.length →
  (r≠q→∀fr',fr' 4=.bool false→Q fr' S)→(r=q→∀fr',Ok (aJ T K fr' S) Q) →
  Ok (aJ T (.lp Bn::.blk 0::K) fr S) Q:=by
 intro r
 induction r with
 |nil=>
  intro q p1 p2 fr e1 e2 hp h0 h1 h12 h13 k1 k2
  have hq:q=[]:=by
   have:=congrArg List.length e1;have:=congrArg List.length e2;simp only[List.length_append,cT]at *;exact List.length_eq_zero_iff.1 (by omega)
  have hx:¬(p1.length:Int)<(a.length:Int):=by rw[e1];simp
  rw[af];simp -implicitDefEqProofs [h12,h13,hx]
  exact k2 hq.symm _
 |cons x r ih=>
  intro q p1 p2 fr e1 e2 hp h0 h1 h12 h13 k1 k2
  cases q with
  |nil=>
   have:=congrArg List.length e1;have:=congrArg List.length e2;simp only[List.length_append,cT,bV]at *
   omega
  |cons y q=>
   have hlt:p1.length<a.length:=by rw[e1];simp
   have hlt':(p1.length:Int)<(a.length:Int):=by omega
   have g1:=yy ha e1;have g2:=yy hb e2;rw[←hp]at g2;have hw:=dR (a:=p1.length) (by omega);rw[af];by_cases hxy:x=y
   ·subst hxy;simp -implicitDefEqProofs [h0,h1,h12,h13,hlt',hlt,g1,g2,ba,hw];exact ih q (p1++[x]) (p2++[x]) _ (by simp[e1]) (by simp[e2]) (by simp[hp]) (by simp[h0]) (by simp[h1]) (by simp[h12]) (by simp[hw]) (fun hne=>k1 (by simpa using hne)) (fun he=>k2 (by rw[he]))
   ·have hne:((x.toNat:Int) != (y.toNat:Int))=true:=by
     simp only[bne_iff_ne,ne_eq];intro h;exact hxy (UInt8.toNat_inj.1 (by omega))
    simp -implicitDefEqProofs [h0,h1,h12,h13,hlt',hlt,g1,g2,ba,hw,hne];exact k1 (by simp[hxy]) _ (by simp)
def aL4{a b:List UInt8}{va vb:PV}(ha:bG 1 va (aL a))(hb:bG 1 vb (aL b))(hm:b.length≤67108864)(S:St):aO T 246 [va,vb] S=some (.bool (decide (a=b)),S):=by
 have l1:=ha.len;have l2:=hb.len;rw[bO]at l1 l2;refine aW aL2 rfl ?_;by_cases hl:a.length=b.length
 ·have hne:((a.length:Int) != (b.length:Int))=false:=by rw[hl];simp
  simp -implicitDefEqProofs [z6,l1,l2,hne];refine aL3 ha.reads hb.reads hl (by omega) a b [] [] _ rfl rfl rfl (by simp) (by simp) (by simp) (by simp) (fun hne fr' h4=>?_) (fun he fr'=>?_)
  ·rw[ul,h4];simp[hne]
  ·subst he;simp
 ·have hne:((a.length:Int) != (b.length:Int))=true:=by
   simp only[bne_iff_ne,ne_eq];omega
  have hd:decide (a=b)=false:=by
   simp only[decide_eq_false_iff_not];intro h;exact hl (by rw[h])
  simp -implicitDefEqProofs [z6,l1,l2,hne,hd]
def bu:List PV:=[.int .i64 0,.nils,.nils,.nils,.int .i64 0,.int .i64 0]
def AI:az:=(.seq (.seq (.clr [(84,91)] (.region xI)) (.cond (.tmp 91) (.seq (.clr [(92,93)] (.region xJ)) .ret) .skip)) (.seq (.seq (.clr [(93,98)] (.region xK)) (.seq (.clr [(98,105)] (.region xL)) (.cond (.tmp 105) (.seq (.clr [(106,107)] (.region xM)) .ret) .skip))) (.seq (.clr [(107,108)] (.region xN)) .ret)))
def aL5(K:List Kt)(fr:Fr)(S:St):aJ T (.code AI::K) fr S=aJ T (.code (.seq (.seq (.clr [(84,91)] (.region xI)) (.cond (.tmp 91) (.seq (.clr [(92,93)] (.region xJ)) .ret) .skip)) (.seq (.seq (.clr [(93,98)] (.region xK)) (.seq (.clr [(98,105)] (.region xL)) (.cond (.tmp 105) (.seq (.clr [(106,107)] (.region xM)) .ret) .skip))) (.seq (.clr [(107,108)] (.region xN)) .ret)))::K) fr S:=rfl
def mA{r:bq}{cs:List PV}(h:dG r cs):cs.length=6∧cs.all PV.one=true:=by
 obtain⟨⟨vl,vr,vi,rfl,h1,h2,h3⟩,_⟩:=h;exact⟨rfl,jk h1 h2 h3⟩
def AJ{ca cs:List PV}(h:ca.length=cs.length):aR ca 0 cs=cs:=by
 simp[aR,h]
def jm{cs:List PV}(h:cs.length=6):ae true 6 cs=some (.agg cs):=by
 simp only[ae,h,aj,if_true];rw[←h,iy]
def AK{s:List UInt8}{v:PV}(hv:bG 1 v (aL s))(hs:s.length≤67108864){a i j p e:Nat}{bad:Bool}{S0:St}{Q:Fr→St→Prop}{fr:Fr}{S:St}{r:bq}{ca cs:List PV}
  (h0:fr 0=v)(h2:fr 2=.ptr a 0)(h4:fr 4=.ptr i 0)(h5:fr 5=.ptr j 0)(h6:fr 6=.int .i64 (e:Int))(oa:S.objs[a]?=some ca)(hca:ca.length=6)
  (oi:S.objs[i]?=some [v,.int .i64 (p:Int),.bool bad])(oj:S.objs[j]?=some cs)(hr:bad=false→e=0→dG r cs)(hgr:aP S0 S)(hal:S0.objs.length≤a)
  (k1:¬(bad=false∧e=0∧cH r=0∧bW r=s)→∀fr' S',fr' 2=.ptr a 0→fr' 3=.int .i64 5→S'.objs[a]?=some bu→aP S0 S'→Q fr' S')
  (k2:bad=false→e=0→cH r=0→bW r=s→∀fr' S',fr' 2=.ptr a 0→fr' 3=.int .i64 0→S'.objs[a]?=some cs→aP S0 S'→Q fr' S') :
  Ok (aJ T [.code AI] fr S) Q:=by
 have hlt:a<S.objs.length:=(aS.1 oa).1;have hca':ca.length=bu.length:=hca;have he:∀cs':List PV,cs'.length=6→aR ca 0 cs'=cs':=fun cs' h=>AJ (by rw[hca,h]);have hne:=he bu rfl;unfold bu at hne;rw[aL5]
 cases hbad:bad with
 |true=>
  rw[hbad]at oi;simp -implicitDefEqProofs [h0,h2,h4,h5,h6,aU oi,ba,jR,ae,aQ,bK,aI,oa,hca,hne]
  exact k1 (by simp[hbad]) _ _ (by simp[h2]) (by simp) (by simp[bu,hlt]) (hgr.set hal)
 |false=>
  rw[hbad]at oi;by_cases hee:e=0
  ·subst hee;have hR:=hr hbad rfl;obtain⟨hc6,hc1⟩:=mA hR;have hne2:=he cs hc6;by_cases hN:cH r=0
   ·obtain⟨w,b1,b2⟩:=Yp hR hN S;have hq:=aL4 b2.isl hv hs S;by_cases hB:bW r=s
    ·have hq':aO T 246 [w,v] S=some (.bool true,S):=by rw[hq];simp[hB]
     simp -implicitDefEqProofs [-List.all_eq_true,h0,h2,h4,h5,h6,aU oi,aU oj,ba,jR,jm hc6,aQ,bK,aI,oa,hca,hc6,hc1,hne2,b1,hq'];exact k2 hbad rfl hN hB _ _ (by simp[h2]) (by simp) (by simp[hlt]) (hgr.set hal)
    ·have hq':aO T 246 [w,v] S=some (.bool false,S):=by rw[hq];simp[hB]
     simp -implicitDefEqProofs [-List.all_eq_true,h0,h2,h4,h5,h6,aU oi,aU oj,ba,jR,jm hc6,aQ,bK,aI,oa,hca,hc6,hc1,hne,b1,hq'];exact k1 (by simp[hB]) _ _ (by simp[h2]) (by simp) (by simp[bu,hlt]) (hgr.set hal)
   ·have b1:=Yn hR hN S;have hn1:((cH r:Int) != 0)=true:=by simpa using hN
    simp -implicitDefEqProofs [-List.all_eq_true,h0,h2,h4,h5,h6,aU oi,aU oj,ba,jR,jm hc6,aQ,bK,aI,oa,hca,hc6,hc1,hne,b1,hn1];exact k1 (by simp[hN]) _ _ (by simp[h2]) (by simp) (by simp[bu,hlt]) (hgr.set hal)
  ·have hn1:((e:Int) != 0)=true:=by simpa using hee
   simp -implicitDefEqProofs [h0,h2,h4,h5,h6,aU oi,ba,jR,ae,aQ,bK,aI,oa,hca,hne,hn1];exact k1 (by simp[hee]) _ _ (by simp[h2]) (by simp) (by simp[bu,hlt]) (hgr.set hal)
def mj(s:List UInt8)(p:Nat)(bad:Bool):cg×Nat×Bool:=
  ((((bM s p bad).1:Int),((bM s (bM s p bad).2.1 (bM s p bad).2.2).1:Int),ir (bM s (bM s (bM s p bad).2.1 (bM s p bad).2.2).2.1 (bM s (bM s p bad).2.1 (bM s p bad).2.2).2.2).1),
   (bM s (bM s (bM s p bad).2.1 (bM s p bad).2.2).2.1 (bM s (bM s p bad).2.1 (bM s p bad).2.2).2.2).2)
def iW(s:List UInt8):Nat→List cg→Nat→Bool→List cg×Nat×Bool
 |0,l,p,bad=>(l,p,bad)
 |m+1,l,p,bad=>if bad=true then(l,p,bad)else iW s m (l++[(mj s p bad).1]) (mj s p bad).2.1 (mj s p bad).2.2
def aL6{s:List UInt8}:∀(m:Nat) (l:List cg) (p:Nat) (bad:Bool),(iW s m l p bad).1.length≤l.length+m:=by
 intro m
 induction m with
 |zero=>intro l p bad;simp[iW]
 |succ m ih=>
  intro l p bad;rw[iW];split
  ·simp
  ·have:=ih (l++[(mj s p bad).1]) (mj s p bad).2.1 (mj s p bad).2.2;simp only[List.length_append,bV,cT]at this;omega
def Fa{s:List UInt8}{p:Nat}{bad:Bool}:(bM s p bad).1<9223372036854775808:=by
 unfold bM;split
 ·simp
 ·split
  ·simp
  ·rename_i h;exact(kK (s:=s) (i:=(p:Int)) (by simpa using h)).2
def sV(l:List cg):∀e∈l.map dC,e.cells.length=3:=by
 intro e he;obtain⟨x,_,rfl⟩:=cD.1 he;rfl
def AL(l:List cg):PV.freeL (l.map dC)=true:=lY dC (fun _=>rfl) l
def Fb(l:List cg):PV.frzL (l.map dC)=l.map dC:=mb dC (fun _=>rfl) l
def aL7{s:List UInt8}{v:PV}(hv:bG 1 v (aL s))(hs:s.length≤67108864){n:Nat}{i j:Nat}(hij:i≠j){S0:St}(hi:S0.objs.length≤i)(hj:S0.objs.length≤j){kd vl vi lo hh f0 f2 f6:PV}{K:List Kt}{Q:Fr→St→Prop}:∀(m:Nat) (l:List cg) (p:Nat) (bad:Bool),l.length+m=min n 65→∀(fr:Fr) (S:St) (vr:PV),
  fr 0=f0→fr 2=f2→fr 4=.ptr i 0→fr 5=.ptr j 0→fr 6=f6→fr 7=.int .i64 (n:Int)→S.objs[i]?=some [v,.int .i64 (p:Int),.bool bad]→S.objs[j]?=some [kd,vl,vr,vi,lo,hh]→bB S0 3 S vr (l.map dC) →
  (∀fr' S' vr',fr' 0=f0→fr' 2=f2→fr' 4=.ptr i 0→fr' 5=.ptr j 0→fr' 6=f6→S'.objs[i]?=some [v,.int .i64 ((iW s m l p bad).2.1:Int),.bool (iW s m l p bad).2.2]→S'.objs[j]?=some [kd,vl,vr',vi,lo,hh] →
   (∀a,a≠i→a≠j→S'.objs[a]?=S.objs[a]?)→bB S0 3 S' vr' ((iW s m l p bad).1.map dC)→Ok (aJ T K fr' S') Q) →
  Ok (aJ T (.lp tR::.blk 1::K) fr S) Q:=by
 intro m
 induction m with
 |zero=>
  intro l p bad hl fr S vr h0 h2 h4 h5 h6 h7 oi oj ha k;have hlen:=(ha.isSl (sV _)).len;rw[List.length_map]at hlen;have hmn:(if(65:Int)<(n:Int)then(65:Int)else(n:Int))=((min n 65:Nat):Int):=by split<;>omega
  have hlt:¬(l.length:Int)<((min n 65:Nat):Int):=by omega
  rw[af];simp -implicitDefEqProofs [h4,h5,h7,aU oi,aU oj,ba,hlen,hmn,hlt]
  exact k _ S vr (by simp[h0]) (by simp[h2]) (by simp[h4]) (by simp[h5]) (by simp[h6]) (by simpa[iW]using oi) oj (fun _ _ _=>rfl) (by simpa[iW]using ha)
 |succ m ih=>
  intro l p bad hl fr S vr h0 h2 h4 h5 h6 h7 oi oj ha k;have hlen:=(ha.isSl (sV _)).len;rw[List.length_map]at hlen;have hmn:(if(65:Int)<(n:Int)then(65:Int)else(n:Int))=((min n 65:Nat):Int):=by split<;>omega
  have hlt:(l.length:Int)<((min n 65:Nat):Int):=by omega
  rw[iW]at k;rw[af]
  cases hbad:bad with
  |true=>
   subst hbad;simp only[if_true]at k;simp -implicitDefEqProofs [h4,h5,h7,aU oi,aU oj,ba,hlen,hmn,hlt]
   exact k _ S vr (by simp[h0]) (by simp[h2]) (by simp[h4]) (by simp[h5]) (by simp[h6]) (by simpa using oi) oj (fun _ _ _=>rfl) (by simpa using ha)
  |false=>
   subst hbad;rw[if_neg (by decide)]at k;unfold mj at k;simp only at k;have il:i<S.objs.length:=(aS.1 oi).1;have jl:j<S.objs.length:=(aS.1 oj).1;have c1:=qJ hv hs oi;obtain⟨⟨n1,p1,b1⟩,e1⟩:∃q,bM s p false=q:=⟨_,rfl⟩;rw[e1]at c1 k;simp only at c1 k;have oi1:(St.mk (S.objs.set i [v,.int .i64 (p1:Int),.bool b1]) S.tips).objs[i]?=some [v,.int .i64 (p1:Int),.bool b1]:=by simp[il]
   have c2:=qJ hv hs oi1;obtain⟨⟨n2,p2,b2⟩,e2⟩:∃q,bM s p1 b1=q:=⟨_,rfl⟩;rw[e2]at c2 k;simp only[Ad]at c2 k;have oi2:(St.mk (S.objs.set i [v,.int .i64 (p2:Int),.bool b2]) S.tips).objs[i]?=some [v,.int .i64 (p2:Int),.bool b2]:=by simp[il]
   have c3:=qJ hv hs oi2;have hn3:=Fa (s:=s) (p:=p2) (bad:=b2);obtain⟨⟨n3,p3,b3⟩,e3⟩:∃q,bM s p2 b2=q:=⟨_,rfl⟩;rw[e3]at c3 k hn3;simp only[Ad]at c3 k hn3;have hz:=aLT hn3;have oj1:(St.mk (S.objs.set i [v,.int .i64 (p1:Int),.bool b1]) S.tips).objs[j]?=some [kd,vl,vr,vi,lo,hh]:=by simp[ak hij,oj]
   have oj2:(St.mk (S.objs.set i [v,.int .i64 (p2:Int),.bool b2]) S.tips).objs[j]?=some [kd,vl,vr,vi,lo,hh]:=by simp[ak hij,oj]
   have oj3:(St.mk (S.objs.set i [v,.int .i64 (p3:Int),.bool b3]) S.tips).objs[j]?=some [kd,vl,vr,vi,lo,hh]:=by simp[ak hij,oj]
   have q1:=Fn (i:=j) (v:=.int .i64 (n1:Int)) oj oj1;have q2:=Fn (i:=j) (v:=.int .i64 (n2:Int)) oj1 oj2;have q3:=Fn (i:=j) (v:=.int .i64 (n3:Int)) oj2 oj3
   have ha3:bB S0 3 ⟨S.objs.set i [v,.int .i64 (p3:Int),.bool b3],S.tips++[(1,3)]⟩ vr (l.map dC):=by
    have:=bB.arrs (⟨ha.grows.set (x:=[v,.int .i64 (p3:Int),.bool b3]) hi,ha.acc⟩:bB S0 3 ⟨S.objs.set i [v,.int .i64 (p3:Int),.bool b3],S.tips⟩ vr (l.map dC)) [(1,3)];exact this
   obtain⟨vr',S',f1,f2,f3⟩:=ha3.app (bytes:=24) [dC ((n1:Int),(n2:Int),ir n3)] (by simp;omega);obtain⟨so,stp⟩:=S';simp only at f3;subst f3;simp only[dC]at f1;obtain⟨cc,co⟩:=lA f2;simp -implicitDefEqProofs [h4,h5,h7,aU oi,aU oj,ba,hlen,hmn,hlt,c1,c2,c3,q1,q2,q3,hz,aQ,bK,aR,aI,bL,bR,f1,cc,co,ak hij,oj];have oiF:((S.objs.set i [v,.int .i64 (p3:Int),.bool b3]).set j [kd,vl,vr',vi,lo,hh])[i]?=some [v,.int .i64 (p3:Int),.bool b3]:=by rw[ak (Ne.symm hij)];simp[il]
   refine ih (l++[((n1:Int),(n2:Int),ir n3)]) p3 b3 (by simp;omega) _ ⟨(S.objs.set i [v,.int .i64 (p3:Int),.bool b3]).set j [kd,vl,vr',vi,lo,hh],stp⟩ vr' (by simp[h0]) (by simp[h2]) (by simp[h4]) (by simp[h5]) (by simp[h6]) (by simp[h7]) oiF (by simp[jl]) ⟨f2.grows.set hj,by simpa[dC]using f2.acc⟩ (fun fr' S' vr'' g0 g2 g4 g5 g6 gi gj go ga=>k fr' S' vr'' g0 g2 g4 g5 g6 gi gj (fun a a1 a2=>?_) ga);rw[go a a1 a2];simp[ak (Ne.symm a1),ak (Ne.symm a2)]
end Ps
set_option linter.defProp false
namespace Ps
set_option linter.unusedSimpArgs false
set_option linter.unusedVariables false
open Go
def fR(s:List UInt8):bq×Bool:=
 if(bM s 0 false).1=1 then(⟨1,(hU s (bM s 0 false).2.1).1,[],[],0,0⟩,!(bM s 0 false).2.2&&decide ((hU s (bM s 0 false).2.1).2.2=0))else
 if(bM s 0 false).1=2 then
  (⟨2,[],(iW s (min (bM s (bM s 0 false).2.1 (bM s 0 false).2.2).1 65) [] (bM s (bM s 0 false).2.1 (bM s 0 false).2.2).2.1 (bM s (bM s 0 false).2.1 (bM s 0 false).2.2).2.2).1,[],0,0⟩,
   !(iW s (min (bM s (bM s 0 false).2.1 (bM s 0 false).2.2).1 65) [] (bM s (bM s 0 false).2.1 (bM s 0 false).2.2).2.1 (bM s (bM s 0 false).2.1 (bM s 0 false).2.2).2.2).2.2)else
 if(bM s 0 false).1=3 then
  (⟨3,[],[],(dv s (bM s 0 false).2.1).1,(bM s (dv s (bM s 0 false).2.1).2.1 (bM s 0 false).2.2).1,
   (bM s (bM s (dv s (bM s 0 false).2.1).2.1 (bM s 0 false).2.2).2.1 (bM s (dv s (bM s 0 false).2.1).2.1 (bM s 0 false).2.2).2.2).1⟩,
   !(bM s (bM s (dv s (bM s 0 false).2.1).2.1 (bM s 0 false).2.2).2.1 (bM s (dv s (bM s 0 false).2.1).2.1 (bM s 0 false).2.2).2.2).2.2&&decide ((dv s (bM s 0 false).2.1).2.2=0))else
 (⟨(bM s 0 false).1,[],[],[],0,0⟩,!(bM s 0 false).2.2)
def AM:eV []=0:=mY.2 ⟨by simp,by simp,by simp⟩
def Yu{s:List UInt8}{i:Int}:eV (hU s i).1=0:=by
 unfold hU;split
 ·exact AM
 ·split
  ·exact AM
  ·split
   ·exact AM
   ·split
    ·exact AM
    ·rename_i h;simpa using h
def Fc:az:=(.seq (.region wz) (.seq (.seq (.clr [(16,17)] (.region xA)) (.block 0 (.seq (.clr [(19,20)] (.region xB)) (.cond (.tmp 18) (.clr [(20,31)] (.region xC)) (.seq (.clr [(32,33)] (.region xD)) (.cond (.tmp 31) (.seq (.clr [(33,35)] (.region xE)) (.block 1 (.loop tR))) (.seq (.clr [(63,64)] (.region xF)) (.cond (.tmp 62) (.seq (.clr [(64,78)] (.region xG)) (.clr [(78,84)] (.region xH))) .skip)))))))) AI))
def aL8(K:List Kt)(fr:Fr)(S:St):aJ T (.code Fc::K) fr S=aJ T (.code (.seq (.region wz) (.seq (.seq (.clr [(16,17)] (.region xA)) (.block 0 (.seq (.clr [(19,20)] (.region xB)) (.cond (.tmp 18) (.clr [(20,31)] (.region xC)) (.seq (.clr [(32,33)] (.region xD)) (.cond (.tmp 31) (.seq (.clr [(33,35)] (.region xE)) (.block 1 (.loop tR))) (.seq (.clr [(63,64)] (.region xF)) (.cond (.tmp 62) (.seq (.clr [(64,78)] (.region xG)) (.clr [(78,84)] (.region xH))) .skip)))))))) AI))::K) fr S:=rfl
def aL9:qk=⟨1,[.cell 2 true 6,.tmp 3],
 (.seq (.region BO) (.seq (.clr [(10,13)] (.region BP)) (.seq (.clr [(13,16)] (.region BQ)) Fc))),false⟩:=rfl
def Yv(k:Int):dG ⟨k,[],[],[],0,0⟩ [.int .i64 k,.nils,.nils,.nils,.int .i64 0,.int .i64 0]:=
 ⟨⟨.nils,.nils,.nils,rfl,.inl ⟨rfl,rfl⟩,.inl ⟨rfl,rfl⟩,.inl ⟨rfl,rfl⟩⟩,by simp[maxLen]⟩
def kS(sz:Nat):bG sz .nils []:=.inl ⟨rfl,rfl⟩
def lB{n:Nat}(h:n≤67108864):n≤maxLen:=by unfold maxLen;omega
def aMa{s:List UInt8}{v:PV}(hv:bG 1 v (aL s))(hs:s.length≤67108864){a i j:Nat}(hai:a≠i)(haj:a≠j)(hij:i≠j){S0:St}{Q:Fr→St→Prop}{fr:Fr}{S:St}
  (h0:fr 0=v)(h2:fr 2=.ptr a 0)(h4:fr 4=.ptr i 0)(h5:fr 5=.ptr j 0)(oa:S.objs[a]?=some bu)
  (oi:S.objs[i]?=some [v,.int .i64 ((bM s 0 false).2.1:Int),.bool (bM s 0 false).2.2])(oj:S.objs[j]?=some [.int .i64 ((bM s 0 false).1:Int),.nils,.nils,.nils,.int .i64 0,.int .i64 0])
  (hgr:aP S0 S)(hal:S0.objs.length≤a)(hil:S0.objs.length≤i)(hjl:S0.objs.length≤j)
  (k1:¬((fR s).2=true∧cH (fR s).1=0∧bW (fR s).1=s)→∀fr' S',fr' 2=.ptr a 0→fr' 3=.int .i64 5→S'.objs[a]?=some bu→aP S0 S'→Q fr' S')
  (k2:(fR s).2=true→cH (fR s).1=0→bW (fR s).1=s→∀fr' S' cs,PV.freeL cs=true→dG (fR s).1 (PV.frzL cs)→cs.length=6→fr' 2=.ptr a 0→fr' 3=.int .i64 0→S'.objs[a]?=some cs→aP S0 S'→Q fr' S') :
  Ok (aJ T [.code Fc] fr S) Q:=by
 have al:a<S.objs.length:=(aS.1 oa).1;have il:i<S.objs.length:=(aS.1 oi).1;have jl:j<S.objs.length:=(aS.1 oj).1;unfold fR at k1 k2;have hklt:=Fa (s:=s) (p:=0) (bad:=false);obtain⟨⟨k,p,bad⟩,hk⟩:∃q,bM s 0 false=q:=⟨_,rfl⟩;rw[hk]at oi oj k1 k2 hklt;simp only at oi oj k1 k2 hklt;rw[aL8];by_cases c1:k=1
 ·subst c1;rw[if_pos rfl]at k1 k2;obtain⟨x,r1,v',rfl,r2⟩:=aDW hv hs (i:=(p:Int)) S;have hchk:=Yu (s:=s) (i:=(p:Int));obtain⟨⟨l,nx,e⟩,hN⟩:∃q,hU s (p:Int)=q:=⟨_,rfl⟩;rw[hN]at r1 r2 k1 k2 hchk;simp only at r1 r2 k1 k2 hchk;obtain⟨hl1,hl2,_⟩:=mY.1 hchk;have hone:=kz r2.isl;have hcells:=oY r2.isl
  have hrec:dG ⟨1,l,[],[],0,0⟩ [.int .i64 1,v',.nils,.nils,.int .i64 0,.int .i64 0]:=
   ⟨⟨v',.nils,.nils,rfl,r2.isl,kS _,kS _⟩,lB (by simp only;omega),by simp[maxLen],by simp[maxLen],fun x hx=>lB (by have:=(rT (hl2 x hx)).1;omega)⟩
  simp -implicitDefEqProofs [h0,h2,h4,h5,aU oi,aU oj,ba,r1,aI,aR,oj,hone,hcells]
  refine AK hv hs (a:=a) (i:=i) (j:=j) (p:=p) (e:=e) (bad:=bad) (S0:=S0) (r:=⟨1,l,[],[],0,0⟩) (ca:=bu) (cs:=[.int .i64 1,v',.nils,.nils,.int .i64 0,.int .i64 0]) (by simp[h0]) (by simp[h2]) (by simp[h4]) (by simp[h5]) (by simp) (by simp[ak (Ne.symm haj),oa]) rfl
   (by simp[ak (Ne.symm hij),oi]) (by simp[jl]) (fun _ _=>hrec) (hgr.set hjl) hal (fun hno fr' S' g2 g3 go gg=>k1 (fun z=>hno ?_) fr' S' g2 g3 go gg) (fun q1 q2 q3 q4 fr' S' g2 g3 go gg=>k2 ?_ q3 q4 fr' S' _ ?_ ?_ rfl g2 g3 go gg)
  ·simpa[aV,and_assoc]using z
  ·simp[q1,q2]
  ·simp[PV.freeL,PV.free,r2.free]
  ·simpa[PV.frzL,PV.frz,r2.frz]using hrec
 by_cases c2:k=2
 ·subst c2;rw[if_neg (by decide),if_pos rfl]at k1 k2;have hc:=qJ hv hs oi;have hnlt:=Fa (s:=s) (p:=p) (bad:=bad);obtain⟨⟨n,p2,bad2⟩,hn⟩:∃q,bM s p bad=q:=⟨_,rfl⟩;rw[hn]at hc k1 k2 hnlt;simp only at hc k1 k2 hnlt;simp -implicitDefEqProofs [h0,h2,h4,h5,aU oi,aU oj,ba,hc]
  refine aL7 hv hs (n:=n) hij (S0:=S0) hil hjl (kd:=.int .i64 2) (vl:=.nils) (vi:=.nils) (lo:=.int .i64 0) (hh:=.int .i64 0) (f0:=v) (f2:=.ptr a 0) (f6:=.int .i64 0) (min n 65) [] p2 bad2 (by simp) _ ⟨S.objs.set i [v,.int .i64 (p2:Int),.bool bad2],S.tips⟩ .nils
   (by simp[h0]) (by simp[h2]) (by simp[h4]) (by simp[h5]) (by simp) (by simp) (by simp[il]) (by simp[ak hij,oj]) (ip 3 (hgr.set hil)) (fun fr' S' vr' g0 g2 g4 g5 g6 gi gj go ga=>?_)
  have hrl:=aL6 (s:=s) (min n 65) [] p2 bad2;obtain⟨⟨rows,p3,bad3⟩,hq⟩:∃q,iW s (min n 65) [] p2 bad2=q:=⟨_,rfl⟩;rw[hq]at gi ga k1 k2 hrl;simp only at gi ga k1 k2 hrl;simp only[cT,dN]at hrl
  have hrec:∀vr,bG 3 vr (rows.map dC)→dG ⟨2,[],rows,[],0,0⟩ [.int .i64 2,.nils,vr,.nils,.int .i64 0,.int .i64 0]:=fun vr hvr=>
   ⟨⟨.nils,vr,.nils,rfl,kS _,hvr,kS _⟩,by simp[maxLen],lB (by simp only;omega),by simp[maxLen],by simp⟩
  have hfz:vr'.free=true∧vr'.frz=bo vr' (rows.map dC):=by
   rcases ga.acc with⟨h,_⟩|⟨id,_,h,_⟩
   ·rw[h];exact⟨rfl,rfl⟩
   ·rw[h];exact⟨by simp[PV.free,AL,PV.freeL],by simp[bo,PV.frz,Fb,PV.frzL]⟩
  have oa':S'.objs[a]?=some bu:=by
   rw[go a hai haj];simp[ak (Ne.symm hai),oa]
  simp -implicitDefEqProofs;refine AK hv hs (a:=a) (i:=i) (j:=j) (p:=p3) (e:=0) (bad:=bad3) (S0:=S0) (r:=⟨2,[],rows,[],0,0⟩) (ca:=bu) g0 g2 g4 g5 g6 oa' rfl gi gj (fun _ _=>hrec vr' (ga.isSl (sV _))) ga.grows hal (fun hno fr' S' g2 g3 go gg=>k1 (fun z=>hno ?_) fr' S' g2 g3 go gg) (fun q1 q2 q3 q4 fr' S' g2 g3 go gg=>k2 ?_ q3 q4 fr' S' _ ?_ ?_ rfl g2 g3 go gg)
  ·simpa using z
  ·simp[q1]
  ·simp[PV.freeL,PV.free,hfz.1]
  ·have:=hrec _ (lZ ga (sV _));simpa[PV.frzL,PV.frz,hfz.2]using this
 by_cases c3:k=3
 ·subst c3;rw[if_neg (by decide),if_neg (by decide),if_pos rfl]at k1 k2;obtain⟨x,r1,v',rfl,r2⟩:=aLW hv hs (i:=(p:Int)) S;have hll:=Ys (s:=s) (i:=(p:Int));obtain⟨⟨l,nx,e⟩,hN⟩:∃q,dv s (p:Int)=q:=⟨_,rfl⟩;rw[hN]at r1 r2 k1 k2 hll;simp only at r1 r2 k1 k2 hll;have hone:=kz r2.isl;have hcells:=oY r2.isl;obtain⟨S2,hS2⟩:∃S2:St,S2=⟨(S.objs.set j [.int .i64 3,.nils,.nils,v',.int .i64 0,.int .i64 0]).set i [v,.int .i64 (nx:Int),.bool bad],S.tips⟩:=⟨_,rfl⟩;have oi2:S2.objs[i]?=some [v,.int .i64 (nx:Int),.bool bad]:=by rw[hS2];simp[il]
  have oj2:S2.objs[j]?=some [.int .i64 3,.nils,.nils,v',.int .i64 0,.int .i64 0]:=by rw[hS2];simp only;rw[ak hij];simp[jl]
  have oa2:S2.objs[a]?=some bu:=by rw[hS2];simp only;rw[ak (Ne.symm hai),ak (Ne.symm haj)];exact oa
  have hg2:aP S0 S2:=by rw[hS2];exact(hgr.set hjl).set hil
  have d1:=qJ hv hs oi2;obtain⟨⟨n1,p1,bad1⟩,e1⟩:∃q,bM s nx bad=q:=⟨_,rfl⟩;rw[e1]at d1 k1 k2;simp only at d1 k1 k2;obtain⟨S3,hS3⟩:∃S3:St,S3=⟨S2.objs.set i [v,.int .i64 (p1:Int),.bool bad1],S2.tips⟩:=⟨_,rfl⟩;rw[←hS3]at d1;have il2:i<S2.objs.length:=(aS.1 oi2).1;have oi3:S3.objs[i]?=some [v,.int .i64 (p1:Int),.bool bad1]:=by rw[hS3];simp[il2]
  have oj3:S3.objs[j]?=some [.int .i64 3,.nils,.nils,v',.int .i64 0,.int .i64 0]:=by rw[hS3];simp only;rw[ak hij];exact oj2
  have oa3:S3.objs[a]?=some bu:=by rw[hS3];simp only;rw[ak (Ne.symm hai)];exact oa2
  have hg3:aP S0 S3:=by rw[hS3];exact hg2.set hil
  have d2:=qJ hv hs oi3;obtain⟨⟨n2,p2,bad2⟩,e2⟩:∃q,bM s p1 bad1=q:=⟨_,rfl⟩;rw[e2]at d2 k1 k2;simp only at d2 k1 k2;obtain⟨S4,hS4⟩:∃S4:St,S4=⟨S3.objs.set i [v,.int .i64 (p2:Int),.bool bad2],S3.tips⟩:=⟨_,rfl⟩;rw[←hS4]at d2;have il3:i<S3.objs.length:=(aS.1 oi3).1;have oi4:S4.objs[i]?=some [v,.int .i64 (p2:Int),.bool bad2]:=by rw[hS4];simp[il3]
  have oj4:S4.objs[j]?=some [.int .i64 3,.nils,.nils,v',.int .i64 0,.int .i64 0]:=by rw[hS4];simp only;rw[ak hij];exact oj3
  have oa4:S4.objs[a]?=some bu:=by rw[hS4];simp only;rw[ak (Ne.symm hai)];exact oa3
  have hg4:aP S0 S4:=by rw[hS4];exact hg3.set hil
  have jl4:j<S4.objs.length:=(aS.1 oj4).1;have oij:(S.objs.set j [.int .i64 3,.nils,.nils,v',.int .i64 0,.int .i64 0])[i]?=some [v,.int .i64 (p:Int),.bool bad]:=by rw[ak (Ne.symm hij)];exact oi
  have hS2':St.mk ((S.objs.set j [.int .i64 3,.nils,.nils,v',.int .i64 0,.int .i64 0]).set i [v,.int .i64 (nx:Int),.bool bad]) S.tips=S2:=hS2.symm;have oj5:(S4.objs.set j [.int .i64 3,.nils,.nils,v',.int .i64 (n1:Int),.int .i64 0])[j]?=some [.int .i64 3,.nils,.nils,v',.int .i64 (n1:Int),.int .i64 0]:=by simp[jl4]
  have hrec:dG ⟨3,[],[],l,(n1:Int),(n2:Int)⟩ [.int .i64 3,.nils,.nils,v',.int .i64 (n1:Int),.int .i64 (n2:Int)]:=
   ⟨⟨.nils,.nils,v',rfl,kS _,kS _,r2.isl⟩,by simp[maxLen],by simp[maxLen],lB (by simp only;omega),by simp⟩
  simp -implicitDefEqProofs [h0,h2,h4,h5,aU oi,aU oj,ba,r1,aI,aR,oj,hone,hcells,oij,hS2',d1,d2,oj4,oj5]
  refine AK hv hs (a:=a) (i:=i) (j:=j) (p:=p2) (e:=e) (bad:=bad2) (S0:=S0) (r:=⟨3,[],[],l,(n1:Int),(n2:Int)⟩) (ca:=bu) (cs:=[.int .i64 3,.nils,.nils,v',.int .i64 (n1:Int),.int .i64 (n2:Int)]) (by simp[h0]) (by simp[h2]) (by simp[h4]) (by simp[h5]) (by simp) (by simp[ak (Ne.symm haj),oa4]) rfl
   (by simp[ak (Ne.symm hij),oi4]) (by simp[jl4]) (fun _ _=>hrec) (hg4.set hjl) hal (fun hno fr' S' g2 g3 go gg=>k1 (fun z=>hno ?_) fr' S' g2 g3 go gg) (fun q1 q2 q3 q4 fr' S' g2 g3 go gg=>k2 ?_ q3 q4 fr' S' _ ?_ ?_ rfl g2 g3 go gg)
  ·simpa[aV,and_assoc]using z
  ·simp[q1,q2]
  ·simp[PV.freeL,PV.free,r2.free]
  ·simpa[PV.frzL,PV.frz,r2.frz]using hrec
 ·rw[if_neg c1,if_neg c2,if_neg c3]at k1 k2
  have b1:((k:Int)==1)=false:=by
   rw[jw];simp only[ne_eq,beq_iff_eq];omega
  have b2:((k:Int)==2)=false:=by
   rw[jw];simp only[ne_eq,beq_iff_eq];omega
  have b3:((k:Int)==3)=false:=by
   rw[jw];simp only[ne_eq,beq_iff_eq];omega
  simp -implicitDefEqProofs [h0,h2,h4,h5,aU oi,aU oj,ba,b1,b2,b3]
  refine AK hv hs (a:=a) (i:=i) (j:=j) (p:=p) (e:=0) (bad:=bad) (S0:=S0) (r:=⟨k,[],[],[],0,0⟩) (ca:=bu) (by simp[h0]) (by simp[h2]) (by simp[h4]) (by simp[h5]) (by simp) oa rfl
   oi oj (fun _ _=>Yv k) hgr hal (fun hno fr' S' g2 g3 go gg=>k1 (fun z=>hno ?_) fr' S' g2 g3 go gg) (fun q1 q2 q3 q4 fr' S' g2 g3 go gg=>k2 ?_ q3 q4 fr' S' _ ?_ ?_ rfl g2 g3 go gg)
  ·simpa using z
  ·simp[q1]
  ·rfl
  ·exact Yv k
mutual
theorem Yw:∀v:PV,v.frz.frz=v.frz
 |.und|.int _ _|.bool _|.str _|.nilp|.nils|.nili|.nilf|.ptr _ _|.osl _ _ _ _|.emp|.nilm|.map _|.hnd _=>rfl
 |.bfn _ cs=>by simp only[PV.frz,mB cs]
 |.ref cs=>by simp only[PV.frz,mB cs]
 |.sl _ es sp=>by simp only[PV.frz,mB es,mB sp]
 |.iface _ v=>by simp only[PV.frz,Yw v]
 |.agg cs=>by simp only[PV.frz,mB cs]
 |.tup cs=>by simp only[PV.frz,mB cs]
 |.fn _ cs=>by simp only[PV.frz,mB cs]
theorem mB:∀l:List PV,PV.frzL (PV.frzL l)=PV.frzL l
 | []=>rfl
 |v::l=>by simp only[PV.frzL,Yw v,mB l]
end
mutual
theorem Yx:∀v:PV,v.free=true→v.frz.free=true
 |.und,h|.ptr _ _,h|.osl _ _ _ _,h|.emp,h|.map _,h|.hnd _,h=>by cases h
 |.int _ _,_|.bool _,_|.str _,_|.nilp,_|.nils,_|.nili,_|.nilf,_|.nilm,_=>rfl
 |.bfn _ cs,h=>by simp only[PV.frz,PV.free]at h ⊢;exact mC cs h
 |.ref cs,h=>by simp only[PV.frz,PV.free]at h ⊢;exact mC cs h
 |.sl _ es sp,h=>by
  simp only[PV.frz,PV.free,aV]at h ⊢
  exact⟨mC es h.1,mC sp h.2⟩
 |.iface _ v,h=>by simp only[PV.frz,PV.free]at h ⊢;exact Yx v h
 |.agg cs,h=>by simp only[PV.frz,PV.free]at h ⊢;exact mC cs h
 |.tup cs,h=>by simp only[PV.frz,PV.free]at h ⊢;exact mC cs h
 |.fn _ cs,h=>by simp only[PV.frz,PV.free]at h ⊢;exact mC cs h
theorem mC:∀l:List PV,PV.freeL l=true→PV.freeL (PV.frzL l)=true
 | [],_=>rfl
 |v::l,h=>by
  simp only[PV.frzL,PV.freeL,aV]at h ⊢;exact⟨Yx v h.1,mC l h.2⟩
end
def Yy(s:List UInt8)(x:PV):Prop:=
 ((fR s).2=true∧cH (fR s).1=0∧bW (fR s).1=s∧∃cs,dG (fR s).1 cs∧x=.tup [.agg cs,.int .i64 0]) ∨
 (¬((fR s).2=true∧cH (fR s).1=0∧bW (fR s).1=s)∧x=.tup [.agg bu,.int .i64 5])
def aMb{s:List UInt8}{v:PV}(hv:bG 1 v (aL s))(hs:s.length≤67108864)(S:St):∃x,aO T 143 [v] S=some (x,S)∧Yy s x∧x.free=true∧x.frz=x:=by
 have key:=eB (T:=T) (f:=143) (c:=qk) aL1 (args:=[v]) (S:=S) rfl (R:=fun r S2=>S2=S∧Yy s r∧r.free=true∧r.frz=r) ?_
 ·obtain⟨r,S2,h1,rfl,h2⟩:=key;exact⟨r,h1,h2⟩
 have hone:=kz hv;have hcells:=oY hv;rw[aL9];obtain⟨S1,hS1⟩:∃S1:St,S1=⟨S.objs++[bu]++[[v,.int .i64 0,.bool false]],S.tips⟩:=⟨_,rfl⟩;have hlen1:S1.objs.length=S.objs.length+2:=by rw[hS1];simp
 have oi1:S1.objs[S.objs.length+1]?=some [v,.int .i64 ((0:Nat):Int),.bool false]:=by rw[hS1];simp
 have oa1:S1.objs[S.objs.length]?=some bu:=by rw[hS1];simp
 have hg1:aP S S1:=by rw[hS1];exact((aP.refl S).obj _).obj _
 have c1:=qJ hv hs oi1;obtain⟨S2,hS2⟩:∃S2:St,S2=⟨S1.objs.set (S.objs.length+1) [v,.int .i64 ((bM s 0 false).2.1:Int),.bool (bM s 0 false).2.2],S1.tips⟩:=⟨_,rfl⟩;rw[←hS2]at c1;have hlen2:S2.objs.length=S.objs.length+2:=by rw[hS2];simp[hlen1]
 have oi2:S2.objs[S.objs.length+1]?=some [v,.int .i64 ((bM s 0 false).2.1:Int),.bool (bM s 0 false).2.2]:=by rw[hS2];simp[hlen1]
 have oa2:S2.objs[S.objs.length]?=some bu:=by rw[hS2];simp only;rw[ak (by omega)];exact oa1
 have hg2:aP S S2:=by rw[hS2];exact hg1.set (by omega)
 have hS1':St.mk (S.objs++[[.int .i64 0,.nils,.nils,.nils,.int .i64 0,.int .i64 0],[v,.int .i64 0,.bool false]]) S.tips=S1:=by rw[hS1];simp[bu]
 simp -implicitDefEqProofs [aI,aQ,bK,aR,hone,hcells,ba,hS1',c1]
 refine aMa hv hs (a:=S.objs.length) (i:=S.objs.length+1) (j:=S2.objs.length) (by omega) (by omega) (by omega) (S0:=S) (by simp) (by simp) (by simp) (by simp) (by simp only;rw[bP (by omega)];exact oa2) (by simp only;rw[bP (by omega)];exact oi2) (by simp) (hg2.obj _) (by omega) (by omega) (by omega)
  (fun hno fr' S' g2 g3 go gg=>?_) (fun q1 q2 q3 fr' S' cs w1 w2 w3 g2 g3 go gg=>?_)
 ·have hp:ae true 6 bu=some (.agg bu):=rfl;have hf:ac false S S' (.tup [.agg bu,.int .i64 5])=(.tup [.agg bu,.int .i64 5],S):=by rw[cN gg rfl];rfl
  simp[g2,g3,go,hp,hf,-PV.free,-PV.frz];exact⟨.inr ⟨hno,rfl⟩,rfl,rfl⟩
 ·have hp:ae true 6 cs=some (.agg cs):=jm w3
  have hf:ac false S S' (.tup [.agg cs,.int .i64 0])=(.tup [.agg (PV.frzL cs),.int .i64 0],S):=by
   rw[cN gg (by simp[PV.free,PV.freeL,w1])];simp[PV.frz,PV.frzL]
  simp[g2,g3,go,hp,hf,-PV.free,-PV.frz];refine⟨.inl ⟨q1,q2,q3,_,w2,rfl⟩,?_,?_⟩
  ·simp only[PV.free,PV.freeL,Bool.and_true,mC cs w1]
  ·simp only[PV.frz,PV.frzL,mB]
end Ps
