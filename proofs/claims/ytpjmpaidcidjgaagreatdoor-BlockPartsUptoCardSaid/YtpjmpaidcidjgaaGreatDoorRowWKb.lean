/- A law's contract, where its calls may come to this or to that. -/
import Derived.Test.YtpjmpaidcidjgaaGreatDoorDefsKb
import Derived.Test.YtpjmpaidcidjgaaGreatDoorFFKb
import Derived.Test.YtpjmpaidcidjgaaGreatDoorRowKb
import Derived.Test.YtpjmpaidcidjgaaGreatDoorSimYKb
set_option linter.defProp false
namespace Ps
set_option linter.unusedSimpArgs false
set_option linter.unusedVariables false
open Go Go.Proofs
set_option maxRecDepth 100000
def aBK{x:List UInt8}{ls:List (List aQ)}(h:hJ x=some ls):dZ ls=0:=by
 unfold hJ at h;split at h
 ·split at h
  ·split at h
   ·split at h
    ·split at h
     ·rename_i hq;cases h;exact hq.1
     ·cases h
    ·cases h
   ·cases h
  ·cases h
 ·cases h
def aBL{b:List UInt8}{ls:List (List aQ)}{pss:List (List bi)}(h:fb b=some (ls,pss)):dZ ls=0∧pss.length=ls.length∧∀ps∈pss,ps.length≤65536:=by
 unfold fb at h;split at h
 ·split at h
  ·split at h
   ·rename_i ls' hof;split at h
    ·rename_i pss' a' hs;split at h
     ·simp only[ap,bc]at h;obtain⟨rfl,rfl⟩:=h;obtain⟨q1,q2⟩:=Rf hs (fun q hq=>by simp at hq);exact⟨aBK hof,by simpa using q2,q1⟩
     ·cases h
    ·cases h
   ·cases h
  ·cases h
 ·cases h
def aBM{l:List cD}(hz:dT l=0):lX l:=by
 have hk:=kE hz;have hx:=mh hk.ix;intro s hs;have hm:s.1∈l.map (·.1):=List.mem_map.2 ⟨s,hs,rfl⟩;have h8:=hx.set _ hm;refine⟨⟨by unfold maxLen;omega,fun x hxm=>by have:=(hx.word _ hm x hxm).1;unfold maxLen;omega⟩,?_⟩;have h1:=hk.sum;have:s.2.length≤cu l:=pn (List.mem_map.2 ⟨s,hs,rfl⟩);omega
def SD{S:St}{xb:Nat}{b:List UInt8}{ls:List (List aQ)}{pss:List (List bi)}(h:fb b=some (ls,pss))(hB:jl S xb ls pss):∃v',aN T2 171 [.ptr xb 0] S=some (v',S)∧iK v' (cG ls pss):=by
 obtain⟨q1,q2,q3⟩:=aBL h;have hx:=mh q1;exact Ra hB q2 (by have:=hx.len;omega) (fun l hl=>by have:=hx.set l hl;omega) (fun ps hps=>by have:=q3 ps hps;omega)
def CY{l:List cD}{v:PV}(hv:iK v l)(hb:lX l)(hz:dT l=0):∃bv,(∀S,aN T2 155 [v] S=some (.tup [bv,.int .i64 0],S))∧ay 1 bv (aI (cn l)):=⟨_,fun S=>lm (yi hv hb hz S),lV _⟩
def SF{S S':St}:∃S'',aW false S S' (.bool true)=(.bool true,S''):=by
 unfold aW;rw[qY rfl];simp only[cH,if_false];split
 ·exact⟨_,rfl⟩
 ·split<;>exact⟨_,rfl⟩
def SG:aS:=(.seq (.clr [(35,40)] (.region sI)) (.seq (.seq (.clr [(40,41)] (.region sJ)) (.cond (V 41) (.seq (.clr [(42,54)] (.region yl)) .ret) .skip)) (.seq (.clr [(54,59)] (.region ym)) (.seq (.clr [(59,74)] (.region yn)) .ret))))
def SH{lv:PV}{l:List cD}(hl:iK lv l)(hb:lX l)(hN:l.length≤4000000000){fr:Fr}{S:St}{PP:Wx→Fr→St→Prop}(f0:fr 0=lv)(k:∀fr' S',fr' 4=.bool true→PP .ret fr' S'):W tie2 SG fr S PP:=by
 unfold SG;by_cases hz:dT l=0
 ·obtain⟨cv,hw,hc⟩:=CY hl hb hz;refine bO tieOk2 rfl ?_;simp -implicitDefEqProofs [aZ,sI,f0,hw];refine fT tieOk2 rfl ?_;simp -implicitDefEqProofs [aZ,sJ];refine bw (dC (dB tieOk2 ?_));unfold ym;refine cw rfl ?_;simp -implicitDefEqProofs [aZ];have hbl:=vI (kE hz);have hop:=CV hz;refine ez (by simp[dG]) (tJ hc (by rw[qP];omega)) ?_ ?_
  rotate_left
  ·intro u S1 hq;rw[hop]at hq;obtain⟨xb,S',e,_⟩:=hq;cases e
  intro u S1 hq;refine⟨fun q hq=>(by cases hq),?_⟩;rw[hop]at hq;obtain⟨xb,S1',e,hg1,hblk⟩:=hq;cases e;obtain⟨av,a1,a2⟩:=SD hop hblk;rw[Rw (fun s hs=>((kE hz).ser s hs).2)]at a2;have hsm:=fv (aBJ a2 hl hN (fun s hs=>⟨(hb s hs).1.1,(hb s hs).2⟩) S1);refine eL rfl ?_;simp -implicitDefEqProofs [aZ];refine bw (dC (dB tieOk2 ?_));unfold yn;refine cw rfl ?_;simp -implicitDefEqProofs [aZ,lr,a1,f0,hsm];refine CX (b:=true) (by simp) (fun h=>by cases h) (by simp[dG]) (wS S1) (fun _ u S2 hq=>?_) (fun _ u S2 hq=>by cases hq);cases hq;refine⟨fun q hq=>(by cases hq),?_⟩;refine eL rfl ?_;simp -implicitDefEqProofs [aZ];exact kX (k _ _ (by simp))
 ·have hw:∀S,aN T2 155 [lv] S=some (.tup [.nils,.int .i64 (dT l:Int)],S):=fun S=>lm (yh hl hb hN hz S);have hck:∀S,aN T2 64 [lv] S=some (.int .i64 (dT l:Int),S):=fun S=>fv (yT hl hb hN S);have hc:(((dT l:Nat):Int)==0)=false:=by rw[beq_eq_false_iff_ne];omega
  generalize ((dT l:Nat):Int)=e at hw hck hc;refine bO tieOk2 rfl ?_;simp -implicitDefEqProofs [aZ,sI,f0,hw];refine fT tieOk2 rfl ?_;simp -implicitDefEqProofs [aZ,sJ,bne,hc];refine bw (dC (dB tieOk2 ?_));unfold yl;refine cw rfl ?_;simp -implicitDefEqProofs [aZ,f0,hck];refine CX (b:=true) (by simp) (fun h=>by cases h) (by simp[dG]) (wS S) (fun _ u S2 hq=>?_) (fun _ u S2 hq=>by cases hq);cases hq;refine⟨fun q hq=>(by cases hq),?_⟩;refine eL rfl ?_;simp -implicitDefEqProofs [aZ];exact kX (k _ _ (by simp))
def func456':tie2.P.funcs[tie2.fnOf 456]?=some Tryz.f4:=Yw
def aBN:fH tie2 Tryz.f4 rn=true:=(oX _ _).trans Yx
def aBO{lv bv:PV}{l:List cD}{b:List UInt8}(hl:iK lv l)(hb:lX l)(hN:l.length≤4000000000)(hv:ay 1 bv (aI b))(hbl:b.length≤67108864)(S:St):dc tie2 456 [lv,bv] S (fun q=>∃S',q=.ret (.bool true) S'):=by
 have main:∀PP:Wx→Fr→St→Prop,(∀fr' S',fr' 4=.bool true→PP .ret fr' S')→W tie2 rn.body (bk [lv,bv]) S PP:=by
  intro PP k;unfold rn;simp only;refine bO tieOk2 rfl ?_;simp -implicitDefEqProofs [aZ,zQ];refine bw (bw (dC (dB tieOk2 ?_)));unfold GM;refine cw rfl ?_;simp -implicitDefEqProofs [aZ];refine ez (by simp[dG]) (tJ hv hbl) ?_ ?_
  rotate_left
  ·intro u S1 hq
   cases ho:fb b with
   |none=>rw[ho]at hq;cases hq
   |some p=>rw[ho]at hq;obtain⟨ls,pss⟩:=p;obtain⟨xb,S',e,_⟩:=hq;cases e
  intro u S1 hq;refine⟨fun q hq=>(by cases hq),?_⟩
  cases ho:fb b with
  |none=>
   rw[ho]at hq;cases hq;refine eL rfl ?_;simp -implicitDefEqProofs [aZ];refine bO tieOk2 rfl ?_;simp -implicitDefEqProofs [aZ,vR];refine gC (b:=false) (by simp) (mO ?_)
   exact SH hl hb hN (by simp) k
  |some p=>
   obtain⟨ls,pss⟩:=p;rw[ho]at hq;obtain⟨xb,S1',e,hg1,hblk⟩:=hq;cases e;obtain⟨bk1,bk2⟩:=aBu ho;obtain⟨av,a1,a2⟩:=SD ho hblk;obtain⟨cv,w1,w2⟩:=CY a2 (aBM bk1) bk1;rw[bk2]at w2;have t1:eX cv=some (.str b):=kC w2.isl;have t2:eX bv=some (.str b):=kC hv.isl;refine eL rfl ?_;simp -implicitDefEqProofs [aZ];refine bO tieOk2 rfl ?_;simp -implicitDefEqProofs [aZ,vR];refine gC (b:=true) (by simp) ?_;refine bO tieOk2 rfl ?_;simp -implicitDefEqProofs [aZ,zR,a1,w1];refine bO tieOk2 rfl ?_;simp -implicitDefEqProofs [aZ,zS,t1,t2];refine gC (b:=false) (by simp) (mO ?_);exact SH hl hb hN (by simp) k
 refine jy tieOk2 func456' aBN rfl (main _ (fun fr S' f4=>⟨[fr 4],rfl,?_⟩));rw[f4];obtain⟨S'',e⟩:=SF (S:=S) (S':=S');simp only[bb,rn,e];exact⟨S'',rfl⟩
end Ps
set_option linter.defProp false
namespace Ps
set_option linter.unusedSimpArgs false
set_option linter.unusedVariables false
open Go Go.Proofs
set_option maxRecDepth 100000
theorem SI{low cut high:Int}(h1:low≤cut)(h2:cut<high):∀{l:List Sm},l.Pairwise (fun x y=>x.1<y.1)→l.filter (dQ low cut)++l.filter (dQ (cut+1) high)=l.filter (dQ low high)
 | [],_=>rfl
 |a::l,h=>by
  obtain⟨ha,hl⟩:=uQ.1 h;by_cases hc:a.1≤cut
  ·have ih:=SI h1 h2 hl;have e1:dQ (cut+1) high a=false:=by simp[dQ];omega
   have e2:dQ low cut a=dQ low high a:=by
    have q1:decide (a.1≤cut)=true:=by simpa using hc
    have q2:decide (a.1≤high)=true:=by simp;omega
    simp only[dQ,q1,q2]
   rw[List.filter_cons,List.filter_cons,List.filter_cons,e1,e2]
   cases dQ low high a with
   |true=>simp only[if_true,cH,if_false,iH];rw[ih]
   |false=>simp only[cH,if_false];exact ih
  ·have e1:(a::l).filter (dQ low cut)=[]:=by
    rw[nl];intro x hx
    have:cut<x.1:=by
     rcases dI.1 hx with rfl|hx
     ·omega
     ·have:=ha x hx;omega
    simp[dQ];omega
   rw[e1,mT];apply xl;intro x hx
   have:cut<x.1:=by
    rcases dI.1 hx with rfl|hx
    ·omega
    ·have:=ha x hx;omega
   have q1:decide (low≤x.1)=true:=by simp;omega
   have q2:decide (cut+1≤x.1)=true:=by simp;omega
   simp only[dQ,q1,q2]
def aBP{s:List Sm}(h:fE s):s.Pairwise (fun x y=>x.1<y.1):=by
 rw[Eb];intro i j hi hj hij;have:=Rn h hij hj;have e1:aK s i=s[i].1:=by unfold aK;rw[List.getD_eq_getElem?_getD,List.getElem?_eq_getElem hi];rfl
 have e2:aK s j=s[j].1:=by unfold aK;rw[List.getD_eq_getElem?_getD,List.getElem?_eq_getElem hj];rfl
 rwa [e1,e2]at this
def aBQ(n:Int):∃m:Nat,IntKind.u64.wrap n=(m:Int):=by
 have:0≤IntKind.u64.wrap n:=by simp[IntKind.wrap,IntKind.signed];omega
 exact⟨(IntKind.u64.wrap n).toNat,by omega⟩
def aBR:tie2.P.funcs[tie2.fnOf 457]?=some Tryz.f6:=Yy
def aBS:fH tie2 Tryz.f6 rp=true:=(oX _ _).trans Yz
def aBT{lv:PV}{l:List cD}{idn low cut high:Int}(hl:iK lv l)(hb:lX l)(hN:l.length≤4000000000)(hcut:-9223372036854775808≤cut)(hhigh:high<9223372036854775808)(S:St) :
  dc tie2 457 [lv,.int .i64 idn,.int .i64 low,.int .i64 cut,.int .i64 high] S (fun q=>∃S',q=.ret (.bool true) S'):=by
 obtain⟨es,hes,hel,hee⟩:=hl;have hl:iK lv l:=⟨es,hes,hel,hee⟩;have hvl:=hes.len;rw[hel]at hvl
 have main:∀PP:Wx→Fr→St→Prop,(∀fr' S',fr' 10=.bool true→PP .ret fr' S')→W tie2 rp.body (bk [lv,.int .i64 idn,.int .i64 low,.int .i64 cut,.int .i64 high]) S PP:=by
  intro PP k
  have easy:∀(fr:Fr) (S1:St) (Post:Wx→Fr→St→Prop),(∀fr' S',fr' 10=.bool true→Post .ret fr' S')→W tie2 (.seq (.clr [(44,45)] (.region yo)) .ret) fr S1 Post:=by
   intro fr S1 Post k2;refine bw (dC (dB tieOk2 ?_));unfold yo;refine cw rfl ?_;simp -implicitDefEqProofs [aZ];refine ez (by simp[dG]) (wS S1) (fun u S2 hq=>?_) (fun u S2 hq=>by cases hq);cases hq;refine⟨fun q hq=>(by cases hq),?_⟩;refine eL rfl ?_;simp -implicitDefEqProofs [aZ];exact kX (k2 _ _ (by simp))
  unfold rp;simp only;refine bO tieOk2 rfl ?_;simp -implicitDefEqProofs [aZ,vT];by_cases hz:dT l=0
  rotate_left
  ·have hw:∀S,aN T2 155 [lv] S=some (.tup [.nils,.int .i64 (dT l:Int)],S):=fun S=>lm (yh hl hb hN hz S);have hc:(((dT l:Nat):Int)==0)=false:=by rw[beq_eq_false_iff_ne];omega
   generalize ((dT l:Nat):Int)=e at hw hc;refine bO tieOk2 rfl ?_;simp -implicitDefEqProofs [aZ,sK,hw];refine fT tieOk2 rfl ?_;simp -implicitDefEqProofs [aZ,mr,bne,hc];exact easy _ _ _ (fun fr' S' h=>k fr' S' h)
  obtain⟨cv,hw,hcv⟩:=CY hl hb hz;refine bO tieOk2 rfl ?_;simp -implicitDefEqProofs [aZ,sK,hw];by_cases h0:l.length=0
  ·have hc:((l.length:Int)==0)=true:=by rw[beq_iff_eq];omega
   refine fT tieOk2 rfl ?_;simp -implicitDefEqProofs [aZ,mr,hvl,hc,h0];exact easy _ _ _ (fun fr' S' h=>k fr' S' h)
  have hc0:((l.length:Int)==0)=false:=by rw[beq_eq_false_iff_ne];omega
  by_cases h1:cut<low
  ·refine fT tieOk2 rfl ?_;simp -implicitDefEqProofs [aZ,mr,hvl,hc0,h0,h1];exact easy _ _ _ (fun fr' S' h=>k fr' S' h)
  by_cases h2:high≤cut
  ·refine fT tieOk2 rfl ?_;simp -implicitDefEqProofs [aZ,mr,hvl,hc0,h0,h1,h2];exact easy _ _ _ (fun fr' S' h=>k fr' S' h)
  refine fT tieOk2 rfl ?_;simp -implicitDefEqProofs [aZ,mr,hvl,hc0,h0,h1,h2];refine bw (dC (dB tieOk2 ?_));unfold GN;refine cw rfl ?_;simp -implicitDefEqProofs [aZ];have hbl:=vI (kE hz);have hop:=CV hz;refine ez (by simp[dG]) (tJ hcv (by rw[qP];omega)) ?_ ?_
  rotate_left
  ·intro u S1 hq;rw[hop]at hq;obtain⟨xb,S',e,_⟩:=hq;cases e
  intro u S1 hq;refine⟨fun q hq=>(by cases hq),?_⟩;rw[hop]at hq;obtain⟨xb,S1',e,hg1,hblk⟩:=hq;cases e;refine eL rfl ?_;simp -implicitDefEqProofs [aZ];refine fT tieOk2 rfl ?_;simp -implicitDefEqProofs [aZ,vU,lr];obtain⟨m,hm⟩:=aBQ idn;have hwl:IntKind.u64.wrap (l.length:Int)=(l.length:Int):=iY (by omega)
  obtain⟨i,hi,hrem⟩:∃i:Nat,i<l.length∧arith .rem (.int .u64 (m:Int)) (.int .u64 (l.length:Int))=some (.int .u64 (i:Int)):=by
   refine⟨m%l.length,mV _ (by omega),?_⟩;have hne:¬((l.length:Int)=0):=by omega
   simp only[arith,ef,gX,cH,if_false,if_true,hne];rfl
  have hwi:IntKind.i64.wrap (i:Int)=(i:Int):=by rw[au]<;>omega
  refine bO tieOk2 rfl ?_;simp -implicitDefEqProofs [aZ,vV,hm,hvl,hwl,hrem,hwi];have hil:i<(l.map fun s=>eo s.2).length:=by simpa using hi
  have hr:fE l[i].2:=((kE hz).ser l[i] (List.getElem_mem hi)).2
  have hsl:l[i].2.length≤65536:=by
   have h1:=(kE hz).sum;have:l[i].2.length≤cu l:=pn (List.mem_map.2 ⟨l[i],List.getElem_mem hi,rfl⟩);omega
  have hps:(l.map fun s=>eo s.2)[i]=eo l[i].2:=by simp
  have hpl:(l.map fun s=>eo s.2)[i].length≤30000000:=by
   rw[hps,eo,bz,rj l[i].2.length l[i].2 rfl];omega
  have hbk:=(kE hz).len;have hw1:IntKind.i64.wrap (cut+1)=cut+1:=by rw[au]<;>omega
  obtain⟨pv,p1,p2⟩:=tI hblk hil (by rw[bz];omega) hpl (low:=low) (high:=cut);obtain⟨qv,q1,q2⟩:=tI hblk hil (by rw[bz];omega) hpl (low:=cut+1) (high:=high);obtain⟨av,a1,a2⟩:=tI hblk hil (by rw[bz];omega) hpl (low:=low) (high:=high);rw[hps,CU hr]at p2 q2 a2;refine bO tieOk2 rfl ?_;simp -implicitDefEqProofs [aZ,vW,p1];refine bO tieOk2 rfl ?_;simp -implicitDefEqProofs [aZ,vX,hw1,q1];refine bO tieOk2 rfl ?_;simp -implicitDefEqProofs [aZ,vY,a1];have hf:=SI (by omega:low≤cut) (by omega:cut<high) (aBP hr);have l1:=uO (dQ low cut) l[i].2;have l2:=uO (dQ (cut+1) high) l[i].2;have l3:=uO (dQ low high) l[i].2;generalize l[i].2.filter (dQ low cut)=X at p2 hf l1;generalize l[i].2.filter (dQ (cut+1) high)=Y at q2 hf l2;have hA0:ah S1 2 ⟨S1.objs,S1.tips++[(0,2)]⟩ (.sl (some (S1.tips.length,0)) [] []) []:=Cl 2 [] (aL.refl S1)
  obtain⟨v1,S2,b1,b2,b3⟩:=hA0.app (bytes:=16) (X.map bC) (by simp only[cW,bz];omega);obtain⟨v2,S3,c1,c2,c3⟩:=b2.app (bytes:=16) (Y.map bC) (by simp only[mT,bz];omega);rw[mT,←eQ,hf]at c2;have g1:=p2.appd ⟨S1.objs,S1.tips++[(0,2)]⟩;have g2:=q2.appd S2;have hsm:=fv (SC (c2.isSl (oD _)).reads a2.reads (by omega) S3);refine bw (dC (dB tieOk2 ?_));unfold GO;refine cw rfl ?_;simp -implicitDefEqProofs [aZ,aG,cY,dU,dy,g1,b1,g2,c1,hsm];refine CX (b:=true) (by simp) (fun h=>by cases h) (by simp[dG]) (wS S3) (fun _ u S4 hq=>?_) (fun _ u S4 hq=>by cases hq);cases hq;refine⟨fun q hq=>(by cases hq),?_⟩;refine eL rfl ?_;simp -implicitDefEqProofs [aZ];exact kX (k _ _ (by simp))
 refine jy tieOk2 aBR aBS rfl (main _ (fun fr S' f4=>⟨[fr 10],rfl,?_⟩));rw[f4];obtain⟨S'',e⟩:=SF (S:=S) (S':=S');simp only[bb,rp,e];exact⟨S'',rfl⟩
end Ps
set_option linter.defProp false
namespace Ps
set_option linter.unusedSimpArgs false
set_option linter.unusedVariables false
open Go Go.Proofs
set_option maxRecDepth 100000
abbrev iB:Ty:=.st (.pair (.int .i64) (.pair (.int .i64) .unit))
abbrev cy:Ty:=.st (.pair (.sl ma) (.pair (.sl iB) .unit))
def lE(x:iB.den):Sm:=(x.1,x.2.1)
def tL(x:(Ty.sl iB).den):List Sm:=match x with|none=>[]|some q=>q.1.map lE
def CZ(x:cy.den):cD:=(rW x.1,tL x.2.1)
def nH(x:(Ty.sl cy).den):List cD:=match x with|none=>[]|some q=>q.1.map CZ
def aBU(x:(Ty.sl ma).den):ay 2 ((Ty.sl ma).pv x) ((rW x).map bH):=by
 cases x with
 |none=>exact jn 2
 |some q=>
  obtain⟨es,sp⟩:=q;exact⟨.inr ⟨sp.map bH,rfl,rX sp,yI sp,ua sp⟩,rX es,yI es,ua es⟩
def aBV(x:(Ty.sl iB).den):ay 2 ((Ty.sl iB).pv x) ((tL x).map bC):=by
 cases x with
 |none=>exact jn 2
 |some q=>
  obtain⟨es,sp⟩:=q;have e:(tL (some (es,sp))).map bC=es.map fun x=>bC (lE x):=by simp[tL,Function.comp_def]
  rw[e];have hc:∀l:List iB.den,∀v∈l.map fun x=>bC (lE x),v.cells.length=2:=fun l v hv=>by obtain⟨_,_,rfl⟩:=List.mem_map.1 hv;rfl
  have hf:∀l:List iB.den,PV.freeL (l.map fun x=>bC (lE x))=true:=fun l=>jp (fun x=>bC (lE x)) (fun _=>rfl) l;have hz:∀l:List iB.den,PV.frzL (l.map fun x=>bC (lE x))=l.map fun x=>bC (lE x):=fun l=>jq (fun x=>bC (lE x)) (fun _=>rfl) l;exact⟨.inr ⟨sp.map fun x=>bC (lE x),rfl,hc sp,hf sp,hz sp⟩,hc es,hf es,hz es⟩
def wT(x:cy.den):iZ (cy.pv x) (CZ x):=by
 obtain⟨l,s,⟨⟩⟩:=x;refine⟨(Ty.sl ma).pv l,(Ty.sl iB).pv s,?_,aBU l,aBV s⟩;cases l<;>cases s<;>rfl
def SJ(x:(Ty.sl cy).den):iK ((Ty.sl cy).pv x) (nH x):=by
 cases x with
 |none=>exact⟨[],jn 2,rfl,fun i h h'=>by simp at h'⟩
 |some q=>
  obtain⟨es,sp⟩:=q;have hc:∀l:List cy.den,∀v∈l.map cy.pv,v.cells.length=2:=fun l v hv=>by obtain⟨x,_,rfl⟩:=List.mem_map.1 hv;exact(wT x).cells
  have hf:∀l:List cy.den,PV.freeL (l.map cy.pv)=true:=fun l=>jp cy.pv (fun x=>(wT x).free) l;have hz:∀l:List cy.den,PV.frzL (l.map cy.pv)=l.map cy.pv:=fun l=>jq cy.pv (fun x=>(wT x).frz) l;refine⟨es.map cy.pv,⟨.inr ⟨sp.map cy.pv,rfl,hc sp,hf sp,hz sp⟩,hc es,hf es,hz es⟩,by simp[nH],fun i h h'=>?_⟩;simp only[nH,List.getElem_map];exact wT _
theorem SK{t:Ty}:∀{l:List t.den} {x:t.den},x∈l→t.bulk x≤(l.map t.bulk).sum
 |a::l,x,h=>by
  rw[cb,pY];rcases dI.1 h with rfl|h
  ·omega
  ·have:=SK h;omega
def aBW(x:(Ty.sl iB).den):(tL x).length≤(Ty.sl iB).bulk x:=by
 cases x with
 |none=>exact cP _
 |some q=>
  obtain⟨es,sp⟩:=q;have h:es.length≤(es.map (Ty.bulk iB)).sum:=ub iB (fun _=>Nat.succ_le_succ (cP _)) es;show(es.map lE).length≤(es.map (Ty.bulk iB)).sum+(sp.map (Ty.bulk iB)).sum+1;rw[bz];omega
def SM{x:(Ty.sl cy).den}(hw:(Ty.sl cy).wf x)(hb:(Ty.sl cy).bulk x≤1048576):(nH x).length≤1048576∧lX (nH x):=by
 cases x with
 |none=>exact⟨cP _,fun s hs=>by simp[nH]at hs⟩
 |some q=>
  obtain⟨es,sp⟩:=q
  have hbk:(es.map (Ty.bulk cy)).sum≤1048576:=by
   have:(es.map (Ty.bulk cy)).sum+(sp.map (Ty.bulk cy)).sum+1≤1048576:=hb;omega
  have h:es.length≤(es.map (Ty.bulk cy)).sum:=ub cy (fun _=>Nat.succ_le_succ (cP _)) es;refine⟨by simp only[nH,bz];omega,fun s hs=>?_⟩;simp only[nH,List.mem_map]at hs;obtain⟨y,hy,rfl⟩:=hs;have hyb:=SK hy;obtain⟨l,s,⟨⟩⟩:=y;have hyw:=hw.2.1 _ hy;obtain⟨w1,w2,_⟩:=hyw;obtain⟨a1,a2⟩:=VZ w1;have hb2:(Ty.sl ma).bulk l+((Ty.sl iB).bulk s+0)+1≤(es.map (Ty.bulk cy)).sum:=hyb;have hl:=aBW s;exact⟨⟨a1,fun z hz=>(a2 z hz).1⟩,by simp only[CZ];omega⟩
def tM(x:(Ty.sl (.int .u8)).den):List UInt8:=match x with|none=>[]|some q=>q.1.map fun n=>UInt8.ofNat (Int.toNat n)
def aBX{x:(Ty.sl (.int .u8)).den}(h:(Ty.sl (.int .u8)).wf x):ay 1 ((Ty.sl (.int .u8)).pv x) (aI (tM x)):=by
 cases x with
 |none=>exact jn 1
 |some q=>
  obtain⟨es,sp⟩:=q
  have key:∀l:List Int,(∀n∈l,(Lit.int .u8 n).wf=true)→aI (l.map fun n=>UInt8.ofNat n.toNat)=l.map fun n=>PV.int .u8 n:=by
   intro l hl
   induction l with
   |nil=>rfl
   |cons n l ih=>
    have hn:=hl n (by simp);simp only[Lit.wf,aJ,decide_eq_true_eq]at hn;have h1:0≤n∧n≤255:=by simpa[IntKind.min,IntKind.max,IntKind.signed,IntKind.bits]using hn
    have h2:((UInt8.ofNat n.toNat).toNat:Int)=n:=by
     have:n.toNat<256:=by omega
     simp[iy this];omega
    simp only[aI,cb,h2]at ih ⊢;rw[ih (fun m hm=>hl m (by simp[hm]))]
  have e:aI (tM (some (es,sp)))=es.map fun n=>PV.int .u8 n:=key es h.2.1;rw[e];have hc:∀l:List Int,∀v∈l.map fun n=>PV.int .u8 n,v.cells.length=1:=fun l v hv=>by obtain⟨_,_,rfl⟩:=List.mem_map.1 hv;rfl
  have hf:∀l:List Int,PV.freeL (l.map fun n=>PV.int .u8 n)=true:=fun l=>jp (fun n=>PV.int .u8 n) (fun _=>rfl) l;have hz:∀l:List Int,PV.frzL (l.map fun n=>PV.int .u8 n)=l.map fun n=>PV.int .u8 n:=fun l=>jq (fun n=>PV.int .u8 n) (fun _=>rfl) l;exact⟨.inr ⟨sp.map fun n=>PV.int .u8 n,rfl,hc sp,hf sp,hz sp⟩,hc es,hf es,hz es⟩
def aBY(x:(Ty.sl (.int .u8)).den):(tM x).length≤(Ty.sl (.int .u8)).bulk x:=by
 cases x with
 |none=>exact cP _
 |some q=>
  obtain⟨es,sp⟩:=q;have h:es.length≤(es.map (Ty.bulk (.int .u8))).sum:=ub (.int .u8) (fun _=>aU _) es;have e:(tM (some (es,sp))).length=es.length:=bz _;show(tM (some (es,sp))).length≤(es.map (Ty.bulk (.int .u8))).sum+(sp.map (Ty.bulk (.int .u8))).sum+1;omega
def law_BlockBack(xs:ly [.sl cy,.sl (.int .u8)])(h:qa [.sl cy,.sl (.int .u8)] xs)(hb:oi [.sl cy,.sl (.int .u8)] xs≤1048576):dc tie2 456 (lz [.sl cy,.sl (.int .u8)] xs) cS (fun r=>∃S',r=.ret (.bool true) S'):=by
 obtain⟨l,b,u⟩:=xs;obtain⟨h1,h2,_⟩:=h;have hb':(Ty.sl cy).bulk l+((Ty.sl (.int .u8)).bulk b+0)≤1048576:=hb;obtain⟨q1,q2⟩:=SM h1 (by omega);have hl:=aBY b;exact aBO (SJ l) q2 (by omega) (aBX h2) (by omega) cS
def SN{n:Int}(h:(Lit.int .i64 n).wf=true):-9223372036854775808≤n∧n≤9223372036854775807:=by
 simp only[Lit.wf,aJ,decide_eq_true_eq]at h;simpa[IntKind.min,IntKind.max,IntKind.signed,IntKind.bits]using h
def aLo(xs:ly [.sl cy,.int .i64,.int .i64,.int .i64,.int .i64])(h:qa [.sl cy,.int .i64,.int .i64,.int .i64,.int .i64] xs)(hb:oi [.sl cy,.int .i64,.int .i64,.int .i64,.int .i64] xs≤1048576) :
  dc tie2 457 (lz [.sl cy,.int .i64,.int .i64,.int .i64,.int .i64] xs) cS (fun r=>∃S',r=.ret (.bool true) S'):=by
 obtain⟨l,i,low,cut,high,u⟩:=xs;obtain⟨h1,h2,h3,h4,h5,_⟩:=h;have hb':(Ty.sl cy).bulk l+(1+(1+(1+(1+0))))≤1048576:=hb;obtain⟨q1,q2⟩:=SM h1 (by omega);have w4:=SN h4;have w5:=SN h5;exact aBT (SJ l) q2 (by omega) w4.1 (Int.lt_of_le_of_lt w5.2 (by decide)) cS
end Ps
set_option linter.defProp false
namespace Ps
open Go Go.ChangeShapes Go.WideShapes Go.ChangeAt Go.RowKit
set_option linter.unusedVariables false
set_option linter.unusedSimpArgs false
section
variable {H : Type} {enc : TypeId × Value → H}
def contractW{X:Tie}(hX:dR X){gid:Nat}{fn:Func}(hfn:X.P.funcs[X.fnOf gid]?=some fn){s:ChangeSpec}(hvars:s.vars=[])
  (τs:List Ty) (hchk:kP X.P τs fn.params.toList=true) (hspec:∀(H:Type) (ds:List (DataW H)),ds.length=fn.params.size→s.fn H ds = {results:=[.lit (.bool true)],args:=ds})
  {tb:TypeId} (hres:fn.resultTypes = #[tb]) (htb:X.P.underlying tb=some .bool) (hl:laidOutB X.P=true) {N:Nat} (hlaw:∀xs:ly τs,qa τs xs→oi τs xs≤N→dc X gid (lz τs xs) cS (fun r=>∃S',r=.ret (.bool true) S'))
  {W:World} {base:Nat} {args:Array Value} {ds gs:List (DataW H)} {before:List MemPlace} (hN:bulkDs ds≤N)
  (hgl:∀q∈X.gl,q.1<W.heap.size∧W.cell? ⟨q.1,0,none⟩=some q.2)
  (hval:∀(j:Nat) t v,fn.params[j]?=some t→args[j]?=some v→Value.okWide X.P W .any base t v)
  (hW:DataW.Whole enc X.P fn.params.toList s.vars false W args.toList ds gs before) :
  Calls X.P (X.fnOf gid) args W fun e W'=>∃v,e=.returned v∧s.post enc X.P fn false true false false W args v W':=by
 have hW':=hW;have hlt:=hW.lt;obtain⟨p,q,hA,hV,rfl,hfz,hnd⟩:=hW;rw[hvars]at hV;obtain⟨rfl,rfl⟩:=trodVars_none hV;obtain⟨l1,l2⟩:=Cq hA;let k:=Sn args.toList
 have hoff:∀v∈args.toList,∀a l c,Value.slice (some a) l c∈v.cells.toList→(∃us t f,W.heap[a.block]?=some (.cells us t f))→a.off≤jt W k a.block:=by
  intro v hv a l c hm ⟨us,t,f,he⟩;have:a.off≤k:=Cn (List.mem_flatMap.2 ⟨v,hv,hm⟩);simp only[jt,he];omega
 obtain⟨xs,x1,x2,x3⟩:=Co (X:=X) (enc:=enc) (So W k) τs fn.params.toList args.toList ds p hchk (fun j t v e1 e2=>hval j t v (by simpa using e1) (by simpa using e2)) hoff hA;have hc:=hlaw xs x1 (by rw[x2];exact hN);have hVRL:bX X (cV (jt W k)) W (lz τs xs) args:=⟨by simpa using x3.1,fun j c u e1 e2=>x3.2 j c u e1 (by simpa using e2)⟩;refine(aE9 hX hc (p:=jt W k) (fun b hb=>?_) ?_ hVRL).mono fun e W' ⟨he,hk⟩=>?_
 ·have:W.heap[b]?=none:=by simpa using hb
  simp[jt,this]
 ·exact fun q hq=>⟨⟨(hgl q hq).1,fun _=>by simp[cV],rfl,fun _=>by simp[cV]⟩,(hgl q hq).2⟩
 subst he
 have hds:s.fn H (ds++[]) = {results:=[.lit (.bool true)],args:=ds}:=by
  rw[eP];exact hspec H ds (by rw[l2];simp)
 refine⟨_,rfl,SX (pa:=p) (pv:=[]) hW' (fun _ _ _=>?_) (fun sp hsp=>?_) (fun _ _=>?_) rfl hk (ok_one hres rfl (okWide_bool_mk htb _))⟩
 ·rw[hds,hres];exact trodAll_cons_mk (shut_bool htb _) trodAll_mk0
 ·rw[hds];exact Cp hl hk hchk hA (fun x hx=>hlt x (by simp[hx])) (fun x hx=>hsp x (by simp[hx]))
 ·rw[hds,hvars];rfl
end
end Ps
