/- What may be a block: its chunks, and how long its bytes are. -/
import Derived.Test.YtpjmpaidcidjgaaGreatDoorDefsKb
import Derived.Test.YtpjmpaidcidjgaaGreatDoorEEKb
import Derived.Test.YtpjmpaidcidjgaaGreatDoorEBKb
set_option linter.defProp false
namespace Ps
set_option linter.unusedSimpArgs false
set_option linter.unusedVariables false
open Go Go.Proofs
set_option maxRecDepth 100000
abbrev bi:=List UInt8×List Sm
def wM(v:PV)(p:bi):Prop:=∃bv,v=.agg [bv,.int .i64 (p.2.length:Int),.int .i64 (aK p.2 0),.int .i64 (aK p.2 (p.2.length-1))]∧ay 1 bv (aI p.1)∧decP p.1=some p.2∧p.1.length≤67108864
def fw(qs:List PV)(ps:List bi):Prop:=qs.length=ps.length∧∀(i:Nat) (h:i<qs.length) (h':i<ps.length),wM qs[i] ps[i]
def wM.cells {v:PV} {p:bi} (h:wM v p):v.cells.length=4:=by obtain⟨bv,rfl,_⟩:=h;rfl
def fw.cells{qs:List PV}{ps:List bi}(h:fw qs ps):∀e∈qs,e.cells.length=4:=by
 intro e he;obtain⟨i,hi,rfl⟩:=dz he;exact(h.2 i hi (by have:=h.1;omega)).cells
def fw.free{qs:List PV}{ps:List bi}(h:fw qs ps):PV.freeL qs=true:=il fun e he=>by
 obtain⟨i,hi,rfl⟩:=dz he;obtain⟨bv,e,hb,_⟩:=h.2 i hi (by have:=h.1;omega);rw[e];simp[PV.free,PV.freeL,hb.free]
def fw.push{qs:List PV}{ps:List bi}(h:fw qs ps){v:PV}{p:bi}(hv:wM v p):fw (qs++[v]) (ps++[p]):=by
 refine⟨by simp[h.1],fun i h1 h2=>?_⟩;simp only[am,bL,cW]at h1 h2;by_cases hi:i<qs.length
 ·rw[List.getElem_append_left hi,List.getElem_append_left (by have:=h.1;omega)];exact h.2 i hi _
 ·have e:i=qs.length:=by omega
  subst e;rw[List.getElem_append_right (by omega),List.getElem_append_right (by have:=h.1;omega)];simpa[h.1]using hv
def nE(b:List UInt8)(a i n:Nat)(last:Int):Option (bi×Nat):=match fZ b a with
 |some (c,a')=>(match decP c with|some l=>if last<aK l 0∧(l.length=120∨i+1=n)then some ((c,l),a')else none|none=>none)
 |none=>none
def iR(b:List UInt8)(n:Nat):Nat→Nat→Nat→Int→List bi→Option (List bi×Nat)
 |0,_,a,_,ps=>some (ps,a)
 |k+1,i,a,last,ps=>match nE b a i n last with
  |some (p,a')=>iR b n k (i+1) a' (aK p.2 (p.2.length-1)) (ps++[p])
  |none=>none
def gz(b:List UInt8)(a:Nat):Option (List bi×Nat):=match gy b a with
 |some (n,nx)=>if 1≤n∧n≤65536 then iR b n n 0 nx (-1) []else none
 |none=>none
def RQ{S S':St}{r a c:Nat}{bv:PV}(hr:r<S.objs.length)(h:aL (bS S r bv a) S'):aL (bS S r bv c) (bS S' r bv c):=by
 obtain⟨o,t,rfl⟩:=h;refine⟨o,t,?_⟩;simp only[bS,St.mk.injEq,and_true];rw[uR _ _ (by simpa using hr),uS]
def aAk{S S':St}{r a c sz:Nat}{bv v:PV}{es:List PV}(hr:r<S.objs.length)(h:ah (bS S r bv a) sz S' v es):ah (bS S r bv c) sz (bS S' r bv c) v es:=⟨RQ hr h.grows,h.acc⟩
def wN{S S':St}{r a:Nat}{bv:PV}(hr:r<S.objs.length)(h:aL (bS S r bv a) S'):S'.objs[r]?=some [bv,.int .i64 (a:Int)]:=h.get (tE hr)
def aAl{S:St}{r a:Nat}{bv:PV}(ho:S.objs[r]?=some [bv,.int .i64 (a:Int)]):bS S r bv a=S:=by
 have hr:=(aM.1 ho).1
 have:S.objs.set r [bv,.int .i64 (a:Int)]=S.objs:=by
  apply iV;intro i;rw[lM];split
  ·rename_i e;subst e;rw[ho];try simp[hr]
  ·rfl
 unfold bS;rw[this]
def RR{S S1:St}{r a:Nat}{bv v:PV}(hg:aL (bS S r bv a) S1)(hf:v.free=true):∃v' X,aW false S S1 v=(v',X)∧(v'=v∨v'=v.frz)∧aL (bS S r bv a) X:=by
 obtain⟨o,t,rfl⟩:=hg;have hl:(bS S r bv a).objs.length=S.objs.length:=CF;have e1:((bS S r bv a).objs++o).take S.objs.length=(bS S r bv a).objs:=by rw[←hl,pZ]
 have e2:((bS S r bv a).tips++t).take S.tips.length=S.tips:=pZ;unfold aW;rw[qY hf,if_neg (by decide)];simp only[e1,e2];split
 ·rename_i h;have e3:=fg h;refine⟨_,_,rfl,.inr rfl,⟨[],[],?_⟩⟩;simp only[eP];rw[←e3];rfl
 ·split
  ·exact⟨_,_,rfl,.inl rfl,⟨[],t,by simp⟩⟩
  ·exact⟨_,_,rfl,.inl rfl,⟨o,t,rfl⟩⟩
def aAm{v v':PV}{sz:Nat}{es:List PV}(h:ba sz v es)(hv:v'=v∨v'=v.frz)(hz:PV.frzL es=es):ba sz v' es:=by
 rcases hv with rfl|rfl
 ·exact h
 ·rcases h with⟨rfl,rfl⟩|⟨tip,sp,rfl,hc⟩
  ·exact .inl ⟨rfl,rfl⟩
  ·refine .inr ⟨none,PV.frzL sp,by simp[PV.frz,hz],fun e he=>?_⟩;rcases bg.1 he with he|he
   ·exact hc e (bg.2 (.inl he))
   ·rw[gL]at he;obtain⟨x,hx,rfl⟩:=List.mem_map.1 he;have:=hc x (bg.2 (.inr hx));cases x<;>simp_all[PV.frz,PV.cells,gL]
def fw.frz{qs:List PV}{ps:List bi}(h:fw qs ps):PV.frzL qs=qs:=wL fun e he=>by
 obtain⟨i,hi,rfl⟩:=dz he;obtain⟨bv,e,hb,_⟩:=h.2 i hi (by have:=h.1;omega);rw[e];simp[PV.frz,PV.frzL,hb.frz]
structure CH(r n i:Nat)(last:Int)(out:PV)(fr:Fr):Prop where
 f0:fr 0=.ptr r 0
 f3:fr 3=.int .i64 (n:Int)
 f4:fr 4=out
 f5:fr 5=.int .i64 last
 f19:fr 19=.int .i64 (n:Int)
 f20:fr 20=.int .i64 (i:Int)
def aAn{S S':St}{r a n i:Nat}{bv out:PV}{b:List UInt8}{last:Int}{qs:List PV}{ps:List bi}{fr:Fr}{Post:Wx→Fr→St→Prop}(hr:r<S.objs.length)(hv:ay 1 bv (aI b))(hb:b.length≤67108864)
  (hin:i<n)(hn:n≤65536)(hF:CH r n i last out fr)(hA:ah (bS S r bv a) 4 S' out qs)(hq:fw qs ps)(hpl:ps.length=i)
  (hN:∀p a' out' qs' fr' S'',nE b a i n last=some (p,a')→ah (bS S r bv a') 4 S'' out' qs'→fw qs' (ps++[p])→CH r n (i+1) (aK p.2 (p.2.length-1)) out' fr'→Post .norm fr' S'')
  (hP:∀m fr' S'' a',nE b a i n last=none→aL (bS S r bv a') S''→Post (.pan (cd m)) fr' S''):W tie2 sC fr S' Post:=by
 obtain⟨f0,f3,f4,f5,f19,f20⟩:=hF;have hlt:(i:Int)<(n:Int):=by omega
 have ho:=wN hr hA.grows;unfold sC;refine bO tieOk2 rfl ?_;simp -implicitDefEqProofs [aZ,vi,f19,f20,hlt];refine bw (gC (b:=true) (by simp[hlt,hin]) (mO ?_));refine bw (pM ?_);refine bO tieOk2 rfl ?_;simp -implicitDefEqProofs [aZ,Ao,f20];refine bw (dC (dB tieOk2 ?_));unfold Gc;refine cw rfl ?_;simp -implicitDefEqProofs [aZ,f0];refine ez (by simp[dG]) (RO hv hb ho) ?_ ?_
 rotate_left
 ·intro u S1 hq
  cases hp:fZ b a with
  |some p=>rw[hp]at hq;obtain⟨c,a'⟩:=p;obtain⟨xv,_,e⟩:=hq;cases e
  |none=>
   rw[hp]at hq;obtain⟨m,a',e⟩:=hq;cases e;exact hP m _ _ a' (by rw[nE,hp]) (RQ hr hA.grows)
 intro xv S1 hq1;refine⟨fun q hq=>(by cases hq),?_⟩
 cases hp:fZ b a with
 |none=>rw[hp]at hq1;obtain⟨m,a',e⟩:=hq1;cases e
 |some p=>
 obtain⟨c,a'⟩:=p;rw[hp]at hq1;obtain⟨xv',hx,e⟩:=hq1;cases e;obtain⟨ha',hcl⟩:=RN hp;have hA1:=aAk (c:=a') hr hA;have ho1:=wN hr hA1.grows;obtain⟨S2,hS2⟩:∃S2,S2=bS S' r bv a':=⟨_,rfl⟩;rw[←hS2]at hA1 ho1 ⊢;obtain⟨cv,hc1,hc2⟩:=aAj hx.isl (by omega);have hcl2:∀S,aN T2 201 [xv] S=some (cv,S):=fun S=>fv (hc1 S);obtain⟨o1,o2⟩:=hc2.one;refine eL rfl ?_;simp -implicitDefEqProofs [aZ,hcl2,aR,dx,ak,o1,o2,aG,bt];refine bO tieOk2 rfl ?_;simp -implicitDefEqProofs [aZ,Ap];have hpq:nE b a i n last=(match decP c with|some l=>if last<aK l 0∧(l.length=120∨i+1=n)then some ((c,l),a')else none|none=>none):=by rw[nE,hp]
 have hbd:=fun S=>Zv hc2 (by omega) S
 obtain⟨nn,lw,hg,ee,hbr⟩:∃nn lw hg ee:Int,nD c=.tup [.int .i64 nn,.int .i64 lw,.int .i64 hg,.int .i64 ee]:=by
  unfold nD;split
  ·exact⟨_,_,_,_,rfl⟩
  ·exact⟨_,_,_,_,rfl⟩
 rw[hbr]at hbd
 have hbb:(∃l,decP c=some l∧nn=(l.length:Int)∧lw=aK l 0∧hg=aK l (l.length-1)∧ee=0)∨(decP c=none∧ee=5):=by
  unfold nD at hbr;split at hbr
  ·rename_i l hl;simp only[PV.tup.injEq,nk,PV.int.injEq,true_and,and_true]at hbr;exact .inl ⟨l,hl,hbr.1.symm,hbr.2.1.symm,hbr.2.2.1.symm,hbr.2.2.2.symm⟩
  ·rename_i hl;simp only[PV.tup.injEq,nk,PV.int.injEq,true_and,and_true]at hbr;exact .inr ⟨hl,hbr.2.2.2.symm⟩
 refine bO tieOk2 rfl ?_;simp -implicitDefEqProofs [aZ,Aq,bD,hbd,aG,ak];obtain⟨S3,hS3⟩:∃S3:St,S3=⟨S2.objs++[[cv,.int .i64 nn,.int .i64 lw,.int .i64 hg]],S2.tips⟩:=⟨_,rfl⟩;rw[←hS3];have hA3:ah (bS S r bv a') 4 S3 out qs:=by rw[hS3];exact hA1.objs _
 have ho3:=wN hr hA3.grows;have hp3:S3.objs[S2.objs.length]?=some [cv,.int .i64 nn,.int .i64 lw,.int .i64 hg]:=by rw[hS3];simp
 have hp1:∀{a:PV} {m:List PV},bG false 1 (a::m)=some a:=fun {a m}=>by simp[bG]
 have hw1:IntKind.i64.wrap ((n:Int)-1)=((n-1:Nat):Int):=by rw[au]<;>omega
 have hw2:IntKind.i64.wrap ((i:Int)+1)=((i+1:Nat):Int):=by rw[au]<;>omega
 have rest:∀(ok:Bool) (fr1:Fr) (Pst:Wo→Prop),fr1 38=.ptr r 0→fr1 57=.bool ok→(ok=false→Pst (.pan (cd a') S3))→(ok=true→Pst (.norm (upd fr1 58 (.tup [])) S3)) →
   cT tie2 (Q 58 (.wc [] (.cst (.fn 160 [])) [(.tmp 38),(.tmp 57)])::[]) fr1 S3 Pst:=by
  intro ok fr1 Pst h38 h57 k1 k2;refine ez (by simp[dG,h38,h57]) (tF (ok:=ok) ho3) ?_ ?_
  ·intro u S4 hq;refine⟨fun q hq=>(by cases hq),?_⟩
   cases ok with
   |true=>
    have:=hq.1 rfl;cases this
    exact k2 rfl
   |false=>have:=hq.2 rfl;cases this
  ·intro u S4 hq
   cases ok with
   |true=>have:=hq.1 rfl;cases this
   |false=>
    have:=hq.2 rfl;cases this;exact k1 rfl
 refine bw (dC (dB tieOk2 ?_));unfold Gd;refine cw rfl ?_;rcases hbb with⟨l,hl,rfl,rfl,rfl,rfl⟩|⟨hl,rfl⟩
 ·rw[hl]at hpq;simp only at hpq;obtain⟨hl1,hl2⟩:=wK hl
  have good:last<aK l 0∧(l.length=120∨i+1=n)→∀fr1:Fr,fr1 0=.ptr r 0→fr1 3=.int .i64 (n:Int)→fr1 4=out→fr1 7=.ptr S2.objs.length 0→fr1 19=.int .i64 (n:Int)→fr1 20=.int .i64 (i:Int) →
    W tie2 (.seq (.clr [(59,61)] (.region vj)) (.clr [(61,65)] (.region vk))) fr1 S3 (fun e fr' S''=>match e with
     |.norm=>W tie2 (.clr [(65,66)] (.region sS)) fr' S'' Post
     |.exit k=>if k=1 then W tie2 (.clr [(65,66)] (.region sS)) fr' S'' Post else Post (.exit k) fr' S''
     |e=>Post e fr' S''):=by
   intro hok fr1 g0 g3 g4 g7 g19 g20;rw[if_pos hok]at hpq;refine bO tieOk2 rfl ?_;simp -implicitDefEqProofs [aZ,vj,g7,bI hp3,hp1];obtain⟨out',S4,a1,a2,a3⟩:=hA3.push (bytes:=48) (.agg [cv,.int .i64 (l.length:Int),.int .i64 (aK l 0),.int .i64 (aK l (l.length-1))]) (by have:=hq.1;omega);have qK:∀{a b c d:PV},bG true 4 [a,b,c,d]=some (.agg [a,b,c,d]):=fun {a b c d}=>rfl;refine kZ tieOk2 rfl ?_;simp -implicitDefEqProofs [aZ,vk,g4,g7,bI hp3,qK,aG,cY,dU,o1,o2,a1];refine kZ tieOk2 rfl ?_;simp -implicitDefEqProofs [aZ,sS,g20,hw2];exact hN (c,l) a' out' _ _ _ hpq a2 (hq.push ⟨cv,rfl,hc2,hl,by simp only;omega⟩) ⟨by simp[g0],by simp[g3],by simp,by simp,by simp[g19],by simp⟩
  by_cases c1:last<aK l 0
  ·by_cases c2:l.length=120
   ·have hi2:((l.length:Int)==120)=true:=by rw[beq_iff_eq];omega
    simp -implicitDefEqProofs [aZ,f0,f3,f5,bI hp3,hp1,c1,hi2,c2,hw1];refine rest true _ _ (by simp[f0]) (by simp) (fun h=>by cases h) (fun _=>?_);exact good ⟨c1,.inl c2⟩ _ (by simp[f0]) (by simp[f3]) (by simp[f4]) (by simp) (by simp[f19]) (by simp[f20])
   ·have hi2:((l.length:Int)==120)=false:=by rw[beq_eq_false_iff_ne];omega
    by_cases c3:i+1=n
    ·have hi3:((i:Int)==((n-1:Nat):Int))=true:=by rw[beq_iff_eq];omega
     simp -implicitDefEqProofs [aZ,f0,f3,f5,bI hp3,hp1,c1,hi2,c2,hw1,hi3];refine rest true _ _ (by simp[f0]) (by simp) (fun h=>by cases h) (fun _=>?_);exact good ⟨c1,.inr c3⟩ _ (by simp[f0]) (by simp[f3]) (by simp[f4]) (by simp) (by simp[f19]) (by simp[f20])
    ·have hi3:((i:Int)==((n-1:Nat):Int))=false:=by rw[beq_eq_false_iff_ne];omega
     rw[if_neg (by omega)]at hpq;simp -implicitDefEqProofs [aZ,f0,f3,f5,bI hp3,hp1,c1,hi2,c2,hw1,hi3];refine rest false _ _ (by simp[f0]) (by simp) (fun _=>?_) (fun h=>by cases h);exact hP _ _ _ a' hpq hA3.grows
  ·rw[if_neg (fun h=>c1 h.1)]at hpq;simp -implicitDefEqProofs [aZ,f0,f3,f5,bI hp3,hp1,c1,hw1];refine rest false _ _ (by simp[f0]) (by simp) (fun _=>?_) (fun h=>by cases h);exact hP _ _ _ a' hpq hA3.grows
 ·rw[hl]at hpq;simp -implicitDefEqProofs [aZ,f0,f3,f5,bI hp3,hp1,hw1];refine rest false _ _ (by simp[f0]) (by simp) (fun _=>?_) (fun h=>by cases h);exact hP _ _ _ a' hpq hA3.grows
def aAo{S:St}{r n:Nat}{bv:PV}{b:List UInt8}{Post:Wx→Fr→St→Prop}(hr:r<S.objs.length)(hv:ay 1 bv (aI b))(hb:b.length≤67108864)(hn:n≤65536) :
  ∀(k i a:Nat) (last:Int) (ps:List bi) (qs:List PV) (out:PV) (fr:Fr) (S':St),i+k=n→CH r n i last out fr→ah (bS S r bv a) 4 S' out qs→fw qs ps→ps.length=i →
  (∀ps' a' out' qs' fr' S'',iR b n k i a last ps=some (ps',a')→ah (bS S r bv a') 4 S'' out' qs'→fw qs' ps'→fr' 4=out'→Post (.exit 0) fr' S'') →
  (∀m fr' S'' a',iR b n k i a last ps=none→aL (bS S r bv a') S''→Post (.pan (cd m)) fr' S'')→WL tie2 sC fr S' Post:=by
 intro k
 induction k with
 |zero=>
  intro i a last ps qs out fr S' hik hF hA hq hpl hX hP;have hlt:¬(i:Int)<(n:Int):=by omega
  have hln:¬i<n:=by omega
  refine rI ?_;unfold sC;refine bO tieOk2 rfl ?_;simp -implicitDefEqProofs [aZ,vi,hF.f19,hF.f20,hlt,hln];refine bw (gC (b:=false) (by simp) (Dv ?_))
  exact hX ps a out qs _ S' rfl hA hq (by simp[hF.f4])
 |succ k ih=>
  intro i a last ps qs out fr S' hik hF hA hq hpl hX hP;refine rI (aAn hr hv hb (by omega:i<n) hn hF hA hq hpl ?_ ?_)
  ·intro p a' out' qs' fr' S'' hp hA' hq' hF';have e:iR b n (k+1) i a last ps=iR b n k (i+1) a' (aK p.2 (p.2.length-1)) (ps++[p]):=by rw[iR,hp]
   exact ih (i+1) a' _ (ps++[p]) qs' out' fr' S'' (by omega) hF' hA' hq' (by simp[hpl]) (fun ps2 a2 o2 q2 fr2 S2 h=>hX ps2 a2 o2 q2 fr2 S2 (e.trans h)) (fun m fr2 S2 a2 h=>hP m fr2 S2 a2 (e.trans h))
  ·intro m fr' S'' a' hp hg;exact hP m fr' S'' a' (by rw[iR,hp]) hg
def aAp{r:Nat}{bv:PV}{b:List UInt8}{a:Nat}{S:St}(hv:ay 1 bv (aI b))(hb:b.length≤67108864)(ho:S.objs[r]?=some [bv,.int .i64 (a:Int)]) :
  dc tie2 163 [.ptr r 0] S (fun q=>match gz b a with
   |some (ps,a')=>∃v S' qs,q=.ret v S'∧aL (bS S r bv a') S'∧ba 4 v qs∧fw qs ps
   |none=>∃m S' a',q=.pan (cd m) S'∧aL (bS S r bv a') S'):=by
 have hr:=(aM.1 ho).1;have hself:=aAl ho
 have main:∀PP:Wx→Fr→St→Prop,(∀(m:Int) (S1:St) (a':Nat) (fr:Fr),aL (bS S r bv a') S1→gz b a=none→PP (.pan (cd m)) fr S1) →
   (∀(ps:List bi) (a':Nat) (out:PV) (qs:List PV) (fr:Fr) (S1:St),gz b a=some (ps,a')→ah (bS S r bv a') 4 S1 out qs→fw qs ps→fr 2=out→PP .ret fr S1)→W tie2 px.body (bk [.ptr r 0]) S PP:=by
  intro PP pan ret;unfold px;simp only;refine bO tieOk2 rfl ?_;simp -implicitDefEqProofs [aZ,Aj];refine bw (dC (dB tieOk2 ?_));unfold Ga;refine cw rfl ?_;simp -implicitDefEqProofs [aZ];refine ez (by simp[dG]) (RL hv.isl hb ho) ?_ ?_
  rotate_left
  ·intro u S1 hq
   cases hn:gy b a with
   |some p=>rw[hn]at hq;obtain⟨n,nx⟩:=p;cases hq
   |none=>
    rw[hn]at hq;obtain⟨m,hq⟩:=hq;cases hq;exact pan m S a _ (by rw[hself];exact aL.refl S) (by rw[gz,hn])
  intro u S1 hq;refine⟨fun q hq=>(by cases hq),?_⟩
  cases hn:gy b a with
  |none=>rw[hn]at hq;obtain⟨m,hq⟩:=hq;cases hq
  |some p=>
  obtain⟨n,nx⟩:=p;rw[hn]at hq;cases hq;obtain⟨hnx,hnn⟩:=CG hn;have hso:gz b a=if 1≤n∧n≤65536 then iR b n n 0 nx (-1) []else none:=by rw[gz,hn]
  obtain⟨S1,hS1⟩:∃S1,S1=bS S r bv nx:=⟨_,rfl⟩;have hg1:aL (bS S r bv nx) S1:=by rw[hS1];exact aL.refl _
  have ho1:=wN hr hg1;rw[←hS1];refine eL rfl ?_;simp -implicitDefEqProofs
  have rest:∀(ok:Bool) (fr1:Fr) (Pst:Wo→Prop),fr1 11=.ptr r 0→fr1 17=.bool ok→(ok=false→Pst (.pan (cd nx) S1))→(ok=true→Pst (.norm (upd fr1 18 (.tup [])) S1)) →
    cT tie2 (Q 18 (.wc [] (.cst (.fn 160 [])) [(.tmp 11),(.tmp 17)])::[]) fr1 S1 Pst:=by
   intro ok fr1 Pst h38 h57 k1 k2;refine ez (by simp[dG,h38,h57]) (tF (ok:=ok) ho1) ?_ ?_
   ·intro u S4 hq;refine⟨fun q hq=>(by cases hq),?_⟩
    cases ok with
    |true=>
     have:=hq.1 rfl;cases this
     exact k2 rfl
    |false=>have:=hq.2 rfl;cases this
   ·intro u S4 hq
    cases ok with
    |true=>have:=hq.1 rfl;cases this
    |false=>
     have:=hq.2 rfl;cases this;exact k1 rfl
  refine bw (dC (dB tieOk2 ?_));unfold Gb;refine cw rfl ?_;by_cases c1:1≤n
  rotate_left
  ·have hi1:¬(1:Int)≤(n:Int):=by omega
   simp -implicitDefEqProofs [aZ,hi1,c1];exact rest false _ _ (by simp) (by simp) (fun _=>pan _ S1 nx _ hg1 (by rw[hso,if_neg (by omega)])) (fun h=>by cases h)
  have hi1:(1:Int)≤(n:Int):=by omega
  by_cases c2:n≤65536
  rotate_left
  ·have hi2:¬(n:Int)≤65536:=by omega
   simp -implicitDefEqProofs [aZ,hi1,hi2,c1];exact rest false _ _ (by simp) (by simp) (fun _=>pan _ S1 nx _ hg1 (by rw[hso,if_neg (by omega)])) (fun h=>by cases h)
  have hi2:(n:Int)≤65536:=by omega
  rw[if_pos ⟨c1,c2⟩]at hso;simp -implicitDefEqProofs [aZ,hi1,hi2,c1];refine rest true _ _ (by simp) (by simp) (fun h=>by cases h) (fun _=>?_);simp only;refine bO tieOk2 rfl ?_;simp -implicitDefEqProofs [aZ,Ak];refine bO tieOk2 rfl ?_;simp -implicitDefEqProofs [aZ,Al];refine bw (bO tieOk2 rfl ?_);simp -implicitDefEqProofs [aZ,Am];refine pM (Dx (aAo (S:=S) (r:=r) (bv:=bv) (b:=b) hr hv hb c2 n 0 nx (-1) [] [] .nils _ S1 (by omega) ⟨by simp,by simp,by simp,by simp,by simp,by simp⟩ (lG 4 hg1) ⟨rfl,fun i h=>by simp at h⟩ rfl ?_ ?_))
  ·intro ps a' out qs fr' S2 hp hA hq f4;simp only[if_true];refine bO tieOk2 rfl ?_;simp -implicitDefEqProofs [aZ,Ar,f4];exact kX (ret ps a' out qs _ S2 (hso.trans hp) hA hq (by simp))
  ·intro m fr' S2 a' hp hg;exact pan m S2 a' _ hg (hso.trans hp)
 refine jy tieOk2 aAc aAg rfl (main _ (fun m S1 a' fr hg hn=>?_) (fun ps a' out qs fr S1 hs hA hq f2=>⟨[fr 2],rfl,?_⟩))
 ·obtain⟨v',X,k1,k2,k3⟩:=RR hg (Zx m)
  have e:aW false S S1 (cd m)=(cd m,X):=by
   rw[k1];rcases k2 with rfl|rfl
   ·rfl
   ·rw[Zy]
  simp only[px,e,hn];exact⟨m,X,a',rfl,k3⟩
 ·obtain⟨v',X,k1,k2,k3⟩:=RR hA.grows (v:=out) (by
   rcases hA.acc with⟨rfl,_⟩|⟨id,_,rfl,_⟩
   ·rfl
   ·simp[PV.free,hq.free,PV.freeL])
  rw[f2];simp only[bb,px,k1,hs];exact⟨v',X,qs,rfl,k3,aAm (hA.isSl hq.cells) k2 hq.frz,hq⟩
end Ps
set_option linter.defProp false
namespace Ps
set_option linter.unusedSimpArgs false
set_option linter.unusedVariables false
open Go Go.Proofs
set_option maxRecDepth 100000
def irSet(S:St)(r:Nat)(bv:PV)(a:Nat)(bad:Bool):St:=⟨S.objs.set r [bv,.int .i64 (a:Int),.bool bad],S.tips⟩
def jJ{S:St}{r:Nat}{bv:PV}{a:Nat}{bad:Bool}(hr:r<S.objs.length):(irSet S r bv a bad).objs[r]?=some [bv,.int .i64 (a:Int),.bool bad]:=cK hr
def ah.irSet{S0 S:St}{sz r a:Nat}{v bv:PV}{es:List PV}{bad:Bool}(h:ah S0 sz S v es)(hr:S0.objs.length≤r):ah S0 sz (irSet S r bv a bad) v es:=h.setO hr _
def dt(b:List UInt8)(a:Nat)(most:Int):Option (Nat×Nat):=match gy b a with
 |some (n,nx)=>if most<(n:Int)then none else some (n,nx)
 |none=>none
def lC(b:List UInt8)(a:Nat):Option (List UInt8×Nat):=if(jC b (a:Int)).2.2=0 then(if 64<(jC b (a:Int)).1.length then none else some ((jC b (a:Int)).1,(jC b (a:Int)).2.1))else none
def oY{b:List UInt8}{a n nx:Nat}{most:Int}(h:dt b a most=some (n,nx)):(n:Int)≤most:=by
 unfold dt at h;split at h
 ·split at h
  ·cases h
  ·cases h;omega
 ·cases h
def aAq{b s:List UInt8}{a nx:Nat}(h:lC b a=some (s,nx)):s.length≤64:=by
 unfold lC at h;split at h
 ·split at h
  ·cases h
  ·cases h;omega
 ·cases h
def RS:T.fn 232=some (.code z8):=rfl
def aAr:T.fn 233=some (.code oO):=rfl
def CI{r:Nat}{bv x:PV}{a:Nat}{S:St}(ho:S.objs[r]?=some [bv,.int .i64 (a:Int),.bool true]):aN T 232 [.ptr r 0,x] S=some (.int .i64 0,S):=by
 refine bZ RS rfl ?_;simp -implicitDefEqProofs [z8,bI ho,bD]
def RT{r:Nat}{bv:PV}{b:List UInt8}{a:Nat}{most:Int}{S:St}(hv:ba 1 bv (aI b))(hb:b.length≤67108864)(ho:S.objs[r]?=some [bv,.int .i64 (a:Int),.bool false]) :
  aN T 232 [.ptr r 0,.int .i64 most] S=some (match dt b a most with|some (n,nx)=>(.int .i64 (n:Int),irSet S r bv nx false)|none=>(.int .i64 0,irSet S r bv a true)):=by
 have hg:∀S,aN T 110 [bv,.int .i64 (a:Int)] S=some (lT (dJ b (a:Int)),S):=fun S=>yM hv hb S;have hr:=(aM.1 ho).1;have hself:∀c:List PV,(S.objs.set r c)[r]?=some c:=fun c=>cK hr;have hld:∀(c:List PV) (t:List (Nat×Nat)) (ag:Bool) (n off:Nat),dD ⟨S.objs.set r c,t⟩ ag n (.ptr r off)=bG ag n (c.drop off):=fun c t ag n off=>bI (S:=⟨S.objs.set r c,t⟩) (hself c);have hf:∀(v:PV) (c:List PV),v.free=true→v.frz=v→aW false S ⟨S.objs.set r c,S.tips⟩ v=(v,⟨S.objs.set r c,S.tips⟩):=fun v c h1 h2=>iq (by simp) rfl h1 h2 (fun _ _=>fg);refine bZ RS rfl ?_;obtain⟨n,hn⟩:∃n,n=(dJ b (a:Int)).1:=⟨_,rfl⟩;obtain⟨nx,hnx⟩:∃n,n=(dJ b (a:Int)).2.1:=⟨_,rfl⟩;obtain⟨e,he⟩:∃n,n=(dJ b (a:Int)).2.2:=⟨_,rfl⟩;rw[show lT (dJ b (a:Int))=.tup [.int .i64 (n:Int),.int .i64 (nx:Int),.int .i64 (e:Int)]by rw[hn,hnx,he];rfl]at hg;have hn1:gy b a=if e=0 then some (n,nx)else none:=by rw[gy,←hn,←hnx,←he]
 by_cases h0:e=0
 ·rw[if_pos h0]at hn1;have hc:((e:Int) != 0)=false:=by rw[bne_eq_false_iff_eq];omega
  by_cases hm:most<(n:Int)
  ·have hu:dt b a most=none:=by rw[dt,hn1];simp only;rw[if_pos hm]
   rw[hu];simp -implicitDefEqProofs [z8,bI ho,bD,hg,hc,hm,h0,aG,ho,ak,hld,hself];exact hf _ _ rfl rfl
  ·have hu:dt b a most=some (n,nx):=by rw[dt,hn1];simp only;rw[if_neg hm]
   rw[hu];simp -implicitDefEqProofs [z8,bI ho,bD,hg,hc,hm,h0,aG,ho,ak,hld,hself];exact hf _ _ rfl rfl
 ·rw[if_neg h0]at hn1;have hc:((e:Int) != 0)=true:=by rw[bne_iff_ne];omega
  have hu:dt b a most=none:=by rw[dt,hn1]
  rw[hu];simp -implicitDefEqProofs [z8,bI ho,bD,hg,hc,h0,aG,ho,ak,hld,hself];exact hf _ _ rfl rfl
def aAs{r:Nat}{bv:PV}{b:List UInt8}{a:Nat}{S:St}(hv:ba 1 bv (aI b))(hb:b.length≤67108864)(ho:S.objs[r]?=some [bv,.int .i64 (a:Int),.bool false]) :
  aN T 233 [.ptr r 0] S=some (match lC b a with|some (s,nx)=>(.str s,irSet S r bv nx false)|none=>(.str [],irSet S r bv a true)):=by
 have hg:∀S,aN T 111 [bv,.int .i64 (a:Int)] S=some (oB (jC b (a:Int)),S):=fun S=>WZ hv hb S;have hr:=(aM.1 ho).1;have hself:∀c:List PV,(S.objs.set r c)[r]?=some c:=fun c=>cK hr;have hld:∀(c:List PV) (t:List (Nat×Nat)) (ag:Bool) (n off:Nat),dD ⟨S.objs.set r c,t⟩ ag n (.ptr r off)=bG ag n (c.drop off):=fun c t ag n off=>bI (S:=⟨S.objs.set r c,t⟩) (hself c);have hf:∀(v:PV) (c:List PV),v.free=true→v.frz=v→aW false S ⟨S.objs.set r c,S.tips⟩ v=(v,⟨S.objs.set r c,S.tips⟩):=fun v c h1 h2=>iq (by simp) rfl h1 h2 (fun _ _=>fg);refine bZ aAr rfl ?_;obtain⟨s,hs⟩:∃n,n=(jC b (a:Int)).1:=⟨_,rfl⟩;obtain⟨nx,hnx⟩:∃n,n=(jC b (a:Int)).2.1:=⟨_,rfl⟩;obtain⟨e,he⟩:∃n,n=(jC b (a:Int)).2.2:=⟨_,rfl⟩;rw[show oB (jC b (a:Int))=.tup [.str s,.int .i64 (nx:Int),.int .i64 (e:Int)]by rw[hs,hnx,he];rfl]at hg;have hn1:lC b a=if e=0 then(if 64<s.length then none else some (s,nx))else none:=by rw[lC,←hs,←hnx,←he]
 by_cases h0:e=0
 ·rw[if_pos h0]at hn1;have hc:((e:Int) != 0)=false:=by rw[bne_eq_false_iff_eq];omega
  by_cases hm:64<s.length
  ·have hmi:(64:Int)<(s.length:Int):=by omega
   rw[if_pos hm]at hn1;rw[hn1];simp -implicitDefEqProofs [oO,bI ho,bD,hg,hc,hm,hmi,h0,aG,ho,ak,hld,hself];exact hf _ _ rfl rfl
  ·have hmi:¬(64:Int)<(s.length:Int):=by omega
   rw[if_neg hm]at hn1;rw[hn1];simp -implicitDefEqProofs [oO,bI ho,bD,hg,hc,hm,hmi,h0,aG,ho,ak,hld,hself];exact hf _ _ rfl rfl
 ·rw[if_neg h0]at hn1;have hc:((e:Int) != 0)=true:=by rw[bne_iff_ne];omega
  rw[hn1];simp -implicitDefEqProofs [oO,bI ho,bD,hg,hc,h0,aG,ho,ak,hld,hself];exact hf _ _ rfl rfl
def jk(b:List UInt8):Nat→Nat→List Wd→Option (List Wd×Nat)
 |0,a,L=>some (L,a)
 |k+1,a,L=>match lC b a with
  |some (s,nx)=>jk b k nx (L++[s])
  |none=>none
def nF(b:List UInt8)(L:List Wd)(a:Nat):Option (aQ×Nat):=match dt b a ((L.length:Int)-1)with
 |some (p,a1)=>(match dt b a1 ((L.length:Int)-1)with
  |some (q,a2)=>some ((L.getD p [],L.getD q [],()),a2)
  |none=>none)
 |none=>none
def jK(b:List UInt8)(L:List Wd):Nat→Nat→List aQ→Option (List aQ×Nat)
 |0,a,l=>some (l,a)
 |k+1,a,l=>match nF b L a with
  |some (x,a')=>jK b L k a' (l++[x])
  |none=>none
def gY(b:List UInt8)(L:List Wd):Nat→Nat→List (List aQ)→Option (List (List aQ)×Nat)
 |0,a,ls=>some (ls,a)
 |n+1,a,ls=>match dt b a 8 with
  |some (k,a1)=>(match jK b L k a1 []with
   |some (l,a2)=>gY b L n a2 (ls++[l])
   |none=>none)
  |none=>none
open Classical in
noncomputable def hJ (b:List UInt8):Option (List (List aQ)):=match dt b 0 4096 with
 |some (k,a)=>(match jk b k a []with
  |some (L,a1)=>(match dt b a1 256 with
   |some (n,a2)=>(match gY b L n a2 []with
    |some (ls,_)=>if dZ ls=0∧cU ls=b then some ls else none
    |none=>none)
   |none=>none)
  |none=>none)
 |none=>none
def aAt(L:List Wd):∀e∈L.map PV.str,e.cells.length=1:=by
 intro e he;obtain⟨x,_,rfl⟩:=List.mem_map.1 he;rfl
structure kK(v:PV)(r:Nat)(fr:Fr):Prop where
 f0:fr 0=v
 f4:fr 4=.ptr r 0
def aAu{S0:St}{v bv:PV}{b:List UInt8}{N:Nat}(hv:ba 1 bv (aI b))(hb:b.length≤67108864)(hN:N≤4096){K:List Kt}{Q:Fr→St→Prop} :
  ∀(k i a:Nat) (L:List Wd) (lv:PV) (fr:Fr) (S:St),i+k=N→L.length=i→kK v S0.objs.length fr→fr 5=lv→fr 16=.int .i64 (N:Int)→fr 17=.int .i64 (i:Int)→ah S0 1 S lv (L.map .str)→S.objs[S0.objs.length]?=some [bv,.int .i64 (a:Int),.bool false]→(∀s∈L,s.length≤64) →
  (∀L' a' lv' fr' S',jk b k a L=some (L',a')→kK v S0.objs.length fr'→fr' 5=lv'→ah S0 1 S' lv' (L'.map .str)→S'.objs[S0.objs.length]?=some [bv,.int .i64 (a':Int),.bool false]→(∀s∈L',s.length≤64)→L'.length=N→Ok (aE T2 K fr' S') Q) →
  (jk b k a L=none→∀fr' S',aL S0 S'→fr' 2=.nilp→fr' 3=.int .i64 5→Q fr' S')→Ok (aE T2 (.lp Aa::.blk 0::K) fr S) Q:=by
 intro k
 induction k with
 |zero=>
  intro i a L lv fr S hik hLi hF h5 h16 h17 hA ho hw k1 k2;have hlt:¬(i:Int)<(N:Int):=by omega
  have hln:¬i<N:=by omega
  rw[ax];simp -implicitDefEqProofs [h16,h17,hlt,hln]
  exact k1 L a lv _ S rfl ⟨by simp[hF.f0],by simp[hF.f4]⟩ (by simp[h5]) hA ho hw (by omega)
 |succ k ih=>
  intro i a L lv fr S hik hLi hF h5 h16 h17 hA ho hw k1 k2;obtain⟨f0,f4⟩:=hF;have hlt:(i:Int)<(N:Int):=by omega
  have hln:i<N:=by omega
  have htx:=fv (aAs hv hb ho);have hr:=(aM.1 ho).1;have hw1:IntKind.i64.wrap ((i:Int)+1)=((i+1:Nat):Int):=by rw[au]<;>omega
  cases hx:lC b a with
  |some p=>
   obtain⟨s,nx⟩:=p;rw[hx]at htx;simp only at htx;have hA1:ah S0 1 (irSet S S0.objs.length bv nx false) lv (L.map .str):=hA.irSet (aU _);have ho1:(irSet S S0.objs.length bv nx false).objs[S0.objs.length]?=some [bv,.int .i64 (nx:Int),.bool false]:=jJ hr;obtain⟨lv',S',a1,a2,a3⟩:=hA1.push (bytes:=16) (.str s) (by rw[bz];omega);have ho2:S'.objs[S0.objs.length]?=some [bv,.int .i64 (nx:Int),.bool false]:=by rw[a3];exact ho1
   rw[ax];simp -implicitDefEqProofs [f4,h5,h16,h17,hlt,hln,htx,cY,dU,aG,a1,bI ho2,bD,hw1];have e:jk b (k+1) a L=jk b k nx (L++[s]):=by rw[jk,hx]
   rw[e]at k1 k2;refine ih (i+1) nx (L++[s]) lv' _ S' (by omega) (by simp[hLi]) ⟨by simp[f0],by simp[f4]⟩ (by simp) (by simp[h16]) (by simp) (by rw[eQ];exact a2) ho2 (fun q hq=>?_) k1 k2;rcases bg.1 hq with hq|hq
   ·exact hw q hq
   ·rw[jW]at hq;subst hq;exact aAq hx
  |none=>
   rw[hx]at htx;simp only at htx;have hA1:ah S0 1 (irSet S S0.objs.length bv a true) lv (L.map .str):=hA.irSet (aU _);have ho1:(irSet S S0.objs.length bv a true).objs[S0.objs.length]?=some [bv,.int .i64 (a:Int),.bool true]:=jJ hr;obtain⟨lv',S',a1,a2,a3⟩:=hA1.push (bytes:=16) (.str []) (by rw[bz];omega);have ho2:S'.objs[S0.objs.length]?=some [bv,.int .i64 (a:Int),.bool true]:=by rw[a3];exact ho1
   rw[ax];simp -implicitDefEqProofs [f4,h5,h16,h17,hlt,hln,htx,cY,dU,aG,a1,bI ho2,bD,hw1];exact k2 (by rw[jk,hx]) _ _ a2.grows (by simp) (by simp)
end Ps
set_option linter.defProp false
namespace Ps
set_option linter.unusedSimpArgs false
set_option linter.unusedVariables false
open Go Go.Proofs
def Yd{l:List Sm}:∀(n i:Nat),l.length-i=n→(de l i=0↔∀j (h:j<l.length),i≤j→dq l j h=0):=by
 intro n
 induction n with
 |zero=>
  intro i hi;rw[de,dif_neg (by omega)]
  exact⟨fun _ j h hj=>by omega,fun _=>rfl⟩
 |succ n ih=>
  intro i hi;rw[de,dif_pos (by omega)];by_cases h0:dq l i (by omega)=0
  ·rw[if_pos h0,ih (i+1) (by omega)];constructor
   ·intro k j h hj;by_cases e:j=i
    ·subst e;exact h0
    ·exact k j h (by omega)
   ·intro k j h hj;exact k j h (by omega)
  ·rw[if_neg h0];exact⟨fun e=>absurd e h0,fun k=>absurd (k i (by omega) (aU _)) h0⟩
def GA{l:List Sm}{i:Nat}(h:i<l.length):dq l i h=0↔eS l[i].1 l[i].2=true∧∀h0:0<i,l[i-1].1<l[i].1:=by
 unfold dq
 cases hm:eS l[i].1 l[i].2 with
 |false=>simp
 |true=>
  rw[if_neg (by decide)];by_cases h0:0<i
  ·rw[dif_pos h0];split
   ·rename_i hle;constructor
    ·intro e;cases e
    ·rintro⟨_,k⟩;have:=k h0;omega
   ·rename_i hle;simp only[true_and,true_iff];intro _;omega
  ·rw[dif_neg h0];simp only[true_and,true_iff];intro k;exact absurd k h0
def fE(l:List Sm):Prop:=∀(i:Nat) (h:i<l.length),eS l[i].1 l[i].2=true∧∀h0:0<i,l[i-1].1<l[i].1
def GB{l:List Sm}:de l 0=0↔fE l:=by
 rw[Yd l.length 0 rfl];constructor
 ·intro k i h;exact(GA h).1 (k i h (cP _))
 ·intro k i h _;exact(GA h).2 (k i h)
def fE.take{l:List Sm}(h:fE l)(k:Nat):fE (l.take k):=by
 intro i hi;have hi':i<l.length:=by simp at hi;omega
 obtain⟨h1,h2⟩:=h i hi';refine⟨by simpa using h1,fun h0=>by simpa using h2 h0⟩
def fE.drop{l:List Sm}(h:fE l)(k:Nat):fE (l.drop k):=by
 intro i hi;have hi':k+i<l.length:=by simp at hi;omega
 obtain⟨h1,h2⟩:=h (k+i) hi';refine⟨by simpa using h1,fun h0=>?_⟩;have:=h2 (by omega);simp only[List.getElem_drop];have e:k+i-1=k+(i-1):=by omega
 simpa[e]using this
def Ye{l:List Sm}(h:fE l)(h0:l≠[])(h1:l.length≤120):fV l=0:=by
 unfold fV;rw[if_neg (by have:=List.length_pos_iff.2 h0;omega)];exact GB.2 h
def vH:∀(n:Nat) (l:List Sm),l.length=n→fE l→∀c∈cL l,fV c=0:=by
 intro n
 induction n using Nat.strongRecOn with
 |_ n ih=>
  intro l hn h c hc;rw[cL]at hc;split at hc
  ·cases hc
  ·rename_i hl;have:=List.length_pos_iff.2 hl;rcases dI.1 hc with rfl|hc
   ·exact Ye (h.take 120) (by intro e;have:=congrArg List.length e;rw[iW,cW]at this;omega) (by rw[iW];omega)
   ·exact ih (l.drop 120).length (by rw[kd];omega) _ rfl (h.drop 120) c hc
def rj:∀(n:Nat) (l:List Sm),l.length=n→(cL l).length=(l.length+119)/120:=by
 intro n
 induction n using Nat.strongRecOn with
 |_ n ih=>
  intro l hn;rw[cL];split
  ·rename_i hl;subst hl;rfl
  ·rename_i hl;have:=List.length_pos_iff.2 hl;rw[bL,ih (l.drop 120).length (by rw[kd];omega) (l.drop 120) rfl];simp;omega
structure yf(l:List cD):Prop where
 len:l.length≤256
 sum:cu l≤65536
 ix:dZ (l.map (·.1))=0
 ser:∀s∈l,s.2≠[]∧fE s.2
def Yf{l:List cD}:∀(n i:Nat),l.length-i=n→kD l i=0→∀j (h:j<l.length),i≤j→l[j].2≠[]∧de l[j].2 0=0:=by
 intro n
 induction n with
 |zero=>intro i hi _ j h hij;omega
 |succ n ih=>
  intro i hi h j hj hij;have hil:i<l.length:=by omega
  rw[kD,dif_pos hil]at h;split at h
  ·cases h
  ·rename_i h0;split at h
   ·rename_i hz;by_cases e:i=j
    ·subst e;exact⟨fun e=>h0 (by rw[e];rfl),hz⟩
    ·exact ih (i+1) (by omega) h j hj (by omega)
   ·rename_i hz;exact absurd h hz
def kE{l:List cD}(h:dT l=0):yf l:=by
 unfold dT at h;split at h
 ·cases h
 rename_i h1;split at h
 ·rename_i h2;exact absurd h h2
 rename_i h2;refine⟨by omega,by omega,by omega,fun s hs=>?_⟩;obtain⟨i,hi,rfl⟩:=dz hs;obtain⟨a,b⟩:=Yf l.length 0 (by omega) h i hi (cP _);exact⟨a,GB.1 b⟩
def GC{c:List Sm}(h:fV c=0):(bo c).length≤2140:=by
 have hk:=uw h;have h1:=Fd hk (c.length-1);have h2:=hk.len;unfold bo;rw[yW];omega
def GD{x:List UInt8}(h:x.length≤1000000000):(cE x).length≤x.length+9:=by
 have:=gP (n:=x.length) (by omega);simp only[cE,am];omega
theorem GE:∀(m:List (List Sm)),(∀c∈m,fV c=0)→(m.flatMap fun c=>cE (bo c)).length≤2149*m.length
 | [],_=>by simp
 |c::m,h=>by
  have h1:=GE m fun c hc=>h c (by simp[hc]);have h2:=GC (h c (by simp));have h3:=GD (x:=bo c) (by omega);simp only[dd,am,bL];omega
def Yg{s:cD}(h:fE s.2)(hl:s.2.length≤65536):(cx s).length≤9+2149*((s.2.length+119)/120):=by
 have h1:=GE (cL s.2) (vH _ _ rfl h);have h2:=rj _ s.2 rfl;have h3:=gP (n:=(cL s.2).length) (by omega);simp only[cx,am];rw[h2]at h1 h3;rw[h2];omega
theorem GF:∀(l:List cD),(∀s∈l,fE s.2)→cu l≤65536→(l.flatMap cx).length≤2158*l.length+18*cu l
 | [],_,_=>by simp
 |s::l,h,ht=>by
  have e:cu (s::l)=s.2.length+cu l:=by simp[cu]
  rw[e]at ht ⊢;have h1:=GF l (fun c hc=>h c (by simp[hc])) (by omega);have h2:=Yg (h s (by simp)) (by omega);simp only[dd,am,bL];have h3:2149*((s.2.length+119)/120)≤2149+18*s.2.length:=by omega
  omega
def yg{ls:List (List aQ)}(h:gQ ls):(cU ls).length≤400000:=by
 have h1:=mi h;have h2:=yc h ls h.set;have h3:=h.len;have h4:=gP (n:=(bM ls).length) (by omega);have h5:=gP (n:=ls.length) (by omega)
 have h6:∀l:List Wd,(∀w∈l,w.length≤64)→(l.flatMap cQ).length≤73*l.length:=by
  intro l
  induction l with
  |nil=>intro _;simp
  |cons a l ih=>
   intro h;have h1:=ih fun w hw=>h w (by simp[hw]);have h2:=h a (by simp);have h3:=gP (n:=a.length) (by omega);simp only[dd,am,bL,cQ];omega
 have h7:=h6 (bM ls) fun w hw=>vE h (po.1 hw);rw[vG];simp only[am];omega
def vI{l:List cD}(h:yf l):(cX l).length≤3000000:=by
 have h1:=yg (mh h.ix);have h2:=GD (x:=cU (l.map (·.1))) (by omega);have h3:=GF l (fun s hs=>(h.ser s hs).2) h.sum;have h4:=h.len;have h5:=h.sum;simp only[cX,am];have:ec.length=4:=rfl;omega
def GG{α:Type}(f:α→List UInt8)(l:List α)(i:Nat):((l.take i).flatMap f).length≤(l.flatMap f).length:=by
 conv=>rhs;rw[←ke i l,nm,am]
 omega
end Ps
