/- Calls that may come to this or to that, and panics: a list of operations. -/
import Derived.Test.YtpjmpaidcidjgaaGreatDoorAbbKt
import Derived.Test.YtpjmpaidcidjgaaGreatDoorExtMKt
set_option linter.defProp false
namespace Ps
set_option linter.unusedVariables false
set_option linter.unusedSimpArgs false
open Go
inductive Rs where
 |ret (v:PV)(S:St)
 |pan (v:PV) (S:St)
def oI(X:Tie)(g:Gh)(w:World)(R:Rs→Prop):Ending→World→Prop
 |.returned u,w'=>∃v S',R (.ret v S')∧bu X g w S' v u w'
 |.panicked ch,w'=>∃v S' u,ch=[{v:=u,recovered:=false}]∧R (.pan v S')∧bu X g w S' v u w'
 |.outgrown,_=>False
def ca(X:Tie)(f:Nat)(args:List PV)(S:St)(R:Rs→Prop):Prop:=
 ∀(g:Gh) (w:World) (us:Array Value),SR X g S w→bD X g w args us →
  (callFunc (X.fnOf f) us).run X.P w=.ok (.enter (X.fnOf f) us) w∧Calls X.P (X.fnOf f) us w (oI X g w R)
theorem aAc{X:Tie}{g:Gh}{w:World}{R R':Rs→Prop}(h:∀r,R r→R' r):∀e w',oI X g w R e w'→oI X g w R' e w'
 |.returned _,_,⟨v,S',h1,h2⟩=>⟨v,S',h _ h1,h2⟩
 |.panicked _,_,⟨v,S',u,h1,h2,h3⟩=>⟨v,S',u,h1,h _ h2,h3⟩
 |.outgrown,_,h=>h
def ca.mono{X:Tie}{f:Nat}{args:List PV}{S:St}{R R':Rs→Prop}(hs:ca X f args S R)(h:∀r,R r→R' r):ca X f args S R':=
 fun g w us hS hV=>⟨(hs g w us hS hV).1,(hs g w us hS hV).2.mono (aAc h)⟩
def fj:bC→Bool
 |.wc ..|.pan _|.rcv=>true
 |_=>false
def jR(fr:Fr)(x:aG)(args:List aG):Option (Nat×List PV):=
 match ev fr x with
 |.fn f caps=>some (f,args.map (ev fr)++caps)
 |.bfn f first=>some (f,first++args.map (ev fr))
 |_=>none
def oJ(fr:Fr)(l:List Nat)(S S':St):Prop:=∀t∈l,∀i o,fr t=.ptr i o→S'.objs[i]?=S.objs[i]?
inductive Wo where
 |norm (fr:Fr)(S:St)
 |pan (v:PV) (S:St)
def qL:PV→Bool
 |.iface ..=>true
 |_=>false
def bz(X:Tie):List aA→Fr→St→(Wo→Prop)→Prop
 | [],fr,S,Q=>Q (.norm fr S)
 |o::l,fr,S,Q=>match bW fr o.guard with
  |none=>False
  |some false=>bz X l (aO fr o.dst (.tup [])) S Q
  |some true=>match o.op with
   |.wc ks x args=>∃f aq R,jR fr x args=some (f,aq)∧ca X f aq S R∧(∀v S',R (.ret v S')→oJ fr ks S S'∧bz X l (aO fr o.dst v) S' Q)∧∀v S',R (.pan v S')→Q (.pan v S')
   |.pan x=>qL (ev fr x)=true∧Q (.pan (ev fr x) S)
   |.rcv=>False
   |op=>match aH X.T (aS X.T) fr S op with
    |some (v,S')=>bz X l (aO fr o.dst v) S' Q
    |none=>False
theorem qN{X:Tie}{Q Q':Wo→Prop}(hq:∀r,Q r→Q' r):∀{l:List aA} {fr:Fr} {S:St},bz X l fr S Q→bz X l fr S Q'
 | [],_,_,h=>hq _ h
 |o::l,fr,S,h=>by
  simp only[bz]at h ⊢;split at h
  ·exact h
  ·exact qN hq h
  ·split at h
   ·rename_i ks x args ho;obtain⟨f,aq,R,h1,h2,h3,h4⟩:=h;exact⟨f,aq,R,h1,h2,fun v S' hr=>⟨(h3 v S' hr).1,qN hq (h3 v S' hr).2⟩,fun v S' hr=>hq _ (h4 v S' hr)⟩
   ·exact⟨h.1,hq _ h.2⟩
   ·exact h
   ·split at h
    ·exact qN hq h
    ·exact h
def mh{X:Tie}{o:aA}{l:List aA}{fr:Fr}{S:St}{Q:Wo→Prop}(ho:fj o.op=false) :
  bz X (o::l) fr S Q↔∃v S',av X.T (aS X.T) o fr S=some (v,S')∧bz X l (aO fr o.dst v) S' Q:=by
 simp only[bz,av]
 cases hw:bW fr o.guard with
 |none=>simp
 |some b=>
  cases b with
  |false=>
   simp only
   exact⟨fun h=>⟨_,_,rfl,h⟩,fun⟨_,_,e,h⟩=>by cases e;exact h⟩
  |true=>
   simp only;split
   ·rename_i e;rw[e]at ho;cases ho
   ·rename_i e;rw[e]at ho;cases ho
   ·rename_i e;rw[e]at ho;cases ho
   ·split
    ·rename_i v S' e;exact⟨fun h=>⟨v,S',e,h⟩,fun⟨v',S'',h1,h2⟩=>by rw[e]at h1;cases h1;exact h2⟩
    ·rename_i e;constructor
     ·intro h;exact h.elim
     ·rintro⟨v',S'',h1,_⟩;rw[e]at h1;cases h1
theorem qO{X:Tie}{Q:Wo→Prop}{l2:List aA}:∀{l:List aA} {fr:Fr} {S:St},(∀p∈l,fj p.op=false) →
  (bz X (l++l2) fr S Q↔∃fr1 S1,aY X.T (aS X.T) l fr S=some (fr1,S1)∧bz X l2 fr1 S1 Q)
 | [],fr,S,_=>⟨fun h=>⟨fr,S,rfl,h⟩,fun⟨_,_,e,h⟩=>by cases e;exact h⟩
 |o::l,fr,S,h=>by
  rw[ij,mh (h o (by simp))];constructor
  ·rintro⟨v,S',h1,h2⟩;obtain⟨fr1,S1,h3,h4⟩:=(qO (fun p hp=>h p (by simp[hp]))).1 h2;exact⟨fr1,S1,by rw[cX,h1];exact h3,h4⟩
  ·rintro⟨fr1,S1,h1,h2⟩;rw[cX]at h1
   cases hp:av X.T (aS X.T) o fr S with
   |none=>rw[hp]at h1;cases h1
   |some x=>
    obtain⟨v,S'⟩:=x;rw[hp]at h1;exact⟨v,S',rfl,(qO (fun p hp=>h p (by simp[hp]))).2 ⟨fr1,S1,h1,h2⟩⟩
def yl(p q:aA):Bool:=
 (match p.dst with|some d=>!q.reads.contains d&&q.dst != some d|none=>true) &&
 (match q.dst with|some d=>!p.reads.contains d|none=>true)
def lM(p q:aA):Bool:=!fj p.op&&(match q.op with
 |.wc ks _ _=>q.guard.isNone&&yl p q&&(gy p.op||(match p.op with|.loadb b _ _ _=>ks.contains b|_=>false))
 |op=>!fj op&&fE p q)
def aAd{p q:aA}(h:yl p q=true):(∀t∈q.reads,p.dst≠some t)∧(∀t∈p.reads,q.dst≠some t)∧(∀t,p.dst=some t→q.dst≠some t):=by
 simp only[yl,aI]at h;obtain⟨h1,h2⟩:=h;exact⟨fun t ht e=>by rw[e]at h1;simp[ht]at h1,fun t ht e=>by rw[e]at h2;simp[ht]at h2,fun t e e'=>by rw[e]at h1;simp[e']at h1⟩
def aAe{T:aM}{call:aX}{p:aA}{fr:Fr}{S S1:St}{v:PV}{ks:List Nat}{b:Nat}{ag:Bool}{m:Nat}{x:aG}(hop:p.op=.loadb b ag m x)(hb:ks.contains b=true)(h:av T call p fr S=some (v,S1)) :
  S1=S∧∀S2,oJ fr ks S S2→av T call p fr S2=some (v,S2):=by
 simp only[av]at h ⊢;split at h
 ·cases h
 ·cases h;exact⟨rfl,fun _ _=>rfl⟩
 ·rw[hop]at h ⊢;simp only[aH]at h ⊢;split at h
  ·rename_i i o id off e1 e2;split at h
   ·rename_i hi;subst hi;split at h
    ·rename_i cs hcs;split at h
     ·rename_i v' hv;cases h;refine⟨rfl,fun S2 hk=>?_⟩;have:=hk b (by simpa using hb) i o e1;simp only[if_true,this,hcs,hv]
     ·cases h
    ·cases h
   ·cases h
  ·cases h
def aAf{X:Tie}{p q:aA}{l:List aA}{fr:Fr}{S:St}{Q:Wo→Prop}(hi:lM p q=true)(h:bz X (p::q::l) fr S Q):bz X (q::p::l) fr S Q:=by
 simp only[lM,aI,fV]at hi;obtain⟨hp,hq⟩:=hi;obtain⟨v1,S1,h1,h2⟩:=(mh hp).1 h;by_cases hqw:fj q.op=false
 ·have hq':fE p q=true:=by
   split at hq
   ·rename_i e;rw[e]at hqw;cases hqw
   ·simp only[aI]at hq;exact hq.2
  obtain⟨v2,S2,h3,h4⟩:=(mh hqw).1 h2
  have hpo:aY X.T (aS X.T) [p,q] fr S=some (aO (aO fr p.dst v1) q.dst v2,S2):=by
   rw[cX,h1];simp only[];rw[cX,h3];rfl
  have hsw:=swap hq' hpo
  have:bz X ([q,p]++l) fr S Q:=(qO (by
   intro r hr;simp at hr;rcases hr with rfl|rfl
   ·exact hqw
   ·exact hp)).2 ⟨_,_,hsw,h4⟩
  exact this
 ·split at hq
  ·rename_i ks x args hop;simp only[aI,gJ,oS]at hq;obtain⟨⟨hg,hd⟩,hk⟩:=hq;obtain⟨d1,d2,d3⟩:=aAd hd
   have hS1:S1=S∧∀S2,oJ fr ks S S2→av X.T (aS X.T) p fr S2=some (v1,S2):=by
    rcases hk with hk|hk
    ·exact⟨(mS hk h1).1,fun S2 _=>(mS hk h1).2 S2⟩
    ·split at hk
     ·rename_i e;exact aAe e hk h1
     ·cases hk
   obtain⟨rfl,hk⟩:=hS1;have hfr:∀t∈q.reads,aO fr p.dst v1 t=fr t:=fun t ht=>jw (d1 t ht);have hrd:q.reads=ks++(x.reads++args.flatMap aG.reads):=by simp[aA.reads,hop,hg,bC.reads]
   have e1:ev (aO fr p.dst v1) x=ev fr x:=bQ fun t ht=>hfr t (by rw[hrd];simp[ht]);have e2:args.map (ev (aO fr p.dst v1))=args.map (ev fr):=mR fun t ht=>hfr t (by rw[hrd];exact bn.2 (.inr (bn.2 (.inr ht))));have e3:jR (aO fr p.dst v1) x args=jR fr x args:=by simp only[jR,e1,e2]
   have hwant:∀fr,bW fr q.guard=some true:=fun fr=>by rw[hg];rfl
   unfold bz at h2 ⊢;simp only[hwant,hop]at h2 ⊢;obtain⟨f,aq,R,k1,k2,k3,k4⟩:=h2;rw[e3]at k1;refine⟨f,aq,R,k1,k2,fun v S' hr=>?_,k4⟩;obtain⟨m1,m2⟩:=k3 v S' hr;have m1':oJ fr ks S1 S':=fun t ht i o e=>m1 t ht i o (by rw[hfr t (by rw[hrd];simp[ht])];exact e);refine⟨m1',(mh hp).2 ⟨v1,S',?_,?_⟩⟩
   ·rw[←hk S' m1'];exact pu fun t ht=>jw (d2 t ht)
   ·rw[sY (fun t e1 e2=>d3 t e2 e1)];exact m2
  ·simp only[aI,fV]at hq;exact absurd hq.1 hqw
theorem Pf{X:Tie}{q:aA}{l:List aA}{Q:Wo→Prop}:∀{pre:List aA} {fr:Fr} {S:St},(∀p∈pre,lM p q=true)→bz X (pre++q::l) fr S Q→bz X (q::pre++l) fr S Q
 | [],_,_,_,h=>h
 |p::pre,fr,S,hi,h=>by
  have hp:fj p.op=false:=by
   have:=hi p (by simp);simp only[lM,aI,fV]at this;exact this.1
  have:bz X (p::(q::pre++l)) fr S Q:=by
   rw[ij]at h;obtain⟨v,S',h1,h2⟩:=(mh hp).1 h;exact(mh hp).2 ⟨v,S',h1,Pf (fun p' hp'=>hi p' (by simp[hp'])) h2⟩
  exact aAf (hi p (by simp)) this
section
variable {X : Tie} {g : Gh} {w : World} {n : Dn} {fr : Fr} {a : Act} {S : St}
def aAg(hS:SR X g S w)(hF:FR X n g w fr a){c:Go.Call}{x:aG}{args:List aG}{f:Nat}{aq:List PV}{R:Rs→Prop}
  (hf:(match c.callee with|.value y=>aK X y x|_=>false)=true)(ha:eL X c.args.toList args=true)(hcal:jR fr x args=some (f,aq))(hsp:ca X f aq S R)
  (dst:Option Tmp)(ty:TypeId)(pos:String)(after:Array Edge)(guard:Option (Nat×Bool)){next:Act→World→Prop}{Q:Exit→Act→World→Prop}
  (hn:∀u w' v S',R (.ret v S')→bu X g w S' v u w'→next (a.put dst u) w')
  (hp:∀u w' v S',R (.pan v S')→bu X g w S' v u w'→Q (.panic [{v:=u,recovered:=false}]) a w') :
  (Oper.mk dst (.call c) ty pos after guard).wp X.P a w next Q:=by
 obtain⟨callee,cargs,tys⟩:=c;simp only at hf ha;split at hf
 ·rename_i y;have r:=af hF hf
  have hrun:∀us:Array Value,bD X g w aq us→(execOp a.eval ⟨dst,.call ⟨.value y,cargs,tys⟩,ty,pos,after,guard⟩)=callFunc (X.fnOf f) us→(Oper.mk dst (.call ⟨.value y,cargs,tys⟩) ty pos after guard).wp X.P a w next Q:=by
   intro us hV e;obtain⟨h1,h2⟩:=hsp g w us hS hV;unfold Oper.wp;rw[e,h1,Oper.upon_enter];refine h2.mono fun e' w' he=>?_
   cases e' with
   |returned u=>obtain⟨v,S',q1,q2⟩:=he;exact hn u w' v S' q1 q2
   |panicked ch=>obtain⟨v,S',u,rfl,q1,q2⟩:=he;exact hp u w' v S' q1 q2
   |outgrown=>exact he.elim
  unfold jR at hcal;split at hcal
  ·rename_i f' caps hx;cases hcal;rw[hx]at r;generalize hu:a.eval y=u at r
   cases r with
   |fn _ _ us hl hv=>
    refine hrun _ (pp (nk hF ha) ⟨hl,hv⟩) ?_;simp[execOp,resolve,hu,Deferred.ofValue,invoke]
  ·rename_i f' first hx
   cases hcal;rw[hx]at r;generalize hu:a.eval y=u at r
   cases r with
   |bfn _ _ us hl hv=>
    refine hrun _ (pp ⟨hl,hv⟩ (nk hF ha)) ?_;simp[execOp,resolve,hu,Deferred.ofValue,invoke]
  ·cases hcal
 ·cases hf
def aAh(hF:FR X n g w fr a){x:aG}{y:Operand}(hx:aK X y x=true)(hi:qL (ev fr x)=true)(dst:Option Tmp)(ty:TypeId)(pos:String)(after:Array Edge)(guard:Option (Nat×Bool))
  {next:Act→World→Prop} {Q:Exit→Act→World→Prop} (hp:∀u,VR X g w (ev fr x) u→Q (.panic [{v:=u,recovered:=false}]) a w):(Oper.mk dst (.panic y) ty pos after guard).wp X.P a w next Q:=by
 have r:=af hF hx;have hq:=hp _ r;generalize hu:a.eval y=u at r hq;generalize hv:ev fr x=v at r hi;cases v<;>simp only[qL]at hi<;>try (cases hi;done)
 cases r with
 |iface t v' u' h'=>
  unfold Oper.wp;simp[execOp,hu,Instr.panic,goPanic,Oper.upon_panic];exact hq
def Pg(hX:bY X){ops:Array Oper}{Q:Exit→Act→World→Prop}{QW:Wo→Prop}{o:Oper}{p:aA}{l:List aA}
  (hc:dL X n ops o p=true)(hS:SR X g S w)(hF:FR X n g w fr a)(h:bz X (p::l) fr S QW){K:Act→World→Prop}
  (hK:∀g' w' a' v S1,Le g w g' w'→SR X g' S1 w'→FR X n g' w' (aO fr p.dst v) a'→bz X l (aO fr p.dst v) S1 QW→K a' w')
  (hP:∀g' w' v S' u,Le g w g' w'→SR X g' S' w'→VR X g' w' v u→QW (.pan v S')→Q (.panic [{v:=u,recovered:=false}]) a w') :
  if Region.wanted o (yielded ops a.tmps)then o.wp X.P a w K Q else K (a.put o.dst undef) w:=by
 by_cases hpw:fj p.op=false
 ·obtain⟨v,S',h1,h2⟩:=(mh hpw).1 h;refine kA (l:=[]) (r:=(aO fr p.dst v,S')) hX.ty hX.meth (ly hX) hc hS hF (by rw[cX,h1];rfl) (fun g' w' a' fr1 S1 hle hS1 hF1 he=>?_);simp only[aY,ae,ba]at he;obtain⟨rfl,rfl⟩:=he;exact hK g' w' a' v _ hle hS1 hF1 h2
 ·simp only[dL,aI,beq_iff_eq]at hc;obtain⟨⟨⟨hd,hlt⟩,hop⟩,hgd⟩:=hc
  have hdl:∀t,p.dst=some t→t<n:=by
   intro t ht;rw[hd]at ht;rw[ht]at hlt;simpa using hlt
  simp only[bz]at h;split at h
  ·exact h.elim
  ·rename_i hw;rw[iT hF hgd hw,if_neg (by simp)];rw[←hd];exact hK g w _ _ _ (Le.refl g w) hS (hF.put hdl (pt X g w)) h
  ·rename_i hw;rw[iT hF hgd hw,if_pos rfl];obtain⟨odst,oop,oty,opos,oafter,oguard⟩:=o;simp only at hd hop;subst hd;split at h
   ·rename_i ks x args hpo;obtain⟨f,aq,R,h1,h2,h3,h4⟩:=h;rw[hpo]at hop;cases oop<;>simp only[ay]at hop<;>try (cases hop;done)
    rw[aI]at hop;refine aAg hS hF hop.1 hop.2 h1 h2 _ _ _ _ _ (fun u w' v S' hr hst=>?_) (fun u w' v S' hr hst=>?_)
    ·obtain⟨g',hle,hS',hv⟩:=hst;exact hK g' w' _ v S' hle hS' ((hF.mono hle).put hdl hv) (h3 v S' hr).2
    ·obtain⟨g',hle,hS',hv⟩:=hst;exact hP g' w' v S' u hle hS' hv (h4 v S' hr)
   ·rename_i x hpo;rw[hpo]at hop;cases oop<;>simp only[ay]at hop<;>try (cases hop;done)
    exact aAh hF hop h.1 _ _ _ _ _ (fun u hv=>hP g w _ S u (Le.refl g w) hS hv h.2)
   ·exact h.elim
   ·rename_i h1 h2 h3;exfalso;apply hpw;cases hq:p.op<;>first|rfl|exact absurd hq (h1 _ _ _)|exact absurd hq (h2 _)|exact absurd hq h3
def mi(fp fr:Fr):Prop:=∀t,fp t=.und∨fp t=fr t
def FR.weak{fp:Fr}(h:FR X n g w fr a)(hw:mi fp fr):FR X n g w fp a:=
 ⟨h.size,fun t=>by
  rcases hw t with e|e
  ·rw[e];exact .und _
  ·rw[e];exact h.at_ t,h.defers⟩
def mi.upd{fp fr:Fr}(h:mi fp fr){d:Option Nat}{v:PV}(hd:∀t,d=some t→fp t=.und):mi fp (aO fr d v):=by
 intro t
 cases d with
 |none=>exact h t
 |some d=>
  by_cases e:t=d
  ·subst e;exact .inl (hd t rfl)
  ·simp only[aO,cg,if_neg e];exact h t
def fT(l:List aA)(fr:Fr):Fr:=fun t=>if l.any (fun p=>p.dst==some t)then .und else fr t
def Ph(l:List aA)(fr:Fr):mi (fT l fr) fr:=fun t=>by
 unfold fT;split
 ·exact .inl rfl
 ·exact .inr rfl
def Pi{l:List aA}{fr:Fr}{p:aA}(hp:p∈l):∀t,p.dst=some t→fT l fr t=.und:=fun t ht=>by
 unfold fT;rw[if_pos];exact List.any_eq_true.2 ⟨p,hp,by simp[ht]⟩
theorem Pj(hX:bY X){ops:Array Oper}{Q:Exit→Act→World→Prop}{QW:Wo→Prop}{fp:Fr}:∀(l:List Oper) (ps:List aA) (g:Gh) (w:World) (fr:Fr) (S:St) (a:Act),
  dX X n ops l ps=true→SR X g S w→FR X n g w fr a→mi fp fr→(∀p∈ps,∀t,p.dst=some t→fp t=.und)→bz X ps fr S QW →
  (∀g' w' a' fr' S',Le g w g' w'→SR X g' S' w'→FR X n g' w' fr' a'→QW (.norm fr' S')→Q .normal a' w') →
  (∀g' w' a' v S' u,Le g w g' w'→SR X g' S' w'→FR X n g' w' fp a'→VR X g' w' v u→QW (.pan v S')→Q (.panic [{v:=u,recovered:=false}]) a' w')→wpList X.P ops Q l a w
 | [],[],g,w,fr,S,a,_,hS,hF,_,_,h,hQ,_=>hQ g w a fr S (Le.refl g w) hS hF h
 |o::l,p::ps,g,w,fr,S,a,hc,hS,hF,hw,hd,h,hQ,hP=>by
  simp only[dX,aI]at hc
  have hone:=Pg hX (Q:=Q) (K:=wpList X.P ops Q l) hc.1 hS hF h (fun g1 w1 a1 v S1 hle hS1 hF1 h1=>
   Pj hX l ps g1 w1 _ S1 a1 hc.2 hS1 hF1 (hw.upd (hd p (by simp))) (fun q hq=>hd q (by simp[hq])) h1 (fun g' w' a' fr' S' hle'=>hQ g' w' a' fr' S' (hle.trans hle')) (fun g' w' a' v S' u hle'=>hP g' w' a' v S' u (hle.trans hle')))
   (fun g' w' v S' u hle hS' hv hq=>hP g' w' a v S' u hle hS' ((hF.weak hw).mono hle) hv hq)
  simp only[wpList];split
  ·rename_i hwt;rw[if_pos hwt]at hone;exact .inl hone
  ·rename_i hwt;rw[if_neg hwt]at hone;exact hone
 | [],_::_,_,_,_,_,_,hc,_,_,_,_,_,_,_=>by simp[dX]at hc
 |_::_,[],_,_,_,_,_,hc,_,_,_,_,_,_,_=>by simp[dX]at hc
def tJ(ms:List Nat):List (Nat×aA)→Bool
 | []=>true
 |x::l=>l.all (fun y=>(ms.getD y.1 0).testBit x.1||lM x.2 y.2)&&tJ ms l
def ym(X:Tie)(n:Nat)(ops:Array Oper)(ps:List aA):Bool:=
 match kB X n ops (List.range ops.size) ps with
 |some ql=>fF ops.toList 0&&tJ (dY ops.toList []) ql
 |none=>false
theorem Pl{ms:List Nat}:∀{l:List (Nat×aA)},tJ ms l=true→l.Pairwise fun x y=>(ms.getD y.1 0).testBit x.1=true∨lM x.2 y.2=true
 | [],_=>.nil
 |x::l,h=>by
  simp only[tJ,aI]at h;refine .cons (fun y hy=>?_) (Pl h.2);have:=List.all_eq_true.1 h.1 y hy;simpa[gJ]using this
def aAi(hX:bY X){ops:Array Oper}{ql:List (Nat×aA)}{Q:Exit→Act→World→Prop}{QW:Wo→Prop}{fp:Fr}
  (hget:∀x∈ql,∃o,ops[x.1]?=some o∧dL X n ops o x.2=true)(hcov:∀i,i<ops.size→∃p,(i,p)∈ql)(hnd:(ql.map (·.1)).Nodup)(hback:fF ops.toList 0=true)
  (hpw:ql.Pairwise fun x y=>((dY ops.toList []).getD y.1 0).testBit x.1=true∨lM x.2 y.2=true)(hd:∀x∈ql,∀t,x.2.dst=some t→fp t=.und):∀(fuel:Nat) (listed:Array Bool) (g:Gh) (w:World) (fr:Fr) (S:St) (a:Act),
  SR X g S w→FR X n g w fr a→mi fp fr→listed.size=ops.size→lF ops listed→(bS ql listed).length≤fuel→bz X ((bS ql listed).map (·.2)) fr S QW →
  (∀g' w' a' fr' S',Le g w g' w'→SR X g' S' w'→FR X n g' w' fr' a'→QW (.norm fr' S')→Q .normal a' w') →
  (∀g' w' a' v S' u,Le g w g' w'→SR X g' S' w'→FR X n g' w' fp a'→VR X g' w' v u→QW (.pan v S')→Q (.panic [{v:=u,recovered:=false}]) a' w')→wpAny X.P .any ops Q fuel listed a w:=by
 have hmr:=mY ops.toList ops.toList [] (by simp) (fun i m h=>by simp at h)
 have hempty:∀listed:Array Bool,Region.ready .any ops listed=[]→listed.size=ops.size→bS ql listed=[]:=by
  intro listed hr hsz
  have hall:∀k,k<ops.size→listed.getD k true=true:=by
   intro k
   induction k using Nat.strongRecOn with
   |_ k ih=>
    intro hk
    cases hl:listed.getD k true with
    |true=>rfl
    |false=>
     have:k∈Region.ready .any ops listed:=dw.2 ⟨hk,hl,ops[k],by simp[hk],fun d hd=>by
      have hdk:d<k:=by
       have:=jz hback k ops[k] (by simp[hk]) d hd;omega
      have:=ih d hdk (by omega);have hds:d<listed.size:=by omega
      simp[Array.getD,hds]at this ⊢;exact this⟩
     rw[hr]at this;cases this
  unfold bS;rw[oO];intro x hx;obtain⟨o,ho,_⟩:=hget x hx;have:=hall x.1 (bc.1 ho).1;simp[this]
 intro fuel
 induction fuel with
 |zero=>
  intro listed g w fr S a hS hF hwk hsz hdn hf h hQ hP;have hnil:bS ql listed=[]:=fW.1 (by omega);rw[hnil]at h;refine⟨?_,hQ g w a fr S (Le.refl g w) hS hF h⟩
  cases hr:Region.ready .any ops listed with
  |nil=>rfl
  |cons i l=>
   obtain⟨h1,h2,o,ho,_⟩:=dw.1 (show i∈Region.ready .any ops listed by rw[hr];simp);obtain⟨p,hp⟩:=hcov i h1;obtain⟨pre,post,e1,_,_⟩:=lG hnd hpw hp h2 (by omega);rw[hnil]at e1;have:=congrArg List.length e1
   simp at this
 |succ fuel ih=>
  intro listed g w fr S a hS hF hwk hsz hdn hf h hQ hP;refine⟨fun hr=>?_,fun i hi=>?_⟩
  ·rw[hempty listed hr hsz]at h;exact hQ g w a fr S (Le.refl g w) hS hF h
  ·obtain⟨h1,h2,o,ho,h3⟩:=dw.1 hi;obtain⟨q,hq⟩:=hcov i h1;obtain⟨o',ho',hcq⟩:=hget _ hq;simp only at ho';rw[ho]at ho';cases ho';obtain⟨pre,post,e1,e2,e3⟩:=lG hnd hpw hq h2 (by omega)
   have hind:∀p∈pre,lM p.2 q=true:=by
    intro p hp;obtain⟨hb|hb,hj3⟩:=e3 p hp
    ·exfalso
     have hil:i<(dY ops.toList []).length:=by
      by_cases hil:i<(dY ops.toList []).length
      ·exact hil
      ·rw[cH,cr (by omega)]at hb;simp at hb
     have hr:=hmr i _ (bK hil) p.1 (by rw[cH,bK hil]at hb;exact hb);have hjl:=nv hdn hsz hr (fun o' ho' d hd=>by rw[ho]at ho';cases ho';exact h3 d hd)
     have hjs:p.1<listed.size:=by
      by_cases hjs:p.1<listed.size
      ·exact hjs
      ·simp[Array.getD,hjs]at hj3
     simp[Array.getD,hjs]at hjl hj3;rw[hjl]at hj3;cases hj3
    ·exact hb
   rw[e1,dp,cB]at h
   have hsw:=Pf (by
    intro p hp;obtain⟨x,hx,rfl⟩:=List.mem_map.1 hp;exact hind x hx) h
   unfold wpOp;simp only[ho]
   have:=Pg hX (Q:=Q) (K:=wpAny X.P .any ops Q fuel (listed.setIfInBounds i true)) hcq hS hF hsw (fun g1 w1 a1 v S1 hle1 hS1 hF1 h1'=>by
    refine ih _ g1 w1 _ S1 a1 hS1 hF1 (hwk.upd (hd _ hq)) (by simpa using hsz) ?_ ?_ (by rw[e2,dp];exact h1') (fun g2 w2 a2 fr2 S2 hle2=>hQ g2 w2 a2 fr2 S2 (hle1.trans hle2)) (fun g2 w2 a2 v S2 u hle2=>hP g2 w2 a2 v S2 u (hle1.trans hle2))
    ·intro k o' ho' hk d hd
     have hdl:listed.getD d false=true:=by
      by_cases hki:k=i
      ·subst hki;rw[ho]at ho';cases ho';exact h3 d hd
      ·refine hdn k o' ho' ?_ d hd;simp only[eG]at hk ⊢;rw[fJ (Ne.symm hki)]at hk;exact hk
     by_cases hdi:d=i
     ·subst hdi;have:d<listed.size:=by omega
      simp[Array.getD,this]
     ·simp only[eG]at hdl ⊢;rw[fJ (Ne.symm hdi)];exact hdl
    ·rw[e2];rw[e1]at hf;simp at hf ⊢;omega) (fun g' w' v S' u hle hS' hv hq=>hP g' w' a v S' u hle hS' ((hF.weak hwk).mono hle) hv hq)
   split
   ·rename_i hw;rw[if_pos hw]at this;exact .inl this
   ·rename_i hw;rw[if_neg hw]at this;exact this
def aAj(hX:bY X){ops:Array Oper}{pl:List aA}{Q:Exit→Act→World→Prop}{QW:Wo→Prop}
  (hchk:ym X n ops pl=true)(hS:SR X g S w)(hF:FR X n g w fr a)(h:bz X pl fr S QW)
  (hQ:∀g' w' a' fr' S',Le g w g' w'→SR X g' S' w'→FR X n g' w' fr' a'→QW (.norm fr' S')→Q .normal a' w')
  (hP:∀g' w' a' v S' u,Le g w g' w'→SR X g' S' w'→FR X n g' w' (fT pl fr) a'→VR X g' w' v u→QW (.pan v S')→Q (.panic [{v:=u,recovered:=false}]) a' w') (id:Nat):(Code.region id ops true).wp X.P Q a w:=by
 unfold ym at hchk;split at hchk
 ·rename_i ql hql;simp only[aI]at hchk;obtain⟨e1,e2,e3⟩:=qE mo hql;have hnd:(ql.map (·.1)).Nodup:=e2.nodup_iff.2 mo;refine wp_region_any hX.mixed ?_;have hw:∀{g':Gh} {w':World},Le g {w with drawn:=w.drawn+1} g' w'→Le g w g' w':=fun h=>⟨h.os,h.tape,h.output,h.size,h.obj,h.arr,h.asz,h.pub,h.cell,h.shape,h.objN,h.arrN,h.keep,h.pubN,h.mp,h.mpN,h.mf⟩
  have hle:Le g w g {w with drawn:=w.drawn+1}:=⟨rfl,rfl,rfl,aR _,fun _ _ h=>h,fun _ _ h=>h,fun _ _ h=>h,fun _=>aR _,fun _ _ _=>rfl,fun _ us _ _ h=>⟨us,h,rfl⟩,
   fun id _ h=>.inl ⟨id,h⟩,fun _ _ h=>.inl h,fun _ _ _ _ _=>rfl,fun _ _ _ _ _=>rfl,fun _ _ h=>h,fun _ _ h=>.inl h,fun _ _ _ h e=>⟨h,e⟩⟩
  have hS':SR X g S {w with drawn:=w.drawn+1}:=⟨fun id b hb=>by
   obtain⟨cs,us,t,h1,h2,h3,h4⟩:=hS.obj id b hb;exact⟨cs,us,t,h1,h2,h3,fun j c u e1 e2=>(h4 j c u e1 e2).mono hle⟩,hS.inj,hS.objpub,hS.arr,hS.asz,hS.lt,hS.maps.of (fun _ _ h=>h) (fun _ _ _=>rfl) (fun _ _ _=>rfl) (fun c u r=>r.mono hle) (fun _ _ _=>⟨rfl,rfl⟩) (fun _ _ _ _ h=>h),hS.gl.le hle⟩
  have hrest:bS ql (Array.replicate ops.size false)=ql:=by
   unfold bS;refine jT.2 (fun x hx=>?_);obtain⟨o,ho,_⟩:=e3 x hx;have:=(bc.1 ho).1;simp[Array.getD,this]
  refine aAi hX (fp:=fT pl fr) e3 (fun i hi=>?_) hnd hchk.1 (Pl hchk.2) (fun x hx=>Pi (by rw[←e1];exact List.mem_map.2 ⟨x,hx,rfl⟩)) ops.size _ g _ fr S a hS' (hF.mono hle) (Ph _ _) (by simp) ?_ ?_ (by rw[hrest,e1];exact h) (fun g' w' a' fr' S' hle'=>hQ g' w' a' fr' S' (hw hle')) (fun g' w' a' v S' u hle'=>hP g' w' a' v S' u (hw hle'))
  ·have:i∈ql.map (·.1):=e2.mem_iff.2 (by simpa using hi);obtain⟨x,hx,rfl⟩:=List.mem_map.1 this;exact⟨x.2,hx⟩
  ·intro i o ho hi;have:i<ops.size:=(bc.1 ho).1;simp[Array.getD,this]at hi
  ·rw[hrest];have:=e2.length_eq;simp at this;omega
 ·cases hchk
end
end Ps
