/- Calls that may come to this or to that, and panics: a list of operations. -/
import Derived.Test.YtpjmpaidcidjgaaGreatDoorAbbKw
import Derived.Test.YtpjmpaidcidjgaaGreatDoorExtMKw
set_option linter.defProp false
namespace Ps
set_option linter.unusedVariables false
set_option linter.unusedSimpArgs false
open Go
inductive Rs where
 |ret (v:PV)(S:St)
 |pan (v:PV) (S:St)
def pD(X:Tie)(g:Gh)(w:World)(R:Rs→Prop):Ending→World→Prop
 |.returned u,w'=>∃v S',R (.ret v S')∧cU X g w S' v u w'
 |.panicked ch,w'=>∃v S' u,ch=[{v:=u,recovered:=false}]∧R (.pan v S')∧cU X g w S' v u w'
 |.outgrown,_=>False
def dv(X:Tie)(f:Nat)(args:List PV)(S:St)(R:Rs→Prop):Prop:=
 ∀(g:Gh) (w:World) (us:Array Value),SR X g S w→bQ X g w args us →
  (callFunc (X.fnOf f) us).run X.P w=.ok (.enter (X.fnOf f) us) w∧Calls X.P (X.fnOf f) us w (pD X g w R)
theorem aDm{X:Tie}{g:Gh}{w:World}{R R':Rs→Prop}(h:∀r,R r→R' r):∀e w',pD X g w R e w'→pD X g w R' e w'
 |.returned _,_,⟨v,S',h1,h2⟩=>⟨v,S',h _ h1,h2⟩
 |.panicked _,_,⟨v,S',u,h1,h2,h3⟩=>⟨v,S',u,h1,h _ h2,h3⟩
 |.outgrown,_,h=>h
def dv.mono{X:Tie}{f:Nat}{args:List PV}{S:St}{R R':Rs→Prop}(hs:dv X f args S R)(h:∀r,R r→R' r):dv X f args S R':=
 fun g w us hS hV=>⟨(hs g w us hS hV).1,(hs g w us hS hV).2.mono (aDm h)⟩
def gU:bO→Bool
 |.wc ..|.pan _|.rcv=>true
 |_=>false
def jL(fr:Fr)(x:aG)(args:List aG):Option (Nat×List PV):=
 match ev fr x with
 |.fn f caps=>some (f,args.map (ev fr)++caps)
 |.bfn f first=>some (f,first++args.map (ev fr))
 |_=>none
def nQ(fr:Fr)(l:List Nat)(S S':St):Prop:=∀t∈l,∀i o,fr t=.ptr i o→S'.objs[i]?=S.objs[i]?
inductive Wo where
 |norm (fr:Fr)(S:St)
 |pan (v:PV) (S:St)
def vD:PV→Bool
 |.iface ..=>true
 |_=>false
def cJ(X:Tie):List aB→Fr→St→(Wo→Prop)→Prop
 | [],fr,S,Q=>Q (.norm fr S)
 |o::l,fr,S,Q=>match bq fr o.guard with
  |none=>False
  |some false=>cJ X l (aS fr o.dst (.tup [])) S Q
  |some true=>match o.op with
   |.wc ks x args=>∃f aq R,jL fr x args=some (f,aq)∧dv X f aq S R∧(∀v S',R (.ret v S')→nQ fr ks S S'∧cJ X l (aS fr o.dst v) S' Q)∧∀v S',R (.pan v S')→Q (.pan v S')
   |.pan x=>vD (ev fr x)=true∧Q (.pan (ev fr x) S)
   |.rcv=>False
   |op=>match aH X.T (aM X.T) fr S op with
    |some (v,S')=>cJ X l (aS fr o.dst v) S' Q
    |none=>False
theorem rj{X:Tie}{Q Q':Wo→Prop}(hq:∀r,Q r→Q' r):∀{l:List aB} {fr:Fr} {S:St},cJ X l fr S Q→cJ X l fr S Q'
 | [],_,_,h=>hq _ h
 |o::l,fr,S,h=>by
  simp only[cJ]at h ⊢;split at h
  ·exact h
  ·exact rj hq h
  ·split at h
   ·rename_i ks x args ho;obtain⟨f,aq,R,h1,h2,h3,h4⟩:=h;exact⟨f,aq,R,h1,h2,fun v S' hr=>⟨(h3 v S' hr).1,rj hq (h3 v S' hr).2⟩,fun v S' hr=>hq _ (h4 v S' hr)⟩
   ·exact⟨h.1,hq _ h.2⟩
   ·exact h
   ·split at h
    ·exact rj hq h
    ·exact h
def nR{X:Tie}{o:aB}{l:List aB}{fr:Fr}{S:St}{Q:Wo→Prop}(ho:gU o.op=false) :
  cJ X (o::l) fr S Q↔∃v S',bC X.T (aM X.T) o fr S=some (v,S')∧cJ X l (aS fr o.dst v) S' Q:=by
 simp only[cJ,bC]
 cases hw:bq fr o.guard with
 |none=>simp
 |some b=>
  cases b with
  |false=>
   simp only
   exact⟨fun h=>⟨_,_,rfl,h⟩,fun⟨_,_,e,h⟩=>by cases e;exact h⟩
  |true=>
   simp only;split
   ·rename_i e;rw[e]at ho;cases ho
   ·rename_i e;rw[e]at ho;cases ho
   ·rename_i e;rw[e]at ho;cases ho
   ·split
    ·rename_i v S' e;exact⟨fun h=>⟨v,S',e,h⟩,fun⟨v',S'',h1,h2⟩=>by rw[e]at h1;cases h1;exact h2⟩
    ·rename_i e;constructor
     ·intro h;exact h.elim
     ·rintro⟨v',S'',h1,_⟩;rw[e]at h1;cases h1
theorem rl{X:Tie}{Q:Wo→Prop}{l2:List aB}:∀{l:List aB} {fr:Fr} {S:St},(∀p∈l,gU p.op=false) →
  (cJ X (l++l2) fr S Q↔∃fr1 S1,ah X.T (aM X.T) l fr S=some (fr1,S1)∧cJ X l2 fr1 S1 Q)
 | [],fr,S,_=>⟨fun h=>⟨fr,S,rfl,h⟩,fun⟨_,_,e,h⟩=>by cases e;exact h⟩
 |o::l,fr,S,h=>by
  rw[jS,nR (h o (by simp))];constructor
  ·rintro⟨v,S',h1,h2⟩;obtain⟨fr1,S1,h3,h4⟩:=(rl (fun p hp=>h p (by simp[hp]))).1 h2;exact⟨fr1,S1,by rw[cw,h1];exact h3,h4⟩
  ·rintro⟨fr1,S1,h1,h2⟩;rw[cw]at h1
   cases hp:bC X.T (aM X.T) o fr S with
   |none=>rw[hp]at h1;cases h1
   |some x=>
    obtain⟨v,S'⟩:=x;rw[hp]at h1;exact⟨v,S',rfl,(rl (fun p hp=>h p (by simp[hp]))).2 ⟨fr1,S1,h1,h2⟩⟩
def AN(p q:aB):Bool:=
 (match p.dst with|some d=>!q.reads.contains d&&q.dst != some d|none=>true) &&
 (match q.dst with|some d=>!p.reads.contains d|none=>true)
def lr(p q:aB):Bool:=!gU p.op&&(match q.op with
 |.wc ks _ _=>q.guard.isNone&&AN p q&&(iY p.op||(match p.op with|.loadb b _ _ _=>ks.contains b|_=>false))
 |op=>!gU op&&fh p q)
def aDn{p q:aB}(h:AN p q=true):(∀t∈q.reads,p.dst≠some t)∧(∀t∈p.reads,q.dst≠some t)∧(∀t,p.dst=some t→q.dst≠some t):=by
 simp only[AN,aJ]at h;obtain⟨h1,h2⟩:=h;exact⟨fun t ht e=>by rw[e]at h1;simp[ht]at h1,fun t ht e=>by rw[e]at h2;simp[ht]at h2,fun t e e'=>by rw[e]at h1;simp[e']at h1⟩
def aDo{T:aQ}{call:af}{p:aB}{fr:Fr}{S S1:St}{v:PV}{ks:List Nat}{b:Nat}{ag:Bool}{m:Nat}{x:aG}(hop:p.op=.loadb b ag m x)(hb:ks.contains b=true)(h:bC T call p fr S=some (v,S1)) :
  S1=S∧∀S2,nQ fr ks S S2→bC T call p fr S2=some (v,S2):=by
 simp only[bC]at h ⊢;split at h
 ·cases h
 ·cases h;exact⟨rfl,fun _ _=>rfl⟩
 ·rw[hop]at h ⊢;simp only[aH]at h ⊢;split at h
  ·rename_i i o id off e1 e2;split at h
   ·rename_i hi;subst hi;split at h
    ·rename_i cs hcs;split at h
     ·rename_i v' hv;cases h;refine⟨rfl,fun S2 hk=>?_⟩;have:=hk b (by simpa using hb) i o e1;simp only[if_true,this,hcs,hv]
     ·cases h
    ·cases h
   ·cases h
  ·cases h
def aDp{X:Tie}{p q:aB}{l:List aB}{fr:Fr}{S:St}{Q:Wo→Prop}(hi:lr p q=true)(h:cJ X (p::q::l) fr S Q):cJ X (q::p::l) fr S Q:=by
 simp only[lr,aJ,fy]at hi;obtain⟨hp,hq⟩:=hi;obtain⟨v1,S1,h1,h2⟩:=(nR hp).1 h;by_cases hqw:gU q.op=false
 ·have hq':fh p q=true:=by
   split at hq
   ·rename_i e;rw[e]at hqw;cases hqw
   ·simp only[aJ]at hq;exact hq.2
  obtain⟨v2,S2,h3,h4⟩:=(nR hqw).1 h2
  have hpo:ah X.T (aM X.T) [p,q] fr S=some (aS (aS fr p.dst v1) q.dst v2,S2):=by
   rw[cw,h1];simp only[];rw[cw,h3];rfl
  have hsw:=swap hq' hpo
  have:cJ X ([q,p]++l) fr S Q:=(rl (by
   intro r hr;simp at hr;rcases hr with rfl|rfl
   ·exact hqw
   ·exact hp)).2 ⟨_,_,hsw,h4⟩
  exact this
 ·split at hq
  ·rename_i ks x args hop;simp only[aJ,gW,pQ]at hq;obtain⟨⟨hg,hd⟩,hk⟩:=hq;obtain⟨d1,d2,d3⟩:=aDn hd
   have hS1:S1=S∧∀S2,nQ fr ks S S2→bC X.T (aM X.T) p fr S2=some (v1,S2):=by
    rcases hk with hk|hk
    ·exact⟨(nE hk h1).1,fun S2 _=>(nE hk h1).2 S2⟩
    ·split at hk
     ·rename_i e;exact aDo e hk h1
     ·cases hk
   obtain⟨rfl,hk⟩:=hS1;have hfr:∀t∈q.reads,aS fr p.dst v1 t=fr t:=fun t ht=>kQ (d1 t ht);have hrd:q.reads=ks++(x.reads++args.flatMap aG.reads):=by simp[aB.reads,hop,hg,bO.reads]
   have e1:ev (aS fr p.dst v1) x=ev fr x:=bc fun t ht=>hfr t (by rw[hrd];simp[ht]);have e2:args.map (ev (aS fr p.dst v1))=args.map (ev fr):=nD fun t ht=>hfr t (by rw[hrd];exact bd.2 (.inr (bd.2 (.inr ht))));have e3:jL (aS fr p.dst v1) x args=jL fr x args:=by simp only[jL,e1,e2]
   have hwant:∀fr,bq fr q.guard=some true:=fun fr=>by rw[hg];rfl
   unfold cJ at h2 ⊢;simp only[hwant,hop]at h2 ⊢;obtain⟨f,aq,R,k1,k2,k3,k4⟩:=h2;rw[e3]at k1;refine⟨f,aq,R,k1,k2,fun v S' hr=>?_,k4⟩;obtain⟨m1,m2⟩:=k3 v S' hr;have m1':nQ fr ks S1 S':=fun t ht i o e=>m1 t ht i o (by rw[hfr t (by rw[hrd];simp[ht])];exact e);refine⟨m1',(nR hp).2 ⟨v1,S',?_,?_⟩⟩
   ·rw[←hk S' m1'];exact rQ fun t ht=>kQ (d2 t ht)
   ·rw[uS (fun t e1 e2=>d3 t e2 e1)];exact m2
  ·simp only[aJ,fy]at hq;exact absurd hq.1 hqw
theorem SW{X:Tie}{q:aB}{l:List aB}{Q:Wo→Prop}:∀{pre:List aB} {fr:Fr} {S:St},(∀p∈pre,lr p q=true)→cJ X (pre++q::l) fr S Q→cJ X (q::pre++l) fr S Q
 | [],_,_,_,h=>h
 |p::pre,fr,S,hi,h=>by
  have hp:gU p.op=false:=by
   have:=hi p (by simp);simp only[lr,aJ,fy]at this;exact this.1
  have:cJ X (p::(q::pre++l)) fr S Q:=by
   rw[jS]at h;obtain⟨v,S',h1,h2⟩:=(nR hp).1 h;exact(nR hp).2 ⟨v,S',h1,SW (fun p' hp'=>hi p' (by simp[hp'])) h2⟩
  exact aDp (hi p (by simp)) this
section
variable {X : Tie} {g : Gh} {w : World} {n : Dn} {fr : Fr} {a : Act} {S : St}
def aDq(hS:SR X g S w)(hF:FR X n g w fr a){c:Go.Call}{x:aG}{args:List aG}{f:Nat}{aq:List PV}{R:Rs→Prop}
  (hf:(match c.callee with|.value y=>aK X y x|_=>false)=true)(ha:fF X c.args.toList args=true)(hcal:jL fr x args=some (f,aq))(hsp:dv X f aq S R)
  (dst:Option Tmp)(ty:TypeId)(pos:String)(after:Array Edge)(guard:Option (Nat×Bool)){next:Act→World→Prop}{Q:Exit→Act→World→Prop}
  (hn:∀u w' v S',R (.ret v S')→cU X g w S' v u w'→next (a.put dst u) w')
  (hp:∀u w' v S',R (.pan v S')→cU X g w S' v u w'→Q (.panic [{v:=u,recovered:=false}]) a w') :
  (Oper.mk dst (.call c) ty pos after guard).wp X.P a w next Q:=by
 obtain⟨callee,cargs,tys⟩:=c;simp only at hf ha;split at hf
 ·rename_i y;have r:=ax hF hf
  have hrun:∀us:Array Value,bQ X g w aq us→(execOp a.eval ⟨dst,.call ⟨.value y,cargs,tys⟩,ty,pos,after,guard⟩)=callFunc (X.fnOf f) us→(Oper.mk dst (.call ⟨.value y,cargs,tys⟩) ty pos after guard).wp X.P a w next Q:=by
   intro us hV e;obtain⟨h1,h2⟩:=hsp g w us hS hV;unfold Oper.wp;rw[e,h1,Oper.upon_enter];refine h2.mono fun e' w' he=>?_
   cases e' with
   |returned u=>obtain⟨v,S',q1,q2⟩:=he;exact hn u w' v S' q1 q2
   |panicked ch=>obtain⟨v,S',u,rfl,q1,q2⟩:=he;exact hp u w' v S' q1 q2
   |outgrown=>exact he.elim
  unfold jL at hcal;split at hcal
  ·rename_i f' caps hx;cases hcal;rw[hx]at r;generalize hu:a.eval y=u at r
   cases r with
   |fn _ _ us hl hv=>
    refine hrun _ (rN (oc hF ha) ⟨hl,hv⟩) ?_;simp[execOp,resolve,hu,Deferred.ofValue,invoke]
  ·rename_i f' first hx
   cases hcal;rw[hx]at r;generalize hu:a.eval y=u at r
   cases r with
   |bfn _ _ us hl hv=>
    refine hrun _ (rN ⟨hl,hv⟩ (oc hF ha)) ?_;simp[execOp,resolve,hu,Deferred.ofValue,invoke]
  ·cases hcal
 ·cases hf
def aDr(hF:FR X n g w fr a){x:aG}{y:Operand}(hx:aK X y x=true)(hi:vD (ev fr x)=true)(dst:Option Tmp)(ty:TypeId)(pos:String)(after:Array Edge)(guard:Option (Nat×Bool))
  {next:Act→World→Prop} {Q:Exit→Act→World→Prop} (hp:∀u,VR X g w (ev fr x) u→Q (.panic [{v:=u,recovered:=false}]) a w):(Oper.mk dst (.panic y) ty pos after guard).wp X.P a w next Q:=by
 have r:=ax hF hx;have hq:=hp _ r;generalize hu:a.eval y=u at r hq;generalize hv:ev fr x=v at r hi;cases v<;>simp only[vD]at hi<;>try (cases hi;done)
 cases r with
 |iface t v' u' h'=>
  unfold Oper.wp;simp[execOp,hu,Instr.panic,goPanic,Oper.upon_panic];exact hq
def SX(hX:cR X){ops:Array Oper}{Q:Exit→Act→World→Prop}{QW:Wo→Prop}{o:Oper}{p:aB}{l:List aB}
  (hc:dl X n ops o p=true)(hS:SR X g S w)(hF:FR X n g w fr a)(h:cJ X (p::l) fr S QW){K:Act→World→Prop}
  (hK:∀g' w' a' v S1,Le g w g' w'→SR X g' S1 w'→FR X n g' w' (aS fr p.dst v) a'→cJ X l (aS fr p.dst v) S1 QW→K a' w')
  (hP:∀g' w' v S' u,Le g w g' w'→SR X g' S' w'→VR X g' w' v u→QW (.pan v S')→Q (.panic [{v:=u,recovered:=false}]) a w') :
  if Region.wanted o (yielded ops a.tmps)then o.wp X.P a w K Q else K (a.put o.dst undef) w:=by
 by_cases hpw:gU p.op=false
 ·obtain⟨v,S',h1,h2⟩:=(nR hpw).1 h;refine kU (l:=[]) (r:=(aS fr p.dst v,S')) hX.ty hX.meth (oL hX) hc hS hF (by rw[cw,h1];rfl) (fun g' w' a' fr1 S1 hle hS1 hF1 he=>?_);simp only[ah,aw,bo]at he;obtain⟨rfl,rfl⟩:=he;exact hK g' w' a' v _ hle hS1 hF1 h2
 ·simp only[dl,aJ,beq_iff_eq]at hc;obtain⟨⟨⟨hd,hlt⟩,hop⟩,hgd⟩:=hc
  have hdl:∀t,p.dst=some t→t<n:=by
   intro t ht;rw[hd]at ht;rw[ht]at hlt;simpa using hlt
  simp only[cJ]at h;split at h
  ·exact h.elim
  ·rename_i hw;rw[jH hF hgd hw,if_neg (by simp)];rw[←hd];exact hK g w _ _ _ (Le.refl g w) hS (hF.put hdl (rP X g w)) h
  ·rename_i hw;rw[jH hF hgd hw,if_pos rfl];obtain⟨odst,oop,oty,opos,oafter,oguard⟩:=o;simp only at hd hop;subst hd;split at h
   ·rename_i ks x args hpo;obtain⟨f,aq,R,h1,h2,h3,h4⟩:=h;rw[hpo]at hop;cases oop<;>simp only[bJ]at hop<;>try (cases hop;done)
    rw[aJ]at hop;refine aDq hS hF hop.1 hop.2 h1 h2 _ _ _ _ _ (fun u w' v S' hr hst=>?_) (fun u w' v S' hr hst=>?_)
    ·obtain⟨g',hle,hS',hv⟩:=hst;exact hK g' w' _ v S' hle hS' ((hF.mono hle).put hdl hv) (h3 v S' hr).2
    ·obtain⟨g',hle,hS',hv⟩:=hst;exact hP g' w' v S' u hle hS' hv (h4 v S' hr)
   ·rename_i x hpo;rw[hpo]at hop;cases oop<;>simp only[bJ]at hop<;>try (cases hop;done)
    exact aDr hF hop h.1 _ _ _ _ _ (fun u hv=>hP g w _ S u (Le.refl g w) hS hv h.2)
   ·exact h.elim
   ·rename_i h1 h2 h3;exfalso;apply hpw;cases hq:p.op<;>first|rfl|exact absurd hq (h1 _ _ _)|exact absurd hq (h2 _)|exact absurd hq h3
def nS(fp fr:Fr):Prop:=∀t,fp t=.und∨fp t=fr t
def FR.weak{fp:Fr}(h:FR X n g w fr a)(hw:nS fp fr):FR X n g w fp a:=
 ⟨h.size,fun t=>by
  rcases hw t with e|e
  ·rw[e];exact .und _
  ·rw[e];exact h.at_ t,h.defers⟩
def nS.upd{fp fr:Fr}(h:nS fp fr){d:Option Nat}{v:PV}(hd:∀t,d=some t→fp t=.und):nS fp (aS fr d v):=by
 intro t
 cases d with
 |none=>exact h t
 |some d=>
  by_cases e:t=d
  ·subst e;exact .inl (hd t rfl)
  ·simp only[aS,dE,if_neg e];exact h t
def iy(l:List aB)(fr:Fr):Fr:=fun t=>if l.any (fun p=>p.dst==some t)then .und else fr t
def SY(l:List aB)(fr:Fr):nS (iy l fr) fr:=fun t=>by
 unfold iy;split
 ·exact .inl rfl
 ·exact .inr rfl
def SZ{l:List aB}{fr:Fr}{p:aB}(hp:p∈l):∀t,p.dst=some t→iy l fr t=.und:=fun t ht=>by
 unfold iy;rw[if_pos];exact List.any_eq_true.2 ⟨p,hp,by simp[ht]⟩
theorem Sa(hX:cR X){ops:Array Oper}{Q:Exit→Act→World→Prop}{QW:Wo→Prop}{fp:Fr}:∀(l:List Oper) (ps:List aB) (g:Gh) (w:World) (fr:Fr) (S:St) (a:Act),
  dt X n ops l ps=true→SR X g S w→FR X n g w fr a→nS fp fr→(∀p∈ps,∀t,p.dst=some t→fp t=.und)→cJ X ps fr S QW →
  (∀g' w' a' fr' S',Le g w g' w'→SR X g' S' w'→FR X n g' w' fr' a'→QW (.norm fr' S')→Q .normal a' w') →
  (∀g' w' a' v S' u,Le g w g' w'→SR X g' S' w'→FR X n g' w' fp a'→VR X g' w' v u→QW (.pan v S')→Q (.panic [{v:=u,recovered:=false}]) a' w')→wpList X.P ops Q l a w
 | [],[],g,w,fr,S,a,_,hS,hF,_,_,h,hQ,_=>hQ g w a fr S (Le.refl g w) hS hF h
 |o::l,p::ps,g,w,fr,S,a,hc,hS,hF,hw,hd,h,hQ,hP=>by
  simp only[dt,aJ]at hc
  have hone:=SX hX (Q:=Q) (K:=wpList X.P ops Q l) hc.1 hS hF h (fun g1 w1 a1 v S1 hle hS1 hF1 h1=>
   Sa hX l ps g1 w1 _ S1 a1 hc.2 hS1 hF1 (hw.upd (hd p (by simp))) (fun q hq=>hd q (by simp[hq])) h1 (fun g' w' a' fr' S' hle'=>hQ g' w' a' fr' S' (hle.trans hle')) (fun g' w' a' v S' u hle'=>hP g' w' a' v S' u (hle.trans hle')))
   (fun g' w' v S' u hle hS' hv hq=>hP g' w' a v S' u hle hS' ((hF.weak hw).mono hle) hv hq)
  simp only[wpList];split
  ·rename_i hwt;rw[if_pos hwt]at hone;exact .inl hone
  ·rename_i hwt;rw[if_neg hwt]at hone;exact hone
 | [],_::_,_,_,_,_,_,hc,_,_,_,_,_,_,_=>by simp[dt]at hc
 |_::_,[],_,_,_,_,_,hc,_,_,_,_,_,_,_=>by simp[dt]at hc
def vE(ms:List Nat):List (Nat×aB)→Bool
 | []=>true
 |x::l=>l.all (fun y=>(ms.getD y.1 0).testBit x.1||lr x.2 y.2)&&vE ms l
def AO(X:Tie)(n:Nat)(ops:Array Oper)(ps:List aB):Bool:=
 match kV X n ops (List.range ops.size) ps with
 |some ql=>fi ops.toList 0&&vE (du ops.toList []) ql
 |none=>false
theorem Sb{ms:List Nat}:∀{l:List (Nat×aB)},vE ms l=true→l.Pairwise fun x y=>(ms.getD y.1 0).testBit x.1=true∨lr x.2 y.2=true
 | [],_=>.nil
 |x::l,h=>by
  simp only[vE,aJ]at h;refine .cons (fun y hy=>?_) (Sb h.2);have:=List.all_eq_true.1 h.1 y hy;simpa[gW]using this
def aDs(hX:cR X){ops:Array Oper}{ql:List (Nat×aB)}{Q:Exit→Act→World→Prop}{QW:Wo→Prop}{fp:Fr}
  (hget:∀x∈ql,∃o,ops[x.1]?=some o∧dl X n ops o x.2=true)(hcov:∀i,i<ops.size→∃p,(i,p)∈ql)(hnd:(ql.map (·.1)).Nodup)(hback:fi ops.toList 0=true)
  (hpw:ql.Pairwise fun x y=>((du ops.toList []).getD y.1 0).testBit x.1=true∨lr x.2 y.2=true)(hd:∀x∈ql,∀t,x.2.dst=some t→fp t=.und):∀(fuel:Nat) (listed:Array Bool) (g:Gh) (w:World) (fr:Fr) (S:St) (a:Act),
  SR X g S w→FR X n g w fr a→nS fp fr→listed.size=ops.size→lZ ops listed→(bj ql listed).length≤fuel→cJ X ((bj ql listed).map (·.2)) fr S QW →
  (∀g' w' a' fr' S',Le g w g' w'→SR X g' S' w'→FR X n g' w' fr' a'→QW (.norm fr' S')→Q .normal a' w') →
  (∀g' w' a' v S' u,Le g w g' w'→SR X g' S' w'→FR X n g' w' fp a'→VR X g' w' v u→QW (.pan v S')→Q (.panic [{v:=u,recovered:=false}]) a' w')→wpAny X.P .any ops Q fuel listed a w:=by
 have hmr:=nJ ops.toList ops.toList [] (by simp) (fun i m h=>by simp at h)
 have hempty:∀listed:Array Bool,Region.ready .any ops listed=[]→listed.size=ops.size→bj ql listed=[]:=by
  intro listed hr hsz
  have hall:∀k,k<ops.size→listed.getD k true=true:=by
   intro k
   induction k using Nat.strongRecOn with
   |_ k ih=>
    intro hk
    cases hl:listed.getD k true with
    |true=>rfl
    |false=>
     have:k∈Region.ready .any ops listed:=eT.2 ⟨hk,hl,ops[k],by simp[hk],fun d hd=>by
      have hdk:d<k:=by
       have:=kT hback k ops[k] (by simp[hk]) d hd;omega
      have:=ih d hdk (by omega);have hds:d<listed.size:=by omega
      simp[Array.getD,hds]at this ⊢;exact this⟩
     rw[hr]at this;cases this
  unfold bj;rw[pJ];intro x hx;obtain⟨o,ho,_⟩:=hget x hx;have:=hall x.1 (cD.1 ho).1;simp[this]
 intro fuel
 induction fuel with
 |zero=>
  intro listed g w fr S a hS hF hwk hsz hdn hf h hQ hP;have hnil:bj ql listed=[]:=List.length_eq_zero_iff.1 (by omega);rw[hnil]at h;refine⟨?_,hQ g w a fr S (Le.refl g w) hS hF h⟩
  cases hr:Region.ready .any ops listed with
  |nil=>rfl
  |cons i l=>
   obtain⟨h1,h2,o,ho,_⟩:=eT.1 (show i∈Region.ready .any ops listed by rw[hr];simp);obtain⟨p,hp⟩:=hcov i h1;obtain⟨pre,post,e1,_,_⟩:=la hnd hpw hp h2 (by omega);rw[hnil]at e1;have:=congrArg List.length e1
   simp at this
 |succ fuel ih=>
  intro listed g w fr S a hS hF hwk hsz hdn hf h hQ hP;refine⟨fun hr=>?_,fun i hi=>?_⟩
  ·rw[hempty listed hr hsz]at h;exact hQ g w a fr S (Le.refl g w) hS hF h
  ·obtain⟨h1,h2,o,ho,h3⟩:=eT.1 hi;obtain⟨q,hq⟩:=hcov i h1;obtain⟨o',ho',hcq⟩:=hget _ hq;simp only at ho';rw[ho]at ho';cases ho';obtain⟨pre,post,e1,e2,e3⟩:=la hnd hpw hq h2 (by omega)
   have hind:∀p∈pre,lr p.2 q=true:=by
    intro p hp;obtain⟨hb|hb,hj3⟩:=e3 p hp
    ·exfalso
     have hil:i<(du ops.toList []).length:=by
      by_cases hil:i<(du ops.toList []).length
      ·exact hil
      ·rw[ci,dI (by omega)]at hb;simp at hb
     have hr:=hmr i _ (bX hil) p.1 (by rw[ci,bX hil]at hb;exact hb);have hjl:=ol hdn hsz hr (fun o' ho' d hd=>by rw[ho]at ho';cases ho';exact h3 d hd)
     have hjs:p.1<listed.size:=by
      by_cases hjs:p.1<listed.size
      ·exact hjs
      ·simp[Array.getD,hjs]at hj3
     simp[Array.getD,hjs]at hjl hj3;rw[hjl]at hj3;cases hj3
    ·exact hb
   rw[e1,dS,cV]at h
   have hsw:=SW (by
    intro p hp;obtain⟨x,hx,rfl⟩:=List.mem_map.1 hp;exact hind x hx) h
   unfold wpOp;simp only[ho]
   have:=SX hX (Q:=Q) (K:=wpAny X.P .any ops Q fuel (listed.setIfInBounds i true)) hcq hS hF hsw (fun g1 w1 a1 v S1 hle1 hS1 hF1 h1'=>by
    refine ih _ g1 w1 _ S1 a1 hS1 hF1 (hwk.upd (hd _ hq)) (by simpa using hsz) ?_ ?_ (by rw[e2,dS];exact h1') (fun g2 w2 a2 fr2 S2 hle2=>hQ g2 w2 a2 fr2 S2 (hle1.trans hle2)) (fun g2 w2 a2 v S2 u hle2=>hP g2 w2 a2 v S2 u (hle1.trans hle2))
    ·intro k o' ho' hk d hd
     have hdl:listed.getD d false=true:=by
      by_cases hki:k=i
      ·subst hki;rw[ho]at ho';cases ho';exact h3 d hd
      ·refine hdn k o' ho' ?_ d hd;simp only[eh]at hk ⊢;rw[fk (Ne.symm hki)]at hk;exact hk
     by_cases hdi:d=i
     ·subst hdi;have:d<listed.size:=by omega
      simp[Array.getD,this]
     ·simp only[eh]at hdl ⊢;rw[fk (Ne.symm hdi)];exact hdl
    ·rw[e2];rw[e1]at hf;simp at hf ⊢;omega) (fun g' w' v S' u hle hS' hv hq=>hP g' w' a v S' u hle hS' ((hF.weak hwk).mono hle) hv hq)
   split
   ·rename_i hw;rw[if_pos hw]at this;exact .inl this
   ·rename_i hw;rw[if_neg hw]at this;exact this
def aDt(hX:cR X){ops:Array Oper}{pl:List aB}{Q:Exit→Act→World→Prop}{QW:Wo→Prop}
  (hchk:AO X n ops pl=true)(hS:SR X g S w)(hF:FR X n g w fr a)(h:cJ X pl fr S QW)
  (hQ:∀g' w' a' fr' S',Le g w g' w'→SR X g' S' w'→FR X n g' w' fr' a'→QW (.norm fr' S')→Q .normal a' w')
  (hP:∀g' w' a' v S' u,Le g w g' w'→SR X g' S' w'→FR X n g' w' (iy pl fr) a'→VR X g' w' v u→QW (.pan v S')→Q (.panic [{v:=u,recovered:=false}]) a' w') (id:Nat):(Code.region id ops true).wp X.P Q a w:=by
 unfold AO at hchk;split at hchk
 ·rename_i ql hql;simp only[aJ]at hchk;obtain⟨e1,e2,e3⟩:=rY nZ hql;have hnd:(ql.map (·.1)).Nodup:=e2.nodup_iff.2 nZ;refine wp_region_any hX.mixed ?_;have hw:∀{g':Gh} {w':World},Le g {w with drawn:=w.drawn+1} g' w'→Le g w g' w':=fun h=>⟨h.os,h.tape,h.output,h.size,h.obj,h.arr,h.asz,h.pub,h.cell,h.shape,h.objN,h.arrN,h.keep,h.pubN,h.mp,h.mpN,h.mf⟩
  have hle:Le g w g {w with drawn:=w.drawn+1}:=⟨rfl,rfl,rfl,aX _,fun _ _ h=>h,fun _ _ h=>h,fun _ _ h=>h,fun _=>aX _,fun _ _ _=>rfl,fun _ us _ _ h=>⟨us,h,rfl⟩,
   fun id _ h=>.inl ⟨id,h⟩,fun _ _ h=>.inl h,fun _ _ _ _ _=>rfl,fun _ _ _ _ _=>rfl,fun _ _ h=>h,fun _ _ h=>.inl h,fun _ _ _ h e=>⟨h,e⟩⟩
  have hS':SR X g S {w with drawn:=w.drawn+1}:=⟨fun id b hb=>by
   obtain⟨cs,us,t,h1,h2,h3,h4⟩:=hS.obj id b hb;exact⟨cs,us,t,h1,h2,h3,fun j c u e1 e2=>(h4 j c u e1 e2).mono hle⟩,hS.inj,hS.objpub,hS.arr,hS.asz,hS.lt,hS.maps.of (fun _ _ h=>h) (fun _ _ _=>rfl) (fun _ _ _=>rfl) (fun c u r=>r.mono hle) (fun _ _ _=>⟨rfl,rfl⟩) (fun _ _ _ _ h=>h),hS.gl.le hle⟩
  have hrest:bj ql (Array.replicate ops.size false)=ql:=by
   unfold bj;refine jv.2 (fun x hx=>?_);obtain⟨o,ho,_⟩:=e3 x hx;have:=(cD.1 ho).1;simp[Array.getD,this]
  refine aDs hX (fp:=iy pl fr) e3 (fun i hi=>?_) hnd hchk.1 (Sb hchk.2) (fun x hx=>SZ (by rw[←e1];exact List.mem_map.2 ⟨x,hx,rfl⟩)) ops.size _ g _ fr S a hS' (hF.mono hle) (SY _ _) (by simp) ?_ ?_ (by rw[hrest,e1];exact h) (fun g' w' a' fr' S' hle'=>hQ g' w' a' fr' S' (hw hle')) (fun g' w' a' v S' u hle'=>hP g' w' a' v S' u (hw hle'))
  ·have:i∈ql.map (·.1):=e2.mem_iff.2 (by simpa using hi);obtain⟨x,hx,rfl⟩:=List.mem_map.1 this;exact⟨x.2,hx⟩
  ·intro i o ho hi;have:i<ops.size:=(cD.1 ho).1;simp[Array.getD,this]at hi
  ·rw[hrest];have:=e2.length_eq;simp at this;omega
 ·cases hchk
end
end Ps
