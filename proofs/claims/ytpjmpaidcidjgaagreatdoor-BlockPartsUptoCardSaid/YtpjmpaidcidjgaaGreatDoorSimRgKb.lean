/- A range over a map, with rounds that only read. -/
import Derived.Test.YtpjmpaidcidjgaaGreatDoorDefsKb
import Derived.Test.YtpjmpaidcidjgaaGreatDoorSimNqKb
import Derived.Test.YtpjmpaidcidjgaaGreatDoorGoKb
import Derived.Maps.RangeRun
import Derived.LoopN
import Derived.Below
set_option linter.defProp false
namespace Ps
set_option linter.unusedVariables false
set_option linter.unusedSimpArgs false
open Go
open Go.RowKit (Below)
def Dl:bT→Bool
 |.load _ _ _ _=>true
 |.mov _|.nilck _|.faddr _ _|.len _ _|.arith _ _ _|.extract _ _|.field _ _ _ _|.iaddr _ _ _|.toInt _ _|.un _ _|.eqn _ _ _=>true
 |_=>false
def rE(it:Nat)(p:aA):Bool:=Dl p.op&&p.guard.isNone&&p.dst != some it
def iT(t:Nat)(l:List (Nat×Nat)):Bool:=l.any fun q=>ig q.1 q.2 t
theorem UU(t:Nat):∀(l:List (Nat×Nat)) (fr:Fr),fr t=.und→clrs l fr t=.und
 | [],_,h=>h
 |(lo,hi)::l,fr,h=>by
  refine UU t l _ ?_;unfold ft;cases ig lo hi t<;>simp[h]
theorem kU(t:Nat):∀(l:List (Nat×Nat)) (fr:Fr),iT t l=true→clrs l fr t=.und
 | [],_,h=>by simp[iT]at h
 |(lo,hi)::l,fr,h=>by
  cases hc:ig lo hi t with
  |true=>exact UU t l _ (by simp[ft,hc])
  |false=>
   refine kU t l _ ?_;simp only[iT,List.any_cons,hc,Bool.false_or]at h;exact h
def nY{fr:Fr}{t:Nat}(h:fr t=.und):aP fr (some t) .und=fr:=by
 funext s;simp only[aP,df];split
 ·rename_i e;rw[e,h]
 ·rfl
def xY(P:Program)(t:TypeId):Bool:=match P.underlying t with|some (.map _ _)=>true|_=>false
def xZ(X:Tie)(n:Nat)(c:Code)(pre:List aA)(x:aH)(en:Nat)(post:List aA)(l:List (Nat×Nat))(b:List aA):Bool:=
 match c with
 |.seq (.region _ ops5 false) (.block m (.loop (.seq (.region _ ops6 false) (.seq (.cond (.tmp ok) .skip (.exit m')) (.block _ (.seq (.region _ ops7 false) (.region _ ops8 false)))))))=>
  (match ops5.toList.getLast?,ops6.toList,ops7.toList with
  |some o5,[o6,o6b],o7::r7=>(match o5.dst,o5.op,o6.dst,o6.op,o6b.op,o7.op with
   |some it,.range t xo,some nx,.next (.tmp it1) false,.extract (.tmp nx1) 0,.entry (.tmp it2)=>
    o5.guard.isNone&&o6.guard.isNone&&o6b.guard.isNone&&o7.guard.isNone&&o6b.dst==some ok&&o7.dst==some en&&it1==it&&it2==it&&nx1==nx&&m'==m &&
    dn X n ops5 ops5.toList.dropLast pre&&aO X xo x&&xY X.P t&&dn X n ops7 r7 post&&dn X n ops8 ops8.toList b &&
    decide (it<n)&&decide (nx<n)&&decide (ok<n)&&decide (en<n)&&iT it l&&iT nx l&&iT ok l &&
    post.all (rE it)&&b.all (rE it)&&it != en&&it != nx&&it != ok&&nx != ok
   |_,_,_,_,_,_=>false)
  |_,_,_=>false)
 |_=>false
theorem FR.clrs{X:Tie}{n:Dn}{g:Gh}{w:World}{a:Act}:∀(l:List (Nat×Nat)) {fr:Fr},FR X n g w fr a→FR X n g w (clrs l fr) a
 | [],_,h=>h
 |(lo,hi)::l,fr,h=>by
  refine FR.clrs l (fr:=ft lo hi fr) ⟨h.size,fun t=>?_,h.defers⟩;unfold ft;cases(ig lo hi t)
  ·exact h.at_ t
  ·exact .und _
structure jw(w w':World)(r:Nat):Prop where
 os:w'.os=w.os
 tape:w'.tape=w.tape
 output:w'.output=w.output
 size:w'.heap.size=w.heap.size
 other:∀b,b≠r→w'.heap[b]?=w.heap[b]?
 was:∃m s seen c,w.heap[r]?=some (.mapIter m s seen c)
 is:∃m s seen c,w'.heap[r]?=some (.mapIter m s seen c)
section
variable {X : Tie} {g : Gh} {w w' : World} {n : Dn} {fr : Fr} {a : Act} {S : St}
def jw.cells{r:Nat}(h:jw w w' r){b:Nat}{us:Array Value}{t:TypeId}{fz:Nat×Nat}(e:w.heap[b]?=some (.cells us t fz)):w'.heap[b]?=some (.cells us t fz):=by
 have hne:b≠r:=fun er=>by
  subst er;obtain⟨_,_,_,_,h1⟩:=h.was;rw[h1]at e;cases e
 rw[h.other b hne];exact e
def jw.map{r:Nat}(h:jw w w' r){b:Nat}{es:Array MapEntry}{c:Nat}(e:w.heap[b]?=some (.map es c)):w'.heap[b]?=some (.map es c):=by
 have hne:b≠r:=fun er=>by
  subst er;obtain⟨_,_,_,_,h1⟩:=h.was;rw[h1]at e;cases e
 rw[h.other b hne];exact e
def jw.cell{r:Nat}(h:jw w w' r)(b j:Nat):w'.cell? ⟨b,j,none⟩=w.cell? ⟨b,j,none⟩:=by
 by_cases e:b=r
 ·subst e;obtain⟨_,_,_,_,h1⟩:=h.was;obtain⟨_,_,_,_,h2⟩:=h.is;simp only[World.cell?,h1,h2]
 ·simp only[World.cell?,h.other b e]
def VR.itAt{r:Nat}(h:jw w w' r){v:PV}{u:Value}(hv:VR X g w v u):VR X g w' v u:=by
 induction hv with
 |und u=>exact .und u
 |int k n=>exact .int k n
 |bool b=>exact .bool b
 |str s=>exact .str s
 |nilp=>exact .nilp
 |nils=>exact .nils
 |nili=>exact .nili
 |nilf=>exact .nilf
 |ptr id off b e=>exact .ptr id off b e
 |ref cs b o us hpub hc _ ih=>exact .ref cs b o us hpub (fun j hj=>by rw[h.cell];exact hc j hj) ih
 |sl tip es sp b o cap sz us hcap hpos hsz hpub hc _ hlink hone ih=>
  refine .sl tip es sp b o cap sz us hcap hpos hsz hpub (fun j hj=>by rw[h.cell];exact hc j hj) ih ?_ hone;intro id e ht hs;obtain⟨h1,h2,h3⟩:=hlink id e ht hs;refine⟨h1,h2,?_⟩;rcases h3 with h3|⟨base,h4,h5,us',t,lo,hi,e1,h6⟩
  ·exact .inl h3
  ·exact .inr ⟨base,h4,h5,us',t,lo,hi,h.cells e1,h6⟩
 |slz a=>exact .slz a
 |osl id off len sz cap b e hl hr=>exact .osl id off len sz cap b e hl (fun q=>by
   obtain⟨us,t,lo,hi,e1,e2⟩:=hr q
   exact⟨us,t,lo,hi,h.cells e1,e2⟩)
 |emp a=>exact .emp a
 |iface t v u _ ih=>exact .iface t v u ih
 |agg cs us hl _ ih=>exact .agg cs us hl ih
 |tup cs us hl _ ih=>exact .tup cs us hl ih
 |fn f cs us hl _ ih=>exact .fn f cs us hl ih
 |nilm=>exact .nilm
 |map id b e=>exact .map id b e
 |hnd b=>exact .hnd b
 |bfn f cs us hl _ ih=>exact .bfn f cs us hl ih
def SR.itAt{r:Nat}(h:jw w w' r)(hS:SR X g S w):SR X g S w' where
 obj:=fun id b e=>by
  obtain⟨cs,us,t,h1,h2,h3,h4⟩:=hS.obj id b e;exact⟨cs,us,t,h1,h.cells h2,h3,fun j c u e1 e2=>(h4 j c u e1 e2).itAt h⟩
 inj:=hS.inj
 objpub:=hS.objpub
 arr:=hS.arr
 asz:=hS.asz
 lt:=fun b hb=>hS.lt b (by rw[←h.size];exact hb)
 maps:={
  ent:=fun id b e=>by
   obtain⟨cs,es,clock,h1,h2,h3,h4⟩:=hS.maps.ent id b e;exact⟨cs,es,clock,h1,h.map h2,h3,h4.imp fun c u q=>q.itAt h⟩
  inj:=hS.maps.inj,pub:=hS.maps.pub,dis:=hS.maps.dis,fz:=hS.maps.fz}
 gl:=fun q hq=>by
  obtain⟨⟨h1,h2,h3,h4⟩,h5⟩:=hS.gl q hq;exact⟨⟨by rw[h.size];exact h1,h2,h3,h4⟩,by rw[h.cell];exact h5⟩
def FR.itAt{r:Nat}(h:jw w w' r)(hF:FR X n g w fr a):FR X n g w' fr a:=⟨hF.size,fun t=>(hF.at_ t).itAt h,hF.defers⟩
def Le.itAt{g0:Gh}{w0:World}{r:Nat}(hle:Le g0 w0 g w)(h:jw w w' r)(hr:w0.heap.size≤r):Le g0 w0 g w' where
 os:=h.os.trans hle.os
 tape:=h.tape.trans hle.tape
 output:=h.output.trans hle.output
 size:=by rw[h.size];exact hle.size
 obj:=hle.obj
 arr:=hle.arr
 asz:=hle.asz
 pub:=hle.pub
 cell:=fun b j hj=>by rw[h.cell];exact hle.cell b j hj
 shape:=fun b us t fz e=>by
  obtain⟨us',e1,e2⟩:=hle.shape b us t fz e;exact⟨us',h.cells e1,e2⟩
 objN:=hle.objN
 arrN:=hle.arrN
 keep:=fun b hb ho ha hm=>by rw[h.other b (by omega)];exact hle.keep b hb ho ha hm
 pubN:=hle.pubN
 mp:=hle.mp
 mpN:=hle.mpN
 mf:=fun b es c e1 e2=>by
  obtain⟨q1,q2⟩:=hle.mf b es c e1 e2;exact⟨q1,h.map q2⟩
def nZ(hS:SR X g S w)(h:Below w.heap.size w w'):Le g w g w' where
 os:=h.os
 tape:=h.tape
 output:=h.output
 size:=h.size
 obj:=fun _ _ e=>e
 arr:=fun _ _ e=>e
 asz:=fun _ _ e=>e
 pub:=fun _=>aU _
 cell:=fun b j hj=>by
  have hb:b<w.heap.size:=by
   rcases iw b w.heap.size with h1|h1
   ·exact h1
   ·rw[(hS.lt b h1).1]at hj;omega
  simp only[World.cell?];rw[h.block b hb]
 shape:=fun b us t fz e=>by
  have hb:b<w.heap.size:=(cO.1 e).1;exact⟨us,by rw[h.block b hb];exact e,rfl⟩
 objN:=fun id _ e=>.inl ⟨id,e⟩
 arrN:=fun _ _ e=>.inl e
 keep:=fun b hb _ _ _=>h.block b hb
 pubN:=fun _ _ _ _ _=>rfl
 mp:=fun _ _ e=>e
 mpN:=fun _ _ e=>.inl e
 mf:=fun b es c e1 e2=>⟨e1,by rw[h.block b (cO.1 e2).1];exact e2⟩
def tw(hS:SR X g S w)(h:Below w.heap.size w w'):SR X g S w' where
 obj:=fun id b e=>by
  obtain⟨cs,us,t,h1,h2,h3,h4⟩:=hS.obj id b e;have hb:b<w.heap.size:=(cO.1 h2).1;exact⟨cs,us,t,h1,by rw[h.block b hb];exact h2,h3,fun j c u e1 e2=>(h4 j c u e1 e2).mono (nZ hS h)⟩
 inj:=hS.inj
 objpub:=hS.objpub
 arr:=hS.arr
 asz:=hS.asz
 lt:=fun b hb=>hS.lt b (Nat.le_trans h.size hb)
 maps:=hS.maps.of (fun _ _ h=>h) (fun _ _ _=>rfl) (fun i b e=>h.block b (hS.maps.lt e)) (fun c u r=>r.mono (nZ hS h)) (fun _ _ _=>⟨rfl,rfl⟩) (fun _ _ _ _ h=>h)
 gl:=hS.gl.le (nZ hS h)
def aEM{call:ac}(hty:eV X)(hS:SR X g S w)(hF:FR X n g w fr a){op:Go.Op}{p:bT}(hc:bQ X op p=true)(hp:Dl p=true){v:PV}{S':St}
  (h:aG X.T call fr S p=some (v,S')):S'=S∧cN X g w a op v:=by
 have pureCase:mw p=true→dF S (aR fr p)=some (v,S')→S'=S∧cN X g w a op v:=by
  intro hp hv
  cases hv':aR fr p with
  |none=>rw[hv']at hv;cases hv
  |some v'=>rw[hv']at hv;cases hv;exact⟨rfl,TP hty hF hc hp hv'⟩
 cases p
 case load ag m mix x=>
  cases mix
  ·cases op<;>simp only[bQ]at hc<;>try (cases hc;done)
   simp only[aJ]at hc;simp only[aG]at h;split at h
   ·rename_i cs he;split at h
    ·rename_i v' hv;cases h;exact⟨rfl,DC hF hc.1 hc.2 he hv⟩
    ·cases h
   ·rename_i id off he;split at h
    ·rename_i cs hcs;split at h
     ·rename_i v' hv;cases h;exact⟨rfl,DM hS hF hc.1 hc.2 he hcs hv⟩
     ·cases h
    ·cases h
   ·cases h
  ·exact pureCase rfl (by simpa only[aG]using h)
 case len st x=>cases st<;>exact pureCase rfl (by simpa only[aG]using h)
 all_goals first
  |(simp only[Dl]at hp;cases hp;done)
  |exact pureCase rfl (by simpa only[aG]using h)
def nb{a:Act}{d t:Nat}{u:Value}(h:t≠d):(a.put (some d) u).tmps.getD t undef=a.tmps.getD t undef:=by
 simp only[Act.put,fh];rw[gn (Ne.symm h)]
def kV{a:Act}{d:Nat}{u:Value}(h:d<a.tmps.size):(a.put (some d) u).tmps.getD d undef=u:=by
 simp only[Act.put,fh];simp[h]
def UV{call:ac}(hty:eV X){ops:Array Oper}{it:Nat}{Q:Exit→Act→World→Prop}{l:List Nat}{ps:List aA}{fr:Fr}{fr':Fr}{S':St}{a:Act}(hf:mB X n ops l ps)(hro:ps.all (rE it)=true)
  (hS:SR X g S w)(hF:FR X n g w fr a)(h:ae X.T call ps fr S=some (fr',S')) :
  S'=S∧((∀a',FR X n g w fr' a'→a'.tmps.getD it undef=a.tmps.getD it undef→Q .normal a' w)→wpOps X.P ops Q l a w):=by
 induction hf generalizing fr a with
 |nil=>
  simp only[ae,ap,bc]at h;obtain⟨rfl,rfl⟩:=h
  exact⟨rfl,fun hQ=>hQ a hF rfl⟩
 |cons i o p l ps hi hc _ ih=>
  simp only[EN,aJ]at hro;obtain⟨hr1,hr2⟩:=hro;simp only[rE,aJ,nw,bne_iff_ne,ne_eq]at hr1;obtain⟨⟨hp,hg⟩,hne⟩:=hr1;simp only[eK,aJ,beq_iff_eq]at hc;obtain⟨⟨⟨hd,hlt⟩,hop⟩,hgd⟩:=hc
  have hdl:∀t,p.dst=some t→t<n:=by
   intro t ht;rw[hd]at ht;rw[ht]at hlt;simpa using hlt
  have hw:bu fr p.guard=some true:=by rw[hg];rfl
  simp only[ae,hw]at h
  cases hst:aG X.T call fr S p.op with
  |none=>rw[hst]at h;cases h
  |some q=>
   obtain⟨v,S1⟩:=q;rw[hst]at h;obtain⟨rfl,hdo⟩:=aEM hty hS hF hop hp hst;obtain⟨u,hrun,hv⟩:=hdo o.dst o.type o.pos o.after o.guard;have hF1:=hF.put hdl hv;obtain⟨e1,e2⟩:=ih hr2 hF1 h;refine⟨e1,fun hQ=>?_⟩;simp only[wpOps,hi];rw[jv hF hgd hw,if_pos rfl];left;unfold Oper.wp;rw[show o=⟨o.dst,o.op,o.type,o.pos,o.after,o.guard⟩from rfl,hrun,Oper.upon_value];rw[←hd];refine e2 (fun a' h1 h2=>hQ a' h1 ?_);rw[h2]
   cases hpd:p.dst with
   |none=>rfl
   |some d=>exact nb (fun e=>hne (by rw[hpd,e]))
def Dm{call:ac}(hty:eV X)(hM:ff X)(hC:dV X call){ops:Array Oper}{Q:Exit→Act→World→Prop}{fr':Fr}{S':St}{l2:List Nat}:∀{l:List Nat} {ps:List aA} {g:Gh} {w:World} {fr:Fr} {S:St} {a:Act},
  mB X n ops l ps→SR X g S w→FR X n g w fr a→ae X.T call ps fr S=some (fr',S') →
  (∀g' w' a',Le g w g' w'→SR X g' S' w'→FR X n g' w' fr' a'→wpOps X.P ops Q l2 a' w')→wpOps X.P ops Q (l++l2) a w:=by
 intro l ps g w fr S a hf
 induction hf generalizing g w fr S a with
 |nil=>
  intro hS hF h hQ;simp only[ae,ap,bc]at h;obtain⟨rfl,rfl⟩:=h
  exact hQ g w a (Le.refl g w) hS hF
 |cons i o p l ps hi hc _ ih=>
  intro hS hF h hQ;simp only[eK,aJ,beq_iff_eq]at hc;obtain⟨⟨⟨hd,hlt⟩,hop⟩,hgd⟩:=hc
  have hdl:∀t,p.dst=some t→t<n:=by
   intro t ht;rw[hd]at ht;rw[ht]at hlt;simpa using hlt
  simp only[iH,wpOps,hi];simp only[ae]at h;split at h
  ·cases h
  ·rename_i hw;rw[jv hF hgd hw,if_neg (by simp)];rw[←hd];exact ih hS (hF.put hdl (td X g w)) h hQ
  ·rename_i hw;rw[jv hF hgd hw,if_pos rfl];split at h
   ·rename_i v S1 hst;left
    have:=wu hty hM hC hS hF hop hst o.dst o.type o.pos o.after o.guard (wpOps X.P ops Q (l++l2)) Q (fun u w' hstep=>by
     obtain⟨g',hle,hS',hv⟩:=hstep;rw[←hd];exact ih hS' ((hF.mono hle).put hdl hv) h (fun g2 w2 a2 hle2 hS2 hF2=>hQ g2 w2 a2 (hle.trans hle2) hS2 hF2))
    exact this
   ·cases h
inductive fS(X:Tie)(g:Gh)(w:World):List (PV×PV)→List MapEntry→Prop where
 |nil:fS X g w [] []
 |cons (k v:PV) (ps:List (PV×PV)) (e:MapEntry) (es:List MapEntry) (hk:VR X g w k e.key) (hv:VR X g w v e.val) (h:fS X g w ps es):fS X g w ((k,v)::ps) (e::es)
def fS.of{cs:List PV}{es:List MapEntry}(h:MR X g w cs es):fS X g w (jf cs) es:=by
 induction h with
 |nil=>exact .nil
 |mark=>exact .nil
 |cons k v cs e es hk _ hv _ ih=>exact .cons k v _ e es hk hv ih
def fS.itAt{r:Nat}(h:jw w w' r){ps:List (PV×PV)}{es:List MapEntry}(hp:fS X g w ps es):fS X g w' ps es:=by
 induction hp with
 |nil=>exact .nil
 |cons k v ps e es hk hv _ ih=>exact .cons k v ps e es (hk.itAt h) (hv.itAt h) ih
def fS.length{ps:List (PV×PV)}{es:List MapEntry}(hp:fS X g w ps es):ps.length=es.length:=by
 induction hp with
 |nil=>rfl
 |cons k v ps e es _ _ _ ih=>simp[ih]
def fS.take{ps:List (PV×PV)}{es:List MapEntry}(hp:fS X g w ps es):∀{e:MapEntry},e∈es→(es.map (·.born)).Nodup →
  ∃k v ps',VR X g w k e.key∧VR X g w v e.val∧ps.Perm ((k,v)::ps')∧fS X g w ps' (es.filter fun x=>x.born != e.born):=by
 induction hp with
 |nil=>intro e he;cases he
 |cons k v ps e0 es hk hv h ih=>
  intro e he hn;simp only[cb,pV]at hn;by_cases hb:e0.born=e.born
  ·have hee:e=e0:=by
    rcases dI.1 he with h1|h1
    ·exact h1
    ·exact absurd (List.mem_map.2 ⟨e,h1,hb.symm⟩) hn.1
   subst hee;refine⟨k,v,ps,hk,hv,uK _,?_⟩
   have:List.filter (fun x=>x.born != e.born) (e::es)=es:=by
    rw[EU (by simp),kc];intro x hx;simp only[bne_iff_ne,ne_eq];exact fun eb=>hn.1 (List.mem_map.2 ⟨x,hx,eb⟩)
   rw[this];exact h
  ·have he':e∈es:=by
    rcases dI.1 he with h1|h1
    ·exact absurd (by rw[h1]) hb
    ·exact h1
   obtain⟨k1,v1,ps',q1,q2,q3,q4⟩:=ih he' hn.2;refine⟨k1,v1,(k,v)::ps',q1,q2,(q3.cons _).trans (List.Perm.swap _ _ _),?_⟩;rw[VG (by simpa using hb)];exact .cons k v ps' e0 _ hk hv q4
def UW(es:Array MapEntry)(seen:Array Nat)(b:Nat):(leftOf es (seen.push b)).toList=(leftOf es seen).toList.filter fun x=>x.born != b:=by
 simp only[leftOf,Array.toList_filter,List.filter_filter];refine xl fun x _=>?_;by_cases h:x.born=b
 ·simp[h]
 ·simp[h]
def UX{es:Array MapEntry}(seen:Array Nat)(h:(es.toList.map (·.born)).Nodup):((leftOf es seen).toList.map (·.born)).Nodup:=by
 simp only[leftOf,Array.toList_filter];exact h.sublist (List.Sublist.map _ EV)
theorem Do{ops:Array Oper}:∀{l:List Oper} {ps:List aA} (k:Nat),(∀j,j<l.length→l[j]?=ops[k+j]?)→dn X n ops l ps=true→mB X n ops (List.range' k l.length) ps
 | [],[],_,_,_=>.nil
 |o::l,p::ps,k,hk,h=>by
  simp only[dn,aJ]at h;simp only[bL,mU]
  exact .cons k o p _ ps (by simpa using (hk 0 (by simp)).symm) h.1 (Do (k+1) (fun j hj=>by have:=hk (j+1) (by simpa using hj);simpa[dk,kB 1 j]using this) h.2)
 | [],_::_,_,_,h=>by simp[dn]at h
 |_::_,[],_,_,h=>by simp[dn]at h
def UY{w:World}{t k e:TypeId}{bm:Nat}{es:Array MapEntry}{clock:Nat}(ht:X.P.underlying t=some (.map k e))(hb:w.heap[bm]?=some (.map es clock)) :
  (Instr.range t (.map (some bm))).run X.P w=.ok (.pointer (some ⟨w.heap.size,0,none⟩)) (w.alloc (.mapIter (some bm) clock #[] clock)):=by
 simp[Instr.range,run_underlying ht,MapKept.run_getObj_map hb,Result.andThen,go_sem]
def UZ{w w1:World}{r:Nat}{m:Option Nat}{s c:Nat}{seen:Array Nat}(hr:w.heap[r]?=some (.mapIter m s seen c))(h1:w1=w∨w1=w.drew)(m':Option Nat)(s' c':Nat)(seen':Array Nat) :
  jw w (ChangeMaps.setBlock w1 r (.mapIter m' s' seen' c')) r∧(ChangeMaps.setBlock w1 r (.mapIter m' s' seen' c')).heap[r]?=some (.mapIter m' s' seen' c'):=by
 have hlt:r<w.heap.size:=(cO.1 hr).1;have hh:w1.heap=w.heap:=by rcases h1 with rfl|rfl<;>rfl
 have his:(ChangeMaps.setBlock w1 r (.mapIter m' s' seen' c')).heap[r]?=some (.mapIter m' s' seen' c'):=by
  simp[ChangeMaps.setBlock,hh,hlt]
 refine⟨⟨?_,?_,?_,?_,fun b hne=>?_,⟨_,_,_,_,hr⟩,⟨_,_,_,_,his⟩⟩,his⟩
 ·rcases h1 with rfl|rfl<;>rfl
 ·rcases h1 with rfl|rfl<;>rfl
 ·rcases h1 with rfl|rfl<;>rfl
 ·simp[ChangeMaps.setBlock,hh]
 ·simp only[ChangeMaps.setBlock,hh];exact gn (Ne.symm hne)
def xc{P:Program}{w:World}{us:Array Value}{u:Value}{a:Act}{nx:Nat}(hu:a.tmps.getD nx undef=.tuple us)(h0:us[0]?=some u)(dst:Option Tmp)(ty:TypeId)(pos:String)(after:Array Edge)(guard:Option (Nat×Bool)) :
  (execOp a.eval ⟨dst,.extract (.tmp nx) 0,ty,pos,after,guard⟩).run P w=.ok (.value u) w:=by
 have:a.eval (.tmp nx)=.tuple us:=hu;simp[execOp,this,Instr.extract,h0]
set_option maxHeartbeats 1000000 in
def aEN{call:ac}(hty:eV X){run:Fr→St→Option (Ex×Fr×St)}{id6 id7 id8 m m1 it nx ok en id bm r clock:Nat}{ops6 ops7 ops8:Array Oper}{o6 o6b o7:Oper}{r7:List Oper}{post b:List aA}{l:List (Nat×Nat)}{cs:List PV}{es:Array MapEntry}
  (h6:ops6.toList=[o6,o6b])(h7:ops7.toList=o7::r7)(g6:o6.guard=none)(g6b:o6b.guard=none)(g7:o7.guard=none)
  (d6:o6.dst=some nx)(d6b:o6b.dst=some ok)(d7:o7.dst=some en)(p6:o6.op=.next (.tmp it) false)(p6b:o6b.op=.extract (.tmp nx) 0)(p7:o7.op=.entry (.tmp it))
  (hc7:dn X n ops7 r7 post=true)(hc8:dn X n ops8 ops8.toList b=true)(ln:nx<n)(lk:ok<n)(le':en<n)(i1:iT it l=true)(i2:iT nx l=true)(i3:iT ok l=true)
  (ro7:post.all (rE it)=true)(ro8:b.all (rE it)=true)(ne1:it≠en)(ne2:it≠nx)(ne3:it≠ok)(ne4:nx≠ok)
  (hrun:∀fr S,run fr S=match ae X.T call b fr S with|some (fr',S')=>some (.norm,fr',S')|none=>none)
  {g0:Gh}{w0:World}(hr0:w0.heap.size≤r)(hn:(es.toList.map (·.born)).Nodup)(hst:∀x∈es.toList,x.born<clock){fr':Fr}{S':St}{Q:Exit→Act→World→Prop}
  (hQ:∀w' a',Le g0 w0 g w'→SR X g S' w'→FR X n g w' fr' a'→Q .normal a' w') :
  ∀(N:Nat) (rem:List (PV×PV)) (seen:Array Nat) (w:World) (a:Act) (fr:Fr),rem.length=N→Le g0 w0 g w→SR X g S w→FR X n g w fr a→a.tmps.getD it undef=.pointer (some ⟨r,0,none⟩) →
   w.heap[r]?=some (.mapIter (some bm) clock seen clock)→w.heap[bm]?=some (.map es clock)→fS X g w rem (leftOf es seen).toList→fr nx=.und→fr ok=.und →
   (∀p:List (PV×PV),p.Perm rem→jH (lj X.T call run id cs en post l) p fr S=some (fr',S')) →
   Code.rounds X.P (.seq (.region id6 ops6 false) (.seq (.cond (.tmp ok) .skip (.exit m)) (.block m1 (.seq (.region id7 ops7 false) (.region id8 ops8 false))))) (Exit.inBlock m Q) (N+1) a w:=by
 have s6:List.range ops6.size=[0,1]:=by
  have:ops6.size=2:=by rw[←gT,h6];rfl
  rw[this];rfl
 have e60:ops6[0]?=some o6:=by rw[←iF,h6];rfl
 have e61:ops6[1]?=some o6b:=by rw[←iF,h6];rfl
 have e70:ops7[0]?=some o7:=by rw[←iF,h7];rfl
 have s7:List.range ops7.size=0::List.range' 1 r7.length:=by
  have:ops7.size=r7.length+1:=by rw[←gT,h7];rfl
  rw[this,pX,mU]
 have want6:∀y,Region.wanted o6 y=true:=fun y=>by simp[Region.wanted,g6]
 have want6b:∀y,Region.wanted o6b y=true:=fun y=>by simp[Region.wanted,g6b]
 have want7:∀y,Region.wanted o7 y=true:=fun y=>by simp[Region.wanted,g7]
 intro N
 induction N with
 |zero=>
  intro rem seen w a fr hrem hle hS hF hit hr hbm hp hnx hok hall;have hrem0:rem=[]:=xk hrem;subst hrem0;have hl0:(leftOf es seen).size=0:=by rw[←gT,←hp.length];rfl
  have hfin:=hall [] (uK _);simp only[jH,ap,bc]at hfin;obtain⟨rfl,rfl⟩:=hfin
  have hnext:(Instr.next (.pointer (some ⟨r,0,none⟩)) false o6.type).run X.P w=.ok (.tuple #[.bool false]) w:=by
   rcases run_next_at (P:=X.P) w o6.type r bm clock clock seen es clock hr hbm hst (aU _)with h|⟨e,he,_⟩
   ·exact h.2
   ·exfalso;have:(leftOf es seen).toList.length=0:=by rw[gT];exact hl0
    rw[xk this]at he;cases he
  rw[rounds_succ];refine wp_seq (wp_region ?_);rw[s6];simp only[wpOps,e60,e61,want6,want6b,if_true];left;unfold Oper.wp
  have x6:(execOp a.eval o6).run X.P w=.ok (.value (.tuple #[.bool false])) w:=by
   have:a.eval (.tmp it)=.pointer (some ⟨r,0,none⟩):=hit
   cases o6 with
   |mk dst op ty pos after guard=>
    simp only at p6;subst p6;simp only at hnext;simp[execOp,this,hnext]
  rw[x6,Oper.upon_value,d6];have hz:(a.put (some nx) (.tuple #[.bool false])).tmps.getD nx undef=.tuple #[.bool false]:=kV (by rw[hF.size];exact ln);left
  have x6b:(execOp (a.put (some nx) (.tuple #[.bool false])).eval o6b).run X.P w=.ok (.value (.bool false)) w:=by
   cases o6b with
   |mk dst op ty pos after guard=>
    simp only at p6b;subst p6b;exact xc hz rfl _ _ _ _ _
  rw[x6b,Oper.upon_value,d6b]
  have hF1:FR X n g w fr (a.put (some nx) (.tuple #[.bool false])):=by
   have:=hF.put (d:=some nx) (fun t e=>by cases e;exact ln) (.und (X:=X) (g:=g) (w:=w) (.tuple #[.bool false]))
   rwa [nY hnx]at this
  have hF2:FR X n g w fr ((a.put (some nx) (.tuple #[.bool false])).put (some ok) (.bool false)):=by
   have:=hF1.put (d:=some ok) (fun t e=>by cases e;exact lk) (.und (X:=X) (g:=g) (w:=w) (.bool false))
   rwa [nY hok]at this
  refine wp_seq (wp_cond_false (kV (by rw[hF1.size];exact lk)) (wp_exit ?_));show Exit.inBlock m Q (.exit m) _ _;simp only[Exit.inBlock,if_true]
  exact hQ _ _ hle hS hF2
 |succ N ih=>
  intro rem seen w a fr hrem hle hS hF hit hr hbm hp hnx hok hall
  obtain⟨e,he,w1,hw1,hnext⟩:∃e∈(leftOf es seen).toList,∃w1:World,(w1=w∨w1=w.drew)∧(Instr.next (.pointer (some ⟨r,0,none⟩)) false o6.type).run X.P w=.ok (.tuple #[.bool true,e.key,e.val]) (ChangeMaps.setBlock w1 r (.mapIter (some bm) clock (seen.push e.born) clock)):=by
   rcases run_next_at (P:=X.P) w o6.type r bm clock clock seen es clock hr hbm hst (aU _)with h|h
   ·have h0:(leftOf es seen).toList.length=0:=by rw[gT];exact h.1
    have:=hp.length;omega
   ·exact h
  obtain⟨hIt,hr'⟩:=UZ hr hw1 (some bm) clock clock (seen.push e.born);generalize ChangeMaps.setBlock w1 r (.mapIter (some bm) clock (seen.push e.born) clock)=w2 at hnext hIt hr';obtain⟨k,v,rem',hk,hv,hperm,hp'⟩:=hp.take he (UX seen hn);have hle2:=hle.itAt hIt hr0;have hS2:=hS.itAt hIt;have hF2:=hF.itAt hIt;have hk2:=hk.itAt hIt;have hv2:=hv.itAt hIt;have hp2:fS X g w2 rem' (leftOf es (seen.push e.born)).toList:=by rw[UW];exact hp'.itAt hIt
  have hbm2:=hIt.map hbm
  have hrem2:rem'.length=N:=by
   have:=hperm.length_eq;simp only[bL]at this;omega
  obtain⟨fr1,S1,hit1⟩:∃fr1 S1,lj X.T call run id cs en post l k v fr S=some (fr1,S1):=by
   have:=hall ((k,v)::rem') hperm.symm;simp only[jH]at this
   cases hq:lj X.T call run id cs en post l k v fr S with
   |none=>rw[hq]at this;cases this
   |some q=>exact⟨q.1,q.2,rfl⟩
  have hall2:∀p:List (PV×PV),p.Perm rem'→jH (lj X.T call run id cs en post l) p fr1 S1=some (fr',S'):=fun p hpp=>by
   have:=hall ((k,v)::p) ((hpp.cons _).trans hperm.symm);simp only[jH,hit1]at this;exact this
  rw[rounds_succ];refine wp_seq (wp_region ?_);rw[s6];simp only[wpOps,e60,e61,want6,want6b,if_true];left;unfold Oper.wp
  have x6:(execOp a.eval o6).run X.P w=.ok (.value (.tuple #[.bool true,e.key,e.val])) w2:=by
   have:a.eval (.tmp it)=.pointer (some ⟨r,0,none⟩):=hit
   cases o6 with
   |mk dst op ty pos after guard=>
    simp only at p6;subst p6;simp only at hnext;simp[execOp,this,hnext]
  rw[x6,Oper.upon_value,d6];have hz:(a.put (some nx) (.tuple #[.bool true,e.key,e.val])).tmps.getD nx undef=.tuple #[.bool true,e.key,e.val]:=kV (by rw[hF.size];exact ln);left
  have x6b:(execOp (a.put (some nx) (.tuple #[.bool true,e.key,e.val])).eval o6b).run X.P w2=.ok (.value (.bool true)) w2:=by
   cases o6b with
   |mk dst op ty pos after guard=>
    simp only at p6b;subst p6b;exact xc hz rfl _ _ _ _ _
  rw[x6b,Oper.upon_value,d6b]
  have hF3:FR X n g w2 fr (a.put (some nx) (.tuple #[.bool true,e.key,e.val])):=by
   have:=hF2.put (d:=some nx) (fun t e=>by cases e;exact ln) (.und (X:=X) (g:=g) (w:=w2) (.tuple #[.bool true,e.key,e.val]))
   rwa [nY hnx]at this
  have hF4:FR X n g w2 fr ((a.put (some nx) (.tuple #[.bool true,e.key,e.val])).put (some ok) (.bool true)):=by
   have:=hF3.put (d:=some ok) (fun t e=>by cases e;exact lk) (.und (X:=X) (g:=g) (w:=w2) (.bool true))
   rwa [nY hok]at this
  have hit4:((a.put (some nx) (.tuple #[.bool true,e.key,e.val])).put (some ok) (.bool true)).tmps.getD it undef=.pointer (some ⟨r,0,none⟩):=by
   rw[nb ne3,nb ne2];exact hit
  refine wp_seq (wp_cond_true (kV (by rw[hF3.size];exact lk)) (wp_skip ?_));generalize ((a.put (some nx) (.tuple #[.bool true,e.key,e.val])).put (some ok) (.bool true))=a4 at hF4 hit4;show Code.wp X.P _ _ _ _;refine wp_block (wp_seq (wp_region ?_));rw[s7];simp only[wpOps,e70,want7,if_true];left;unfold Oper.wp
  have x7:(execOp a4.eval o7).run X.P w2=.ok (.value (.tuple #[e.key,e.val])) w2:=by
   have:a4.eval (.tmp it)=.pointer (some ⟨r,0,none⟩):=hit4;have hent:=run_entry_at (P:=X.P) w2 r bm clock seen es clock e hr' hbm2 (mem_left he).1 hn
   cases o7 with
   |mk dst op ty pos after guard=>
    simp only at p7;subst p7;simp[execOp,this,hent]
  rw[x7,Oper.upon_value,d7]
  have hF5:=hF4.put (d:=some en) (fun t e=>by cases e;exact le') (VR.tup (X:=X) (g:=g) (w:=w2) [k,v] #[e.key,e.val] rfl (fun j c u h1 h2=>by
   match j with
   |0=>simp at h1 h2;subst h1;subst h2;exact hk2
   |1=>simp at h1 h2;subst h1;subst h2;exact hv2
   |j+2=>simp at h1))
  have hit5:(a4.put (some en) (.tuple #[e.key,e.val])).tmps.getD it undef=.pointer (some ⟨r,0,none⟩):=by rw[nb ne1];exact hit4
  generalize (a4.put (some en) (.tuple #[e.key,e.val]))=a5 at hF5 hit5;unfold lj at hit1
  cases hpo:ae X.T call post (aP fr (some en) (.tup [k,v])) S with
  |none=>rw[hpo]at hit1;cases hit1
  |some q=>
   obtain⟨fr2,S2⟩:=q;rw[hpo]at hit1;simp only[hrun]at hit1
   obtain⟨rfl,r7ok⟩:=UV (Q:=Exit.then ((Code.region id8 ops8 false).wp X.P (Exit.inBlock m1 (Exit.then (Code.rounds X.P (.seq (.region id6 ops6 false) (.seq (.cond (.tmp ok) .skip (.exit m)) (.block m1 (.seq (.region id7 ops7 false) (.region id8 ops8 false))))) (Exit.inBlock m Q) (N+1)) (Exit.inBlock m Q)))) (Exit.inBlock m1 (Exit.then (Code.rounds X.P (.seq (.region id6 ops6 false) (.seq (.cond (.tmp ok) .skip (.exit m)) (.block m1 (.seq (.region id7 ops7 false) (.region id8 ops8 false))))) (Exit.inBlock m Q) (N+1)) (Exit.inBlock m Q))))
    hty (te 1 (fun j=>by rw[←iF,h7,kB 1 j];rfl) hc7) ro7 hS2 hF5 hpo
   refine r7ok fun a6 hF6 hit6=>?_;show Code.wp X.P _ _ _ _
   cases hpb:ae X.T call b fr2 S2 with
   |none=>rw[hpb]at hit1;cases hit1
   |some q=>
    obtain⟨fr3,S3⟩:=q;rw[hpb]at hit1;simp only at hit1;refine wp_region ?_;rw[pX,←gT]
    obtain⟨rfl,r8ok⟩:=UV (Q:=Exit.inBlock m1 (Exit.then (Code.rounds X.P (.seq (.region id6 ops6 false) (.seq (.cond (.tmp ok) .skip (.exit m)) (.block m1 (.seq (.region id7 ops7 false) (.region id8 ops8 false))))) (Exit.inBlock m Q) (N+1)) (Exit.inBlock m Q)))
     hty (te 0 (fun j=>by simp) hc8) ro8 hS2 hF6 hpb
    refine r8ok fun a7 hF7 hit7=>?_;show Code.rounds X.P _ _ _ _ _;split at hit1
    ·rename_i ds hds;split at hit1
     ·simp only[ap,bc]at hit1;obtain⟨rfl,rfl⟩:=hit1;exact ih rem' (seen.push e.born) w2 a7 _ hrem2 hle2 hS2 (hF7.clrs l) (by rw[hit7,hit6];exact hit5) hr' hbm2 hp2 (kU nx l fr3 i2) (kU ok l fr3 i3) hall2
     ·cases hit1
    ·cases hit1
def aEO{call:ac}(hty:eV X)(hM:ff X)(hC:dV X call){c:Code}{pre:List aA}{x:aH}{en:Nat}{post:List aA}{l:List (Nat×Nat)}{b:List aA}(hc:xZ X n c pre x en post l b=true)
  {run:Fr→St→Option (Ex×Fr×St)}(hrun:∀fr S,run fr S=match ae X.T call b fr S with|some (fr',S')=>some (.norm,fr',S')|none=>none)
  (hS:SR X g S w)(hF:FR X n g w fr a){fr1 fr':Fr}{S1 S':St}(hpre:ae X.T call pre fr S=some (fr1,S1))(hrest:jg X.T call run x en post l fr1 S1=some (fr',S')){Q:Exit→Act→World→Prop}
  (hQ:∀g' w' a',Le g w g' w'→SR X g' S' w'→FR X n g' w' fr' a'→Q .normal a' w'):c.wp X.P Q a w:=by
 unfold xZ at hc;split at hc
 ·rename_i i5 ops5 m i6 ops6 ok m' m1 i7 ops7 i8 ops8;split at hc
  ·rename_i o5 o6 o6b o7 r7 e5 e6 e7;split at hc
   ·rename_i it t xo nx it1 nx1 it2 d5 p5 d6 p6 p6b p7;simp only[aJ,nw,beq_iff_eq,bne_iff_ne,ne_eq,decide_eq_true_eq]at hc;obtain⟨⟨⟨⟨⟨⟨⟨⟨⟨⟨⟨⟨⟨⟨⟨⟨⟨⟨⟨⟨⟨⟨⟨⟨⟨⟨⟨g5,g6⟩,g6b⟩,g7⟩,d6b⟩,d7⟩,rfl⟩,rfl⟩,rfl⟩,rfl⟩,hc5⟩,hx⟩,ht⟩,hc7⟩,hc8⟩,li⟩,ln⟩,lk⟩,le'⟩,i1⟩,i2⟩,i3⟩,ro7⟩,ro8⟩,ne1⟩,ne2⟩,ne3⟩,ne4⟩:=hc
    obtain⟨kt,et,hmt⟩:∃kt et,X.P.underlying t=some (.map kt et):=by
     unfold xY at ht;split at ht
     ·rename_i kt et h;exact⟨kt,et,h⟩
     ·cases ht
    have hl5:ops5.toList=ops5.toList.dropLast++[o5]:=by
     obtain⟨ys,hys⟩:=uM.1 e5;rw[hys];simp
    have hsz5:ops5.size=ops5.toList.dropLast.length+1:=by
     rw[←gT]
     conv=>lhs;rw[hl5]
     simp
    have hk5:ops5[ops5.toList.dropLast.length]?=some o5:=by
     rw[←iF]
     conv=>lhs;rw[hl5]
     simp
    have want5:∀y,Region.wanted o5 y=true:=fun y=>by simp[Region.wanted,g5]
    refine wp_seq (wp_region ?_);rw[hsz5,List.range_succ,pX];refine Dm hty hM hC (Do 0 (fun j hj=>?_) hc5) hS hF hpre (fun g1 w1 a1 hle1 hS1 hF1=>?_)
    ·rw[dO,←iF]
     conv=>rhs;rw[hl5]
     rw[bK hj]
    ·simp only[wpOps,hk5,want5,if_true];left;unfold Oper.wp;unfold jg at hrest;have rx:=bB hF1 hx;split at hrest
     ·rename_i id hev;rw[hev]at rx;generalize hu:a1.eval xo=u at rx;cases rx;rename_i bm hbm;obtain⟨cs',es,clock,k1,k2,k3,k4⟩:=hS1.maps.ent id bm hbm;rw[k1]at hrest;simp only at hrest
      have x5:(execOp a1.eval o5).run X.P w1=.ok (.value (.pointer (some ⟨w1.heap.size,0,none⟩))) (w1.alloc (.mapIter (some bm) clock #[] clock)):=by
       have hrg:=UY (X:=X) hmt k2
       cases o5 with
       |mk dst op ty pos after guard=>
        simp only at p5;subst p5;simp[execOp,hu,hrg]
      rw[x5,Oper.upon_value,d5];have hB:Below w1.heap.size w1 (w1.alloc (.mapIter (some bm) clock #[] clock)):=(Below.refl _ w1).alloc (aU _) _;have hleB:=nZ hS1 hB;have hS2:=tw hS1 hB;have hF2:=hF1.mono hleB
      have hF3:FR X n g1 (w1.alloc (.mapIter (some bm) clock #[] clock)) (clrs l fr1) (a1.put (some it2) (.pointer (some ⟨w1.heap.size,0,none⟩))):=by
       refine⟨by simp[Act.put,hF2.size],fun t=>?_,(hF2.clrs l).defers⟩;by_cases e:t=it2
       ·subst e;rw[kU _ l fr1 i1];exact .und _
       ·rw[nb e];exact(hF2.clrs l).at_ t
      show Code.wp X.P _ _ _ _;refine wp_block (wp_loop_rounds ((jf cs').length+1) ?_)
      refine aEN (es:=es) (clock:=clock) (bm:=bm) (r:=w1.heap.size) (id:=id) (cs:=cs') (w0:=w1) (g0:=g1) (run:=run) (S':=S') (fr':=fr') hty e6 e7 g6 g6b g7 d6 d6b d7 p6 p6b p7 hc7 hc8 ln lk le' i1 i2 i3 ro7 ro8 ne1 ne2 ne3 ne4 hrun (aU _) k3.2.1 k3.1
       (fun w' a' h1 h2 h3=>hQ g1 w' a' (hle1.trans h1) h2 h3) (jf cs').length (jf cs') #[] _ _ _ rfl hleB hS2 hF3 (kV (by rw[hF2.size];exact li)) (heap_alloc_new w1 _) ?_ ?_ (kU _ l fr1 i2) (kU _ l fr1 i3)
       (Cg.1 hrest)
      ·rw[hB.block bm (cO.1 k2).1];exact k2
      ·have:(leftOf es #[]).toList=es.toList:=by simp[leftOf]
       rw[this];exact fS.of (k4.imp fun c u q=>q.mono hleB)
     ·cases hrest
   ·cases hc
  ·cases hc
 ·cases hc
end
end Ps
