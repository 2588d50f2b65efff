/- A region that draws its order, in which two variables are made whose order is left open: each gets the number that it has in the order of the text. -/
import Derived.Test.YtpjmpaidcidjgaaGreatDoorAbbKw
import Derived.Test.YtpjmpaidcidjgaaGreatDoorSimNqKw
set_option linter.defProp false
namespace Ps
set_option linter.unusedVariables false
set_option linter.unusedSimpArgs false
open Go
def eH:PV:=.sl none [.agg []] []
def aCF{X:Tie}{g:Gh}{w:World}{u:Value}(h:VR X g w eH u):False:=by
 unfold eH at h
 cases h with
 |sl _ _ _ b o cap sz us hcap hpos hsz _ _ _ _ _=>
  have:=hsz (.agg []) (by simp);simp[PV.cells]at this;omega
def rZ:bO→Bool
 |.load _ _ false _=>true
 |_=>false
def kW(fr:Fr)(S:St):bO→Bool
 |.load _ _ false x=>(match ev fr x with|.ptr id _=>decide (id+2<S.objs.length)|_=>true)
 |_=>true
inductive It where
 |op (p:aB)
 |al (j d:Nat) (z:List PV)
 |st (j d n:Nat) (x:aG)
def It.reads:It→List Nat
 |.op p=>p.reads
 |.al ..=>[]
 |.st _ d _ x=>d::x.reads
def It.dst:It→Option Nat
 |.op p=>p.dst
 |.al _ d _=>some d
 |.st ..=>none
def It.slot:It→Option Nat
 |.op _=>none
 |.al j _ _=>some j
 |.st j _ _ _=>some j
def It.ok:It→Bool
 |.op p=>iY p.op||rZ p.op
 |.al j _ _=>j==1||j==2
 |.st j _ _ _=>j==1||j==2
def ui:Option (List PV)→Bool
 |some [.sl none [.agg []] []]=>true
 |_=>false
def aCG{o:Option (List PV)}(h:ui o=true):o=some [eH]:=by
 unfold ui at h;split at h
 ·rfl
 ·cases h
def fP(T:aQ)(call:af)(fr:Fr)(S:St):It→Option (PV×Option (List PV))
 |.op p=>if kW fr S p.op=true then(match bC T call p fr S with|some (v,_)=>some (v,none)|none=>none)else none
 |.al j d z=>if z.all PV.one=true∧ui S.objs[S.objs.length-j]?=true then some (.ptr (S.objs.length-j) 0,some z)else none
 |.st j d n x=>(match fr d with
  |.ptr id off=>if id=S.objs.length-j∧off=0 then(match S.objs[S.objs.length-j]? with
   |some cs=>if(ev fr x).cells.length=n∧n≤cs.length∧(ev fr x).cells.all PV.one=true then some (.und,some (bK cs 0 (ev fr x).cells))else none
   |none=>none)else none
  |_=>none)
def fI(S:St)(slot:Option Nat)(e:Option (List PV)):St:=
 match slot,e with
 |some j,some cs=>{S with objs:=S.objs.set (S.objs.length-j) cs}
 |_,_=>S
def gx(T:aQ)(call:af)(it:It)(fr:Fr)(S:St):Option (Fr×St):=
 match fP T call fr S it with
 |some (v,e)=>some (aS fr it.dst v,fI S it.slot e)
 |none=>none
def eU(T:aQ)(call:af):List It→Fr→St→Option (Fr×St)
 | [],fr,S=>some (fr,S)
 |it::l,fr,S=>match gx T call it fr S with
  |some (fr1,S1)=>eU T call l fr1 S1
  |none=>none
def nK(p q:It):Bool:=
 (match p.dst with|some d=>!q.reads.contains d&&q.dst != some d|none=>true) &&
 (match q.dst with|some d=>!p.reads.contains d|none=>true) &&
 (match p.slot,q.slot with|some i,some j=>i != j|_,_=>true)&&p.ok&&q.ok
def AA(S:St)(s:Option Nat)(e:Option (List PV)):(fI S s e).objs.length=S.objs.length:=by
 unfold fI;split<;>simp
def uj{S:St}{s:Option Nat}{e:Option (List PV)}{id:Nat}(h:∀j,s=some j→S.objs.length-j≠id):(fI S s e).objs[id]?=S.objs[id]?:=by
 unfold fI;split
 ·rename_i j cs;exact bn (h j rfl)
 ·rfl
def Ro{T:aQ}{call:af}{it:It}{fr fr2:Fr}{S S2:St}(hok:it.ok=true)(hlen:S2.objs.length=S.objs.length)(hlow:∀id,id+2<S.objs.length→S2.objs[id]?=S.objs[id]?)
  (hslot:∀j,it.slot=some j→S2.objs[S.objs.length-j]?=S.objs[S.objs.length-j]?)(hr:∀t∈it.reads,fr t=fr2 t):fP T call fr2 S2 it=fP T call fr S it:=by
 cases it with
 |op p=>
  obtain⟨d,op,gd⟩:=p;simp only[It.ok,gW]at hok;have hc:∀S,bC T call ⟨d,op,gd⟩ fr2 S=bC T call ⟨d,op,gd⟩ fr S:=fun S=>(rQ hr).symm
  have hlw:kW fr2 S2 op=kW fr S op:=by
   cases op<;>try rfl
   rename_i ag n mix x;cases mix
   ·simp only[kW,hlen];rw[bc (fr:=fr2) (fr':=fr) (fun t ht=>(hr t (by simp[It.reads,aB.reads,bO.reads,ht])).symm)]
   ·rfl
  simp only[fP,hlw,hc];by_cases hl:kW fr S op=true
  ·simp only[hl,if_true];rcases hok with hok|hok
   ·
    simp only[bC]
    cases bq fr gd with
    |none=>rfl
    |some b=>
     cases b with
     |false=>rfl
     |true=>
      obtain⟨q,hq⟩:=RP (T:=T) (call:=call) (fr:=fr) hok;simp only[hq];cases q<;>rfl
   ·cases op<;>simp only[rZ]at hok<;>try (cases hok;done)
    rename_i ag n mix x;cases mix<;>simp only at hok<;>try (cases hok;done)
    simp only[bC]
    cases bq fr gd with
    |none=>rfl
    |some b=>
     cases b with
     |false=>rfl
     |true=>
      simp only[kW]at hl;simp only[aH]
      cases he:ev fr x with
      |ptr id off=>
       rw[he]at hl;simp only[decide_eq_true_eq]at hl;simp only;rw[hlow _ hl]
       cases S.objs[id]? with
       |none=>rfl
       |some cs=>simp only;cases az ag n (cs.drop off)<;>rfl
      |ref cs=>simp only;cases az ag n cs<;>rfl
      |_=>rfl
  ·simp[hl]
 |al j d z=>
  simp only[fP,hlen,hslot j rfl]
 |st j d n x=>
  have e0:fr2 d=fr d:=(hr d (by simp[It.reads])).symm;have e1:ev fr2 x=ev fr x:=bc fun t ht=>(hr t (by simp[It.reads,ht])).symm;simp only[fP,hlen,hslot j rfl,e0,e1]
def aCH{S:St}{s t:Option Nat}{e f:Option (List PV)}(h:∀i j,s=some i→t=some j→S.objs.length-i≠S.objs.length-j):fI (fI S s e) t f=fI (fI S t f) s e:=by
 cases s with
 |none=>simp[fI]
 |some i=>
  cases t with
  |none=>simp[fI]
  |some j=>
   cases e with
   |none=>simp[fI]
   |some cs=>
    cases f with
    |none=>simp[fI]
    |some ds=>
     simp only[fI,vc];rw[List.set_comm _ _ (h i j rfl rfl)]
def aCI{T:aQ}{call:af}{p q:It}{l:List It}{fr:Fr}{S:St}{r:Fr×St}(h2n:2≤S.objs.length)(hi:nK p q=true)(h:eU T call (p::q::l) fr S=some r) :
  eU T call (q::p::l) fr S=some r:=by
 simp only[nK,aJ]at hi;obtain⟨⟨⟨⟨h1,h2⟩,h3⟩,h4⟩,h5⟩:=hi;have hpq:∀t∈q.reads,p.dst≠some t:=fun t ht e=>by rw[e]at h1;simp[ht]at h1
 have hqp:∀t∈p.reads,q.dst≠some t:=fun t ht e=>by rw[e]at h2;simp[ht]at h2
 have hdd:∀t,p.dst=some t→q.dst≠some t:=fun t e e'=>by rw[e]at h1;simp[e']at h1
 have hj:∀(it:It) (j:Nat),it.ok=true→it.slot=some j→j=1∨j=2:=by
  intro it j ho hs;cases it<;>simp only[It.slot,It.ok]at hs ho<;>try (cases hs;done)
  ·cases hs;simpa using ho
  ·cases hs;simpa using ho
 have hss:∀i j,p.slot=some i→q.slot=some j→S.objs.length-i≠S.objs.length-j:=by
  intro i j e1 e2;have hne:i≠j:=by rw[e1,e2]at h3;simpa using h3
  rcases hj p i h4 e1 with rfl|rfl<;>rcases hj q j h5 e2 with rfl|rfl<;>omega
 simp only[eU,gx]at h ⊢
 cases hp:fP T call fr S p with
 |none=>rw[hp]at h;cases h
 |some x=>
  obtain⟨v1,e1⟩:=x;rw[hp]at h;simp only at h
  have cq:fP T call (aS fr p.dst v1) (fI S p.slot e1) q=fP T call fr S q:=
   Ro h5 (AA _ _ _) (fun id hid=>uj fun j hs=>by rcases hj p j h4 hs with rfl|rfl<;>omega) (fun j hs=>uj fun i hs'=>hss i j hs' hs)
    (fun t ht=>(kQ (hpq t ht)).symm)
  rw[cq]at h
  cases hq:fP T call fr S q with
  |none=>rw[hq]at h;cases h
  |some y=>
   obtain⟨v2,e2⟩:=y;rw[hq]at h;simp only at h ⊢
   have cp:fP T call (aS fr q.dst v2) (fI S q.slot e2) p=fP T call fr S p:=
    Ro h4 (AA _ _ _) (fun id hid=>uj fun j hs=>by rcases hj q j h5 hs with rfl|rfl<;>omega) (fun j hs=>uj fun i hs'=>(hss j i hs hs').symm)
     (fun t ht=>(kQ (hqp t ht)).symm)
   rw[cp,hp];simp only;rw[←uS hdd,←aCH hss];exact h
def Rp{T:aQ}{call:af}{it:It}{fr fr1:Fr}{S S1:St}(h:gx T call it fr S=some (fr1,S1)):S1.objs.length=S.objs.length:=by
 simp only[gx]at h;split at h
 ·cases h;exact AA _ _ _
 ·cases h
theorem Rq{T:aQ}{call:af}{q:It}{l:List It}{r:Fr×St}:∀{pre:List It} {fr:Fr} {S:St},2≤S.objs.length→(∀p∈pre,nK p q=true)→eU T call (pre++q::l) fr S=some r →
  eU T call (q::pre++l) fr S=some r
 | [],_,_,_,_,h=>h
 |p::pre,fr,S,h2,hi,h=>by
  have:eU T call (p::(q::pre++l)) fr S=some r:=by
   rw[jS]at h;simp only[eU]at h ⊢
   cases hp:gx T call p fr S with
   |none=>rw[hp]at h;cases h
   |some x=>
    obtain⟨fr1,S1⟩:=x;rw[hp]at h;exact Rq (by rw[Rp hp];exact h2) (fun p' hp'=>hi p' (by simp[hp'])) h
  exact aCI h2 (hi p (by simp)) this
def aCJ{T:aQ}{call:af}{fr:Fr}{S:St}{m id:Nat}{a x:aG}{cs:List PV}(ha:ev fr a=.ptr id 0)(hcs:S.objs[id]?=some cs)(h1:(ev fr x).cells.length=m)(h2:m≤cs.length)
  (h3:(ev fr x).cells.all PV.one=true):aH T call fr S (.store m a x)=some (.und,{S with objs:=S.objs.set id (bK cs 0 (ev fr x).cells)}):=by
 simp only[aH,ha,hcs];rw[if_pos ⟨h1,by omega,h3⟩]
def Rr{T:aQ}{call:af}{fr:Fr}{S:St}{m id:Nat}{a x:aG}{cs:List PV}{r:PV×St}(ha:ev fr a=.ptr id 0)(hcs:S.objs[id]?=some cs)(h:aH T call fr S (.store m a x)=some r) :
  (ev fr x).cells.length=m∧m≤cs.length∧(ev fr x).cells.all PV.one=true∧r=(.und,{S with objs:=S.objs.set id (bK cs 0 (ev fr x).cells)}):=by
 simp only[aH,ha,hcs]at h;split at h
 ·rename_i hc;cases h;exact⟨hc.1,by omega,hc.2.2,rfl⟩
 ·cases h
def Rt {T:aQ} {call:af} {fr:Fr} {S:St} {z:List PV} {r:PV×St} (h:aH T call fr S (.alloc false z)=some r):z.all PV.one=true∧r=(.ptr S.objs.length 0,{S with objs:=S.objs++[z]}):=by
 simp only[aH,cj,bp,if_false]at h;split at h
 ·rename_i hz;cases h;exact⟨hz,rfl⟩
 ·cases h
def ul{T:aQ}{call:af}{d:Option Nat}{op:bO}{l:List aB}{fr:Fr}{S:St}{r:Fr×St}(h:ah T call (⟨d,op,none⟩::l) fr S=some r) :
  ∃v S1,aH T call fr S op=some (v,S1)∧ah T call l (aS fr d v) S1=some r:=by
 rw[cw]at h;simp only[bC,bq]at h
 cases hp:aH T call fr S op with
 |none=>rw[hp]at h;cases h
 |some y=>rw[hp]at h;exact⟨y.1,y.2,rfl,h⟩
def ra(X:Tie)(n:Nat)(ops:Array Oper)(o:Oper):It→Bool
 |.op p=>dl X n ops o p
 |.al _ d z=>dl X n ops o ⟨some d,.alloc false z,none⟩
 |.st _ d m x=>dl X n ops o ⟨none,.store m (.tmp d) x,none⟩
section
variable {X : Tie} {g : Gh} {w : World} {n : Dn} {fr : Fr} {a : Act} {S : St}
def aCK(hS:SR X g S w){id:Nat}(hid:S.objs[id]?=some [eH]){cs:List PV}{us:Array Value}(hv:bQ X g w cs us)(t:TypeId) :
  cU X g w {S with objs:=S.objs.set id cs} (.ptr id 0) (.pointer (some ⟨w.heap.size,0,none⟩)) (w.alloc (.cells us t)):=by
 have hlt:id<S.objs.length:=(aO.1 hid).1
 have hnew:g.obj id=none:=by
  cases h:g.obj id with
  |none=>rfl
  |some b=>
   obtain⟨cs',us',t',h1,_,h3,h4⟩:=hS.obj _ _ h;rw[hid]at h1;cases h1;simp at h3;exact(aCF (h4 0 eH (us'[0]'(by omega)) rfl (by simp))).elim
 have hnom:g.mp id=none:=by
  cases h:g.mp id with
  |none=>rfl
  |some b=>
   obtain⟨cs',es,clock,h1,_,_,h4⟩:=hS.maps.ent _ _ h;rw[hid]at h1;cases h1;cases h4
 let g':Gh:={g with obj:=fun i=>if i=id then some w.heap.size else g.obj i}
 have hle:Le g w g' (w.alloc (.cells us t)):=lU rfl rfl rfl rfl hS.lt
  (fun i b h=>by simp only[g'];rw[if_neg (fun e=>by subst e;rw[hnew]at h;cases h)];exact h)
  (fun i b h=>by
   simp only[g']at h;split at h
   ·cases h;exact .inr rfl
   ·exact .inl h)
  (fun _ _ h=>h) (fun _ _ h=>.inl h) (fun _ _ h=>h) (fun _ _=>rfl) (fun _ _ h=>h) (fun _ _ h=>.inl h)
 have hbl:∀i b,g.obj i=some b→b<w.heap.size:=fun i b h=>by
  obtain⟨_,_,_,_,h2,_⟩:=hS.obj i b h;exact(cD.1 h2).1
 have hset:∀i,i≠id→(S.objs.set id cs)[i]?=S.objs[i]?:=fun i h=>bn (Ne.symm h)
 have hlive:∀i b,g.obj i=some b→cL {S with objs:=S.objs.set id cs} i→cL S i:=by
  rintro i b h ⟨c,l,e⟩;have hne:i≠id:=fun e=>by subst e;rw[hnew]at h;cases h
  exact⟨c,l,by rw[←hset i hne];exact e⟩
 refine⟨g',hle,⟨fun i b h=>?_,fun i j b h1 h2 hl=>?_,fun i b h=>?_,hS.arr,hS.asz,fun b hb=>hS.lt b (by simp at hb;omega),
   hS.maps.of (fun _ _ h=>h) (fun i b h=>hset i (fun e=>by subst e;rw[hnom]at h;cases h)) (fun i b h=>by
    have:=hS.maps.lt h;rw[World.alloc,dH,if_neg (by omega)]) (fun c u r=>r.mono hle) (fun _ _ _=>⟨rfl,rfl⟩) (fun i b c h h2=>by
    simp only[g']at h2;split at h2
    ·rename_i e;subst e;rw[hnom]at h;cases h
    ·exact h2),hS.gl.le hle⟩,.ptr _ _ _ (by simp[g'])⟩
 ·simp only[g']at h;split at h
  ·rename_i e;subst e;cases h;exact⟨cs,us,t,by simp[hlt],by rw[World.alloc,dH,if_pos rfl],vn hv.1,fun j c u e1 e2=>(hv.2 j c u e1 e2).mono hle⟩
  ·rename_i e;obtain⟨cs',us',t',h1,h2,h3,h4⟩:=hS.obj i b h;have:=hbl i b h;exact⟨cs',us',t',(hset i e).trans h1,by rw[World.alloc,dH,if_neg (by omega)];exact h2,h3,fun j c u e1 e2=>(h4 j c u e1 e2).mono hle⟩
 ·simp only[g']at h1 h2;split at h1<;>split at h2
  ·omega
  ·cases h1;have:=hbl j _ h2;omega
  ·cases h2;have:=hbl i _ h1;omega
  ·exact hS.inj i j b h1 h2 (hlive j b h2 hl)
 ·simp only[g']at h;split at h
  ·cases h;exact⟨fun _=>(hS.lt _ (aX _)).1,(hS.lt _ (aX _)).2⟩
  ·exact⟨fun hl=>(hS.objpub i b h).1 (hlive i b h hl),(hS.objpub i b h).2⟩
def aCL (hS:SR X g S w) {z:List PV} {t:TypeId} (hz:jf X.P t z=true) {id:Nat} (hid:S.objs[id]?=some [eH]):dr X g w a (.alloc t) {S with objs:=S.objs.set id z} (.ptr id 0):=by
 intro dst ty pos after guard next Q hn
 obtain⟨u,h1,h2⟩:=zf (w:=w) hz;have r0:=mt (X:=X) (g:=g) (w:=w) h2;have r:bQ X g w z u.cells:=⟨by simpa using r0.1,fun j c x e1 e2=>r0.2 j c x e1 (by simpa using e2)⟩;unfold Oper.wp
 have e:(execOp a.eval ⟨dst,.alloc t,ty,pos,after,guard⟩).run X.P w=.ok (.value (.pointer (some ⟨w.heap.size,0,none⟩))) (w.alloc (.cells u.cells t)):=by
  simp[execOp,Instr.alloc,newVar,newRow,h1]
 rw[e];exact hn _ _ (aCK hS hid r t)
def aCM{call:af}(hty:eS X)(hM:eZ X)(hC:cu X call){ops:Array Oper}{Q:Exit→Act→World→Prop}{o:Oper}{it:It}{fr1:Fr}{S1:St}(hok:it.ok=true)
  (hc:ra X n ops o it=true)(hS:SR X g S w)(hF:FR X n g w fr a)(h:gx X.T call it fr S=some (fr1,S1)){K:Act→World→Prop}
  (hK:∀g' w' a',Le g w g' w'→SR X g' S1 w'→FR X n g' w' fr1 a'→K a' w') :
  if Region.wanted o (yielded ops a.tmps)then o.wp X.P a w K Q else K (a.put o.dst undef) w:=by
 cases it with
 |op p=>
  have hrun:ah X.T call [p] fr S=some (fr1,S1):=by
   simp only[gx,fP,It.dst,It.slot]at h;split at h
   ·rename_i v e he;cases h;split at he
    ·rw[cw]
     cases hp:bC X.T call p fr S with
     |none=>rw[hp]at he;cases he
     |some y=>
      obtain⟨v',S'⟩:=y;rw[hp]at he;cases he
      have hSS:S'=S:=by
       simp only[It.ok,gW]at hok;rcases hok with hok|hok
       ·exact(nE hok hp).1
       ·refine(uV ?_ hp).1;obtain⟨_,op,_⟩:=p;cases op<;>simp only[rZ]at hok<;>try (cases hok;done)
        rename_i ag m mix x hl;cases mix
        ·rfl
        ·simp at hok
      subst hSS;rfl
    ·cases he
   ·cases h
  exact kU (r:=(fr1,S1)) hty hM hC hc hS hF hrun (fun g' w' a' fr2 S2 hle hS2 hF2 e=>by simp only[ah,aw,bo]at e;obtain⟨rfl,rfl⟩:=e;exact hK g' w' a' hle hS2 hF2)
 |al j d z=>
  simp only[ra,dl,aJ,beq_iff_eq]at hc;obtain⟨⟨⟨hd,hlt⟩,hop⟩,hgd⟩:=hc
  have hdl:∀t,(some d:Option Nat)=some t→t<n:=by
   intro t ht;rw[hd]at ht;rw[ht]at hlt;simpa using hlt
  rw[jH (fr:=fr) hF hgd (b:=true) rfl,if_pos rfl];simp only[gx,fP,It.dst,It.slot]at h;split at h
  ·rename_i v e he;cases h;split at he
   ·rename_i hcond;cases he;obtain⟨odst,oop,oty,opos,oafter,oguard⟩:=o;cases oop<;>simp only[bJ]at hop<;>try (cases hop;done)
    refine aCL hS hop (aCG hcond.2) odst oty opos oafter oguard K Q (fun u w' hstep=>?_);obtain⟨g',hle,hS',hv⟩:=hstep;have hd:some d=odst:=hd;rw[←hd];exact hK g' w' _ hle hS' ((hF.mono hle).put hdl hv)
   ·cases he
  ·cases h
 |st j d m x=>
  have hrun:ah X.T call [⟨none,.store m (.tmp d) x,none⟩] fr S=some (fr1,S1):=by
   simp only[gx,fP,It.dst,It.slot]at h;split at h
   ·rename_i v e he;cases h;split at he
    ·rename_i id off hd;split at he
     ·rename_i hid;obtain⟨rfl,rfl⟩:=hid;split at he
      ·rename_i cs hcs;split at he
       ·rename_i hcond;cases he;rw[cw];simp only[bC,bq];rw[aCJ (a:=.tmp d) hd hcs hcond.1 hcond.2.1 hcond.2.2];rfl
       ·cases he
      ·cases he
     ·cases he
    ·cases he
   ·cases h
  exact kU (r:=(fr1,S1)) hty hM hC hc hS hF hrun (fun g' w' a' fr2 S2 hle hS2 hF2 e=>by simp only[ah,aw,bo]at e;obtain⟨rfl,rfl⟩:=e;exact hK g' w' a' hle hS2 hF2)
end
def oq(X:Tie)(n:Nat)(ops:Array Oper):List Nat→List It→Option (List (Nat×It))
 |free,p::ps=>match free.find? (fun i=>match ops[i]? with|some o=>ra X n ops o p|none=>false)with
  |some i=>(match oq X n ops (free.erase i) ps with|some l=>some ((i,p)::l)|none=>none)
  |none=>none
 | [],[]=>some []
 |_::_,[]=>none
def uo(ms:List Nat):List (Nat×It)→Bool
 | []=>true
 |x::l=>l.all (fun y=>(ms.getD y.1 0).testBit x.1||nK x.2 y.2)&&uo ms l
theorem Ru{X:Tie}{n:Nat}{ops:Array Oper}:∀{ps:List It} {free:List Nat} {ql:List (Nat×It)},free.Nodup→oq X n ops free ps=some ql →
  ql.map (·.2)=ps∧(ql.map (·.1)).Perm free∧∀x∈ql,∃o,ops[x.1]?=some o∧ra X n ops o x.2=true
 | [],[],ql,_,h=>by simp only[oq,aw]at h;subst h;exact⟨rfl,vR _,fun x hx=>by cases hx⟩
 | [],_::_,ql,_,h=>by simp[oq]at h
 |p::ps,free,ql,hnd,h=>by
  simp only[oq]at h;split at h
  ·rename_i i hf;split at h
   ·rename_i l hl;cases h;obtain⟨h1,h2,h3⟩:=Ru (hnd.erase i) hl;have hm:=Sz hf;have hp:=List.find?_some hf;refine⟨by simp[h1],?_,fun x hx=>?_⟩
    ·simp only[cV];exact(List.Perm.cons i h2).trans (BB hm).symm
    ·rcases cQ.1 hx with rfl|hx
     ·simp only at hp ⊢;split at hp
      ·rename_i o ho;exact⟨o,ho,hp⟩
      ·cases hp
     ·exact h3 x hx
   ·cases h
  ·cases h
theorem Rv{ms:List Nat}:∀{l:List (Nat×It)},uo ms l=true→l.Pairwise fun x y=>(ms.getD y.1 0).testBit x.1=true∨nK x.2 y.2=true
 | [],_=>.nil
 |x::l,h=>by
  simp only[uo,aJ]at h;refine .cons (fun y hy=>?_) (Rv h.2);have:=List.all_eq_true.1 h.1 y hy;simpa[gW]using this
def uq:aB→Option (Nat×List PV)
 |⟨some d,.alloc false z,none⟩=>some (d,z)
 |_=>none
def ur(d:Nat):aB→Option (Nat×aG)
 |⟨none,.store n (.tmp e) x,none⟩=>if e=d then some (n,x)else none
 |_=>none
def Rw{p:aB}{d:Nat}{z:List PV}(h:uq p=some (d,z)):p=⟨some d,.alloc false z,none⟩:=by
 unfold uq at h;split at h
 ·cases h;rfl
 ·cases h
def Rx{p:aB}{d n:Nat}{x:aG}(h:ur d p=some (n,x)):p=⟨none,.store n (.tmp d) x,none⟩:=by
 unfold ur at h;split at h
 ·split at h
  ·rename_i e;subst e;cases h;rfl
  ·cases h
 ·cases h
def rb:List aB→Option (List It)
 | []=>none
 |p::ps=>match uq p with
  |some (d1,z1)=>(match ps with
   |s1::a2::s2::post=>(match ur d1 s1,uq a2 with
    |some (n1,x1),some (d2,z2)=>(match ur d2 s2 with
     |some (n2,x2)=>if d1≠d2∧post.all (fun p=>iY p.op)=true then some (.al 2 d1 z1::.st 2 d1 n1 x1::.al 1 d2 z2::.st 1 d2 n2 x2::post.map .op)else none
     |none=>none)
    |_,_=>none)
   |_=>none)
  |none=>if iY p.op=true∨(rZ p.op=true∧p.guard=none)then(match rb ps with|some l=>some (.op p::l)|none=>none)else none
theorem Ry{T:aQ}{call:af}:∀{l:List aB} {fr:Fr} {S:St} {r:Fr×St},l.all (fun p=>iY p.op)=true→ah T call l fr S=some r→eU T call (l.map .op) fr S=some r
 | [],fr,S,r,_,h=>h
 |p::l,fr,S,r,hp,h=>by
  simp only[Ar,aJ]at hp;rw[cw]at h
  cases ho:bC T call p fr S with
  |none=>rw[ho]at h;cases h
  |some y=>
   obtain⟨v,S1⟩:=y;rw[ho]at h;simp only at h
   have hl:kW fr S p.op=true:=by
    have h1:=hp.1;obtain⟨_,op,_⟩:=p;cases op<;>try rfl
    rename_i mix _;cases mix
    ·simp[iY,mZ]at h1
    ·rfl
   obtain⟨rfl,_⟩:=nE hp.1 ho;simp only[cV,eU,gx,fP,hl,if_true,ho,It.dst,It.slot,fI];exact Ry hp.2 h
def Rz{T:aQ}{call:af}{j d id:Nat}{z:List PV}{l:List It}{fr:Fr}{S:St}(hid:S.objs.length-j=id)(hp:S.objs[id]?=some [eH])(hz:z.all PV.one=true) :
  eU T call (.al j d z::l) fr S=eU T call l (upd fr d (.ptr id 0)) {S with objs:=S.objs.set id z}:=by
 subst hid;have hq:ui (some [eH])=true:=rfl;simp only[eU,gx,fP,It.dst,It.slot,fI,hz,hp,hq,and_self,if_true,aS]
def SB{T:aQ}{call:af}{j d m id:Nat}{x:aG}{cs:List PV}{l:List It}{fr:Fr}{S:St}(hid:S.objs.length-j=id)(hd:fr d=.ptr id 0)(hcs:S.objs[id]?=some cs)
  (h1:(ev fr x).cells.length=m)(h2:m≤cs.length)(h3:(ev fr x).cells.all PV.one=true) :
  eU T call (.st j d m x::l) fr S=eU T call l fr {S with objs:=S.objs.set id (bK cs 0 (ev fr x).cells)}:=by
 subst hid;simp only[eU,gx,fP,It.dst,It.slot,fI,hd,hcs,and_self,if_true];rw[if_pos ⟨h1,h2,h3⟩];rfl
theorem SC{T:aQ}{call:af}:∀{ps:List aB} {its:List It} {fr fr':Fr} {S S':St},rb ps=some its→ah T call ps fr S=some (fr',S') →
  eU T call its fr {S with objs:=S.objs++[[eH],[eH]]}=some (fr',S')
 | [],its,fr,fr',S,S',h,_=>by simp[rb]at h
 |p::ps,its,fr,fr',S,S',h,hrun=>by
  simp only[rb]at h;split at h
  ·rename_i d1 z1 ha1;split at h
   ·rename_i s1 a2 s2 post;split at h
    ·rename_i n1 x1 d2 z2 hs1 ha2;split at h
     ·rename_i n2 x2 hs2;split at h
      ·rename_i hcond;cases h;have:=Rw ha1;subst this;have:=Rx hs1;subst this;have:=Rw ha2;subst this;have:=Rx hs2;subst this;obtain⟨hne,hpost⟩:=hcond;obtain⟨objs,tips⟩:=S;have l1:(objs++[[eH],[eH]]).length-2=objs.length:=by simp
       have l2:(objs++[z1,[eH]]).length-1=objs.length+1:=by simp
       obtain⟨v1,S1,e1,hrun⟩:=ul hrun;obtain⟨hz1,r1⟩:=Rt e1;cases r1;obtain⟨v2,S2,e2,hrun⟩:=ul hrun;obtain⟨f1,f2,f3,r2⟩:=Rr (id:=objs.length) (cs:=z1) (by simp[ev,aS,dE]) (by simp) e2;cases r2;obtain⟨v3,S3,e3,hrun⟩:=ul hrun;obtain⟨hz2,r3⟩:=Rt e3;cases r3;obtain⟨v4,S4,e4,hrun⟩:=ul hrun;obtain⟨g1,g2,g3,r4⟩:=Rr (id:=objs.length+1) (cs:=z2) (by simp[ev,aS,dE]) (by simp) e4;cases r4;have hrun:=Ry hpost hrun;simp only[aZ,bE,cO,vc,cy,aS]at hrun f1 f2 f3 g1 g2 g3 ⊢;rw[Rz (id:=objs.length) (by simp) (by simp) hz1];rw[SB (id:=objs.length) (cs:=z1) (by simp) (by simp[dE]) (by simp) f1 f2 f3];rw[Rz (id:=objs.length+1) (by simp) (by simp) hz2];rw[SB (id:=objs.length+1) (cs:=z2) (by simp) (by simp[dE]) (by simp) (by simpa using g1) g2 (by simpa using g3)];simpa using hrun
      ·cases h
     ·cases h
    ·cases h
   ·cases h
  ·rename_i hal;split at h
   ·rename_i hp;split at h
    ·rename_i l hl;cases h;rw[cw]at hrun
     cases ho:bC T call p fr S with
     |none=>rw[ho]at hrun;cases hrun
     |some y=>
      obtain⟨v,S1⟩:=y;rw[ho]at hrun;simp only at hrun
      have key:S1=S∧kW fr {S with objs:=S.objs++[[eH],[eH]]} p.op=true∧bC T call p fr {S with objs:=S.objs++[[eH],[eH]]}=some (v,{S with objs:=S.objs++[[eH],[eH]]}):=by
       rcases hp with hp|⟨hp,hg⟩
       ·obtain⟨rfl,k⟩:=nE hp ho;refine⟨rfl,?_,k _⟩;obtain⟨_,op,_⟩:=p;cases op<;>try rfl
        rename_i mix _;cases mix
        ·simp[iY,mZ]at hp
        ·rfl
       ·obtain⟨pd,op,gd⟩:=p;simp only at hg;subst hg;cases op<;>simp only[rZ]at hp<;>try (cases hp;done)
        rename_i ag n mix x;cases mix<;>simp only at hp<;>try (cases hp;done)
        obtain⟨rfl,k⟩:=uV (p:=⟨pd,.load ag n false x,none⟩) rfl ho;refine⟨rfl,?_,k _ (by simp)⟩;simp only[bC,bq,aH]at ho;simp only[kW];split
        ·rename_i id off he;rw[he]at ho;simp only at ho;split at ho
         ·rename_i cs hcs;have:=(aO.1 hcs).1;simpa using this
         ·cases ho
        ·rfl
      obtain⟨rfl,k1,k2⟩:=key;simp only[eU,gx,fP,k1,if_true,k2,It.dst,It.slot,fI];exact SC hl hrun
    ·cases h
   ·cases h
def AB(X:Tie)(n:Nat)(ops:Array Oper)(ps:List aB):Bool:=
 match rb ps with
 |some its=>(match oq X n ops (List.range ops.size) its with
  |some ql=>fi ops.toList 0&&uo (du ops.toList []) ql&&ql.all (fun x=>x.2.ok)
  |none=>false)
 |none=>false
section
variable {X : Tie} {g : Gh} {w : World} {n : Dn} {fr : Fr} {a : Act} {S : St}
def aCN{call:af}(hty:eS X)(hM:eZ X)(hC:cu X call){ops:Array Oper}{ql:List (Nat×It)}{Q:Exit→Act→World→Prop}{fr':Fr}{S':St}
  (hoks:∀x∈ql,x.2.ok=true)(hget:∀x∈ql,∃o,ops[x.1]?=some o∧ra X n ops o x.2=true)(hcov:∀i,i<ops.size→∃p,(i,p)∈ql)(hnd:(ql.map (·.1)).Nodup)(hback:fi ops.toList 0=true)
  (hpw:ql.Pairwise fun x y=>((du ops.toList []).getD y.1 0).testBit x.1=true∨nK x.2 y.2=true):∀(fuel:Nat) (listed:Array Bool) (g:Gh) (w:World) (fr:Fr) (S:St) (a:Act),
  2≤S.objs.length→SR X g S w→FR X n g w fr a→listed.size=ops.size→lZ ops listed→(bj ql listed).length≤fuel→eU X.T call ((bj ql listed).map (·.2)) fr S=some (fr',S') →
  (∀g' w' a',Le g w g' w'→SR X g' S' w'→FR X n g' w' fr' a'→Q .normal a' w')→wpAny X.P .any ops Q fuel listed a w:=by
 have hmr:=nJ ops.toList ops.toList [] (by simp) (fun i m h=>by simp at h)
 have hempty:∀listed:Array Bool,Region.ready .any ops listed=[]→listed.size=ops.size→bj ql listed=[]:=by
  intro listed hr hsz
  have hall:∀k,k<ops.size→listed.getD k true=true:=by
   intro k
   induction k using Nat.strongRecOn with
   |_ k ih=>
    intro hk
    cases hl:listed.getD k true with
    |true=>rfl
    |false=>
     have:k∈Region.ready .any ops listed:=eT.2 ⟨hk,hl,ops[k],by simp[hk],fun d hd=>by
      have hdk:d<k:=by
       have:=kT hback k ops[k] (by simp[hk]) d hd;omega
      have:=ih d hdk (by omega);have hds:d<listed.size:=by omega
      simp[Array.getD,hds]at this ⊢;exact this⟩
     rw[hr]at this;cases this
  unfold bj;rw[pJ];intro x hx;obtain⟨o,ho,_⟩:=hget x hx;have:=hall x.1 (cD.1 ho).1;simp[this]
 intro fuel
 induction fuel with
 |zero=>
  intro listed g w fr S a h2n hS hF hsz hdn hf h hQ;have hnil:bj ql listed=[]:=List.length_eq_zero_iff.1 (by omega);rw[hnil]at h;simp only[lz,eU,aw,bo]at h;obtain⟨rfl,rfl⟩:=h;refine⟨?_,hQ g w a (Le.refl g w) hS hF⟩
  cases hr:Region.ready .any ops listed with
  |nil=>rfl
  |cons i l=>
   obtain⟨h1,h2,o,ho,_⟩:=eT.1 (show i∈Region.ready .any ops listed by rw[hr];simp);obtain⟨p,hp⟩:=hcov i h1;obtain⟨pre,post,e1,_,_⟩:=la hnd hpw hp h2 (by omega);rw[hnil]at e1;have:=congrArg List.length e1
   simp at this
 |succ fuel ih=>
  intro listed g w fr S a h2n hS hF hsz hdn hf h hQ;refine⟨fun hr=>?_,fun i hi=>?_⟩
  ·rw[hempty listed hr hsz]at h;simp only[lz,eU,aw,bo]at h;obtain⟨rfl,rfl⟩:=h;exact hQ g w a (Le.refl g w) hS hF
  ·obtain⟨h1,h2,o,ho,h3⟩:=eT.1 hi;obtain⟨q,hq⟩:=hcov i h1;obtain⟨o',ho',hcq⟩:=hget _ hq;simp only at ho';rw[ho]at ho';cases ho';obtain⟨pre,post,e1,e2,e3⟩:=la hnd hpw hq h2 (by omega)
   have hind:∀p∈pre,nK p.2 q=true:=by
    intro p hp;obtain⟨hb|hb,hj3⟩:=e3 p hp
    ·exfalso
     have hil:i<(du ops.toList []).length:=by
      by_cases hil:i<(du ops.toList []).length
      ·exact hil
      ·rw[ci,dI (by omega)]at hb;simp at hb
     have hr:=hmr i _ (bX hil) p.1 (by rw[ci,bX hil]at hb;exact hb);have hjl:=ol hdn hsz hr (fun o' ho' d hd=>by rw[ho]at ho';cases ho';exact h3 d hd)
     have hjs:p.1<listed.size:=by
      by_cases hjs:p.1<listed.size
      ·exact hjs
      ·simp[Array.getD,hjs]at hj3
     simp[Array.getD,hjs]at hjl hj3;rw[hjl]at hj3;cases hj3
    ·exact hb
   rw[e1,dS,cV]at h
   have hsw:=Rq h2n (by
    intro p hp;obtain⟨x,hx,rfl⟩:=List.mem_map.1 hp;exact hind x hx) h
   unfold wpOp;simp only[ho];simp only[jS,eU]at hsw
   cases hstep:gx X.T call q fr S with
   |none=>rw[hstep]at hsw;cases hsw
   |some x=>
   obtain⟨fr1,S1⟩:=x;rw[hstep]at hsw;have h1':=hsw
   have:=aCM hty hM hC (Q:=Q) (K:=wpAny X.P .any ops Q fuel (listed.setIfInBounds i true)) (hoks _ hq) hcq hS hF hstep (fun g1 w1 a1 hle1 hS1 hF1=>by
    refine ih _ g1 w1 fr1 S1 a1 (by rw[Rp hstep];exact h2n) hS1 hF1 (by simpa using hsz) ?_ ?_ (by rw[e2,dS];exact h1') (fun g2 w2 a2 hle2 hS2 hF2=>hQ g2 w2 a2 (hle1.trans hle2) hS2 hF2)
    ·intro k o' ho' hk d hd
     have hdl:listed.getD d false=true:=by
      by_cases hki:k=i
      ·subst hki;rw[ho]at ho';cases ho';exact h3 d hd
      ·refine hdn k o' ho' ?_ d hd;simp only[eh]at hk ⊢;rw[fk (Ne.symm hki)]at hk;exact hk
     by_cases hdi:d=i
     ·subst hdi;have:d<listed.size:=by omega
      simp[Array.getD,this]
     ·simp only[eh]at hdl ⊢;rw[fk (Ne.symm hdi)];exact hdl
    ·rw[e2];rw[e1]at hf;simp at hf ⊢;omega)
   split
   ·rename_i hw;rw[if_pos hw]at this;exact .inl this
   ·rename_i hw;rw[if_neg hw]at this;exact this
def aCO (hS:SR X g S w):SR X g {S with objs:=S.objs++[[eH],[eH]]} w:=by
 have hget:∀i b,g.obj i=some b→(S.objs++[[eH],[eH]])[i]?=S.objs[i]?:=fun i b h=>by
  obtain⟨cs,us,t,h1,_⟩:=hS.obj i b h;rw[bF (aO.1 h1).1]
 refine⟨fun i b h=>?_,fun i j b h1 h2 hl=>?_,fun i b h=>?_,hS.arr,hS.asz,hS.lt,?_,hS.gl⟩
 ·obtain⟨cs,us,t,h1,h2⟩:=hS.obj i b h;exact⟨cs,us,t,(hget i b h).trans h1,h2⟩
 ·obtain⟨c,l,e⟩:=hl;exact hS.inj i j b h1 h2 ⟨c,l,by rw[←hget j b h2];exact e⟩
 ·refine⟨fun hl=>(hS.objpub i b h).1 ?_,(hS.objpub i b h).2⟩;obtain⟨c,l,e⟩:=hl;exact⟨c,l,by rw[←hget i b h];exact e⟩
 ·refine hS.maps.of (fun _ _ h=>h) (fun i b h=>?_) (fun _ _ _=>rfl) (fun _ _ h=>h) (fun _ _ _=>⟨rfl,rfl⟩) (fun _ _ _ _ h=>h);obtain⟨cs,es,clock,h1,_⟩:=hS.maps.ent i b h;exact bF (aO.1 h1).1
def aCP{call:af}(hty:eS X)(hM:eZ X)(hC:cu X call)(hmix:X.P.follows .mixedOrders=true){ops:Array Oper}{pl:List aB}{Q:Exit→Act→World→Prop}{fr':Fr}{S':St}
  (hchk:AB X n ops pl=true)(hS:SR X g S w)(hF:FR X n g w fr a)(h:ah X.T call pl fr S=some (fr',S'))
  (hQ:∀g' w' a',Le g w g' w'→SR X g' S' w'→FR X n g' w' fr' a'→Q .normal a' w')(id:Nat):(Code.region id ops true).wp X.P Q a w:=by
 unfold AB at hchk;split at hchk
 rotate_left
 ·cases hchk
 rename_i its hits;split at hchk
 ·rename_i ql hql;simp only[aJ]at hchk;have h:=SC hits h;obtain⟨e1,e2,e3⟩:=Ru nZ hql;have hnd:(ql.map (·.1)).Nodup:=e2.nodup_iff.2 nZ;refine wp_region_any hmix ?_;have hw:∀{g':Gh} {w':World},Le g {w with drawn:=w.drawn+1} g' w'→Le g w g' w':=fun h=>⟨h.os,h.tape,h.output,h.size,h.obj,h.arr,h.asz,h.pub,h.cell,h.shape,h.objN,h.arrN,h.keep,h.pubN,h.mp,h.mpN,h.mf⟩
  have hle:Le g w g {w with drawn:=w.drawn+1}:=⟨rfl,rfl,rfl,aX _,fun _ _ h=>h,fun _ _ h=>h,fun _ _ h=>h,fun _=>aX _,fun _ _ _=>rfl,fun _ us _ _ h=>⟨us,h,rfl⟩,
   fun id _ h=>.inl ⟨id,h⟩,fun _ _ h=>.inl h,fun _ _ _ _ _=>rfl,fun _ _ _ _ _=>rfl,fun _ _ h=>h,fun _ _ h=>.inl h,fun _ _ _ h e=>⟨h,e⟩⟩
  have hS':SR X g S {w with drawn:=w.drawn+1}:=⟨fun id b hb=>by
   obtain⟨cs,us,t,h1,h2,h3,h4⟩:=hS.obj id b hb;exact⟨cs,us,t,h1,h2,h3,fun j c u e1 e2=>(h4 j c u e1 e2).mono hle⟩,hS.inj,hS.objpub,hS.arr,hS.asz,hS.lt,hS.maps.of (fun _ _ h=>h) (fun _ _ _=>rfl) (fun _ _ _=>rfl) (fun c u r=>r.mono hle) (fun _ _ _=>⟨rfl,rfl⟩) (fun _ _ _ _ h=>h),hS.gl.le hle⟩
  have hrest:bj ql (Array.replicate ops.size false)=ql:=by
   unfold bj;refine jv.2 (fun x hx=>?_);obtain⟨o,ho,_⟩:=e3 x hx;have:=(cD.1 ho).1;simp[Array.getD,this]
  refine aCN hty hM hC (fun x hx=>List.all_eq_true.1 hchk.2 x hx) e3 (fun i hi=>?_) hnd hchk.1.1 (Rv hchk.1.2) ops.size _ g _ fr _ a (by simp) (aCO hS') (hF.mono hle) (by simp) ?_ ?_ (by rw[hrest,e1];exact h) (fun g' w' a' hle' hS2 hF2=>hQ g' w' a' (hw hle') hS2 hF2)
  ·have:i∈ql.map (·.1):=e2.mem_iff.2 (by simpa using hi);obtain⟨x,hx,rfl⟩:=List.mem_map.1 this;exact⟨x.2,hx⟩
  ·intro i o ho hi;have:i<ops.size:=(cD.1 ho).1;simp[Array.getD,this]at hi
  ·rw[hrest];have:=e2.length_eq;simp at this;omega
 ·cases hchk
end
end Ps
