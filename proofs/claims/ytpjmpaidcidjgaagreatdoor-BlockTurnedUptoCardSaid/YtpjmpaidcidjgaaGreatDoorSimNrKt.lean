/- A region that draws its order, in which two variables are made whose order is left open: each gets the number that it has in the order of the text. -/
import Derived.Test.YtpjmpaidcidjgaaGreatDoorAbbKt
import Derived.Test.YtpjmpaidcidjgaaGreatDoorSimNqKt
set_option linter.defProp false
namespace Ps
set_option linter.unusedVariables false
set_option linter.unusedSimpArgs false
open Go
def dj:PV:=.sl none [.agg []] []
def ZK{X:Tie}{g:Gh}{w:World}{u:Value}(h:VR X g w dj u):False:=by
 unfold dj at h
 cases h with
 |sl _ _ _ b o cap sz us hcap hpos hsz _ _ _ _ _=>
  have:=hsz (.agg []) (by simp);simp[PV.cells]at this;omega
def qF:bC→Bool
 |.load _ _ false _=>true
 |_=>false
def kC(fr:Fr)(S:St):bC→Bool
 |.load _ _ false x=>(match ev fr x with|.ptr id _=>decide (id+2<S.objs.length)|_=>true)
 |_=>true
inductive It where
 |op (p:aA)
 |al (j d:Nat) (z:List PV)
 |st (j d n:Nat) (x:aG)
def It.reads:It→List Nat
 |.op p=>p.reads
 |.al ..=>[]
 |.st _ d _ x=>d::x.reads
def It.dst:It→Option Nat
 |.op p=>p.dst
 |.al _ d _=>some d
 |.st ..=>none
def It.slot:It→Option Nat
 |.op _=>none
 |.al j _ _=>some j
 |.st j _ _ _=>some j
def It.ok:It→Bool
 |.op p=>gy p.op||qF p.op
 |.al j _ _=>j==1||j==2
 |.st j _ _ _=>j==1||j==2
def sr:Option (List PV)→Bool
 |some [.sl none [.agg []] []]=>true
 |_=>false
def ZL{o:Option (List PV)}(h:sr o=true):o=some [dj]:=by
 unfold sr at h;split at h
 ·rfl
 ·cases h
def eW(T:aM)(call:aX)(fr:Fr)(S:St):It→Option (PV×Option (List PV))
 |.op p=>if kC fr S p.op=true then(match av T call p fr S with|some (v,_)=>some (v,none)|none=>none)else none
 |.al j d z=>if z.all PV.one=true∧sr S.objs[S.objs.length-j]?=true then some (.ptr (S.objs.length-j) 0,some z)else none
 |.st j d n x=>(match fr d with
  |.ptr id off=>if id=S.objs.length-j∧off=0 then(match S.objs[S.objs.length-j]? with
   |some cs=>if(ev fr x).cells.length=n∧n≤cs.length∧(ev fr x).cells.all PV.one=true then some (.und,some (bB cs 0 (ev fr x).cells))else none
   |none=>none)else none
  |_=>none)
def eQ(S:St)(slot:Option Nat)(e:Option (List PV)):St:=
 match slot,e with
 |some j,some cs=>{S with objs:=S.objs.set (S.objs.length-j) cs}
 |_,_=>S
def gF(T:aM)(call:aX)(it:It)(fr:Fr)(S:St):Option (Fr×St):=
 match eW T call fr S it with
 |some (v,e)=>some (aO fr it.dst v,eQ S it.slot e)
 |none=>none
def dx(T:aM)(call:aX):List It→Fr→St→Option (Fr×St)
 | [],fr,S=>some (fr,S)
 |it::l,fr,S=>match gF T call it fr S with
  |some (fr1,S1)=>dx T call l fr1 S1
  |none=>none
def mZ(p q:It):Bool:=
 (match p.dst with|some d=>!q.reads.contains d&&q.dst != some d|none=>true) &&
 (match q.dst with|some d=>!p.reads.contains d|none=>true) &&
 (match p.slot,q.slot with|some i,some j=>i != j|_,_=>true)&&p.ok&&q.ok
def yY(S:St)(s:Option Nat)(e:Option (List PV)):(eQ S s e).objs.length=S.objs.length:=by
 unfold eQ;split<;>simp
def su{S:St}{s:Option Nat}{e:Option (List PV)}{id:Nat}(h:∀j,s=some j→S.objs.length-j≠id):(eQ S s e).objs[id]?=S.objs[id]?:=by
 unfold eQ;split
 ·rename_i j cs;exact bq (h j rfl)
 ·rfl
def PA{T:aM}{call:aX}{it:It}{fr fr2:Fr}{S S2:St}(hok:it.ok=true)(hlen:S2.objs.length=S.objs.length)(hlow:∀id,id+2<S.objs.length→S2.objs[id]?=S.objs[id]?)
  (hslot:∀j,it.slot=some j→S2.objs[S.objs.length-j]?=S.objs[S.objs.length-j]?)(hr:∀t∈it.reads,fr t=fr2 t):eW T call fr2 S2 it=eW T call fr S it:=by
 cases it with
 |op p=>
  obtain⟨d,op,gd⟩:=p;simp only[It.ok,gJ]at hok;have hc:∀S,av T call ⟨d,op,gd⟩ fr2 S=av T call ⟨d,op,gd⟩ fr S:=fun S=>(pu hr).symm
  have hlw:kC fr2 S2 op=kC fr S op:=by
   cases op<;>try rfl
   rename_i ag n mix x;cases mix
   ·simp only[kC,hlen];rw[bQ (fr:=fr2) (fr':=fr) (fun t ht=>(hr t (by simp[It.reads,aA.reads,bC.reads,ht])).symm)]
   ·rfl
  simp only[eW,hlw,hc];by_cases hl:kC fr S op=true
  ·simp only[hl,if_true];rcases hok with hok|hok
   ·
    simp only[av]
    cases bW fr gd with
    |none=>rfl
    |some b=>
     cases b with
     |false=>rfl
     |true=>
      obtain⟨q,hq⟩:=OW (T:=T) (call:=call) (fr:=fr) hok;simp only[hq];cases q<;>rfl
   ·cases op<;>simp only[qF]at hok<;>try (cases hok;done)
    rename_i ag n mix x;cases mix<;>simp only at hok<;>try (cases hok;done)
    simp only[av]
    cases bW fr gd with
    |none=>rfl
    |some b=>
     cases b with
     |false=>rfl
     |true=>
      simp only[kC]at hl;simp only[aH]
      cases he:ev fr x with
      |ptr id off=>
       rw[he]at hl;simp only[decide_eq_true_eq]at hl;simp only;rw[hlow _ hl]
       cases S.objs[id]? with
       |none=>rfl
       |some cs=>simp only;cases ap ag n (cs.drop off)<;>rfl
      |ref cs=>simp only;cases ap ag n cs<;>rfl
      |_=>rfl
  ·simp[hl]
 |al j d z=>
  simp only[eW,hlen,hslot j rfl]
 |st j d n x=>
  have e0:fr2 d=fr d:=(hr d (by simp[It.reads])).symm;have e1:ev fr2 x=ev fr x:=bQ fun t ht=>(hr t (by simp[It.reads,ht])).symm;simp only[eW,hlen,hslot j rfl,e0,e1]
def ZM{S:St}{s t:Option Nat}{e f:Option (List PV)}(h:∀i j,s=some i→t=some j→S.objs.length-i≠S.objs.length-j):eQ (eQ S s e) t f=eQ (eQ S t f) s e:=by
 cases s with
 |none=>simp[eQ]
 |some i=>
  cases t with
  |none=>simp[eQ]
  |some j=>
   cases e with
   |none=>simp[eQ]
   |some cs=>
    cases f with
    |none=>simp[eQ]
    |some ds=>
     simp only[eQ,qh];rw[List.set_comm _ _ (h i j rfl rfl)]
def ZN{T:aM}{call:aX}{p q:It}{l:List It}{fr:Fr}{S:St}{r:Fr×St}(h2n:2≤S.objs.length)(hi:mZ p q=true)(h:dx T call (p::q::l) fr S=some r) :
  dx T call (q::p::l) fr S=some r:=by
 simp only[mZ,aI]at hi;obtain⟨⟨⟨⟨h1,h2⟩,h3⟩,h4⟩,h5⟩:=hi;have hpq:∀t∈q.reads,p.dst≠some t:=fun t ht e=>by rw[e]at h1;simp[ht]at h1
 have hqp:∀t∈p.reads,q.dst≠some t:=fun t ht e=>by rw[e]at h2;simp[ht]at h2
 have hdd:∀t,p.dst=some t→q.dst≠some t:=fun t e e'=>by rw[e]at h1;simp[e']at h1
 have hj:∀(it:It) (j:Nat),it.ok=true→it.slot=some j→j=1∨j=2:=by
  intro it j ho hs;cases it<;>simp only[It.slot,It.ok]at hs ho<;>try (cases hs;done)
  ·cases hs;simpa using ho
  ·cases hs;simpa using ho
 have hss:∀i j,p.slot=some i→q.slot=some j→S.objs.length-i≠S.objs.length-j:=by
  intro i j e1 e2;have hne:i≠j:=by rw[e1,e2]at h3;simpa using h3
  rcases hj p i h4 e1 with rfl|rfl<;>rcases hj q j h5 e2 with rfl|rfl<;>omega
 simp only[dx,gF]at h ⊢
 cases hp:eW T call fr S p with
 |none=>rw[hp]at h;cases h
 |some x=>
  obtain⟨v1,e1⟩:=x;rw[hp]at h;simp only at h
  have cq:eW T call (aO fr p.dst v1) (eQ S p.slot e1) q=eW T call fr S q:=
   PA h5 (yY _ _ _) (fun id hid=>su fun j hs=>by rcases hj p j h4 hs with rfl|rfl<;>omega) (fun j hs=>su fun i hs'=>hss i j hs' hs)
    (fun t ht=>(jw (hpq t ht)).symm)
  rw[cq]at h
  cases hq:eW T call fr S q with
  |none=>rw[hq]at h;cases h
  |some y=>
   obtain⟨v2,e2⟩:=y;rw[hq]at h;simp only at h ⊢
   have cp:eW T call (aO fr q.dst v2) (eQ S q.slot e2) p=eW T call fr S p:=
    PA h4 (yY _ _ _) (fun id hid=>su fun j hs=>by rcases hj q j h5 hs with rfl|rfl<;>omega) (fun j hs=>su fun i hs'=>(hss j i hs hs').symm)
     (fun t ht=>(jw (hqp t ht)).symm)
   rw[cp,hp];simp only;rw[←sY hdd,←ZM hss];exact h
def PB{T:aM}{call:aX}{it:It}{fr fr1:Fr}{S S1:St}(h:gF T call it fr S=some (fr1,S1)):S1.objs.length=S.objs.length:=by
 simp only[gF]at h;split at h
 ·cases h;exact yY _ _ _
 ·cases h
theorem PC{T:aM}{call:aX}{q:It}{l:List It}{r:Fr×St}:∀{pre:List It} {fr:Fr} {S:St},2≤S.objs.length→(∀p∈pre,mZ p q=true)→dx T call (pre++q::l) fr S=some r →
  dx T call (q::pre++l) fr S=some r
 | [],_,_,_,_,h=>h
 |p::pre,fr,S,h2,hi,h=>by
  have:dx T call (p::(q::pre++l)) fr S=some r:=by
   rw[ij]at h;simp only[dx]at h ⊢
   cases hp:gF T call p fr S with
   |none=>rw[hp]at h;cases h
   |some x=>
    obtain⟨fr1,S1⟩:=x;rw[hp]at h;exact PC (by rw[PB hp];exact h2) (fun p' hp'=>hi p' (by simp[hp'])) h
  exact ZN h2 (hi p (by simp)) this
def ZO{T:aM}{call:aX}{fr:Fr}{S:St}{m id:Nat}{a x:aG}{cs:List PV}(ha:ev fr a=.ptr id 0)(hcs:S.objs[id]?=some cs)(h1:(ev fr x).cells.length=m)(h2:m≤cs.length)
  (h3:(ev fr x).cells.all PV.one=true):aH T call fr S (.store m a x)=some (.und,{S with objs:=S.objs.set id (bB cs 0 (ev fr x).cells)}):=by
 simp only[aH,ha,hcs];rw[if_pos ⟨h1,by omega,h3⟩]
def PD{T:aM}{call:aX}{fr:Fr}{S:St}{m id:Nat}{a x:aG}{cs:List PV}{r:PV×St}(ha:ev fr a=.ptr id 0)(hcs:S.objs[id]?=some cs)(h:aH T call fr S (.store m a x)=some r) :
  (ev fr x).cells.length=m∧m≤cs.length∧(ev fr x).cells.all PV.one=true∧r=(.und,{S with objs:=S.objs.set id (bB cs 0 (ev fr x).cells)}):=by
 simp only[aH,ha,hcs]at h;split at h
 ·rename_i hc;cases h;exact⟨hc.1,by omega,hc.2.2,rfl⟩
 ·cases h
def PE {T:aM} {call:aX} {fr:Fr} {S:St} {z:List PV} {r:PV×St} (h:aH T call fr S (.alloc false z)=some r):z.all PV.one=true∧r=(.ptr S.objs.length 0,{S with objs:=S.objs++[z]}):=by
 simp only[aH,cR,bg,if_false]at h;split at h
 ·rename_i hz;cases h;exact⟨hz,rfl⟩
 ·cases h
def sw{T:aM}{call:aX}{d:Option Nat}{op:bC}{l:List aA}{fr:Fr}{S:St}{r:Fr×St}(h:aY T call (⟨d,op,none⟩::l) fr S=some r) :
  ∃v S1,aH T call fr S op=some (v,S1)∧aY T call l (aO fr d v) S1=some r:=by
 rw[cX]at h;simp only[av,bW]at h
 cases hp:aH T call fr S op with
 |none=>rw[hp]at h;cases h
 |some y=>rw[hp]at h;exact⟨y.1,y.2,rfl,h⟩
def qG(X:Tie)(n:Nat)(ops:Array Oper)(o:Oper):It→Bool
 |.op p=>dL X n ops o p
 |.al _ d z=>dL X n ops o ⟨some d,.alloc false z,none⟩
 |.st _ d m x=>dL X n ops o ⟨none,.store m (.tmp d) x,none⟩
section
variable {X : Tie} {g : Gh} {w : World} {n : Dn} {fr : Fr} {a : Act} {S : St}
def ZP(hS:SR X g S w){id:Nat}(hid:S.objs[id]?=some [dj]){cs:List PV}{us:Array Value}(hv:bD X g w cs us)(t:TypeId) :
  bu X g w {S with objs:=S.objs.set id cs} (.ptr id 0) (.pointer (some ⟨w.heap.size,0,none⟩)) (w.alloc (.cells us t)):=by
 have hlt:id<S.objs.length:=(aL.1 hid).1
 have hnew:g.obj id=none:=by
  cases h:g.obj id with
  |none=>rfl
  |some b=>
   obtain⟨cs',us',t',h1,_,h3,h4⟩:=hS.obj _ _ h;rw[hid]at h1;cases h1;simp at h3;exact(ZK (h4 0 dj (us'[0]'(by omega)) rfl (by simp))).elim
 have hnom:g.mp id=none:=by
  cases h:g.mp id with
  |none=>rfl
  |some b=>
   obtain⟨cs',es,clock,h1,_,_,h4⟩:=hS.maps.ent _ _ h;rw[hid]at h1;cases h1;cases h4
 let g':Gh:={g with obj:=fun i=>if i=id then some w.heap.size else g.obj i}
 have hle:Le g w g' (w.alloc (.cells us t)):=lB rfl rfl rfl rfl hS.lt
  (fun i b h=>by simp only[g'];rw[if_neg (fun e=>by subst e;rw[hnew]at h;cases h)];exact h)
  (fun i b h=>by
   simp only[g']at h;split at h
   ·cases h;exact .inr rfl
   ·exact .inl h)
  (fun _ _ h=>h) (fun _ _ h=>.inl h) (fun _ _ h=>h) (fun _ _=>rfl) (fun _ _ h=>h) (fun _ _ h=>.inl h)
 have hbl:∀i b,g.obj i=some b→b<w.heap.size:=fun i b h=>by
  obtain⟨_,_,_,_,⟨_,h2,_⟩,_⟩:=hS.obj i b h;exact(bc.1 h2).1
 have hset:∀i,i≠id→(S.objs.set id cs)[i]?=S.objs[i]?:=fun i h=>bq (Ne.symm h)
 have hlive:∀i b,g.obj i=some b→bt {S with objs:=S.objs.set id cs} i→bt S i:=by
  rintro i b h ⟨c,l,e⟩;have hne:i≠id:=fun e=>by subst e;rw[hnew]at h;cases h
  exact⟨c,l,by rw[←hset i hne];exact e⟩
 refine⟨g',hle,⟨fun i b h=>?_,fun i j b h1 h2 hl=>?_,fun i b h=>?_,hS.arr,hS.asz,fun b hb=>hS.lt b (by simp at hb;omega),
   hS.maps.of (fun _ _ h=>h) (fun i b h=>hset i (fun e=>by subst e;rw[hnom]at h;cases h)) (fun i b h=>by
    have:=hS.maps.lt h;rw[World.alloc,cj,if_neg (by omega)]) (fun c u r=>r.mono hle) (fun _ _ _=>⟨rfl,rfl⟩) (fun i b c h h2=>by
    simp only[g']at h2;split at h2
    ·rename_i e;subst e;rw[hnom]at h;cases h
    ·exact h2),hS.gl.le hle⟩,.ptr _ _ _ (by simp[g'])⟩
 ·simp only[g']at h;split at h
  ·rename_i e;subst e;cases h;exact⟨cs,us,t,by simp[hlt],⟨(0,0),by rw[World.alloc,cj,if_pos rfl],.inl (aR _)⟩,tu hv.1,fun j c u e1 e2=>(hv.2 j c u e1 e2).mono hle⟩
  ·rename_i e;obtain⟨cs',us',t',h1,h2,h3,h4⟩:=hS.obj i b h;have:=hbl i b h;exact⟨cs',us',t',(hset i e).trans h1,by rw[World.alloc,cj,if_neg (by omega)];exact h2,h3,fun j c u e1 e2=>(h4 j c u e1 e2).mono hle⟩
 ·simp only[g']at h1 h2;split at h1<;>split at h2
  ·omega
  ·cases h1;have:=hbl j _ h2;omega
  ·cases h2;have:=hbl i _ h1;omega
  ·exact hS.inj i j b h1 h2 (hlive j b h2 hl)
 ·simp only[g']at h;split at h
  ·cases h;exact⟨fun _=>(hS.lt _ (aR _)).1,(hS.lt _ (aR _)).2⟩
  ·exact⟨fun hl=>(hS.objpub i b h).1 (hlive i b h hl),(hS.objpub i b h).2⟩
def ZQ (hS:SR X g S w) {z:List PV} {t:TypeId} (hz:jC X.P t z=true) {id:Nat} (hid:S.objs[id]?=some [dj]):dV X g w a (.alloc t) {S with objs:=S.objs.set id z} (.ptr id 0):=by
 intro dst ty pos after guard next Q hn
 obtain⟨u,h1,h2⟩:=yH (w:=w) hz;have r0:=mH (X:=X) (g:=g) (w:=w) h2;have r:bD X g w z u.cells:=⟨by simpa using r0.1,fun j c x e1 e2=>r0.2 j c x e1 (by simpa using e2)⟩;unfold Oper.wp
 have e:(execOp a.eval ⟨dst,.alloc t,ty,pos,after,guard⟩).run X.P w=.ok (.value (.pointer (some ⟨w.heap.size,0,none⟩))) (w.alloc (.cells u.cells t)):=by
  simp[execOp,Instr.alloc,newVar,newRow,h1]
 rw[e];exact hn _ _ (ZP hS hid r t)
def ZR{call:aX}(hty:dv X)(hM:eC X)(hC:cW X call){ops:Array Oper}{Q:Exit→Act→World→Prop}{o:Oper}{it:It}{fr1:Fr}{S1:St}(hok:it.ok=true)
  (hc:qG X n ops o it=true)(hS:SR X g S w)(hF:FR X n g w fr a)(h:gF X.T call it fr S=some (fr1,S1)){K:Act→World→Prop}
  (hK:∀g' w' a',Le g w g' w'→SR X g' S1 w'→FR X n g' w' fr1 a'→K a' w') :
  if Region.wanted o (yielded ops a.tmps)then o.wp X.P a w K Q else K (a.put o.dst undef) w:=by
 cases it with
 |op p=>
  have hrun:aY X.T call [p] fr S=some (fr1,S1):=by
   simp only[gF,eW,It.dst,It.slot]at h;split at h
   ·rename_i v e he;cases h;split at he
    ·rw[cX]
     cases hp:av X.T call p fr S with
     |none=>rw[hp]at he;cases he
     |some y=>
      obtain⟨v',S'⟩:=y;rw[hp]at he;cases he
      have hSS:S'=S:=by
       simp only[It.ok,gJ]at hok;rcases hok with hok|hok
       ·exact(mS hok hp).1
       ·refine(sb ?_ hp).1;obtain⟨_,op,_⟩:=p;cases op<;>simp only[qF]at hok<;>try (cases hok;done)
        rename_i ag m mix x hl;cases mix
        ·rfl
        ·simp at hok
      subst hSS;rfl
    ·cases he
   ·cases h
  exact kA (r:=(fr1,S1)) hty hM hC hc hS hF hrun (fun g' w' a' fr2 S2 hle hS2 hF2 e=>by simp only[aY,ae,ba]at e;obtain⟨rfl,rfl⟩:=e;exact hK g' w' a' hle hS2 hF2)
 |al j d z=>
  simp only[qG,dL,aI,beq_iff_eq]at hc;obtain⟨⟨⟨hd,hlt⟩,hop⟩,hgd⟩:=hc
  have hdl:∀t,(some d:Option Nat)=some t→t<n:=by
   intro t ht;rw[hd]at ht;rw[ht]at hlt;simpa using hlt
  rw[iT (fr:=fr) hF hgd (b:=true) rfl,if_pos rfl];simp only[gF,eW,It.dst,It.slot]at h;split at h
  ·rename_i v e he;cases h;split at he
   ·rename_i hcond;cases he;obtain⟨odst,oop,oty,opos,oafter,oguard⟩:=o;cases oop<;>simp only[ay]at hop<;>try (cases hop;done)
    refine ZQ hS hop (ZL hcond.2) odst oty opos oafter oguard K Q (fun u w' hstep=>?_);obtain⟨g',hle,hS',hv⟩:=hstep;have hd:some d=odst:=hd;rw[←hd];exact hK g' w' _ hle hS' ((hF.mono hle).put hdl hv)
   ·cases he
  ·cases h
 |st j d m x=>
  have hrun:aY X.T call [⟨none,.store m (.tmp d) x,none⟩] fr S=some (fr1,S1):=by
   simp only[gF,eW,It.dst,It.slot]at h;split at h
   ·rename_i v e he;cases h;split at he
    ·rename_i id off hd;split at he
     ·rename_i hid;obtain⟨rfl,rfl⟩:=hid;split at he
      ·rename_i cs hcs;split at he
       ·rename_i hcond;cases he;rw[cX];simp only[av,bW];rw[ZO (a:=.tmp d) hd hcs hcond.1 hcond.2.1 hcond.2.2];rfl
       ·cases he
      ·cases he
     ·cases he
    ·cases he
   ·cases h
  exact kA (r:=(fr1,S1)) hty hM hC hc hS hF hrun (fun g' w' a' fr2 S2 hle hS2 hF2 e=>by simp only[aY,ae,ba]at e;obtain⟨rfl,rfl⟩:=e;exact hK g' w' a' hle hS2 hF2)
end
def ny(X:Tie)(n:Nat)(ops:Array Oper):List Nat→List It→Option (List (Nat×It))
 |free,p::ps=>match free.find? (fun i=>match ops[i]? with|some o=>qG X n ops o p|none=>false)with
  |some i=>(match ny X n ops (free.erase i) ps with|some l=>some ((i,p)::l)|none=>none)
  |none=>none
 | [],[]=>some []
 |_::_,[]=>none
def sx(ms:List Nat):List (Nat×It)→Bool
 | []=>true
 |x::l=>l.all (fun y=>(ms.getD y.1 0).testBit x.1||mZ x.2 y.2)&&sx ms l
theorem PF{X:Tie}{n:Nat}{ops:Array Oper}:∀{ps:List It} {free:List Nat} {ql:List (Nat×It)},free.Nodup→ny X n ops free ps=some ql →
  ql.map (·.2)=ps∧(ql.map (·.1)).Perm free∧∀x∈ql,∃o,ops[x.1]?=some o∧qG X n ops o x.2=true
 | [],[],ql,_,h=>by simp only[ny,ae]at h;subst h;exact⟨rfl,tV _,fun x hx=>by cases hx⟩
 | [],_::_,ql,_,h=>by simp[ny]at h
 |p::ps,free,ql,hnd,h=>by
  simp only[ny]at h;split at h
  ·rename_i i hf;split at h
   ·rename_i l hl;cases h;obtain⟨h1,h2,h3⟩:=PF (hnd.erase i) hl;have hm:=QL hf;have hp:=List.find?_some hf;refine⟨by simp[h1],?_,fun x hx=>?_⟩
    ·simp only[cB];exact(List.Perm.cons i h2).trans (zW hm).symm
    ·rcases cY.1 hx with rfl|hx
     ·simp only at hp ⊢;split at hp
      ·rename_i o ho;exact⟨o,ho,hp⟩
      ·cases hp
     ·exact h3 x hx
   ·cases h
  ·cases h
theorem PG{ms:List Nat}:∀{l:List (Nat×It)},sx ms l=true→l.Pairwise fun x y=>(ms.getD y.1 0).testBit x.1=true∨mZ x.2 y.2=true
 | [],_=>.nil
 |x::l,h=>by
  simp only[sx,aI]at h;refine .cons (fun y hy=>?_) (PG h.2);have:=List.all_eq_true.1 h.1 y hy;simpa[gJ]using this
def sy:aA→Option (Nat×List PV)
 |⟨some d,.alloc false z,none⟩=>some (d,z)
 |_=>none
def tA(d:Nat):aA→Option (Nat×aG)
 |⟨none,.store n (.tmp e) x,none⟩=>if e=d then some (n,x)else none
 |_=>none
def PH{p:aA}{d:Nat}{z:List PV}(h:sy p=some (d,z)):p=⟨some d,.alloc false z,none⟩:=by
 unfold sy at h;split at h
 ·cases h;rfl
 ·cases h
def PI{p:aA}{d n:Nat}{x:aG}(h:tA d p=some (n,x)):p=⟨none,.store n (.tmp d) x,none⟩:=by
 unfold tA at h;split at h
 ·split at h
  ·rename_i e;subst e;cases h;rfl
  ·cases h
 ·cases h
def qH:List aA→Option (List It)
 | []=>none
 |p::ps=>match sy p with
  |some (d1,z1)=>(match ps with
   |s1::a2::s2::post=>(match tA d1 s1,sy a2 with
    |some (n1,x1),some (d2,z2)=>(match tA d2 s2 with
     |some (n2,x2)=>if d1≠d2∧post.all (fun p=>gy p.op)=true then some (.al 2 d1 z1::.st 2 d1 n1 x1::.al 1 d2 z2::.st 1 d2 n2 x2::post.map .op)else none
     |none=>none)
    |_,_=>none)
   |_=>none)
  |none=>if gy p.op=true∨(qF p.op=true∧p.guard=none)then(match qH ps with|some l=>some (.op p::l)|none=>none)else none
theorem PJ{T:aM}{call:aX}:∀{l:List aA} {fr:Fr} {S:St} {r:Fr×St},l.all (fun p=>gy p.op)=true→aY T call l fr S=some r→dx T call (l.map .op) fr S=some r
 | [],fr,S,r,_,h=>h
 |p::l,fr,S,r,hp,h=>by
  simp only[zJ,aI]at hp;rw[cX]at h
  cases ho:av T call p fr S with
  |none=>rw[ho]at h;cases h
  |some y=>
   obtain⟨v,S1⟩:=y;rw[ho]at h;simp only at h
   have hl:kC fr S p.op=true:=by
    have h1:=hp.1;obtain⟨_,op,_⟩:=p;cases op<;>try rfl
    rename_i mix _;cases mix
    ·simp[gy,lm]at h1
    ·rfl
   obtain⟨rfl,_⟩:=mS hp.1 ho;simp only[cB,dx,gF,eW,hl,if_true,ho,It.dst,It.slot,eQ];exact PJ hp.2 h
def PK{T:aM}{call:aX}{j d id:Nat}{z:List PV}{l:List It}{fr:Fr}{S:St}(hid:S.objs.length-j=id)(hp:S.objs[id]?=some [dj])(hz:z.all PV.one=true) :
  dx T call (.al j d z::l) fr S=dx T call l (upd fr d (.ptr id 0)) {S with objs:=S.objs.set id z}:=by
 subst hid;have hq:sr (some [dj])=true:=rfl;simp only[dx,gF,eW,It.dst,It.slot,eQ,hz,hp,hq,and_self,if_true,aO]
def PL{T:aM}{call:aX}{j d m id:Nat}{x:aG}{cs:List PV}{l:List It}{fr:Fr}{S:St}(hid:S.objs.length-j=id)(hd:fr d=.ptr id 0)(hcs:S.objs[id]?=some cs)
  (h1:(ev fr x).cells.length=m)(h2:m≤cs.length)(h3:(ev fr x).cells.all PV.one=true) :
  dx T call (.st j d m x::l) fr S=dx T call l fr {S with objs:=S.objs.set id (bB cs 0 (ev fr x).cells)}:=by
 subst hid;simp only[dx,gF,eW,It.dst,It.slot,eQ,hd,hcs,and_self,if_true];rw[if_pos ⟨h1,h2,h3⟩];rfl
theorem PM{T:aM}{call:aX}:∀{ps:List aA} {its:List It} {fr fr':Fr} {S S':St},qH ps=some its→aY T call ps fr S=some (fr',S') →
  dx T call its fr {S with objs:=S.objs++[[dj],[dj]]}=some (fr',S')
 | [],its,fr,fr',S,S',h,_=>by simp[qH]at h
 |p::ps,its,fr,fr',S,S',h,hrun=>by
  simp only[qH]at h;split at h
  ·rename_i d1 z1 ha1;split at h
   ·rename_i s1 a2 s2 post;split at h
    ·rename_i n1 x1 d2 z2 hs1 ha2;split at h
     ·rename_i n2 x2 hs2;split at h
      ·rename_i hcond;cases h;have:=PH ha1;subst this;have:=PI hs1;subst this;have:=PH ha2;subst this;have:=PI hs2;subst this;obtain⟨hne,hpost⟩:=hcond;obtain⟨objs,tips⟩:=S;have l1:(objs++[[dj],[dj]]).length-2=objs.length:=by simp
       have l2:(objs++[z1,[dj]]).length-1=objs.length+1:=by simp
       obtain⟨v1,S1,e1,hrun⟩:=sw hrun;obtain⟨hz1,r1⟩:=PE e1;cases r1;obtain⟨v2,S2,e2,hrun⟩:=sw hrun;obtain⟨f1,f2,f3,r2⟩:=PD (id:=objs.length) (cs:=z1) (by simp[ev,aO,cg]) (by simp) e2;cases r2;obtain⟨v3,S3,e3,hrun⟩:=sw hrun;obtain⟨hz2,r3⟩:=PE e3;cases r3;obtain⟨v4,S4,e4,hrun⟩:=sw hrun;obtain⟨g1,g2,g3,r4⟩:=PD (id:=objs.length+1) (cs:=z2) (by simp[ev,aO,cg]) (by simp) e4;cases r4;have hrun:=PJ hpost hrun;simp only[ak,bE,cP,qh,cd,aO]at hrun f1 f2 f3 g1 g2 g3 ⊢;rw[PK (id:=objs.length) (by simp) (by simp) hz1];rw[PL (id:=objs.length) (cs:=z1) (by simp) (by simp[cg]) (by simp) f1 f2 f3];rw[PK (id:=objs.length+1) (by simp) (by simp) hz2];rw[PL (id:=objs.length+1) (cs:=z2) (by simp) (by simp[cg]) (by simp) (by simpa using g1) g2 (by simpa using g3)];simpa using hrun
      ·cases h
     ·cases h
    ·cases h
   ·cases h
  ·rename_i hal;split at h
   ·rename_i hp;split at h
    ·rename_i l hl;cases h;rw[cX]at hrun
     cases ho:av T call p fr S with
     |none=>rw[ho]at hrun;cases hrun
     |some y=>
      obtain⟨v,S1⟩:=y;rw[ho]at hrun;simp only at hrun
      have key:S1=S∧kC fr {S with objs:=S.objs++[[dj],[dj]]} p.op=true∧av T call p fr {S with objs:=S.objs++[[dj],[dj]]}=some (v,{S with objs:=S.objs++[[dj],[dj]]}):=by
       rcases hp with hp|⟨hp,hg⟩
       ·obtain⟨rfl,k⟩:=mS hp ho;refine⟨rfl,?_,k _⟩;obtain⟨_,op,_⟩:=p;cases op<;>try rfl
        rename_i mix _;cases mix
        ·simp[gy,lm]at hp
        ·rfl
       ·obtain⟨pd,op,gd⟩:=p;simp only at hg;subst hg;cases op<;>simp only[qF]at hp<;>try (cases hp;done)
        rename_i ag n mix x;cases mix<;>simp only at hp<;>try (cases hp;done)
        obtain⟨rfl,k⟩:=sb (p:=⟨pd,.load ag n false x,none⟩) rfl ho;refine⟨rfl,?_,k _ (by simp)⟩;simp only[av,bW,aH]at ho;simp only[kC];split
        ·rename_i id off he;rw[he]at ho;simp only at ho;split at ho
         ·rename_i cs hcs;have:=(aL.1 hcs).1;simpa using this
         ·cases ho
        ·rfl
      obtain⟨rfl,k1,k2⟩:=key;simp only[dx,gF,eW,k1,if_true,k2,It.dst,It.slot,eQ];exact PM hl hrun
    ·cases h
   ·cases h
def yZ(X:Tie)(n:Nat)(ops:Array Oper)(ps:List aA):Bool:=
 match qH ps with
 |some its=>(match ny X n ops (List.range ops.size) its with
  |some ql=>fF ops.toList 0&&sx (dY ops.toList []) ql&&ql.all (fun x=>x.2.ok)
  |none=>false)
 |none=>false
section
variable {X : Tie} {g : Gh} {w : World} {n : Dn} {fr : Fr} {a : Act} {S : St}
def ZS{call:aX}(hty:dv X)(hM:eC X)(hC:cW X call){ops:Array Oper}{ql:List (Nat×It)}{Q:Exit→Act→World→Prop}{fr':Fr}{S':St}
  (hoks:∀x∈ql,x.2.ok=true)(hget:∀x∈ql,∃o,ops[x.1]?=some o∧qG X n ops o x.2=true)(hcov:∀i,i<ops.size→∃p,(i,p)∈ql)(hnd:(ql.map (·.1)).Nodup)(hback:fF ops.toList 0=true)
  (hpw:ql.Pairwise fun x y=>((dY ops.toList []).getD y.1 0).testBit x.1=true∨mZ x.2 y.2=true):∀(fuel:Nat) (listed:Array Bool) (g:Gh) (w:World) (fr:Fr) (S:St) (a:Act),
  2≤S.objs.length→SR X g S w→FR X n g w fr a→listed.size=ops.size→lF ops listed→(bS ql listed).length≤fuel→dx X.T call ((bS ql listed).map (·.2)) fr S=some (fr',S') →
  (∀g' w' a',Le g w g' w'→SR X g' S' w'→FR X n g' w' fr' a'→Q .normal a' w')→wpAny X.P .any ops Q fuel listed a w:=by
 have hmr:=mY ops.toList ops.toList [] (by simp) (fun i m h=>by simp at h)
 have hempty:∀listed:Array Bool,Region.ready .any ops listed=[]→listed.size=ops.size→bS ql listed=[]:=by
  intro listed hr hsz
  have hall:∀k,k<ops.size→listed.getD k true=true:=by
   intro k
   induction k using Nat.strongRecOn with
   |_ k ih=>
    intro hk
    cases hl:listed.getD k true with
    |true=>rfl
    |false=>
     have:k∈Region.ready .any ops listed:=dw.2 ⟨hk,hl,ops[k],by simp[hk],fun d hd=>by
      have hdk:d<k:=by
       have:=jz hback k ops[k] (by simp[hk]) d hd;omega
      have:=ih d hdk (by omega);have hds:d<listed.size:=by omega
      simp[Array.getD,hds]at this ⊢;exact this⟩
     rw[hr]at this;cases this
  unfold bS;rw[oO];intro x hx;obtain⟨o,ho,_⟩:=hget x hx;have:=hall x.1 (bc.1 ho).1;simp[this]
 intro fuel
 induction fuel with
 |zero=>
  intro listed g w fr S a h2n hS hF hsz hdn hf h hQ;have hnil:bS ql listed=[]:=fW.1 (by omega);rw[hnil]at h;simp only[lR,dx,ae,ba]at h;obtain⟨rfl,rfl⟩:=h;refine⟨?_,hQ g w a (Le.refl g w) hS hF⟩
  cases hr:Region.ready .any ops listed with
  |nil=>rfl
  |cons i l=>
   obtain⟨h1,h2,o,ho,_⟩:=dw.1 (show i∈Region.ready .any ops listed by rw[hr];simp);obtain⟨p,hp⟩:=hcov i h1;obtain⟨pre,post,e1,_,_⟩:=lG hnd hpw hp h2 (by omega);rw[hnil]at e1;have:=congrArg List.length e1
   simp at this
 |succ fuel ih=>
  intro listed g w fr S a h2n hS hF hsz hdn hf h hQ;refine⟨fun hr=>?_,fun i hi=>?_⟩
  ·rw[hempty listed hr hsz]at h;simp only[lR,dx,ae,ba]at h;obtain⟨rfl,rfl⟩:=h;exact hQ g w a (Le.refl g w) hS hF
  ·obtain⟨h1,h2,o,ho,h3⟩:=dw.1 hi;obtain⟨q,hq⟩:=hcov i h1;obtain⟨o',ho',hcq⟩:=hget _ hq;simp only at ho';rw[ho]at ho';cases ho';obtain⟨pre,post,e1,e2,e3⟩:=lG hnd hpw hq h2 (by omega)
   have hind:∀p∈pre,mZ p.2 q=true:=by
    intro p hp;obtain⟨hb|hb,hj3⟩:=e3 p hp
    ·exfalso
     have hil:i<(dY ops.toList []).length:=by
      by_cases hil:i<(dY ops.toList []).length
      ·exact hil
      ·rw[cH,cr (by omega)]at hb;simp at hb
     have hr:=hmr i _ (bK hil) p.1 (by rw[cH,bK hil]at hb;exact hb);have hjl:=nv hdn hsz hr (fun o' ho' d hd=>by rw[ho]at ho';cases ho';exact h3 d hd)
     have hjs:p.1<listed.size:=by
      by_cases hjs:p.1<listed.size
      ·exact hjs
      ·simp[Array.getD,hjs]at hj3
     simp[Array.getD,hjs]at hjl hj3;rw[hjl]at hj3;cases hj3
    ·exact hb
   rw[e1,dp,cB]at h
   have hsw:=PC h2n (by
    intro p hp;obtain⟨x,hx,rfl⟩:=List.mem_map.1 hp;exact hind x hx) h
   unfold wpOp;simp only[ho];simp only[ij,dx]at hsw
   cases hstep:gF X.T call q fr S with
   |none=>rw[hstep]at hsw;cases hsw
   |some x=>
   obtain⟨fr1,S1⟩:=x;rw[hstep]at hsw;have h1':=hsw
   have:=ZR hty hM hC (Q:=Q) (K:=wpAny X.P .any ops Q fuel (listed.setIfInBounds i true)) (hoks _ hq) hcq hS hF hstep (fun g1 w1 a1 hle1 hS1 hF1=>by
    refine ih _ g1 w1 fr1 S1 a1 (by rw[PB hstep];exact h2n) hS1 hF1 (by simpa using hsz) ?_ ?_ (by rw[e2,dp];exact h1') (fun g2 w2 a2 hle2 hS2 hF2=>hQ g2 w2 a2 (hle1.trans hle2) hS2 hF2)
    ·intro k o' ho' hk d hd
     have hdl:listed.getD d false=true:=by
      by_cases hki:k=i
      ·subst hki;rw[ho]at ho';cases ho';exact h3 d hd
      ·refine hdn k o' ho' ?_ d hd;simp only[eG]at hk ⊢;rw[fJ (Ne.symm hki)]at hk;exact hk
     by_cases hdi:d=i
     ·subst hdi;have:d<listed.size:=by omega
      simp[Array.getD,this]
     ·simp only[eG]at hdl ⊢;rw[fJ (Ne.symm hdi)];exact hdl
    ·rw[e2];rw[e1]at hf;simp at hf ⊢;omega)
   split
   ·rename_i hw;rw[if_pos hw]at this;exact .inl this
   ·rename_i hw;rw[if_neg hw]at this;exact this
def ZT (hS:SR X g S w):SR X g {S with objs:=S.objs++[[dj],[dj]]} w:=by
 have hget:∀i b,g.obj i=some b→(S.objs++[[dj],[dj]])[i]?=S.objs[i]?:=fun i b h=>by
  obtain⟨cs,us,t,h1,_⟩:=hS.obj i b h;rw[aw (aL.1 h1).1]
 refine⟨fun i b h=>?_,fun i j b h1 h2 hl=>?_,fun i b h=>?_,hS.arr,hS.asz,hS.lt,?_,hS.gl⟩
 ·obtain⟨cs,us,t,h1,h2⟩:=hS.obj i b h;exact⟨cs,us,t,(hget i b h).trans h1,h2⟩
 ·obtain⟨c,l,e⟩:=hl;exact hS.inj i j b h1 h2 ⟨c,l,by rw[←hget j b h2];exact e⟩
 ·refine⟨fun hl=>(hS.objpub i b h).1 ?_,(hS.objpub i b h).2⟩;obtain⟨c,l,e⟩:=hl;exact⟨c,l,by rw[←hget i b h];exact e⟩
 ·refine hS.maps.of (fun _ _ h=>h) (fun i b h=>?_) (fun _ _ _=>rfl) (fun _ _ h=>h) (fun _ _ _=>⟨rfl,rfl⟩) (fun _ _ _ _ h=>h);obtain⟨cs,es,clock,h1,_⟩:=hS.maps.ent i b h;exact aw (aL.1 h1).1
def ZU{call:aX}(hty:dv X)(hM:eC X)(hC:cW X call)(hmix:X.P.follows .mixedOrders=true){ops:Array Oper}{pl:List aA}{Q:Exit→Act→World→Prop}{fr':Fr}{S':St}
  (hchk:yZ X n ops pl=true)(hS:SR X g S w)(hF:FR X n g w fr a)(h:aY X.T call pl fr S=some (fr',S'))
  (hQ:∀g' w' a',Le g w g' w'→SR X g' S' w'→FR X n g' w' fr' a'→Q .normal a' w')(id:Nat):(Code.region id ops true).wp X.P Q a w:=by
 unfold yZ at hchk;split at hchk
 rotate_left
 ·cases hchk
 rename_i its hits;split at hchk
 ·rename_i ql hql;simp only[aI]at hchk;have h:=PM hits h;obtain⟨e1,e2,e3⟩:=PF mo hql;have hnd:(ql.map (·.1)).Nodup:=e2.nodup_iff.2 mo;refine wp_region_any hmix ?_;have hw:∀{g':Gh} {w':World},Le g {w with drawn:=w.drawn+1} g' w'→Le g w g' w':=fun h=>⟨h.os,h.tape,h.output,h.size,h.obj,h.arr,h.asz,h.pub,h.cell,h.shape,h.objN,h.arrN,h.keep,h.pubN,h.mp,h.mpN,h.mf⟩
  have hle:Le g w g {w with drawn:=w.drawn+1}:=⟨rfl,rfl,rfl,aR _,fun _ _ h=>h,fun _ _ h=>h,fun _ _ h=>h,fun _=>aR _,fun _ _ _=>rfl,fun _ us _ _ h=>⟨us,h,rfl⟩,
   fun id _ h=>.inl ⟨id,h⟩,fun _ _ h=>.inl h,fun _ _ _ _ _=>rfl,fun _ _ _ _ _=>rfl,fun _ _ h=>h,fun _ _ h=>.inl h,fun _ _ _ h e=>⟨h,e⟩⟩
  have hS':SR X g S {w with drawn:=w.drawn+1}:=⟨fun id b hb=>by
   obtain⟨cs,us,t,h1,h2,h3,h4⟩:=hS.obj id b hb;exact⟨cs,us,t,h1,h2,h3,fun j c u e1 e2=>(h4 j c u e1 e2).mono hle⟩,hS.inj,hS.objpub,hS.arr,hS.asz,hS.lt,hS.maps.of (fun _ _ h=>h) (fun _ _ _=>rfl) (fun _ _ _=>rfl) (fun c u r=>r.mono hle) (fun _ _ _=>⟨rfl,rfl⟩) (fun _ _ _ _ h=>h),hS.gl.le hle⟩
  have hrest:bS ql (Array.replicate ops.size false)=ql:=by
   unfold bS;refine jT.2 (fun x hx=>?_);obtain⟨o,ho,_⟩:=e3 x hx;have:=(bc.1 ho).1;simp[Array.getD,this]
  refine ZS hty hM hC (fun x hx=>List.all_eq_true.1 hchk.2 x hx) e3 (fun i hi=>?_) hnd hchk.1.1 (PG hchk.1.2) ops.size _ g _ fr _ a (by simp) (ZT hS') (hF.mono hle) (by simp) ?_ ?_ (by rw[hrest,e1];exact h) (fun g' w' a' hle' hS2 hF2=>hQ g' w' a' (hw hle') hS2 hF2)
  ·have:i∈ql.map (·.1):=e2.mem_iff.2 (by simpa using hi);obtain⟨x,hx,rfl⟩:=List.mem_map.1 this;exact⟨x.2,hx⟩
  ·intro i o ho hi;have:i<ops.size:=(bc.1 ho).1;simp[Array.getD,this]at hi
  ·rw[hrest];have:=e2.length_eq;simp at this;omega
 ·cases hchk
end
end Ps
