/- A law's contract, where its calls may come to this or to that. -/
import Derived.Test.YtpjmpaidcidjgaaGreatDoorAbbKw
import Derived.Test.YtpjmpaidcidjgaaGreatDoorSimVKw
import Derived.Test.YtpjmpaidcidjgaaGreatDoorOkDKw
import Derived.Test.YtpjmpaidcidjgaaGreatDoorFDKw
import Derived.Test.YtpjmpaidcidjgaaGreatDoorHDKw
import Derived.Test.YtpjmpaidcidjgaaGreatDoorRowKw
import Derived.KernelRfl
import Derived.Test.YtpjmpaidcidjgaaGreatDoorHNKw
import Derived.Test.YtpjmpaidcidjgaaGreatDoorSimYKw
set_option linter.defProp false
namespace Ps
set_option linter.unusedVariables false
set_option linter.unusedSimpArgs false
open Go
inductive WF where
 |code (c:aU)
 |codeD (c:eN)
def Qb(fr:Fr)(l:List Nat)(S S':St):Bool:=l.all fun t=>match fr t with
 |.ptr i _=>(match S'.objs[i]?,S.objs[i]? with
  |some a,some b=>PV.beqL a b
  |none,none=>true
  |_,_=>false)
 |_=>true
def aAS{fr:Fr}{l:List Nat}{S S':St}(h:Qb fr l S S'=true):nQ fr l S S':=by
 intro t ht i o hi;have:=List.all_eq_true.1 h t ht;rw[hi]at this;simp only at this
 cases ha:S'.objs[i]? with
 |none=>
  cases hb:S.objs[i]? with
  |none=>rfl
  |some b=>rw[ha,hb]at this;cases this
 |some a=>
  cases hb:S.objs[i]? with
  |none=>rw[ha,hb]at this;cases this
  |some b=>
   rw[ha,hb]at this;rw[iN _ _ this]
noncomputable def ip (T:aQ)(call:af)(wc:Nat→List PV→St→Option Rs):List aB→Fr→St→Option Wo
 | [],fr,S=>some (.norm fr S)
 |o::l,fr,S=>match bq fr o.guard with
  |none=>none
  |some false=>ip T call wc l (aS fr o.dst (.tup [])) S
  |some true=>match o.op with
   |.wc ks x args=>(match jL fr x args with
    |some (f,aq)=>(match wc f aq S with
     |some (.ret v S')=>if Qb fr ks S S'=true then ip T call wc l (aS fr o.dst v) S' else none
     |some (.pan v S')=>some (.pan v S')
     |none=>none)
    |none=>none)
   |.pan x=>if vD (ev fr x)=true then some (.pan (ev fr x) S)else none
   |.rcv=>none
   |op=>(match aH T call fr S op with
    |some (v,S')=>ip T call wc l (aS fr o.dst v) S'
    |none=>none)
theorem rF{X:Tie}{k:Nat}{wc:Nat→List PV→St→Option Rs}(hw:∀f aq S r,wc f aq S=some r→dv X f aq S (fun q=>q=r)) :
  ∀{l:List aB} {fr:Fr} {S:St} {r:Wo},ip X.T (bH X.T k) wc l fr S=some r→cJ X l fr S (fun q=>q=r)
 | [],fr,S,r,h=>by
  simp only[ip,aw]at h
  exact h
 |o::l,fr,S,r,h=>by
  cases hg:bq fr o.guard with
  |none=>simp[ip,hg]at h
  |some b=>
   cases b with
   |false=>
    simp only[ip,hg]at h;simp only[cJ,hg]
    exact rF hw h
   |true=>
    cases ho:o.op
    case wc ks x args=>
     simp only[ip,hg,ho]at h;simp only[cJ,hg,ho];split at h
     rotate_left
     ·cases h
     rename_i f aq hc;split at h
     ·rename_i v S' hr;split at h
      rotate_left
      ·cases h
      rename_i hk;refine⟨f,aq,_,hc,hw f aq S _ hr,fun v2 S2 e=>?_,fun v2 S2 e=>by cases e⟩;cases e;exact⟨aAS hk,rF hw h⟩
     ·rename_i v S' hr;cases h;refine⟨f,aq,_,hc,hw f aq S _ hr,fun v2 S2 e=>(by cases e),fun v2 S2 e=>?_⟩;cases e;rfl
     ·cases h
    case pan x=>
     simp only[ip,hg,ho]at h;simp only[cJ,hg,ho];split at h
     ·rename_i hi;cases h;exact⟨hi,rfl⟩
     ·cases h
    case rcv=>simp[ip,hg,ho]at h
    all_goals
     simp only[ip,hg,ho]at h;simp only[cJ,hg,ho];split at h
     ·rename_i v S' hp;rw[mg (qv X.T k) hp];exact rF hw h
     ·cases h
noncomputable def dk (T:aQ)(call:af)(wc:Nat→List PV→St→Option Rs):Nat→aL→Fr→St→Option (Wx×Fr×St)
 |0,_,_,_=>none
 |_+1,.skip,fr,S=>some (.norm,fr,S)
 |_+1,.ret,fr,S=>some (.ret,fr,S)
 |_+1,.exit n,fr,S=>some (.exit n,fr,S)
 |_+1,.region ops,fr,S=>match ip T call wc ops fr S with
  |some (.norm fr' S')=>some (.norm,fr',S')
  |some (.pan v S')=>some (.pan v,iy ops fr,S')
  |none=>none
 |k+1,.seq a b,fr,S=>match dk T call wc k a fr S with
  |some (.norm,fr',S')=>dk T call wc k b fr' S'
  |r=>r
 |k+1,.cond c t e,fr,S=>match ev fr c with
  |.bool true=>dk T call wc k t fr S
  |.bool false=>dk T call wc k e fr S
  |_=>none
 |k+1,.block n b,fr,S=>match dk T call wc k b fr S with
  |some (.exit m,fr',S')=>if m=n then some (.norm,fr',S')else some (.exit m,fr',S')
  |r=>r
 |k+1,.loop b,fr,S=>match dk T call wc k b fr S with
  |some (.norm,fr',S')=>dk T call wc k (.loop b) fr' S'
  |r=>r
 |k+1,.scope b,fr,S=>dk T call wc k b fr S
 |k+1,.clr l b,fr,S=>match dk T call wc k b fr S with
  |some (.norm,fr',S')=>some (.norm,clrs l fr',S')
  |r=>r
 |_+1,_,_,_=>none
def zH(r:Wx×Fr×St):Wx→Fr→St→Prop:=fun e fr S=>e=r.1∧fr=r.2.1∧S=r.2.2
def oV{X:Tie}(hX:cR X){k:Nat}{wc:Nat→List PV→St→Option Rs}(hw:∀f aq S r,wc f aq S=some r→dv X f aq S (fun q=>q=r)) :
  ∀(j:Nat) {p:aL} {fr:Fr} {S:St} {r:Wx×Fr×St},dk X.T (bH X.T k) wc j p fr S=some r→W X p fr S (zH r)∧∀b,p=.loop b→WL X b fr S (zH r):=by
 intro j
 induction j with
 |zero=>intro p fr S r h;simp[dk]at h
 |succ j ih=>
  intro p fr S r h
  cases p with
  |skip=>
   simp only[dk,aw]at h;subst h
   exact⟨Sc ⟨rfl,rfl,rfl⟩,fun b e=>by cases e⟩
  |ret=>
   simp only[dk,aw]at h;subst h
   exact⟨AQ ⟨rfl,rfl,rfl⟩,fun b e=>by cases e⟩
  |exit n=>
   simp only[dk,aw]at h;subst h
   exact⟨aDu ⟨rfl,rfl,rfl⟩,fun b e=>by cases e⟩
  |region ops=>
   simp only[dk]at h;refine⟨AR hX ?_,fun b e=>by cases e⟩;split at h
   ·rename_i fr' S' ho;cases h;refine rj (fun q hq=>?_) (rF hw ho);subst hq;exact⟨rfl,rfl,rfl⟩
   ·rename_i v S' ho;cases h;refine rj (fun q hq=>?_) (rF hw ho);subst hq;exact⟨rfl,rfl,rfl⟩
   ·cases h
  |seq a b=>
   simp only[dk]at h;refine⟨nT ?_,fun b e=>by cases e⟩;split at h
   ·rename_i fr' S' ha;refine(ih ha).1.mono fun e f s he=>?_;obtain⟨rfl,rfl,rfl⟩:=he;exact(ih h).1
   ·rename_i x hx;refine(ih h).1.mono fun e f s he=>?_;obtain⟨rfl,rfl,rfl⟩:=he;obtain⟨e,f,s⟩:=r
    cases e with
    |norm=>exact absurd h (hx f s)
    |exit n=>exact⟨rfl,rfl,rfl⟩
    |ret=>exact⟨rfl,rfl,rfl⟩
    |pan v=>exact⟨rfl,rfl,rfl⟩
  |cond c t e=>
   simp only[dk]at h;refine⟨?_,fun b e=>by cases e⟩;split at h
   ·rename_i hc;exact AS (b:=true) hc (ih h).1
   ·rename_i hc;exact AS (b:=false) hc (ih h).1
   ·cases h
  |block n b=>
   simp only[dk]at h;refine⟨aDv ?_,fun b e=>by cases e⟩;split at h
   ·rename_i m fr' S' ha;refine(ih ha).1.mono fun e f s he=>?_;obtain⟨rfl,rfl,rfl⟩:=he;simp only;split at h
    ·rename_i hm;rw[if_pos hm];cases h;exact⟨rfl,rfl,rfl⟩
    ·rename_i hm;rw[if_neg hm];cases h;exact⟨rfl,rfl,rfl⟩
   ·rename_i x hx;refine(ih h).1.mono fun e f s he=>?_;obtain⟨rfl,rfl,rfl⟩:=he;obtain⟨e,f,s⟩:=r
    cases e with
    |norm=>exact⟨rfl,rfl,rfl⟩
    |exit m=>exact absurd h (hx m f s)
    |ret=>exact⟨rfl,rfl,rfl⟩
    |pan v=>exact⟨rfl,rfl,rfl⟩
  |loop b=>
   simp only[dk]at h
   have key:WL X b fr S (zH r):=by
    split at h
    ·rename_i fr' S' ha;refine Se ((ih ha).1.mono fun e f s he=>?_);obtain⟨rfl,rfl,rfl⟩:=he;exact(ih h).2 b rfl
    ·rename_i x hx;refine Se ((ih h).1.mono fun e f s he=>?_);obtain⟨rfl,rfl,rfl⟩:=he;obtain⟨e,f,s⟩:=r
     cases e with
     |norm=>exact absurd h (hx f s)
     |exit n=>exact⟨rfl,rfl,rfl⟩
     |ret=>exact⟨rfl,rfl,rfl⟩
     |pan v=>exact⟨rfl,rfl,rfl⟩
   exact⟨aDx key,fun b2 e=>by cases e;exact key⟩
  |scope b=>
   simp only[dk]at h
   exact⟨aDw (ih h).1,fun b e=>by cases e⟩
  |clr l b=>
   simp only[dk]at h;refine⟨AU ?_,fun b e=>by cases e⟩;split at h
   ·rename_i fr' S' ha;cases h;refine(ih ha).1.mono fun e f s he=>?_;obtain⟨rfl,rfl,rfl⟩:=he;exact⟨rfl,rfl,rfl⟩
   ·rename_i x hx;refine(ih h).1.mono fun e f s he=>?_;obtain⟨rfl,rfl,rfl⟩:=he;obtain⟨e,f,s⟩:=r
    cases e with
    |norm=>exact absurd h (hx f s)
    |exit n=>exact⟨rfl,rfl,rfl⟩
    |ret=>exact⟨rfl,rfl,rfl⟩
    |pan v=>exact⟨rfl,rfl,rfl⟩
  |rng=>simp[dk]at h
  |bad=>simp[dk]at h
noncomputable def rG (T:aQ)(call:af):List aL→Fr→St→Option (Fr×St)
 | [],fr,S=>some (fr,S)
 |.region l::ps,fr,S=>if l.all (fun o=>o.guard.isNone)=true then(match ah T call l fr S with|some (fr',S')=>rG T call ps fr' S'|none=>none)else none
 |_::_,_,_=>none
theorem Qc{T:aQ}{k:Nat}{K:List Kt}:∀{l:List aB} {fr fr':Fr} {S S':St},l.all (fun o=>o.guard.isNone)=true→ah T (bH T k) l fr S=some (fr',S')→aE T (.ops l::K) fr S=aE T K fr' S'
 | [],fr,fr',S,S',_,h=>by
  simp only[ah,aw,bo]at h;obtain⟨rfl,rfl⟩:=h
  exact yl
 |⟨d,op,g⟩::l,fr,fr',S,S',ha,h=>by
  simp only[Ar,aJ]at ha;obtain⟨h1,h2⟩:=ha
  cases g with
  |some x=>cases h1
  |none=>
   simp only[ah,bq]at h;split at h
   ·rename_i v S1 hp;rw[ym,cB,mg (qv T k) hp];exact Qc h2 h
   ·cases h
theorem Qd{T:aQ}{k:Nat}:∀{l:List aL} {fr fr1:Fr} {S S1:St},rG T (bH T k) l fr S=some (fr1,S1)→uC T l fr S fr1 S1
 | [],fr,fr1,S,S1,h=>by
  simp only[rG,aw,bo]at h;obtain⟨rfl,rfl⟩:=h
  exact⟨rfl,rfl⟩
 |p::ps,fr,fr1,S,S1,h=>by
  cases p<;>simp only[rG]at h<;>try (cases h;done)
  rename_i l;split at h
  rotate_left
  ·cases h
  rename_i hg;split at h
  ·rename_i fr' S' hp;exact⟨fr',S',fun K=>by rw[Pj];exact Qc hg hp,Qd h⟩
  ·cases h
noncomputable def zI (T:aQ)(k:Nat)(rc:aU)(caps:List PV)(pv:PV)(S:St):Option St:=
 match rc.body with
 |.seq (.region [⟨d1,.mov (.cst .nili),none⟩,⟨d2,.mov y,none⟩]) pb=>
  if caps.length=rc.params then
   (match ae T k [.code pb] (aS (aS (bg caps) d1 pv) d2 (ev (aS (bg caps) d1 pv) y)) S with
   |some (fr4,S4)=>(match bh fr4 S4 rc.results with|some vs=>some (ak rc.raw S S4 (bu vs)).2|none=>none)
   |none=>none)
  else none
 |_=>none
def aAT{X:Tie}{k:Nat}{rc:aU}{caps:List PV}{pv:PV}{S S':St}(h:zI X.T k rc caps pv S=some S'):pC X rc caps pv S S':=by
 unfold zI at h;split at h
 rotate_left
 ·cases h
 rename_i d1 d2 y pb hb;split at h
 rotate_left
 ·cases h
 rename_i hc;split at h
 rotate_left
 ·cases h
 rename_i fr4 S4 hk;split at h
 rotate_left
 ·cases h
 rename_i vs hr;cases h;exact⟨d1,d2,y,pb,hb,hc,(fr4,S4),jF.2 ⟨k,hk⟩,vs,hr,rfl⟩
noncomputable def rH (T:aQ)(k:Nat)(c:eN)(rc:aU)(caps:List PV)(pv:PV)(S:St)(fr3:Fr)(S3:St):Option Rs:=
 match zI T k rc caps pv S3 with
 |some S4=>(match bh fr3 S4 c.results with|some vs=>some (.ret (ak c.raw S S4 (bu vs)).1 (ak c.raw S S4 (bu vs)).2)|none=>none)
 |none=>none
noncomputable def mr (T:aQ)(wt:Nat→Option WF):Nat→Nat→List PV→St→Option Rs
 |0,_,_,_=>none
 |k+1,f,args,S=>match wt f with
  |none=>none
  |some (.code c)=>if args.length=c.params then
    (match dk T (bH T k) (mr T wt k) k c.body (bg args) S with
    |some (.exit _,_,_)=>none
    |some (.pan v,_,S1)=>some (.pan (ak c.raw S S1 v).1 (ak c.raw S S1 v).2)
    |some (.norm,fr',S1)=>(match bh fr' S1 c.results with|some vs=>some (.ret (ak c.raw S S1 (bu vs)).1 (ak c.raw S S1 (bu vs)).2)|none=>none)
    |some (.ret,fr',S1)=>(match bh fr' S1 c.results with|some vs=>some (.ret (ak c.raw S S1 (bu vs)).1 (ak c.raw S S1 (bu vs)).2)|none=>none)
    |none=>none)else none
  |some (.codeD c)=>if args.length=c.params then
    (match c.rcl with
    |none=>none
    |some (cf,rc)=>(match rG T (bH T k) c.pre (bg args) S with
     |none=>none
     |some (fr1,S1)=>(match ah T (bH T k) [c.clo] fr1 S1 with
      |none=>none
      |some (fr2,S2)=>(match fr2 c.t with
       |.fn cf' caps=>if cf'=cf then
         (match dk T (bH T k) (mr T wt k) k c.rest fr2 S2 with
         |some (.exit _,_,_)=>none
         |some (.pan v,fr3,S3)=>rH T k c rc caps v S fr3 S3
         |some (.norm,fr3,S3)=>rH T k c rc caps .nili S fr3 S3
         |some (.ret,fr3,S3)=>rH T k c rc caps .nili S fr3 S3
         |none=>none)else none
       |_=>none))))else none
def zJ{X:Tie}{k:Nat}{c:eN}{rc:aU}{caps:List PV}{pv:PV}{S S3:St}{fr3:Fr}{r:Rs}(h:rH X.T k c rc caps pv S fr3 S3=some r) :
  ∃S4 vs,pC X rc caps pv S3 S4∧bh fr3 S4 c.results=some vs∧Rs.ret (ak c.raw S S4 (bu vs)).1 (ak c.raw S S4 (bu vs)).2=r:=by
 unfold rH at h;split at h
 rotate_left
 ·cases h
 rename_i S4 hr;split at h
 rotate_left
 ·cases h
 rename_i vs hv;cases h;exact⟨S4,vs,aAT hr,hv,rfl⟩
def Qe{X:Tie}(hX:cR X){wt:Nat→Option WF}(ht:∀f c,wt f=some (.code c)→∃fn,X.P.funcs[X.fnOf f]?=some fn∧fW X fn c=true)
  (htD:∀f c,wt f=some (.codeD c)→∃fn,X.P.funcs[X.fnOf f]?=some fn∧lm X fn c=true):∀(k f:Nat) (aq:List PV) (S:St) (r:Rs),mr X.T wt k f aq S=some r→dv X f aq S (fun q=>q=r):=by
 intro k
 induction k with
 |zero=>intro f aq S r h;simp[mr]at h
 |succ k ih=>
  intro f aq S r h;rw[mr]at h;split at h
  ·cases h
  ·rename_i c hc;obtain⟨fn,h1,h2⟩:=ht f c hc;split at h
   rotate_left
   ·cases h
   rename_i hl;refine vF hX h1 h2 hl ?_;split at h
   ·cases h
   ·rename_i v fr1 S1 hr;cases h;refine(oV hX ih k hr).1.mono fun e f s he=>?_;obtain⟨rfl,rfl,rfl⟩:=he;exact rfl
   ·rename_i fr1 S1 hr;split at h
    rotate_left
    ·cases h
    rename_i vs hv;cases h;refine(oV hX ih k hr).1.mono fun e f s he=>?_;obtain⟨rfl,rfl,rfl⟩:=he;exact⟨vs,hv,rfl⟩
   ·rename_i fr1 S1 hr;split at h
    rotate_left
    ·cases h
    rename_i vs hv;cases h;refine(oV hX ih k hr).1.mono fun e f s he=>?_;obtain⟨rfl,rfl,rfl⟩:=he;exact⟨vs,hv,rfl⟩
   ·cases h
  ·rename_i c hc;obtain⟨fn,h1,h2⟩:=htD f c hc;split at h
   rotate_left
   ·cases h
   rename_i hl;split at h
   ·cases h
   rename_i cf rc hrc;split at h
   ·cases h
   rename_i fr1 S1 hp;split at h
   ·cases h
   rename_i fr2 S2 hclo;split at h
   rotate_left
   ·cases h
   rename_i cf' caps hfr;split at h
   rotate_left
   ·cases h
   rename_i hcf;subst hcf;refine aDl hX h1 h2 hl hrc (Qd hp) (ii (qv X.T k) hclo) hfr ?_;split at h
   ·cases h
   ·rename_i v fr3 S3 hr;refine(oV hX ih k hr).1.mono fun e f s he=>?_;obtain⟨rfl,rfl,rfl⟩:=he;exact zJ h
   ·rename_i fr3 S3 hr;refine(oV hX ih k hr).1.mono fun e f s he=>?_;obtain⟨rfl,rfl,rfl⟩:=he;exact zJ h
   ·rename_i fr3 S3 hr;refine(oV hX ih k hr).1.mono fun e f s he=>?_;obtain⟨rfl,rfl,rfl⟩:=he;exact zJ h
   ·cases h
end Ps
set_option linter.defProp false
namespace Ps
set_option linter.unusedSimpArgs false
set_option linter.unusedVariables false
open Go Go.Proofs
set_option maxRecDepth 100000
def mj:List (List aT):=[[([97],[120],())]]
def QQ:PV:=.sl none [.agg [.str [97],.str [120]]] []
def yz:List UInt8:=[2,1,97,1,120,1,1,0,1]
def tu:List PV→St→Option (PV×St)
 | [.ptr ox 0],S=>(match S.objs[ox]? with
  |some [.sl (some (id,1)) [q] [],.map om]=>(match S.objs[om]?,S.tips[id]? with
   |some [kk,w],some (1,1)=>if ox≠om∧PV.beqL [q,kk] [QQ,eD ([97],[120])]=true then some (.sl none (aI yz) [],S)else none
   |_,_=>none)
  |_=>none)
 |_,_=>none
noncomputable def TD:aQ:=⟨fun f=>if f=159 then some (.exs kC)else if f=134 then some (.exs tu)else T.fn f,T.meth⟩
def oP(f:Nat):Option WF:=
 if f=65 then some (.code Cg)else if f=66 then some (.codeD Cr)else if f=160 then some (.code Cn)else if f=271 then some (.code Co)
 else if f=162 then some (.code Cp)else if f=163 then some (.code Cq)else if f=265 then some (.codeD Cm)else if f=336 then some (.code Ck)
 else if f=337 then some (.code Cl)else if f=338 then some (.code Cj)else none
noncomputable def zA (args:List PV)(S:St):Option (PV×St):=match mr TD oP 300 265 args S with
 |some (.ret r S')=>some (r,S')
 |_=>none
noncomputable def TE:aQ:=⟨fun f=>if f=265 then some (.exs zA)else TD.fn f,T.meth⟩
def aAz:mr TE oP 3000 65 [] bT=some (.ret (.bool true) bT):=by kernel_rfl
end Ps
set_option linter.defProp false
namespace Ps
set_option linter.unusedSimpArgs false
set_option linter.unusedVariables false
open Go Go.Proofs
set_option maxRecDepth 100000
def aAA:bY mj=[[97],[120]]:=by
 have hw:gK (dp mj)=[[97],[120]]:=by kernel_rfl
 rw[bY,hw];exact TB (by simp[leB];decide)
def aAB:dP mj=yz:=by
 unfold dP fB;rw[aAA]
 kernel_rfl
def aAC:df mj=0:=by kernel_rfl
def aAD{args:List PV}{S S':St}{r:PV}(h:tu args S=some (r,S')):∃p,args=[p]∧gc S p mj∧r=.sl none (aI yz) []∧S'=S:=by
 unfold tu at h;split at h
 rotate_left
 ·cases h
 rename_i ox;split at h
 rotate_left
 ·cases h
 rename_i id q om hox;split at h
 rotate_left
 ·cases h
 rename_i kk w hom htip;split at h
 rotate_left
 ·cases h
 rename_i hc;obtain⟨h1,h2⟩:=hc;have e:=iN _ _ h2;simp only[vT,and_true]at e;obtain⟨rfl,rfl⟩:=e;cases h;refine⟨_,rfl,⟨ox,om,0,_,[QQ],[(([97],[120]),w)],rfl,h1,hox,?_,.inr ⟨id,bb _,rfl,htip⟩,rfl,fun j h h'=>?_,by simp,fun k=>?_⟩,rfl,rfl⟩
 ·rw[hom];rfl
 ·have hj:j=0:=by simp at h';exact h'
  subst hj;exact ic (by simp[mj]) rfl rfl
 ·simp[mj,eM];constructor
  ·rintro rfl;exact⟨_,_,⟨rfl,rfl⟩,rfl⟩
  ·rintro⟨_,_,⟨rfl,rfl⟩,rfl⟩;rfl
def kP{X:Tie}{T:aQ}(fn:Func)(c:aU):fW (X.withT T) fn c=fW X fn c:=by kernel_rfl
def QR{X:Tie}{T:aQ}(fn:Func)(c:eN):lm (X.withT T) fn c=lm X fn c:=by kernel_rfl
def QS{T':aQ}(f:Nat)(c:aU)(h:oP f=some (.code c)):∃fn,(tie.withT T').P.funcs[(tie.withT T').fnOf f]?=some fn∧fW (tie.withT T') fn c=true:=by
 unfold oP at h;split at h
 ·rename_i e;subst e;cases h;exact⟨_,func65,(kP _ _).trans Wk⟩
 split at h
 ·cases h
 split at h
 ·rename_i e;subst e;cases h;exact⟨_,Xh,(kP _ _).trans Xi⟩
 split at h
 ·rename_i e;subst e;cases h;exact⟨_,Xj,(kP _ _).trans Xk⟩
 split at h
 ·rename_i e;subst e;cases h;exact⟨_,func162,(kP _ _).trans Xl⟩
 split at h
 ·rename_i e;subst e;cases h;exact⟨_,Xm,(kP _ _).trans Xn⟩
 split at h
 ·cases h
 split at h
 ·rename_i e;subst e;cases h;exact⟨_,Xd,(kP _ _).trans Xe⟩
 split at h
 ·rename_i e;subst e;cases h;exact⟨_,Xb,(kP _ _).trans Xc⟩
 split at h
 ·rename_i e;subst e;cases h;exact⟨_,XZ,(kP _ _).trans Xa⟩
 cases h
def QT{T':aQ}(f:Nat)(c:eN)(h:oP f=some (.codeD c)):∃fn,(tie.withT T').P.funcs[(tie.withT T').fnOf f]?=some fn∧lm (tie.withT T') fn c=true:=by
 unfold oP at h;split at h
 ·cases h
 split at h
 ·rename_i e;subst e;cases h;exact⟨_,Xo,(QR _ _).trans Xp⟩
 split at h
 ·cases h
 split at h
 ·cases h
 split at h
 ·cases h
 split at h
 ·cases h
 split at h
 ·rename_i e;subst e;cases h;exact⟨_,Xf,(QR _ _).trans Xg⟩
 split at h
 ·cases h
 split at h
 ·cases h
 split at h
 ·cases h
 cases h
def zB:cR (tie.withT TD):=cR.of (X:=tie) (T:=TD) tieOk rfl fun f pf h=>by
 have h:(if f=159 then some (.exs kC)else if f=134 then some (.exs tu)else T.fn f)=some pf:=h;by_cases e:f=159
 ·rw[if_pos e]at h;have:=gD h;subst this e;exact aj.tb (X:=tie) (T:=TD) (show aj tie 159 (.exs kC)from BL)
 ·rw[if_neg e]at h;by_cases e2:f=134
  ·rw[if_pos e2]at h;have:=gD h;subst this e2
   exact AL (X:=tie) (T:=TD) fun args S r S' he=>by
    obtain⟨p,rfl,hx,rfl,rfl⟩:=aAD he;have:=CK hx (sj aAC);rw[aAB]at this;exact this
  ·rw[if_neg e2]at h;exact(tieOk.fns f pf h).tb
def aAE:cR (tie.withT TE):=cR.of (X:=tie.withT TD) (T:=TE) zB rfl fun f pf h=>by
 have h:(if f=265 then some (.exs zA)else TD.fn f)=some pf:=h;by_cases e:f=265
 ·rw[if_pos e]at h;have:=gD h;subst this e
  exact AL (X:=tie.withT TD) (T:=TE) fun args S r S' he=>by
   unfold zA at he;split at he
   ·rename_i r1 S1 hr;cases he;exact Qe zB QS QT 300 265 args S _ hr
   ·cases he
 ·rw[if_neg e]at h;exact(zB.fns f pf h).tb
def aAF:dv tie1 65 [] bT (fun q=>q=.ret (.bool true) bT):=by
 have:=dv.tb (X:=tie.withT TE) (T:=T1) (Qe aAE QS QT 3000 65 [] bT _ aAz);exact this
def aAG{X:Tie}{d:Option Nat}{ks:List Nat}{x:aG}{args:List aG}{l:List aB}{fr:Fr}{S:St}{Q:Wo→Prop}{f:Nat}{aq:List PV}{R:Rs→Prop}{t:Nat}(ht:fr t=.bool true)
  (hc:jL fr x args=some (f,aq))(hs:dv X f aq S R)
  (hr:∀v S',R (.ret v S')→nQ fr ks S S'∧cJ X l (aS fr d v) S' Q)(hp:∀v S',R (.pan v S')→Q (.pan v S')):cJ X (⟨d,.wc ks x args,some (t,true)⟩::l) fr S Q:=by
 simp only[cJ,bq,ht];exact⟨f,aq,R,hc,hs,hr,hp⟩
def aAH{S S':St}:∃S'',ak false S S' (.bool true)=(.bool true,S''):=by
 unfold ak;rw[rC rfl];simp only[bp,if_false];split
 ·exact⟨_,rfl⟩
 ·split<;>exact⟨_,rfl⟩
def func459':tie1.P.funcs[tie1.fnOf 459]?=some Tryz.f3:=Wl
def aAI:fW tie1 Tryz.f3 pk=true:=(kP _ _).trans Wm
def tieOk1w:cR tie1:=tieOk1
def oQ:tie1.T=T1:=rfl
def aAJ{lv:PV}{l:List bf}(hl:eK lv l)(hb:sq l)(hi:rB l)(hL:∀s∈l,s.1.length≤1048576)(hN:l.length≤4000000000):dv tie1 459 [lv] bT (fun q=>∃S',q=.ret (.bool true) S'):=by
 obtain⟨ov,ow,ho⟩:=aAy hl hN (fun s hs=>⟨by have:=hL s hs;omega,(hb s hs).2⟩) bT;have ow:=gh ow;have hck1:=gh (wI ho hb hN bT);have hck2:=gh (yy hl hi bT);have hsm:=gh (YO ho hl hN (fun s hs=>⟨(hb s hs).1.1,(hb s hs).2⟩) bT)
 obtain⟨cv,bv,c1,b1,c2,b2,n,hn⟩:∃cv bv,aM T1 155 [ov] bT=some (.tup [cv,.int .i64 (dU l:Int)],bT)∧aM T1 63 [lv] bT=some (.tup [bv,.int .i64 (dU l:Int)],bT)∧(∃x,fx cv=some (.str x)∧fx bv=some (.str x))∧True∧∃n:Int,n=(dU l:Int):=by
  by_cases hz:dU l=0
  ·have w1:=Wg ho hb hz bT;obtain⟨bv,r1,r2⟩:=aAu hl hi hz bT;refine⟨_,bv,?_,?_,⟨_,BT (pZ _).isl,BT r2.isl⟩,trivial,_,rfl⟩
   ·rw[hz];exact w1
   ·rw[hz];exact gh r1
  ·exact⟨.nils,.nils,Wf ho hb hN hz bT,gh (aAv hl hi hz bT),⟨[],rfl,rfl⟩,trivial,_,rfl⟩
 obtain⟨x,t1,t2⟩:=c2;rw[←hn]at hck1 hck2 c1 b1
 have main:∀PP:Wx→Fr→St→Prop,(∀fr' S',fr' 2=.bool true→PP .ret fr' S')→W tie1 pk.body (bg [lv]) bT PP:=by
  intro PP k;unfold pk;simp only;refine gy tieOk1w rfl ?_;simp -implicitDefEqProofs [oQ,sy];refine gy tieOk1w rfl ?_;simp -implicitDefEqProofs [oQ,tA,ow];refine gy tieOk1w rfl ?_;simp -implicitDefEqProofs [oQ,tB,c1];refine gy tieOk1w rfl ?_;simp -implicitDefEqProofs [oQ,tC,b1];refine nT (AU (AR tieOk1w ?_));unfold Ch;refine AY rfl ?_;simp -implicitDefEqProofs [oQ,hck1,hck2,t1,t2,hsm];refine aAG (by simp) (by simp[jL]) aAF (fun u S2 hq=>?_) (fun u S2 hq=>by cases hq);cases hq;refine⟨fun q hq=>(by cases hq),?_⟩;refine Sf rfl ?_;simp -implicitDefEqProofs [oQ];exact AQ (k _ _ (by simp))
 refine vF tieOk1w func459' aAI rfl (main _ (fun fr S' f4=>⟨[fr 2],rfl,?_⟩));rw[f4];obtain⟨S'',e⟩:=aAH (S:=bT) (S':=S');simp only[bu,pk,e];exact⟨S'',rfl⟩
def aAK(x:(Ty.sl gE).den):(ng x).length≤(Ty.sl gE).bulk x:=by
 cases x with
 |none=>exact bb _
 |some q=>
  obtain⟨es,sp⟩:=q;have h:es.length≤(es.map (Ty.bulk gE)).sum:=sP gE (fun _=>BE (bb _)) es;show es.length≤(es.map (Ty.bulk gE)).sum+(sp.map (Ty.bulk gE)).sum+1;omega
def aAL{x:(Ty.sl cP).den}(hw:(Ty.sl cP).wf x)(hb:(Ty.sl cP).bulk x≤1048576):rB (iK x)∧∀s∈iK x,s.1.length≤1048576:=by
 obtain⟨h1,h2⟩:=PQ hw hb
 suffices key:∀s∈iK x,s.1.length≤1048576∧s.2.length≤1048576 from⟨⟨h1,fun s hs=>(key s hs).2,fun s hs=>(h2 s hs).1⟩,fun s hs=>(key s hs).1⟩
 cases x with
 |none=>exact fun s hs=>by simp[iK]at hs
 |some q=>
  obtain⟨es,sp⟩:=q
  have hbk:(es.map (Ty.bulk cP)).sum≤1048576:=by
   have:(es.map (Ty.bulk cP)).sum+(sp.map (Ty.bulk cP)).sum+1≤1048576:=hb;omega
  intro s hs;simp only[iK,List.mem_map]at hs;obtain⟨y,hy,rfl⟩:=hs;have hyb:=yb hy;obtain⟨l,s,⟨⟩⟩:=y;have hb2:(Ty.sl gE).bulk l+((Ty.sl fc).bulk s+0)+1≤(es.map (Ty.bulk cP)).sum:=hyb;have hl:=PO s;have hl2:=aAK l;simp only[td];omega
def law_BlockWrites(xs:lN [.sl cP])(h:rE [.sl cP] xs)(hb:oT [.sl cP] xs≤1048576):dv tie1 459 (lO [.sl cP] xs) bT (fun r=>∃S',r=.ret (.bool true) S'):=by
 obtain⟨l,u⟩:=xs;obtain⟨h1,_⟩:=h;have hb':(Ty.sl cP).bulk l+0≤1048576:=hb;obtain⟨q1,q2⟩:=PQ h1 (by omega);obtain⟨r1,r2⟩:=aAL h1 (by omega);exact aAJ (YR l) q2 r1 r2 (by omega)
end Ps
set_option linter.defProp false
namespace Ps
open Go Go.ChangeShapes Go.WideShapes Go.ChangeAt Go.RowKit
set_option linter.unusedVariables false
set_option linter.unusedSimpArgs false
section
variable {H : Type} {enc : TypeId × Value → H}
def contractW{X:Tie}(hX:cR X){gid:Nat}{fn:Func}(hfn:X.P.funcs[X.fnOf gid]?=some fn){s:ChangeSpec}(hvars:s.vars=[])
  (τs:List Ty) (hchk:jG X.P τs fn.params.toList=true) (hspec:∀(H:Type) (ds:List (DataW H)),ds.length=fn.params.size→s.fn H ds = {results:=[.lit (.bool true)],args:=ds})
  {tb:TypeId} (hres:fn.resultTypes = #[tb]) (htb:X.P.underlying tb=some .bool) (hl:laidOutB X.P=true) {N:Nat} (hlaw:∀xs:lN τs,rE τs xs→oT τs xs≤N→dv X gid (lO τs xs) bT (fun r=>∃S',r=.ret (.bool true) S'))
  {W:World} {base:Nat} {args:Array Value} {ds gs:List (DataW H)} {before:List MemPlace} (hN:bulkDs ds≤N)
  (hgl:∀q∈X.gl,q.1<W.heap.size∧W.cell? ⟨q.1,0,none⟩=some q.2)
  (hval:∀(j:Nat) t v,fn.params[j]?=some t→args[j]?=some v→Value.okWide X.P W .any base t v)
  (hW:DataW.Whole enc X.P fn.params.toList s.vars false W args.toList ds gs before) :
  Calls X.P (X.fnOf gid) args W fun e W'=>∃v,e=.returned v∧s.post enc X.P fn false true false false W args v W':=by
 have hW':=hW;have hlt:=hW.lt;obtain⟨p,q,hA,hV,rfl,hfz,hnd⟩:=hW;rw[hvars]at hV;obtain⟨rfl,rfl⟩:=trodVars_none hV;obtain⟨l1,l2⟩:=zG hA;let k:=QY args.toList
 have hoff:∀v∈args.toList,∀a l c,Value.slice (some a) l c∈v.cells.toList→(∃us t f,W.heap[a.block]?=some (.cells us t f))→a.off≤io W k a.block:=by
  intro v hv a l c hm ⟨us,t,f,he⟩;have:a.off≤k:=zD (List.mem_flatMap.2 ⟨v,hv,hm⟩);simp only[io,he];omega
 obtain⟨xs,x1,x2,x3⟩:=zE (X:=X) (enc:=enc) (QZ W k) τs fn.params.toList args.toList ds p hchk (fun j t v e1 e2=>hval j t v (by simpa using e1) (by simpa using e2)) hoff hA;have hc:=hlaw xs x1 (by rw[x2];exact hN);have hVRL:bQ X (cI (io W k)) W (lO τs xs) args:=⟨by simpa using x3.1,fun j c u e1 e2=>x3.2 j c u e1 (by simpa using e2)⟩;refine(aDA hX hc (p:=io W k) (fun b hb=>?_) ?_ hVRL).mono fun e W' ⟨he,hk⟩=>?_
 ·have:W.heap[b]?=none:=by simpa using hb
  simp[io,this]
 ·exact fun q hq=>⟨⟨(hgl q hq).1,fun _=>by simp[cI],rfl,fun _=>by simp[cI]⟩,(hgl q hq).2⟩
 subst he
 have hds:s.fn H (ds++[]) = {results:=[.lit (.bool true)],args:=ds}:=by
  rw[dR];exact hspec H ds (by rw[l2];simp)
 refine⟨_,rfl,Pb (pa:=p) (pv:=[]) hW' (fun _ _ _=>?_) (fun sp hsp=>?_) (fun _ _=>?_) rfl hk (ok_one hres rfl (okWide_bool_mk htb _))⟩
 ·rw[hds,hres];exact trodAll_cons_mk (shut_bool htb _) trodAll_mk0
 ·rw[hds];exact zF hl hk hchk hA (fun x hx=>hlt x (by simp[hx])) (fun x hx=>hsp x (by simp[hx]))
 ·rw[hds,hvars];rfl
end
end Ps
