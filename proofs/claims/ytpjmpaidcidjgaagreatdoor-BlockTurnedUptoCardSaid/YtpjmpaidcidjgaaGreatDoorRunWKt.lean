/- What a function whose calls may panic comes to at given arguments: by running it. -/
import Derived.Test.YtpjmpaidcidjgaaGreatDoorAbbKt
import Derived.Test.YtpjmpaidcidjgaaGreatDoorSimVKt
import Derived.Test.YtpjmpaidcidjgaaGreatDoorCWKt
import Derived.Test.YtpjmpaidcidjgaaGreatDoorOkDKt
set_option linter.defProp false
namespace Ps
set_option linter.unusedVariables false
set_option linter.unusedSimpArgs false
open Go
inductive WF where
 |code (c:aT)
 |codeD (c:dg)
def Nj(fr:Fr)(l:List Nat)(S S':St):Bool:=l.all fun t=>match fr t with
 |.ptr i _=>(match S'.objs[i]?,S.objs[i]? with
  |some a,some b=>PV.beqL a b
  |none,none=>true
  |_,_=>false)
 |_=>true
def XD{fr:Fr}{l:List Nat}{S S':St}(h:Nj fr l S S'=true):oJ fr l S S':=by
 intro t ht i o hi;have:=List.all_eq_true.1 h t ht;rw[hi]at this;simp only at this
 cases ha:S'.objs[i]? with
 |none=>
  cases hb:S.objs[i]? with
  |none=>rfl
  |some b=>rw[ha,hb]at this;cases this
 |some a=>
  cases hb:S.objs[i]? with
  |none=>rw[ha,hb]at this;cases this
  |some b=>
   rw[ha,hb]at this;rw[gW _ _ this]
noncomputable def iB (T:aM)(call:aX)(wc:Nat→List PV→St→Option Rs):List aA→Fr→St→Option Wo
 | [],fr,S=>some (.norm fr S)
 |o::l,fr,S=>match bW fr o.guard with
  |none=>none
  |some false=>iB T call wc l (aO fr o.dst (.tup [])) S
  |some true=>match o.op with
   |.wc ks x args=>(match jR fr x args with
    |some (f,aq)=>(match wc f aq S with
     |some (.ret v S')=>if Nj fr ks S S'=true then iB T call wc l (aO fr o.dst v) S' else none
     |some (.pan v S')=>some (.pan v S')
     |none=>none)
    |none=>none)
   |.pan x=>if qL (ev fr x)=true then some (.pan (ev fr x) S)else none
   |.rcv=>none
   |op=>(match aH T call fr S op with
    |some (v,S')=>iB T call wc l (aO fr o.dst v) S'
    |none=>none)
theorem pZ{X:Tie}{k:Nat}{wc:Nat→List PV→St→Option Rs}(hw:∀f aq S r,wc f aq S=some r→ca X f aq S (fun q=>q=r)) :
  ∀{l:List aA} {fr:Fr} {S:St} {r:Wo},iB X.T (ax X.T k) wc l fr S=some r→bz X l fr S (fun q=>q=r)
 | [],fr,S,r,h=>by
  simp only[iB,ae]at h
  exact h
 |o::l,fr,S,r,h=>by
  cases hg:bW fr o.guard with
  |none=>simp[iB,hg]at h
  |some b=>
   cases b with
   |false=>
    simp only[iB,hg]at h;simp only[bz,hg]
    exact pZ hw h
   |true=>
    cases ho:o.op
    case wc ks x args=>
     simp only[iB,hg,ho]at h;simp only[bz,hg,ho];split at h
     rotate_left
     ·cases h
     rename_i f aq hc;split at h
     ·rename_i v S' hr;split at h
      rotate_left
      ·cases h
      rename_i hk;refine⟨f,aq,_,hc,hw f aq S _ hr,fun v2 S2 e=>?_,fun v2 S2 e=>by cases e⟩;cases e;exact⟨XD hk,pZ hw h⟩
     ·rename_i v S' hr;cases h;refine⟨f,aq,_,hc,hw f aq S _ hr,fun v2 S2 e=>(by cases e),fun v2 S2 e=>?_⟩;cases e;rfl
     ·cases h
    case pan x=>
     simp only[iB,hg,ho]at h;simp only[bz,hg,ho];split at h
     ·rename_i hi;cases h;exact⟨hi,rfl⟩
     ·cases h
    case rcv=>simp[iB,hg,ho]at h
    all_goals
     simp only[iB,hg,ho]at h;simp only[bz,hg,ho];split at h
     ·rename_i v S' hp;rw[lz (pR X.T k) hp];exact pZ hw h
     ·cases h
noncomputable def dK (T:aM)(call:aX)(wc:Nat→List PV→St→Option Rs):Nat→aN→Fr→St→Option (Wx×Fr×St)
 |0,_,_,_=>none
 |_+1,.skip,fr,S=>some (.norm,fr,S)
 |_+1,.ret,fr,S=>some (.ret,fr,S)
 |_+1,.exit n,fr,S=>some (.exit n,fr,S)
 |_+1,.region ops,fr,S=>match iB T call wc ops fr S with
  |some (.norm fr' S')=>some (.norm,fr',S')
  |some (.pan v S')=>some (.pan v,fT ops fr,S')
  |none=>none
 |k+1,.seq a b,fr,S=>match dK T call wc k a fr S with
  |some (.norm,fr',S')=>dK T call wc k b fr' S'
  |r=>r
 |k+1,.cond c t e,fr,S=>match ev fr c with
  |.bool true=>dK T call wc k t fr S
  |.bool false=>dK T call wc k e fr S
  |_=>none
 |k+1,.block n b,fr,S=>match dK T call wc k b fr S with
  |some (.exit m,fr',S')=>if m=n then some (.norm,fr',S')else some (.exit m,fr',S')
  |r=>r
 |k+1,.loop b,fr,S=>match dK T call wc k b fr S with
  |some (.norm,fr',S')=>dK T call wc k (.loop b) fr' S'
  |r=>r
 |k+1,.scope b,fr,S=>dK T call wc k b fr S
 |k+1,.clr l b,fr,S=>match dK T call wc k b fr S with
  |some (.norm,fr',S')=>some (.norm,clrs l fr',S')
  |r=>r
 |_+1,_,_,_=>none
def xf(r:Wx×Fr×St):Wx→Fr→St→Prop:=fun e fr S=>e=r.1∧fr=r.2.1∧S=r.2.2
def nc{X:Tie}(hX:bY X){k:Nat}{wc:Nat→List PV→St→Option Rs}(hw:∀f aq S r,wc f aq S=some r→ca X f aq S (fun q=>q=r)) :
  ∀(j:Nat) {p:aN} {fr:Fr} {S:St} {r:Wx×Fr×St},dK X.T (ax X.T k) wc j p fr S=some r→W X p fr S (xf r)∧∀b,p=.loop b→WL X b fr S (xf r):=by
 intro j
 induction j with
 |zero=>intro p fr S r h;simp[dK]at h
 |succ j ih=>
  intro p fr S r h
  cases p with
  |skip=>
   simp only[dK,ae]at h;subst h
   exact⟨yo ⟨rfl,rfl,rfl⟩,fun b e=>by cases e⟩
  |ret=>
   simp only[dK,ae]at h;subst h
   exact⟨Pm ⟨rfl,rfl,rfl⟩,fun b e=>by cases e⟩
  |exit n=>
   simp only[dK,ae]at h;subst h
   exact⟨aAk ⟨rfl,rfl,rfl⟩,fun b e=>by cases e⟩
  |region ops=>
   simp only[dK]at h;refine⟨qQ hX ?_,fun b e=>by cases e⟩;split at h
   ·rename_i fr' S' ho;cases h;refine qN (fun q hq=>?_) (pZ hw ho);subst hq;exact⟨rfl,rfl,rfl⟩
   ·rename_i v S' ho;cases h;refine qN (fun q hq=>?_) (pZ hw ho);subst hq;exact⟨rfl,rfl,rfl⟩
   ·cases h
  |seq a b=>
   simp only[dK]at h;refine⟨lN ?_,fun b e=>by cases e⟩;split at h
   ·rename_i fr' S' ha;refine(ih ha).1.mono fun e f s he=>?_;obtain⟨rfl,rfl,rfl⟩:=he;exact(ih h).1
   ·rename_i x hx;refine(ih h).1.mono fun e f s he=>?_;obtain⟨rfl,rfl,rfl⟩:=he;obtain⟨e,f,s⟩:=r
    cases e with
    |norm=>exact absurd h (hx f s)
    |exit n=>exact⟨rfl,rfl,rfl⟩
    |ret=>exact⟨rfl,rfl,rfl⟩
    |pan v=>exact⟨rfl,rfl,rfl⟩
  |cond c t e=>
   simp only[dK]at h;refine⟨?_,fun b e=>by cases e⟩;split at h
   ·rename_i hc;exact qR (b:=true) hc (ih h).1
   ·rename_i hc;exact qR (b:=false) hc (ih h).1
   ·cases h
  |block n b=>
   simp only[dK]at h;refine⟨aAl ?_,fun b e=>by cases e⟩;split at h
   ·rename_i m fr' S' ha;refine(ih ha).1.mono fun e f s he=>?_;obtain⟨rfl,rfl,rfl⟩:=he;simp only;split at h
    ·rename_i hm;rw[if_pos hm];cases h;exact⟨rfl,rfl,rfl⟩
    ·rename_i hm;rw[if_neg hm];cases h;exact⟨rfl,rfl,rfl⟩
   ·rename_i x hx;refine(ih h).1.mono fun e f s he=>?_;obtain⟨rfl,rfl,rfl⟩:=he;obtain⟨e,f,s⟩:=r
    cases e with
    |norm=>exact⟨rfl,rfl,rfl⟩
    |exit m=>exact absurd h (hx m f s)
    |ret=>exact⟨rfl,rfl,rfl⟩
    |pan v=>exact⟨rfl,rfl,rfl⟩
  |loop b=>
   simp only[dK]at h
   have key:WL X b fr S (xf r):=by
    split at h
    ·rename_i fr' S' ha;refine Po ((ih ha).1.mono fun e f s he=>?_);obtain⟨rfl,rfl,rfl⟩:=he;exact(ih h).2 b rfl
    ·rename_i x hx;refine Po ((ih h).1.mono fun e f s he=>?_);obtain⟨rfl,rfl,rfl⟩:=he;obtain⟨e,f,s⟩:=r
     cases e with
     |norm=>exact absurd h (hx f s)
     |exit n=>exact⟨rfl,rfl,rfl⟩
     |ret=>exact⟨rfl,rfl,rfl⟩
     |pan v=>exact⟨rfl,rfl,rfl⟩
   exact⟨aAn key,fun b2 e=>by cases e;exact key⟩
  |scope b=>
   simp only[dK]at h
   exact⟨aAm (ih h).1,fun b e=>by cases e⟩
  |clr l b=>
   simp only[dK]at h;refine⟨qS ?_,fun b e=>by cases e⟩;split at h
   ·rename_i fr' S' ha;cases h;refine(ih ha).1.mono fun e f s he=>?_;obtain⟨rfl,rfl,rfl⟩:=he;exact⟨rfl,rfl,rfl⟩
   ·rename_i x hx;refine(ih h).1.mono fun e f s he=>?_;obtain⟨rfl,rfl,rfl⟩:=he;obtain⟨e,f,s⟩:=r
    cases e with
    |norm=>exact absurd h (hx f s)
    |exit n=>exact⟨rfl,rfl,rfl⟩
    |ret=>exact⟨rfl,rfl,rfl⟩
    |pan v=>exact⟨rfl,rfl,rfl⟩
  |rng=>simp[dK]at h
  |bad=>simp[dK]at h
noncomputable def pe (T:aM)(call:aX):List aN→Fr→St→Option (Fr×St)
 | [],fr,S=>some (fr,S)
 |.region l::ps,fr,S=>if l.all (fun o=>o.guard.isNone)=true then(match aY T call l fr S with|some (fr',S')=>pe T call ps fr' S'|none=>none)else none
 |_::_,_,_=>none
theorem Nk{T:aM}{k:Nat}{K:List Kt}:∀{l:List aA} {fr fr':Fr} {S S':St},l.all (fun o=>o.guard.isNone)=true→aY T (ax T k) l fr S=some (fr',S')→aF T (.ops l::K) fr S=aF T K fr' S'
 | [],fr,fr',S,S',_,h=>by
  simp only[aY,ae,ba]at h;obtain⟨rfl,rfl⟩:=h
  exact xD
 |⟨d,op,g⟩::l,fr,fr',S,S',ha,h=>by
  simp only[zJ,aI]at ha;obtain⟨h1,h2⟩:=ha
  cases g with
  |some x=>cases h1
  |none=>
   simp only[aY,bW]at h;split at h
   ·rename_i v S1 hp;rw[xE,bf,lz (pR T k) hp];exact Nk h2 h
   ·cases h
theorem Nl{T:aM}{k:Nat}:∀{l:List aN} {fr fr1:Fr} {S S1:St},pe T (ax T k) l fr S=some (fr1,S1)→sI T l fr S fr1 S1
 | [],fr,fr1,S,S1,h=>by
  simp only[pe,ae,ba]at h;obtain⟨rfl,rfl⟩:=h
  exact⟨rfl,rfl⟩
 |p::ps,fr,fr1,S,S1,h=>by
  cases p<;>simp only[pe]at h<;>try (cases h;done)
  rename_i l;split at h
  rotate_left
  ·cases h
  rename_i hg;split at h
  ·rename_i fr' S' hp;exact⟨fr',S',fun K=>by rw[Mz];exact Nk hg hp,Nl h⟩
  ·cases h
noncomputable def xg (T:aM)(k:Nat)(rc:aT)(caps:List PV)(pv:PV)(S:St):Option St:=
 match rc.body with
 |.seq (.region [⟨d1,.mov (.cst .nili),none⟩,⟨d2,.mov y,none⟩]) pb=>
  if caps.length=rc.params then
   (match aW T k [.code pb] (aO (aO (bX caps) d1 pv) d2 (ev (aO (bX caps) d1 pv) y)) S with
   |some (fr4,S4)=>(match bb fr4 S4 rc.results with|some vs=>some (ac rc.raw S S4 (bP vs)).2|none=>none)
   |none=>none)
  else none
 |_=>none
def XE{X:Tie}{k:Nat}{rc:aT}{caps:List PV}{pv:PV}{S S':St}(h:xg X.T k rc caps pv S=some S'):mg X rc caps pv S S':=by
 unfold xg at h;split at h
 rotate_left
 ·cases h
 rename_i d1 d2 y pb hb;split at h
 rotate_left
 ·cases h
 rename_i hc;split at h
 rotate_left
 ·cases h
 rename_i fr4 S4 hk;split at h
 rotate_left
 ·cases h
 rename_i vs hr;cases h;exact⟨d1,d2,y,pb,hb,hc,(fr4,S4),iR.2 ⟨k,hk⟩,vs,hr,rfl⟩
noncomputable def ph (T:aM)(k:Nat)(c:dg)(rc:aT)(caps:List PV)(pv:PV)(S:St)(fr3:Fr)(S3:St):Option Rs:=
 match xg T k rc caps pv S3 with
 |some S4=>(match bb fr3 S4 c.results with|some vs=>some (.ret (ac c.raw S S4 (bP vs)).1 (ac c.raw S S4 (bP vs)).2)|none=>none)
 |none=>none
noncomputable def mG (T:aM)(wt:Nat→Option WF):Nat→Nat→List PV→St→Option Rs
 |0,_,_,_=>none
 |k+1,f,args,S=>match wt f with
  |none=>none
  |some (.code c)=>if args.length=c.params then
    (match dK T (ax T k) (mG T wt k) k c.body (bX args) S with
    |some (.exit _,_,_)=>none
    |some (.pan v,_,S1)=>some (.pan (ac c.raw S S1 v).1 (ac c.raw S S1 v).2)
    |some (.norm,fr',S1)=>(match bb fr' S1 c.results with|some vs=>some (.ret (ac c.raw S S1 (bP vs)).1 (ac c.raw S S1 (bP vs)).2)|none=>none)
    |some (.ret,fr',S1)=>(match bb fr' S1 c.results with|some vs=>some (.ret (ac c.raw S S1 (bP vs)).1 (ac c.raw S S1 (bP vs)).2)|none=>none)
    |none=>none)else none
  |some (.codeD c)=>if args.length=c.params then
    (match c.rcl with
    |none=>none
    |some (cf,rc)=>(match pe T (ax T k) c.pre (bX args) S with
     |none=>none
     |some (fr1,S1)=>(match aY T (ax T k) [c.clo] fr1 S1 with
      |none=>none
      |some (fr2,S2)=>(match fr2 c.t with
       |.fn cf' caps=>if cf'=cf then
         (match dK T (ax T k) (mG T wt k) k c.rest fr2 S2 with
         |some (.exit _,_,_)=>none
         |some (.pan v,fr3,S3)=>ph T k c rc caps v S fr3 S3
         |some (.norm,fr3,S3)=>ph T k c rc caps .nili S fr3 S3
         |some (.ret,fr3,S3)=>ph T k c rc caps .nili S fr3 S3
         |none=>none)else none
       |_=>none))))else none
def xh{X:Tie}{k:Nat}{c:dg}{rc:aT}{caps:List PV}{pv:PV}{S S3:St}{fr3:Fr}{r:Rs}(h:ph X.T k c rc caps pv S fr3 S3=some r) :
  ∃S4 vs,mg X rc caps pv S3 S4∧bb fr3 S4 c.results=some vs∧Rs.ret (ac c.raw S S4 (bP vs)).1 (ac c.raw S S4 (bP vs)).2=r:=by
 unfold ph at h;split at h
 rotate_left
 ·cases h
 rename_i S4 hr;split at h
 rotate_left
 ·cases h
 rename_i vs hv;cases h;exact⟨S4,vs,XE hr,hv,rfl⟩
def Nm{X:Tie}(hX:bY X){wt:Nat→Option WF}(ht:∀f c,wt f=some (.code c)→∃fn,X.P.funcs[X.fnOf f]?=some fn∧eY X fn c=true)
  (htD:∀f c,wt f=some (.codeD c)→∃fn,X.P.funcs[X.fnOf f]?=some fn∧iY X fn c=true):∀(k f:Nat) (aq:List PV) (S:St) (r:Rs),mG X.T wt k f aq S=some r→ca X f aq S (fun q=>q=r):=by
 intro k
 induction k with
 |zero=>intro f aq S r h;simp[mG]at h
 |succ k ih=>
  intro f aq S r h;rw[mG]at h;split at h
  ·cases h
  ·rename_i c hc;obtain⟨fn,h1,h2⟩:=ht f c hc;split at h
   rotate_left
   ·cases h
   rename_i hl;refine tK hX h1 h2 hl ?_;split at h
   ·cases h
   ·rename_i v fr1 S1 hr;cases h;refine(nc hX ih k hr).1.mono fun e f s he=>?_;obtain⟨rfl,rfl,rfl⟩:=he;exact rfl
   ·rename_i fr1 S1 hr;split at h
    rotate_left
    ·cases h
    rename_i vs hv;cases h;refine(nc hX ih k hr).1.mono fun e f s he=>?_;obtain⟨rfl,rfl,rfl⟩:=he;exact⟨vs,hv,rfl⟩
   ·rename_i fr1 S1 hr;split at h
    rotate_left
    ·cases h
    rename_i vs hv;cases h;refine(nc hX ih k hr).1.mono fun e f s he=>?_;obtain⟨rfl,rfl,rfl⟩:=he;exact⟨vs,hv,rfl⟩
   ·cases h
  ·rename_i c hc;obtain⟨fn,h1,h2⟩:=htD f c hc;split at h
   rotate_left
   ·cases h
   rename_i hl;split at h
   ·cases h
   rename_i cf rc hrc;split at h
   ·cases h
   rename_i fr1 S1 hp;split at h
   ·cases h
   rename_i fr2 S2 hclo;split at h
   rotate_left
   ·cases h
   rename_i cf' caps hfr;split at h
   rotate_left
   ·cases h
   rename_i hcf;subst hcf;refine Pe hX h1 h2 hl hrc (Nl hp) (hJ (pR X.T k) hclo) hfr ?_;split at h
   ·cases h
   ·rename_i v fr3 S3 hr;refine(nc hX ih k hr).1.mono fun e f s he=>?_;obtain⟨rfl,rfl,rfl⟩:=he;exact xh h
   ·rename_i fr3 S3 hr;refine(nc hX ih k hr).1.mono fun e f s he=>?_;obtain⟨rfl,rfl,rfl⟩:=he;exact xh h
   ·rename_i fr3 S3 hr;refine(nc hX ih k hr).1.mono fun e f s he=>?_;obtain⟨rfl,rfl,rfl⟩:=he;exact xh h
   ·cases h
end Ps
