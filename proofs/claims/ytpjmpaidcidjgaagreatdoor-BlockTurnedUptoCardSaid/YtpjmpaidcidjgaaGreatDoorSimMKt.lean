/- Operations whose order is left open: every order that the text lets gives what the order of the text gives. -/
import Derived.Test.YtpjmpaidcidjgaaGreatDoorAbbKt
import Derived.Test.YtpjmpaidcidjgaaGreatDoorSimLKt
import Derived.Orders
set_option linter.defProp false
namespace Ps
set_option linter.unusedVariables false
set_option linter.unusedSimpArgs false
open Go
def aG.reads:aG→List Nat
 |.tmp t=>[t]
 |.cst _=>[]
def sU:Option aG→List Nat
 |some x=>x.reads
 |none=>[]
def bC.reads:bC→List Nat
 |.mov x|.nilck x|.eqn _ _ x|.un _ x|.toInt _ x|.strId x|.toStr x|.field _ _ _ x|.mkif _ x|.extract _ x|.assert _ _ _ x|.faddr _ x|.len _ x
 |.load _ _ _ x|.box _ x|.toBytes _ x|.mks _ _ x|.toStrO x|.emp3 x|.gclr _ _ x=>x.reads
 |.pick c a b=>c.reads++a.reads++b.reads
 |.arith _ x y|.eqb _ x y|.eqa _ _ _ x y|.eqs _ _ x y|.idxs x y|.idxa _ _ _ x y|.iaddr _ x y|.iaddra _ _ x y|.mnmx _ x y|.store _ x y|.app _ _ x y|.gapp _ _ x y=>x.reads++y.reads
 |.build _ ps=>ps.flatMap fun p=>p.2.2.reads
 |.mkfn _ cs=>cs.flatMap aG.reads
 |.slcs lo hi x|.slc _ lo hi x|.slca _ _ lo hi x=>sU lo++sU hi++x.reads
 |.alloc ..=>[]
 |.stb l _ x y=>l++(x.reads++y.reads)
 |.emp0=>[]
 |.bsl _ _ _ ps=>ps.flatMap fun p=>p.2.reads
 |.call _ _ xs=>xs.flatMap aG.reads
 |.loadb b _ _ x=>b::x.reads
 |.mkm=>[]
 |.mlk _ _ _ x k=>x.reads++k.reads
 |.mset _ x k v=>x.reads++(k.reads++v.reads)
 |.mdel _ x k=>x.reads++k.reads
 |.plk _ _ _ x k=>x.reads++k.reads
 |.wc l x xs=>l++(x.reads++xs.flatMap aG.reads)
 |.pan x=>x.reads
 |.rcv=>[]
 |.pset _ x k v=>x.reads++(k.reads++v.reads)
 |.mko _ _ _ x=>x.reads
 |.nst _ x=>x.reads
 |.msb l _ x k v=>l++(x.reads++(k.reads++v.reads))
 |.asrI _ x=>x.reads
 |.men _ x k=>x.reads++k.reads
 |.est x k v=>x.reads++(k.reads++v.reads)
 |.mlen x=>x.reads
 |.slc3 _ lo hi mx x=>sU lo++(hi.reads++(mx.reads++x.reads))
 |.mkbfn _ cs=>cs.flatMap aG.reads
 |.callb b _ xs=>b::xs.flatMap aG.reads
 |.callv _ x xs|.inv _ _ x xs=>x.reads++xs.flatMap aG.reads
 |.bad=>[]
def aA.reads(p:aA):List Nat:=p.op.reads++(match p.guard with|some (t,_)=>[t]|none=>[])
def bQ{fr fr':Fr}{x:aG}(h:∀t∈x.reads,fr t=fr' t):ev fr x=ev fr' x:=by
 cases x with
 |tmp t=>exact h t (by simp[aG.reads])
 |cst v=>rfl
def mQ{fr fr':Fr}{x:Option aG}(h:∀t∈sU x,fr t=fr' t):bj fr x=bj fr' x:=by
 cases x with
 |none=>rfl
 |some x=>simp only[bj];rw[bQ h]
def mR{fr fr':Fr}{xs:List aG}(h:∀t∈xs.flatMap aG.reads,fr t=fr' t):xs.map (ev fr)=xs.map (ev fr'):=
 qi fun x hx=>bQ fun t ht=>h t (List.mem_flatMap.2 ⟨x,hx,ht⟩)
theorem OU{fr fr':Fr}:∀(ps:List (Nat×Nat×aG)) (cs:List PV),(∀t∈ps.flatMap (fun p=>p.2.2.reads),fr t=fr' t)→ff fr ps cs=ff fr' ps cs
 | [],_,_=>rfl
 |(off,n,x)::ps,cs,h=>by
  simp only[ff];rw[bQ (fr:=fr) (fr':=fr') (fun t ht=>h t (by simp[ht]))];rw[OU ps _ (fun t ht=>h t (by simp only[dB,bn];exact .inr ht))]
theorem yK{fr fr':Fr}(sz:Nat):∀(ps:List (Nat×aG)) (cs:List PV),(∀t∈ps.flatMap (fun p=>p.2.reads),fr t=fr' t)→eP fr sz ps cs=eP fr' sz ps cs
 | [],_,_=>rfl
 |(i,x)::ps,cs,h=>by
  simp only[eP];rw[bQ (fr:=fr) (fr':=fr') (fun t ht=>h t (by simp[ht]))];rw[yK sz ps _ (fun t ht=>h t (by simp only[dB,bn];exact .inr ht))]
def OV{fr fr':Fr}{l:List Nat}{id:Nat}(h:∀t∈l,fr t=fr' t):nN fr l id=nN fr' l id:=by
 unfold nN;rw[qa,List.all_eq_true,List.all_eq_true];exact⟨fun q t ht=>by rw[←h t ht];exact q t ht,fun q t ht=>by rw[h t ht];exact q t ht⟩
def YU{T:aM}{call:aX}{fr fr':Fr}{S:St}{op:bC}(h:∀t∈op.reads,fr t=fr' t):aH T call fr S op=aH T call fr' S op:=by
  cases op
  case load ag n mix x=>
    have e:=bQ (fr:=fr) (fr':=fr') (x:=x) h;cases mix<;>simp only[aH,aQ,e]
  case mkm=>rfl
  case emp0=>rfl
  case mkbfn f cs=>simp only[aH,aQ];rw[mR h]
  case mlk ks ok z x k=>
    simp only[bC.reads,bn]at h;have e1:=bQ (fr:=fr) (fr':=fr') (x:=x) (fun t ht=>h t (.inl ht));have e2:=bQ (fr:=fr) (fr':=fr') (x:=k) (fun t ht=>h t (.inr ht));simp only[aH,e1,e2]
  case mset ks x k v=>
    simp only[bC.reads,bn]at h;have e1:=bQ (fr:=fr) (fr':=fr') (x:=x) (fun t ht=>h t (.inl ht));have e2:=bQ (fr:=fr) (fr':=fr') (x:=k) (fun t ht=>h t (.inr (.inl ht)));have e3:=bQ (fr:=fr) (fr':=fr') (x:=v) (fun t ht=>h t (.inr (.inr ht)));simp only[aH,e1,e2,e3]
  case wc l x xs=>rfl
  case pan x=>rfl
  case rcv=>rfl
  case plk ar ok z x k=>
    simp only[bC.reads,bn]at h;have e1:=bQ (fr:=fr) (fr':=fr') (x:=x) (fun t ht=>h t (.inl ht));have e2:=bQ (fr:=fr) (fr':=fr') (x:=k) (fun t ht=>h t (.inr ht));simp only[aH,e1,e2]
  case pset ar x k v=>
    simp only[bC.reads,bn]at h;have e1:=bQ (fr:=fr) (fr':=fr') (x:=x) (fun t ht=>h t (.inl ht));have e2:=bQ (fr:=fr) (fr':=fr') (x:=k) (fun t ht=>h t (.inr (.inl ht)));have e3:=bQ (fr:=fr) (fr':=fr') (x:=v) (fun t ht=>h t (.inr (.inr ht)));simp only[aH,e1,e2,e3]
  case mko sz bytes z x=>
    have e1:=bQ (fr:=fr) (fr':=fr') (x:=x) h;simp only[aH,e1]
  case nst n x=>
    have e1:=bQ (fr:=fr) (fr':=fr') (x:=x) h;simp only[aH,e1]
  case msb l ks x k v=>
    simp only[bC.reads,bn]at h;have e1:=bQ (fr:=fr) (fr':=fr') (x:=x) (fun t ht=>h t (.inr (.inl ht)));have e2:=bQ (fr:=fr) (fr':=fr') (x:=k) (fun t ht=>h t (.inr (.inr (.inl ht))));have e3:=bQ (fr:=fr) (fr':=fr') (x:=v) (fun t ht=>h t (.inr (.inr (.inr ht))));simp only[aH,e1,e2,e3,fun id=>OV (fr:=fr) (fr':=fr') (l:=l) (id:=id) (fun t ht=>h t (.inl ht))]
  case men z x k=>
    simp only[bC.reads,bn]at h;have e1:=bQ (fr:=fr) (fr':=fr') (x:=x) (fun t ht=>h t (.inl ht));have e2:=bQ (fr:=fr) (fr':=fr') (x:=k) (fun t ht=>h t (.inr ht));simp only[aH,e1,e2]
  case est x k v=>
    simp only[bC.reads,bn]at h;have e1:=bQ (fr:=fr) (fr':=fr') (x:=x) (fun t ht=>h t (.inl ht));have e2:=bQ (fr:=fr) (fr':=fr') (x:=k) (fun t ht=>h t (.inr (.inl ht)));have e3:=bQ (fr:=fr) (fr':=fr') (x:=v) (fun t ht=>h t (.inr (.inr ht)));simp only[aH,e1,e2,e3]
  case mdel ks x k=>
    simp only[bC.reads,bn]at h;have e1:=bQ (fr:=fr) (fr':=fr') (x:=x) (fun t ht=>h t (.inl ht));have e2:=bQ (fr:=fr) (fr':=fr') (x:=k) (fun t ht=>h t (.inr ht));simp only[aH,e1,e2]
  case mlen x=>
    have e1:=bQ (fr:=fr) (fr':=fr') (x:=x) h;simp only[aH,e1]
  case slc3 sz lo hi mx x=>
    simp only[bC.reads,bn]at h;have e1:=mQ (fr:=fr) (fr':=fr') (x:=lo) (fun t ht=>h t (.inl ht));have e2:=bQ (fr:=fr) (fr':=fr') (x:=hi) (fun t ht=>h t (.inr (.inl ht)));have e3:=bQ (fr:=fr) (fr':=fr') (x:=mx) (fun t ht=>h t (.inr (.inr (.inl ht))));have e4:=bQ (fr:=fr) (fr':=fr') (x:=x) (fun t ht=>h t (.inr (.inr (.inr ht))));simp only[aH,e1,e2,e3,e4]
  case loadb b ag n x=>
    have e0:fr b=fr' b:=h b (by simp[bC.reads]);have e:=bQ (fr:=fr) (fr':=fr') (x:=x) (fun t ht=>h t (by simp[bC.reads,ht]));simp only[aH,e0,e]
  case callb b f xs=>
    have e0:fr b=fr' b:=h b (by simp[bC.reads]);have e:=mR (fr:=fr) (fr':=fr') (xs:=xs) (fun t ht=>h t (by simp only[bC.reads,cY];exact .inr ht));simp only[aH,e0,e]
  case stb l m x y=>
    simp only[bC.reads,bn]at h;have e1:=bQ (fr:=fr) (fr':=fr') (x:=x) (fun t ht=>h t (.inr (.inl ht)));have e2:=bQ (fr:=fr) (fr':=fr') (x:=y) (fun t ht=>h t (.inr (.inr ht)));simp only[aH,e1,e2,fun id=>OV (fr:=fr) (fr':=fr') (l:=l) (id:=id) (fun t ht=>h t (.inl ht))]
  case build z ps=>simp only[aH,aQ];rw[OU ps z h]
  case bsl ro ze len ps=>simp only[aH,cx];rw[yK _ ps _ h]
  case alloc=>rfl
  case bad=>rfl
  case pick c x y=>
    simp only[bC.reads,bn]at h;have e1:=bQ (fr:=fr) (fr':=fr') (x:=c) (fun t ht=>h t (.inl (.inl ht)));have e2:=bQ (fr:=fr) (fr':=fr') (x:=x) (fun t ht=>h t (.inl (.inr ht)));have e3:=bQ (fr:=fr) (fr':=fr') (x:=y) (fun t ht=>h t (.inr ht));simp only[aH,aQ,e1,e2,e3]
  case mkfn f cs=>simp only[aH,aQ];rw[mR h]
  case call _ f xs=>simp only[aH];rw[mR h]
  case callv _ x xs=>
    simp only[bC.reads,bn]at h;have e1:=bQ (fr:=fr) (fr':=fr') (x:=x) (fun t ht=>h t (.inl ht));have e2:=mR (fr:=fr) (fr':=fr') (xs:=xs) (fun t ht=>h t (.inr ht));simp only[aH,e1,e2]
  case inv _ m x xs=>
    simp only[bC.reads,bn]at h;have e1:=bQ (fr:=fr) (fr':=fr') (x:=x) (fun t ht=>h t (.inl ht));have e2:=mR (fr:=fr) (fr':=fr') (xs:=xs) (fun t ht=>h t (.inr ht));simp only[aH,e1,e2]
  case slcs lo hi x=>
    simp only[bC.reads,bn]at h;have e1:=mQ (fr:=fr) (fr':=fr') (x:=lo) (fun t ht=>h t (.inl (.inl ht)));have e2:=mQ (fr:=fr) (fr':=fr') (x:=hi) (fun t ht=>h t (.inl (.inr ht)));have e3:=bQ (fr:=fr) (fr':=fr') (x:=x) (fun t ht=>h t (.inr ht));simp only[aH,aQ,e1,e2,e3]
  case slc sz lo hi x=>
    simp only[bC.reads,bn]at h;have e1:=mQ (fr:=fr) (fr':=fr') (x:=lo) (fun t ht=>h t (.inl (.inl ht)));have e2:=mQ (fr:=fr) (fr':=fr') (x:=hi) (fun t ht=>h t (.inl (.inr ht)));have e3:=bQ (fr:=fr) (fr':=fr') (x:=x) (fun t ht=>h t (.inr ht));simp only[aH,aQ,e1,e2,e3]
  case slca len sz lo hi x=>
    simp only[bC.reads,bn]at h;have e1:=mQ (fr:=fr) (fr':=fr') (x:=lo) (fun t ht=>h t (.inl (.inl ht)));have e2:=mQ (fr:=fr) (fr':=fr') (x:=hi) (fun t ht=>h t (.inl (.inr ht)));have e3:=bQ (fr:=fr) (fr':=fr') (x:=x) (fun t ht=>h t (.inr ht));simp only[aH,aQ,e1,e2,e3]
  case len st x=>
    have e:=bQ (fr:=fr) (fr':=fr') (x:=x) h;cases st<;>simp only[aH,aQ,e]
  all_goals first
    | (rename_i x
       have e:=bQ (fr:=fr) (fr':=fr') (x:=x) h
       simp only[aH,aQ,e];done)
    | (rename_i x y
       simp only[bC.reads,bn]at h;have e1:=bQ (fr:=fr) (fr':=fr') (x:=x) (fun t ht=>h t (.inl ht));have e2:=bQ (fr:=fr) (fr':=fr') (x:=y) (fun t ht=>h t (.inr ht));simp only[aH,aQ,e1,e2];done)
def OW{T:aM}{call:aX}{fr:Fr}{op:bC}(h:gy op=true):∃q,∀S,aH T call fr S op=ck S q:=by
 cases op<;>simp only[gy,lm]at h<;>try (cases h;done)
 case load ag n mix x=>subst h;exact⟨_,fun S=>by simp only[aH];rfl⟩
 case box ro x=>
  subst h;refine⟨if(ev fr x).cells.all PV.one then some (.ref (ev fr x).cells)else none,fun S=>?_⟩;simp only[aH,if_true];split<;>rfl
 case alloc ro z=>
  subst h;refine⟨if z.all PV.one then some (.ref z)else none,fun S=>?_⟩;simp only[aH,if_true];split<;>rfl
 case bsl ro ze len ps=>
  subst h;refine⟨match cx fr ze len ps with|some es=>some (.sl none es [])|none=>none,fun S=>?_⟩;simp only[aH,if_true];cases he:cx fr ze len ps<;>rfl
 case emp0=>exact⟨some .emp,fun S=>rfl⟩
 case toBytes ro x=>
  subst h;refine⟨match ev fr x with|.str s=>some (.sl none (aJ s) [])|_=>none,fun S=>?_⟩;simp only[aH,if_true];cases he:ev fr x<;>rfl
 case call m f xs=>
  simp only[beq_iff_eq]at h;subst h;exact⟨gT call f (xs.map (ev fr)),fun S=>rfl⟩
 case callv m x xs=>
  simp only[beq_iff_eq]at h;subst h;refine⟨match ev fr x with|.fn f caps=>gT call f (xs.map (ev fr)++caps)|.bfn f first=>gT call f (first++xs.map (ev fr))|_=>none,fun S=>?_⟩;simp only[aH];cases he:ev fr x<;>rfl
 case inv cm m x xs=>
  simp only[beq_iff_eq]at h;subst h;refine⟨match ev fr x with|.iface t v=>(match T.meth t m with|some f=>gT call f (v::xs.map (ev fr))|none=>none)|_=>none,fun S=>?_⟩;simp only[aH];cases he:ev fr x<;>try rfl
  rename_i t v;simp only;cases hm:T.meth t m<;>rfl
 all_goals exact⟨_,fun S=>by simp only[aH];rfl⟩
def sV:bC→Bool
 |.load _ _ false _=>true
 |.loadb ..=>true
 |.mlk ..=>true
 |.mlen _=>true
 |.toStrO _=>true
 |_=>false
def sW:bC→Bool
 |.call m _ _|.callv m _ _|.inv m _ _ _=>m==.keep
 |.box ..|.alloc ..|.bsl ..|.app ..|.toBytes ..|.mks ..|.mkm|.slc3 ..=>true
 |_=>false
def yL:bC→bC→Bool
 |.loadb b _ _ _,.callb c _ _=>b==c
 |.loadb b _ _ _,.stb l _ _ _=>l.contains b
 |.loadb b _ _ _,.msb l _ _ _ _=>l.contains b
 |_,_=>false
def yM:bC→bC→Bool
 |.callb c _ _,.loadb b _ _ _=>b==c
 |_,_=>false
def sX:bC→bC→Bool
 |.mks ..,.alloc ..=>true
 |.app ..,.alloc ..=>true
 |_,_=>false
def fE(p q:aA):Bool:=
 (match p.dst with|some d=>!q.reads.contains d&&q.dst != some d|none=>true) &&
 (match q.dst with|some d=>!p.reads.contains d|none=>true) &&
 (gy p.op||gy q.op||(sV p.op&&(sV q.op||sW q.op))||yL p.op q.op||yM p.op q.op||sX p.op q.op)
def sY{fr:Fr}{d e:Option Nat}{u v:PV}(h:∀t,d=some t→e≠some t):aO (aO fr d u) e v=aO (aO fr e v) d u:=by
 cases d with
 |none=>rfl
 |some d=>
  cases e with
  |none=>rfl
  |some e=>
   have hne:d≠e:=fun he=>h d rfl (he▸rfl);funext t;simp only[aO,cg];by_cases h1:t=e
   ·subst h1;simp[Ne.symm hne]
   ·simp[h1]
def jw{fr:Fr}{d:Option Nat}{u:PV}{t:Nat}(h:d≠some t):aO fr d u t=fr t:=by
 cases d with
 |none=>rfl
 |some d=>
  simp only[aO,cg];rw[if_neg (fun e=>h (by rw[e]))]
def YV{fr fr':Fr}{gd:Option (Nat×Bool)}(h:∀t b,gd=some (t,b)→fr t=fr' t):bW fr gd=bW fr' gd:=by
 cases gd with
 |none=>rfl
 |some q=>obtain⟨t,b⟩:=q;simp only[bW,h t b rfl]
def av(T:aM)(call:aX)(p:aA)(fr:Fr)(S:St):Option (PV×St):=
 match bW fr p.guard with
 |none=>none
 |some false=>some (.tup [],S)
 |some true=>aH T call fr S p.op
def cX{T:aM}{call:aX}{p:aA}{l:List aA}{fr:Fr}{S:St} :
  aY T call (p::l) fr S=match av T call p fr S with|some (v,S')=>aY T call l (aO fr p.dst v) S'|none=>none:=by
 simp only[aY,av]
 cases bW fr p.guard with
 |none=>rfl
 |some b=>cases b<;>rfl
def pu{T:aM}{call:aX}{p:aA}{fr fr':Fr}{S:St}(h:∀t∈p.reads,fr t=fr' t):av T call p fr S=av T call p fr' S:=by
 simp only[av];rw[YV (fr:=fr) (fr':=fr') (fun t b hb=>h t (by simp[aA.reads,hb]))];rw[YU (fr:=fr) (fr':=fr') (fun t ht=>h t (by simp[aA.reads,ht]))]
def mS{T:aM}{call:aX}{p:aA}{fr:Fr}{S S1:St}{v:PV}(hp:gy p.op=true)(h:av T call p fr S=some (v,S1)):S1=S∧∀S2,av T call p fr S2=some (v,S2):=by
 simp only[av]at h ⊢;split at h
 ·cases h
 ·cases h;exact⟨rfl,fun _=>rfl⟩
 ·obtain⟨q,hq⟩:=OW (T:=T) (call:=call) (fr:=fr) hp;rw[hq]at h;obtain⟨h1,h2⟩:=yE h;refine⟨h1,fun S2=>?_⟩;rw[hq,h2];rfl
mutual
theorem OX:∀(a b:PV),PV.beq a b=true→a=b
 |.und,b,h=>by cases b<;>first|rfl|(simp[PV.beq]at h)
 |.int k n,b,h=>by cases b<;>simp[PV.beq]at h;simp[h]
 |.bool x,b,h=>by cases b<;>simp[PV.beq]at h;simp[h]
 |.str s,b,h=>by cases b<;>simp[PV.beq]at h;simp[h]
 |.nilp,b,h=>by cases b<;>first|rfl|(simp[PV.beq]at h)
 |.nils,b,h=>by cases b<;>first|rfl|(simp[PV.beq]at h)
 |.nili,b,h=>by cases b<;>first|rfl|(simp[PV.beq]at h)
 |.nilf,b,h=>by cases b<;>first|rfl|(simp[PV.beq]at h)
 |.ptr i o,b,h=>by cases b<;>simp[PV.beq]at h;simp[h]
 |.ref cs,b,h=>by
  cases b<;>simp only[PV.beq]at h<;>try (cases h;done)
  rw[gW _ _ h]
 |.sl t es sp,b,h=>by
  cases b<;>simp only[PV.beq,aI,beq_iff_eq]at h<;>try (cases h;done)
  obtain⟨⟨rfl,h1⟩,h2⟩:=h
  rw[gW _ _ h1,gW _ _ h2]
 |.osl i o l s,b,h=>by cases b<;>simp[PV.beq]at h;simp[h]
 |.emp,b,h=>by cases b<;>first|rfl|(simp[PV.beq]at h)
 |.iface t v,b,h=>by
  cases b<;>simp only[PV.beq,aI,beq_iff_eq]at h<;>try (cases h;done)
  obtain⟨rfl,h1⟩:=h
  rw[OX _ _ h1]
 |.agg cs,b,h=>by
  cases b<;>simp only[PV.beq]at h<;>try (cases h;done)
  rw[gW _ _ h]
 |.tup cs,b,h=>by
  cases b<;>simp only[PV.beq]at h<;>try (cases h;done)
  rw[gW _ _ h]
 |.fn f cs,b,h=>by
  cases b<;>simp only[PV.beq,aI,beq_iff_eq]at h<;>try (cases h;done)
  obtain⟨rfl,h1⟩:=h
  rw[gW _ _ h1]
 |.nilm,b,h=>by cases b<;>first|rfl|(simp[PV.beq]at h)
 |.map i,b,h=>by cases b<;>simp[PV.beq]at h;simp[h]
 |.hnd i,b,h=>by cases b<;>simp[PV.beq]at h;simp[h]
 |.bfn f cs,b,h=>by
  cases b<;>simp only[PV.beq,aI,beq_iff_eq]at h<;>try (cases h;done)
  obtain⟨rfl,h1⟩:=h;rw[gW _ _ h1]
theorem gW:∀(a b:List PV),PV.beqL a b=true→a=b
 | [],b,h=>by cases b<;>first|rfl|(simp[PV.beqL]at h)
 |x::l,b,h=>by
  cases b<;>simp only[PV.beqL,aI]at h<;>try (cases h;done)
  rw[OX _ _ h.1,gW _ _ h.2]
end
theorem jL:∀{a b:List (List PV)},PV.beqLL a b=true→a=b
 | [],[],_=>rfl
 |a::l,b::m,h=>by
  simp only[PV.beqLL,aI]at h
  rw[gW _ _ h.1,jL h.2]
 | [],_::_,h=>by simp[PV.beqLL]at h
 |_::_,[],h=>by simp[PV.beqLL]at h
def YW{T:aM}{call:aX}{fr:Fr}{S S1:St}{v:PV}{op:bC}(hp:sV op=true)(h:aH T call fr S op=some (v,S1)) :
  S1=S∧∀S2,S2.objs.take S.objs.length=S.objs→aH T call fr S2 op=some (v,S2):=by
 cases op
 case load ag n mix x=>
  cases mix
  ·simp only[aH]at h ⊢;cases he:ev fr x<;>rw[he]at h<;>simp only at h<;>try (cases h;done)
   case ref cs=>
    cases hq:ap ag n cs with
    |none=>rw[hq]at h;cases h
    |some q=>rw[hq]at h;cases h;exact⟨rfl,fun S2 _=>by simp[hq]⟩
   case ptr id off=>
    cases hc:S.objs[id]? with
    |none=>rw[hc]at h;cases h
    |some cs=>
     rw[hc]at h;simp only at h
     cases hq:ap ag n (cs.drop off)with
     |none=>rw[hq]at h;cases h
     |some q=>
      rw[hq]at h;cases h;refine⟨rfl,fun S2 hS2=>?_⟩;have hlt:id<S.objs.length:=(aL.1 hc).1;have:S2.objs[id]?=some cs:=by rw[←hc,←hS2,cT hlt]
      simp[this,hq]
  ·cases hp
 case mlk ks ok z x k=>
  simp only[aH]at h ⊢;split at h
  ·rename_i hk;simp only[if_pos hk];split at h
   ·cases h;exact⟨rfl,fun S2 _=>rfl⟩
   ·rename_i id e;split at h
    ·rename_i cs hc;split at h
     ·rename_i r hr;cases h;refine⟨rfl,fun S2 hS2=>?_⟩;have hlt:id<S.objs.length:=(aL.1 hc).1;have:S2.objs[id]?=some cs:=by rw[←hc,←hS2,cT hlt]
      simp[this,hr]
     ·cases h
    ·cases h
   ·cases h
  ·cases h
 case mlen x=>
  simp only[aH]at h ⊢;split at h
  ·cases h;exact⟨rfl,fun S2 _=>rfl⟩
  ·rename_i id e;split at h
   ·rename_i cs hc;cases h;refine⟨rfl,fun S2 hS2=>?_⟩;have hlt:id<S.objs.length:=(aL.1 hc).1;have:S2.objs[id]?=some cs:=by rw[←hc,←hS2,cT hlt]
    simp[this]
   ·cases h
  ·cases h
 case toStrO x=>
  simp only[aH]at h ⊢;split at h
  ·rename_i id off len sz he;split at h
   ·rename_i cs hc;split at h
    ·rename_i hq;split at h
     ·rename_i s hs;cases h;refine⟨rfl,fun S2 hS2=>?_⟩;have hlt:id<S.objs.length:=(aL.1 hc).1;have:S2.objs[id]?=some cs:=by rw[←hc,←hS2,cT hlt]
      simp[this,hq,hs]
     ·cases h
    ·cases h
   ·cases h
  ·cases h;exact⟨rfl,fun S2 _=>rfl⟩
  ·cases h;exact⟨rfl,fun S2 _=>rfl⟩
  ·split at h
   ·rename_i s hs;cases h;exact⟨rfl,fun S2 _=>by simp[hs]⟩
   ·cases h
  ·cases h
 case loadb b ag n x=>
  simp only[aH]at h ⊢;split at h
  ·rename_i i o id off hb he;split at h
   ·rename_i hid;split at h
    ·rename_i cs hc;split at h
     ·rename_i v' hq;cases h;refine⟨rfl,fun S2 hS2=>?_⟩;have hlt:id<S.objs.length:=(aL.1 hc).1;have:S2.objs[id]?=some cs:=by rw[←hc,←hS2,cT hlt]
      simp[hb,he,hid,this,hq]
     ·cases h
    ·cases h
   ·cases h
  ·cases h
 all_goals cases hp
def OY{S S1:St}{cs:List PV}{v:PV}(h:cR S cs=(v,S1)):S1.objs.take S.objs.length=S.objs:=by
 cases h;simp
def pw{S S1:St}{sz:Nat}{cs:List PV}{v:PV}(h:dF S sz cs=(v,S1)):S1.objs.take S.objs.length=S.objs:=by
 cases h;simp
def sZ{S S1:St}{ro:Bool}{q:PV×St}{r v:PV}(hq:∀v S1,q=(v,S1)→S1.objs.take S.objs.length=S.objs)(h:(if ro then(r,S)else q)=(v,S1)):S1.objs.take S.objs.length=S.objs:=by
 cases ro
 ·exact hq v S1 (by simpa using h)
 ·simp only[if_true]at h;cases h;simp
def sa{call:aX}{f:Nat}{args:List PV}{S S1:St}{v:PV}(h:cE call .keep f args S=some (v,S1)):S1.objs.take S.objs.length=S.objs:=by
 simp only[cE,lr]at h;split at h
 ·cases h
 ·simp only[if_true]at h;split at h
  ·rename_i hb;cases h;exact jL hb
  ·cases h
def YX{T:aM}{call:aX}{fr:Fr}{S S1:St}{v:PV}{op:bC}(hp:sW op=true)(h:aH T call fr S op=some (v,S1)):S1.objs.take S.objs.length=S.objs:=by
 cases op<;>simp only[sW]at hp<;>try (cases hp;done)
 case call m f xs=>
  simp only[beq_iff_eq]at hp;subst hp;simp only[aH]at h;exact sa h
 case callv m x xs=>
  simp only[beq_iff_eq]at hp;subst hp;simp only[aH]at h;split at h
  ·exact sa h
  ·exact sa h
  ·cases h
 case inv cm m x xs=>
  simp only[beq_iff_eq]at hp;subst hp;simp only[aH]at h;split at h
  ·split at h
   ·exact sa h
   ·cases h
  ·cases h
 case mkm=>simp only[aH]at h;cases h;simp
 case slc3 sz lo hi mx x=>
  simp only[aH]at h;unfold rb at h;split at h
  ·split at h
   ·cases h;simp
   ·cases h
  ·split at h
   ·split at h
    ·split at h
     ·split at h
      ·split at h
       ·cases h;simp
       ·cases h
      ·cases h
     ·cases h
    ·cases h
   ·cases h
  ·cases h
 case box ro x=>
  simp only[aH]at h;split at h
  ·exact sZ (fun _ _=>OY) (gh h)
  ·cases h
 case alloc ro z=>
  simp only[aH]at h;split at h
  ·exact sZ (fun _ _=>OY) (gh h)
  ·cases h
 case bsl ro ze len ps=>
  simp only[aH]at h;split at h
  ·exact sZ (fun _ _=>pw) (gh h)
  ·cases h
 case toBytes ro x=>
  simp only[aH]at h;split at h
  ·exact sZ (fun _ _=>pw) (gh h)
  ·cases h
 case mks sz bytes c=>
  simp only[aH]at h;split at h
  ·split at h
   ·exact pw (gh h)
   ·cases h
  ·cases h
 case app sz bytes s x=>
  simp only[aH]at h;split at h
  ·split at h
   ·unfold dT at h;split at h
    ·split at h
     ·cases h;simp
     ·split at h
      ·exact pw (gh h)
      ·cases h
    ·split at h
     ·cases h;simp
     ·split at h
      ·split at h
       ·cases h;simp
       ·cases h
      ·cases h
    ·split at h
     ·cases h;simp
     ·split at h
      ·exact pw (gh h)
      ·cases h
    ·cases h
   ·cases h
  ·cases h
def sb{T:aM}{call:aX}{p:aA}{fr:Fr}{S S1:St}{v:PV}(hp:sV p.op=true)(h:av T call p fr S=some (v,S1)) :
  S1=S∧∀S2,S2.objs.take S.objs.length=S.objs→av T call p fr S2=some (v,S2):=by
 simp only[av]at h ⊢;split at h
 ·cases h
 ·cases h;exact⟨rfl,fun _ _=>rfl⟩
 ·exact YW hp h
def YY{T:aM}{call:aX}{p:aA}{fr:Fr}{S S1:St}{v:PV}(hp:sW p.op=true)(h:av T call p fr S=some (v,S1)):S1.objs.take S.objs.length=S.objs:=by
 simp only[av]at h;split at h
 ·cases h
 ·cases h;simp
 ·exact YX hp h
def YZ{T:aM}{call:aX}{p q:aA}{fr:Fr}{S S1 S2:St}{v u:PV}(hb:yL p.op q.op=true)(hp:av T call p fr S=some (v,S1))(hq:av T call q fr S1=some (u,S2)) :
  S1=S∧av T call p fr S2=some (v,S2):=by
 obtain⟨pd,pop,pg⟩:=p;obtain⟨qd,qop,qg⟩:=q;cases pop<;>simp only[yL]at hb<;>try (cases hb;done)
 cases qop<;>simp only at hb<;>try (cases hb;done)
 ·rename_i b ag n x l m y z;have hb:b∈l:=by simpa using hb
  simp only[av]at hp hq ⊢;split at hp
  ·cases hp
  ·cases hp;exact⟨rfl,rfl⟩
  ·simp only[aH]at hp;split at hp
   ·rename_i i o id off e0 e1;split at hp
    ·rename_i hid;subst hid;split at hp
     ·rename_i cs hcs;split at hp
      ·rename_i v' hv;cases hp;refine⟨rfl,?_⟩
       have hS2:S2.objs[i]?=some cs:=by
        split at hq
        ·cases hq
        ·cases hq;exact hcs
        ·simp only[aH]at hq;split at hq
         ·split at hq
          ·split at hq
           ·rename_i id off _ _ _ hcond;cases hq;have hne:=(List.all_eq_true.1 hcond.1) b hb;rw[e0]at hne;simp only[bne_iff_ne,ne_eq]at hne;rw[bq (Ne.symm hne)];exact hcs
           ·cases hq
          ·cases hq
         ·cases hq
       simp[aH,e0,e1,hS2,hv]
      ·cases hp
     ·cases hp
    ·cases hp
   ·cases hp
 ·rename_i b ag n x l ks y z u';have hb:b∈l:=by simpa using hb
  simp only[av]at hp hq ⊢;split at hp
  ·cases hp
  ·cases hp;exact⟨rfl,rfl⟩
  ·simp only[aH]at hp;split at hp
   ·rename_i i o id off e0 e1;split at hp
    ·rename_i hid;subst hid;split at hp
     ·rename_i cs hcs;split at hp
      ·rename_i v' hv;cases hp;refine⟨rfl,?_⟩
       have hS2:S2.objs[i]?=some cs:=by
        split at hq
        ·cases hq
        ·cases hq;exact hcs
        ·simp only[aH]at hq;split at hq
         ·split at hq
          ·split at hq
           ·split at hq
            ·rename_i id off _ _ _ _ hcond;cases hq;have hne:=(List.all_eq_true.1 hcond.1) b hb;rw[e0]at hne;simp only[bne_iff_ne,ne_eq]at hne;rw[bq (Ne.symm hne)];exact hcs
            ·cases hq
           ·cases hq
          ·cases hq
         ·cases hq
       simp[aH,e0,e1,hS2,hv]
      ·cases hp
     ·cases hp
    ·cases hp
   ·cases hp
 rename_i b ag n x c f xs;have hb:b=c:=by simpa using hb
 subst hb;simp only[av]at hp hq ⊢;split at hp
 ·cases hp
 ·cases hp;exact⟨rfl,rfl⟩
 ·simp only[aH]at hp;split at hp
  ·rename_i i o id off e0 e1;split at hp
   ·rename_i hid;subst hid;split at hp
    ·rename_i cs hcs;split at hp
     ·rename_i v' hv;cases hp;refine⟨rfl,?_⟩
      have hS2:S2.objs[i]?=some cs:=by
       split at hq
       ·cases hq
       ·cases hq;exact hcs
       ·simp only[aH,e0]at hq
        cases hcall:call f (xs.map (ev fr)) S with
        |none=>rw[hcall]at hq;cases hq
        |some y=>
         obtain⟨u',S'⟩:=y;rw[hcall]at hq;simp only[lu,hcs]at hq;split at hq
         ·rename_i a1 a2 g1 g2;cases g1;split at hq
          ·rename_i hbe;cases hq;rw[g2,gW _ _ hbe]
          ·cases hq
         ·cases hq
      simp[aH,e0,e1,hS2,hv]
     ·cases hp
    ·cases hp
   ·cases hp
  ·cases hp
def Ya{T:aM}{call:aX}{p q:aA}{fr:Fr}{S S1 S2:St}{v u:PV}(hb:yM p.op q.op=true)(hp:av T call p fr S=some (v,S1))(hq:av T call q fr S1=some (u,S2)) :
  av T call q fr S=some (u,S)∧S2=S1:=by
 obtain⟨pd,pop,pg⟩:=p;obtain⟨qd,qop,qg⟩:=q;cases pop<;>simp only[yM]at hb<;>try (cases hb;done)
 cases qop<;>simp only at hb<;>try (cases hb;done)
 rename_i c f xs b ag n x;have hb:b=c:=by simpa using hb
 subst hb;simp only[av]at hp hq ⊢;split at hq
 ·cases hq
 ·cases hq;exact⟨rfl,rfl⟩
 ·simp only[aH]at hq;split at hq
  ·rename_i i o id off e0 e1;split at hq
   ·rename_i hid;subst hid;split at hq
    ·rename_i cs hcs;split at hq
     ·rename_i v' hv;cases hq;refine⟨?_,rfl⟩
      have hS:S.objs[i]?=some cs:=by
       split at hp
       ·cases hp
       ·cases hp;exact hcs
       ·simp only[aH,e0]at hp
        cases hcall:call f (xs.map (ev fr)) S with
        |none=>rw[hcall]at hp;cases hp
        |some y=>
         obtain⟨u',S'⟩:=y;rw[hcall]at hp;simp only[lu]at hp;split at hp
         ·rename_i a1 a2 g1 g2;split at hp
          ·rename_i hbe;cases hp;rw[hcs]at g2;cases g2;rw[g1,gW _ _ hbe]
          ·cases hp
         ·cases hp
      simp[aH,e0,e1,hS,hv]
     ·cases hq
    ·cases hq
   ·cases hq
  ·cases hq
def Yb{sz bytes:Nat}{S S1:St}{s v:PV}{new:List PV}(h:dT sz bytes S s new=some (v,S1)):S1.objs=S.objs∧∀o,dT sz bytes ⟨o,S.tips⟩ s new=some (v,⟨o,S1.tips⟩):=by
 unfold dT at h ⊢;split at h
 ·split at h
  ·rename_i hn;cases h;exact⟨rfl,fun o=>by simp[hn]⟩
  ·rename_i hn;split at h
   ·rename_i hb;cases h;exact⟨rfl,fun o=>by simp[hn,hb,dF]⟩
   ·cases h
 ·split at h
  ·rename_i hn;cases h;exact⟨rfl,fun o=>by simp[hn]⟩
  ·rename_i hn;split at h
   ·rename_i id e;split at h
    ·rename_i hb;cases h;exact⟨rfl,fun o=>by simp[hn,hb]⟩
    ·cases h
   ·cases h
 ·split at h
  ·rename_i hn;cases h;exact⟨rfl,fun o=>by simp[hn]⟩
  ·rename_i hn;split at h
   ·rename_i hb;cases h;exact⟨rfl,fun o=>by simp[hn,hb,dF]⟩
   ·cases h
 ·cases h
def Yc{S:St}{sz:Nat}{x:PV}{new:List PV}(h:dS S sz x=some new)(cs:List (List PV))(y:List (Nat×Nat)):dS ⟨S.objs++cs,y⟩ sz x=some new:=by
 unfold dS at h ⊢;split at h
 ·rename_i id off len sz';split at h
  ·rename_i c hc;simp only;rw[aw (aL.1 hc).1,hc];exact h
  ·cases h
 ·exact h
def Yd{T:aM}{call:aX}{p q:aA}{fr:Fr}{S S1 S2:St}{v u:PV}(hb:sX p.op q.op=true)(hp:av T call p fr S=some (v,S1))(hq:av T call q fr S1=some (u,S2)) :
  ∃S3,av T call q fr S=some (u,S3)∧av T call p fr S3=some (v,S2):=by
 obtain⟨pd,pop,pg⟩:=p;obtain⟨qd,qop,qg⟩:=q
 have hpo:S1.objs=S.objs∧∀cs,av T call ⟨pd,pop,pg⟩ fr ⟨S.objs++cs,S.tips⟩=some (v,⟨S.objs++cs,S1.tips⟩):=by
  simp only[av]at hp ⊢;split at hp
  ·cases hp
  ·cases hp;exact⟨rfl,fun cs=>rfl⟩
  ·cases pop<;>simp only[sX]at hb<;>try (cases hb;done)
   ·simp only[aH]at hp ⊢;split at hp
    ·rename_i new hn;split at hp
     ·rename_i h0;obtain⟨e1,e2⟩:=Yb hp;refine⟨e1,fun cs=>?_⟩;rw[Yc hn];simp only[h0,if_true];exact e2 _
     ·cases hp
    ·cases hp
   ·simp only[aH]at hp ⊢;split at hp
    ·split at hp
     ·rename_i hc;cases hp;exact⟨rfl,fun cs=>by simp[hc,dF]⟩
     ·cases hp
    ·cases hp
 obtain⟨o1,hpo⟩:=hpo;cases qop<;>cases pop<;>simp only[sX]at hb<;>try (cases hb;done)
 all_goals
  simp only[av]at hq;split at hq
  ·cases hq
  ·cases hq;rename_i hw;refine⟨S,by simp[av,hw],hp⟩
  ·rename_i hw;simp only[aH]at hq;split at hq
   ·rename_i ha;split at hq
    ·rename_i hr;cases hq;exact⟨S,by simp[av,hw,aH,ha,hr],hp⟩
    ·rename_i hr;simp only[cR]at hq;cases hq;refine⟨_,by simp[av,hw,aH,ha,hr,cR,o1];rfl,?_⟩;rw[o1];exact hpo _
   ·cases hq
def swap{T:aM}{call:aX}{p q:aA}{l:List aA}{fr:Fr}{S:St}{r:Fr×St}(hi:fE p q=true)(h:aY T call (p::q::l) fr S=some r) :
  aY T call (q::p::l) fr S=some r:=by
 simp only[fE,aI]at hi;obtain⟨⟨h1,h2⟩,h3⟩:=hi;have hpq:∀t∈q.reads,p.dst≠some t:=fun t ht e=>by rw[e]at h1;simp[ht]at h1
 have hqp:∀t∈p.reads,q.dst≠some t:=fun t ht e=>by rw[e]at h2;simp[ht]at h2
 have hdd:∀t,p.dst=some t→q.dst≠some t:=fun t e e'=>by rw[e]at h1;simp[e']at h1
 rw[cX]at h
 cases hp:av T call p fr S with
 |none=>rw[hp]at h;cases h
 |some x=>
  obtain⟨v1,S1⟩:=x;rw[hp]at h;simp only at h;rw[cX]at h;have cq:av T call q (aO fr p.dst v1) S1=av T call q fr S1:=pu fun t ht=>jw (hpq t ht);rw[cq]at h
  cases hq:av T call q fr S1 with
  |none=>rw[hq]at h;cases h
  |some y=>
   obtain⟨v2,S2⟩:=y;rw[hq]at h;simp only at h
   have goal:∃S3,av T call q fr S=some (v2,S3)∧av T call p fr S3=some (v1,S2):=by
    simp only[gJ,aI]at h3;rcases h3 with((((h3|h3)|⟨h3,h4⟩)|h3)|h3)|h3
    ·obtain⟨e,k⟩:=mS h3 hp;subst e;exact⟨S2,hq,k S2⟩
    ·obtain⟨e,k⟩:=mS h3 hq;subst e;exact⟨S,k S,hp⟩
    ·obtain⟨e,k⟩:=sb h3 hp;subst e;refine⟨S2,hq,k S2 ?_⟩;rcases h4 with h4|h4
     ·obtain⟨e',_⟩:=sb h4 hq;rw[e'];simp
     ·exact YY h4 hq
    ·obtain⟨e,k⟩:=YZ h3 hp hq;subst e;exact⟨S2,hq,k⟩
    ·obtain⟨k,e⟩:=Ya h3 hp hq;subst e;exact⟨S,k,hp⟩
    ·exact Yd h3 hp hq
   obtain⟨S3,g1,g2⟩:=goal;rw[cX,g1];simp only;rw[cX];have cp:av T call p (aO fr q.dst v2) S3=av T call p fr S3:=pu fun t ht=>jw (hqp t ht);rw[cp,g2];simp only;rw[←sY hdd];exact h
theorem px{T:aM}{call:aX}{q:aA}{l:List aA}{r:Fr×St}:∀{pre:List aA} {fr:Fr} {S:St},(∀p∈pre,fE p q=true)→aY T call (pre++q::l) fr S=some r →
  aY T call (q::pre++l) fr S=some r
 | [],_,_,_,h=>h
 |p::pre,fr,S,hi,h=>by
  have:aY T call (p::(q::pre++l)) fr S=some r:=by
   rw[ij,cX]at h;rw[cX]
   cases hp:av T call p fr S with
   |none=>rw[hp]at h;cases h
   |some x=>
    rw[hp]at h;exact px (fun p' hp'=>hi p' (by simp[hp'])) h
  exact swap (hi p (by simp)) this
end Ps
