/- Operations whose order is left open: every order that the text lets gives what the order of the text gives. -/
import Derived.Test.YtpjmpaidcidjgaaGreatDoorAbbKw
import Derived.Test.YtpjmpaidcidjgaaGreatDoorSimLKw
import Derived.Orders
set_option linter.defProp false
namespace Ps
set_option linter.unusedVariables false
set_option linter.unusedSimpArgs false
open Go
def aG.reads:aG→List Nat
 |.tmp t=>[t]
 |.cst _=>[]
def uO:Option aG→List Nat
 |some x=>x.reads
 |none=>[]
def bO.reads:bO→List Nat
 |.mov x|.nilck x|.eqn _ _ x|.un _ x|.toInt _ x|.strId x|.toStr x|.field _ _ _ x|.mkif _ x|.extract _ x|.assert _ _ _ x|.faddr _ x|.len _ x
 |.load _ _ _ x|.box _ x|.toBytes _ x|.mks _ _ x|.toStrO x|.emp3 x|.gclr _ _ x=>x.reads
 |.pick c a b=>c.reads++a.reads++b.reads
 |.arith _ x y|.eqb _ x y|.eqa _ _ _ x y|.eqs _ _ x y|.idxs x y|.idxa _ _ _ x y|.iaddr _ x y|.iaddra _ _ x y|.mnmx _ x y|.store _ x y|.app _ _ x y|.gapp _ _ x y=>x.reads++y.reads
 |.build _ ps=>ps.flatMap fun p=>p.2.2.reads
 |.mkfn _ cs=>cs.flatMap aG.reads
 |.slcs lo hi x|.slc _ lo hi x|.slca _ _ lo hi x=>uO lo++uO hi++x.reads
 |.alloc ..=>[]
 |.stb l _ x y=>l++(x.reads++y.reads)
 |.emp0=>[]
 |.bsl _ _ _ ps=>ps.flatMap fun p=>p.2.reads
 |.call _ _ xs=>xs.flatMap aG.reads
 |.loadb b _ _ x=>b::x.reads
 |.mkm=>[]
 |.mlk _ _ _ x k=>x.reads++k.reads
 |.mset _ x k v=>x.reads++(k.reads++v.reads)
 |.mdel _ x k=>x.reads++k.reads
 |.plk _ _ _ x k=>x.reads++k.reads
 |.wc l x xs=>l++(x.reads++xs.flatMap aG.reads)
 |.pan x=>x.reads
 |.rcv=>[]
 |.pset _ x k v=>x.reads++(k.reads++v.reads)
 |.mko _ _ _ x=>x.reads
 |.nst _ x=>x.reads
 |.msb l _ x k v=>l++(x.reads++(k.reads++v.reads))
 |.asrI _ x=>x.reads
 |.men _ x k=>x.reads++k.reads
 |.est x k v=>x.reads++(k.reads++v.reads)
 |.mlen x=>x.reads
 |.slc3 _ lo hi mx x=>uO lo++(hi.reads++(mx.reads++x.reads))
 |.mkbfn _ cs=>cs.flatMap aG.reads
 |.callb b _ xs=>b::xs.flatMap aG.reads
 |.callv _ x xs|.inv _ _ x xs=>x.reads++xs.flatMap aG.reads
 |.bad=>[]
def aB.reads(p:aB):List Nat:=p.op.reads++(match p.guard with|some (t,_)=>[t]|none=>[])
def bc{fr fr':Fr}{x:aG}(h:∀t∈x.reads,fr t=fr' t):ev fr x=ev fr' x:=by
 cases x with
 |tmp t=>exact h t (by simp[aG.reads])
 |cst v=>rfl
def nC{fr fr':Fr}{x:Option aG}(h:∀t∈uO x,fr t=fr' t):cG fr x=cG fr' x:=by
 cases x with
 |none=>rfl
 |some x=>simp only[cG];rw[bc h]
def nD{fr fr':Fr}{xs:List aG}(h:∀t∈xs.flatMap aG.reads,fr t=fr' t):xs.map (ev fr)=xs.map (ev fr'):=
 ly fun x hx=>bc fun t ht=>h t (List.mem_flatMap.2 ⟨x,hx,ht⟩)
theorem RN{fr fr':Fr}:∀(ps:List (Nat×Nat×aG)) (cs:List PV),(∀t∈ps.flatMap (fun p=>p.2.2.reads),fr t=fr' t)→ft fr ps cs=ft fr' ps cs
 | [],_,_=>rfl
 |(off,n,x)::ps,cs,h=>by
  simp only[ft];rw[bc (fr:=fr) (fr':=fr') (fun t ht=>h t (by simp[ht]))];rw[RN ps _ (fun t ht=>h t (by simp only[dC,bd];exact .inr ht))]
theorem zi{fr fr':Fr}(sz:Nat):∀(ps:List (Nat×aG)) (cs:List PV),(∀t∈ps.flatMap (fun p=>p.2.reads),fr t=fr' t)→cc fr sz ps cs=cc fr' sz ps cs
 | [],_,_=>rfl
 |(i,x)::ps,cs,h=>by
  simp only[cc];rw[bc (fr:=fr) (fr':=fr') (fun t ht=>h t (by simp[ht]))];rw[zi sz ps _ (fun t ht=>h t (by simp only[dC,bd];exact .inr ht))]
def RO{fr fr':Fr}{l:List Nat}{id:Nat}(h:∀t∈l,fr t=fr' t):oG fr l id=oG fr' l id:=by
 unfold oG;rw[sE,List.all_eq_true,List.all_eq_true];exact⟨fun q t ht=>by rw[←h t ht];exact q t ht,fun q t ht=>by rw[h t ht];exact q t ht⟩
def aBZ{T:aQ}{call:af}{fr fr':Fr}{S:St}{op:bO}(h:∀t∈op.reads,fr t=fr' t):aH T call fr S op=aH T call fr' S op:=by
  cases op
  case load ag n mix x=>
    have e:=bc (fr:=fr) (fr':=fr') (x:=x) h;cases mix<;>simp only[aH,aW,e]
  case mkm=>rfl
  case emp0=>rfl
  case mkbfn f cs=>simp only[aH,aW];rw[nD h]
  case mlk ks ok z x k=>
    simp only[bO.reads,bd]at h;have e1:=bc (fr:=fr) (fr':=fr') (x:=x) (fun t ht=>h t (.inl ht));have e2:=bc (fr:=fr) (fr':=fr') (x:=k) (fun t ht=>h t (.inr ht));simp only[aH,e1,e2]
  case mset ks x k v=>
    simp only[bO.reads,bd]at h;have e1:=bc (fr:=fr) (fr':=fr') (x:=x) (fun t ht=>h t (.inl ht));have e2:=bc (fr:=fr) (fr':=fr') (x:=k) (fun t ht=>h t (.inr (.inl ht)));have e3:=bc (fr:=fr) (fr':=fr') (x:=v) (fun t ht=>h t (.inr (.inr ht)));simp only[aH,e1,e2,e3]
  case wc l x xs=>rfl
  case pan x=>rfl
  case rcv=>rfl
  case plk ar ok z x k=>
    simp only[bO.reads,bd]at h;have e1:=bc (fr:=fr) (fr':=fr') (x:=x) (fun t ht=>h t (.inl ht));have e2:=bc (fr:=fr) (fr':=fr') (x:=k) (fun t ht=>h t (.inr ht));simp only[aH,e1,e2]
  case pset ar x k v=>
    simp only[bO.reads,bd]at h;have e1:=bc (fr:=fr) (fr':=fr') (x:=x) (fun t ht=>h t (.inl ht));have e2:=bc (fr:=fr) (fr':=fr') (x:=k) (fun t ht=>h t (.inr (.inl ht)));have e3:=bc (fr:=fr) (fr':=fr') (x:=v) (fun t ht=>h t (.inr (.inr ht)));simp only[aH,e1,e2,e3]
  case mko sz bytes z x=>
    have e1:=bc (fr:=fr) (fr':=fr') (x:=x) h;simp only[aH,e1]
  case nst n x=>
    have e1:=bc (fr:=fr) (fr':=fr') (x:=x) h;simp only[aH,e1]
  case msb l ks x k v=>
    simp only[bO.reads,bd]at h;have e1:=bc (fr:=fr) (fr':=fr') (x:=x) (fun t ht=>h t (.inr (.inl ht)));have e2:=bc (fr:=fr) (fr':=fr') (x:=k) (fun t ht=>h t (.inr (.inr (.inl ht))));have e3:=bc (fr:=fr) (fr':=fr') (x:=v) (fun t ht=>h t (.inr (.inr (.inr ht))));simp only[aH,e1,e2,e3,fun id=>RO (fr:=fr) (fr':=fr') (l:=l) (id:=id) (fun t ht=>h t (.inl ht))]
  case men z x k=>
    simp only[bO.reads,bd]at h;have e1:=bc (fr:=fr) (fr':=fr') (x:=x) (fun t ht=>h t (.inl ht));have e2:=bc (fr:=fr) (fr':=fr') (x:=k) (fun t ht=>h t (.inr ht));simp only[aH,e1,e2]
  case est x k v=>
    simp only[bO.reads,bd]at h;have e1:=bc (fr:=fr) (fr':=fr') (x:=x) (fun t ht=>h t (.inl ht));have e2:=bc (fr:=fr) (fr':=fr') (x:=k) (fun t ht=>h t (.inr (.inl ht)));have e3:=bc (fr:=fr) (fr':=fr') (x:=v) (fun t ht=>h t (.inr (.inr ht)));simp only[aH,e1,e2,e3]
  case mdel ks x k=>
    simp only[bO.reads,bd]at h;have e1:=bc (fr:=fr) (fr':=fr') (x:=x) (fun t ht=>h t (.inl ht));have e2:=bc (fr:=fr) (fr':=fr') (x:=k) (fun t ht=>h t (.inr ht));simp only[aH,e1,e2]
  case mlen x=>
    have e1:=bc (fr:=fr) (fr':=fr') (x:=x) h;simp only[aH,e1]
  case slc3 sz lo hi mx x=>
    simp only[bO.reads,bd]at h;have e1:=nC (fr:=fr) (fr':=fr') (x:=lo) (fun t ht=>h t (.inl ht));have e2:=bc (fr:=fr) (fr':=fr') (x:=hi) (fun t ht=>h t (.inr (.inl ht)));have e3:=bc (fr:=fr) (fr':=fr') (x:=mx) (fun t ht=>h t (.inr (.inr (.inl ht))));have e4:=bc (fr:=fr) (fr':=fr') (x:=x) (fun t ht=>h t (.inr (.inr (.inr ht))));simp only[aH,e1,e2,e3,e4]
  case loadb b ag n x=>
    have e0:fr b=fr' b:=h b (by simp[bO.reads]);have e:=bc (fr:=fr) (fr':=fr') (x:=x) (fun t ht=>h t (by simp[bO.reads,ht]));simp only[aH,e0,e]
  case callb b f xs=>
    have e0:fr b=fr' b:=h b (by simp[bO.reads]);have e:=nD (fr:=fr) (fr':=fr') (xs:=xs) (fun t ht=>h t (by simp only[bO.reads,cQ];exact .inr ht));simp only[aH,e0,e]
  case stb l m x y=>
    simp only[bO.reads,bd]at h;have e1:=bc (fr:=fr) (fr':=fr') (x:=x) (fun t ht=>h t (.inr (.inl ht)));have e2:=bc (fr:=fr) (fr':=fr') (x:=y) (fun t ht=>h t (.inr (.inr ht)));simp only[aH,e1,e2,fun id=>RO (fr:=fr) (fr':=fr') (l:=l) (id:=id) (fun t ht=>h t (.inl ht))]
  case build z ps=>simp only[aH,aW];rw[RN ps z h]
  case bsl ro ze len ps=>simp only[aH,cA];rw[zi _ ps _ h]
  case alloc=>rfl
  case bad=>rfl
  case pick c x y=>
    simp only[bO.reads,bd]at h;have e1:=bc (fr:=fr) (fr':=fr') (x:=c) (fun t ht=>h t (.inl (.inl ht)));have e2:=bc (fr:=fr) (fr':=fr') (x:=x) (fun t ht=>h t (.inl (.inr ht)));have e3:=bc (fr:=fr) (fr':=fr') (x:=y) (fun t ht=>h t (.inr ht));simp only[aH,aW,e1,e2,e3]
  case mkfn f cs=>simp only[aH,aW];rw[nD h]
  case call _ f xs=>simp only[aH];rw[nD h]
  case callv _ x xs=>
    simp only[bO.reads,bd]at h;have e1:=bc (fr:=fr) (fr':=fr') (x:=x) (fun t ht=>h t (.inl ht));have e2:=nD (fr:=fr) (fr':=fr') (xs:=xs) (fun t ht=>h t (.inr ht));simp only[aH,e1,e2]
  case inv _ m x xs=>
    simp only[bO.reads,bd]at h;have e1:=bc (fr:=fr) (fr':=fr') (x:=x) (fun t ht=>h t (.inl ht));have e2:=nD (fr:=fr) (fr':=fr') (xs:=xs) (fun t ht=>h t (.inr ht));simp only[aH,e1,e2]
  case slcs lo hi x=>
    simp only[bO.reads,bd]at h;have e1:=nC (fr:=fr) (fr':=fr') (x:=lo) (fun t ht=>h t (.inl (.inl ht)));have e2:=nC (fr:=fr) (fr':=fr') (x:=hi) (fun t ht=>h t (.inl (.inr ht)));have e3:=bc (fr:=fr) (fr':=fr') (x:=x) (fun t ht=>h t (.inr ht));simp only[aH,aW,e1,e2,e3]
  case slc sz lo hi x=>
    simp only[bO.reads,bd]at h;have e1:=nC (fr:=fr) (fr':=fr') (x:=lo) (fun t ht=>h t (.inl (.inl ht)));have e2:=nC (fr:=fr) (fr':=fr') (x:=hi) (fun t ht=>h t (.inl (.inr ht)));have e3:=bc (fr:=fr) (fr':=fr') (x:=x) (fun t ht=>h t (.inr ht));simp only[aH,aW,e1,e2,e3]
  case slca len sz lo hi x=>
    simp only[bO.reads,bd]at h;have e1:=nC (fr:=fr) (fr':=fr') (x:=lo) (fun t ht=>h t (.inl (.inl ht)));have e2:=nC (fr:=fr) (fr':=fr') (x:=hi) (fun t ht=>h t (.inl (.inr ht)));have e3:=bc (fr:=fr) (fr':=fr') (x:=x) (fun t ht=>h t (.inr ht));simp only[aH,aW,e1,e2,e3]
  case len st x=>
    have e:=bc (fr:=fr) (fr':=fr') (x:=x) h;cases st<;>simp only[aH,aW,e]
  all_goals first
    | (rename_i x
       have e:=bc (fr:=fr) (fr':=fr') (x:=x) h
       simp only[aH,aW,e];done)
    | (rename_i x y
       simp only[bO.reads,bd]at h;have e1:=bc (fr:=fr) (fr':=fr') (x:=x) (fun t ht=>h t (.inl ht));have e2:=bc (fr:=fr) (fr':=fr') (x:=y) (fun t ht=>h t (.inr ht));simp only[aH,aW,e1,e2];done)
def RP{T:aQ}{call:af}{fr:Fr}{op:bO}(h:iY op=true):∃q,∀S,aH T call fr S op=dL S q:=by
 cases op<;>simp only[iY,mZ]at h<;>try (cases h;done)
 case load ag n mix x=>subst h;exact⟨_,fun S=>by simp only[aH];rfl⟩
 case box ro x=>
  subst h;refine⟨if(ev fr x).cells.all PV.one then some (.ref (ev fr x).cells)else none,fun S=>?_⟩;simp only[aH,if_true];split<;>rfl
 case alloc ro z=>
  subst h;refine⟨if z.all PV.one then some (.ref z)else none,fun S=>?_⟩;simp only[aH,if_true];split<;>rfl
 case bsl ro ze len ps=>
  subst h;refine⟨match cA fr ze len ps with|some es=>some (.sl none es [])|none=>none,fun S=>?_⟩;simp only[aH,if_true];cases he:cA fr ze len ps<;>rfl
 case emp0=>exact⟨some .emp,fun S=>rfl⟩
 case toBytes ro x=>
  subst h;refine⟨match ev fr x with|.str s=>some (.sl none (aI s) [])|_=>none,fun S=>?_⟩;simp only[aH,if_true];cases he:ev fr x<;>rfl
 case call m f xs=>
  simp only[beq_iff_eq]at h;subst h;exact⟨iJ call f (xs.map (ev fr)),fun S=>rfl⟩
 case callv m x xs=>
  simp only[beq_iff_eq]at h;subst h;refine⟨match ev fr x with|.fn f caps=>iJ call f (xs.map (ev fr)++caps)|.bfn f first=>iJ call f (first++xs.map (ev fr))|_=>none,fun S=>?_⟩;simp only[aH];cases he:ev fr x<;>rfl
 case inv cm m x xs=>
  simp only[beq_iff_eq]at h;subst h;refine⟨match ev fr x with|.iface t v=>(match T.meth t m with|some f=>iJ call f (v::xs.map (ev fr))|none=>none)|_=>none,fun S=>?_⟩;simp only[aH];cases he:ev fr x<;>try rfl
  rename_i t v;simp only;cases hm:T.meth t m<;>rfl
 all_goals exact⟨_,fun S=>by simp only[aH];rfl⟩
def uP:bO→Bool
 |.load _ _ false _=>true
 |.loadb ..=>true
 |.mlk ..=>true
 |.mlen _=>true
 |.toStrO _=>true
 |_=>false
def uQ:bO→Bool
 |.call m _ _|.callv m _ _|.inv m _ _ _=>m==.keep
 |.box ..|.alloc ..|.bsl ..|.app ..|.toBytes ..|.mks ..|.mkm|.slc3 ..=>true
 |_=>false
def zj:bO→bO→Bool
 |.loadb b _ _ _,.callb c _ _=>b==c
 |.loadb b _ _ _,.stb l _ _ _=>l.contains b
 |.loadb b _ _ _,.msb l _ _ _ _=>l.contains b
 |_,_=>false
def zk:bO→bO→Bool
 |.callb c _ _,.loadb b _ _ _=>b==c
 |_,_=>false
def uR:bO→bO→Bool
 |.mks ..,.alloc ..=>true
 |.app ..,.alloc ..=>true
 |_,_=>false
def fh(p q:aB):Bool:=
 (match p.dst with|some d=>!q.reads.contains d&&q.dst != some d|none=>true) &&
 (match q.dst with|some d=>!p.reads.contains d|none=>true) &&
 (iY p.op||iY q.op||(uP p.op&&(uP q.op||uQ q.op))||zj p.op q.op||zk p.op q.op||uR p.op q.op)
def uS{fr:Fr}{d e:Option Nat}{u v:PV}(h:∀t,d=some t→e≠some t):aS (aS fr d u) e v=aS (aS fr e v) d u:=by
 cases d with
 |none=>rfl
 |some d=>
  cases e with
  |none=>rfl
  |some e=>
   have hne:d≠e:=fun he=>h d rfl (he▸rfl);funext t;simp only[aS,dE];by_cases h1:t=e
   ·subst h1;simp[Ne.symm hne]
   ·simp[h1]
def kQ{fr:Fr}{d:Option Nat}{u:PV}{t:Nat}(h:d≠some t):aS fr d u t=fr t:=by
 cases d with
 |none=>rfl
 |some d=>
  simp only[aS,dE];rw[if_neg (fun e=>h (by rw[e]))]
def aB0{fr fr':Fr}{gd:Option (Nat×Bool)}(h:∀t b,gd=some (t,b)→fr t=fr' t):bq fr gd=bq fr' gd:=by
 cases gd with
 |none=>rfl
 |some q=>obtain⟨t,b⟩:=q;simp only[bq,h t b rfl]
def bC(T:aQ)(call:af)(p:aB)(fr:Fr)(S:St):Option (PV×St):=
 match bq fr p.guard with
 |none=>none
 |some false=>some (.tup [],S)
 |some true=>aH T call fr S p.op
def cw{T:aQ}{call:af}{p:aB}{l:List aB}{fr:Fr}{S:St} :
  ah T call (p::l) fr S=match bC T call p fr S with|some (v,S')=>ah T call l (aS fr p.dst v) S'|none=>none:=by
 simp only[ah,bC]
 cases bq fr p.guard with
 |none=>rfl
 |some b=>cases b<;>rfl
def rQ{T:aQ}{call:af}{p:aB}{fr fr':Fr}{S:St}(h:∀t∈p.reads,fr t=fr' t):bC T call p fr S=bC T call p fr' S:=by
 simp only[bC];rw[aB0 (fr:=fr) (fr':=fr') (fun t b hb=>h t (by simp[aB.reads,hb]))];rw[aBZ (fr:=fr) (fr':=fr') (fun t ht=>h t (by simp[aB.reads,ht]))]
def nE{T:aQ}{call:af}{p:aB}{fr:Fr}{S S1:St}{v:PV}(hp:iY p.op=true)(h:bC T call p fr S=some (v,S1)):S1=S∧∀S2,bC T call p fr S2=some (v,S2):=by
 simp only[bC]at h ⊢;split at h
 ·cases h
 ·cases h;exact⟨rfl,fun _=>rfl⟩
 ·obtain⟨q,hq⟩:=RP (T:=T) (call:=call) (fr:=fr) hp;rw[hq]at h;obtain⟨h1,h2⟩:=zc h;refine⟨h1,fun S2=>?_⟩;rw[hq,h2];rfl
mutual
theorem RQ:∀(a b:PV),PV.beq a b=true→a=b
 |.und,b,h=>by cases b<;>first|rfl|(simp[PV.beq]at h)
 |.int k n,b,h=>by cases b<;>simp[PV.beq]at h;simp[h]
 |.bool x,b,h=>by cases b<;>simp[PV.beq]at h;simp[h]
 |.str s,b,h=>by cases b<;>simp[PV.beq]at h;simp[h]
 |.nilp,b,h=>by cases b<;>first|rfl|(simp[PV.beq]at h)
 |.nils,b,h=>by cases b<;>first|rfl|(simp[PV.beq]at h)
 |.nili,b,h=>by cases b<;>first|rfl|(simp[PV.beq]at h)
 |.nilf,b,h=>by cases b<;>first|rfl|(simp[PV.beq]at h)
 |.ptr i o,b,h=>by cases b<;>simp[PV.beq]at h;simp[h]
 |.ref cs,b,h=>by
  cases b<;>simp only[PV.beq]at h<;>try (cases h;done)
  rw[iN _ _ h]
 |.sl t es sp,b,h=>by
  cases b<;>simp only[PV.beq,aJ,beq_iff_eq]at h<;>try (cases h;done)
  obtain⟨⟨rfl,h1⟩,h2⟩:=h
  rw[iN _ _ h1,iN _ _ h2]
 |.osl i o l s,b,h=>by cases b<;>simp[PV.beq]at h;simp[h]
 |.emp,b,h=>by cases b<;>first|rfl|(simp[PV.beq]at h)
 |.iface t v,b,h=>by
  cases b<;>simp only[PV.beq,aJ,beq_iff_eq]at h<;>try (cases h;done)
  obtain⟨rfl,h1⟩:=h
  rw[RQ _ _ h1]
 |.agg cs,b,h=>by
  cases b<;>simp only[PV.beq]at h<;>try (cases h;done)
  rw[iN _ _ h]
 |.tup cs,b,h=>by
  cases b<;>simp only[PV.beq]at h<;>try (cases h;done)
  rw[iN _ _ h]
 |.fn f cs,b,h=>by
  cases b<;>simp only[PV.beq,aJ,beq_iff_eq]at h<;>try (cases h;done)
  obtain⟨rfl,h1⟩:=h
  rw[iN _ _ h1]
 |.nilm,b,h=>by cases b<;>first|rfl|(simp[PV.beq]at h)
 |.map i,b,h=>by cases b<;>simp[PV.beq]at h;simp[h]
 |.hnd i,b,h=>by cases b<;>simp[PV.beq]at h;simp[h]
 |.bfn f cs,b,h=>by
  cases b<;>simp only[PV.beq,aJ,beq_iff_eq]at h<;>try (cases h;done)
  obtain⟨rfl,h1⟩:=h;rw[iN _ _ h1]
theorem iN:∀(a b:List PV),PV.beqL a b=true→a=b
 | [],b,h=>by cases b<;>first|rfl|(simp[PV.beqL]at h)
 |x::l,b,h=>by
  cases b<;>simp only[PV.beqL,aJ]at h<;>try (cases h;done)
  rw[RQ _ _ h.1,iN _ _ h.2]
end
theorem lX:∀{a b:List (List PV)},PV.beqLL a b=true→a=b
 | [],[],_=>rfl
 |a::l,b::m,h=>by
  simp only[PV.beqLL,aJ]at h
  rw[iN _ _ h.1,lX h.2]
 | [],_::_,h=>by simp[PV.beqLL]at h
 |_::_,[],h=>by simp[PV.beqLL]at h
def aB1{T:aQ}{call:af}{fr:Fr}{S S1:St}{v:PV}{op:bO}(hp:uP op=true)(h:aH T call fr S op=some (v,S1)) :
  S1=S∧∀S2,S2.objs.take S.objs.length=S.objs→aH T call fr S2 op=some (v,S2):=by
 cases op
 case load ag n mix x=>
  cases mix
  ·simp only[aH]at h ⊢;cases he:ev fr x<;>rw[he]at h<;>simp only at h<;>try (cases h;done)
   case ref cs=>
    cases hq:az ag n cs with
    |none=>rw[hq]at h;cases h
    |some q=>rw[hq]at h;cases h;exact⟨rfl,fun S2 _=>by simp[hq]⟩
   case ptr id off=>
    cases hc:S.objs[id]? with
    |none=>rw[hc]at h;cases h
    |some cs=>
     rw[hc]at h;simp only at h
     cases hq:az ag n (cs.drop off)with
     |none=>rw[hq]at h;cases h
     |some q=>
      rw[hq]at h;cases h;refine⟨rfl,fun S2 hS2=>?_⟩;have hlt:id<S.objs.length:=(aO.1 hc).1;have:S2.objs[id]?=some cs:=by rw[←hc,←hS2,cx hlt]
      simp[this,hq]
  ·cases hp
 case mlk ks ok z x k=>
  simp only[aH]at h ⊢;split at h
  ·rename_i hk;simp only[if_pos hk];split at h
   ·cases h;exact⟨rfl,fun S2 _=>rfl⟩
   ·rename_i id e;split at h
    ·rename_i cs hc;split at h
     ·rename_i r hr;cases h;refine⟨rfl,fun S2 hS2=>?_⟩;have hlt:id<S.objs.length:=(aO.1 hc).1;have:S2.objs[id]?=some cs:=by rw[←hc,←hS2,cx hlt]
      simp[this,hr]
     ·cases h
    ·cases h
   ·cases h
  ·cases h
 case mlen x=>
  simp only[aH]at h ⊢;split at h
  ·cases h;exact⟨rfl,fun S2 _=>rfl⟩
  ·rename_i id e;split at h
   ·rename_i cs hc;cases h;refine⟨rfl,fun S2 hS2=>?_⟩;have hlt:id<S.objs.length:=(aO.1 hc).1;have:S2.objs[id]?=some cs:=by rw[←hc,←hS2,cx hlt]
    simp[this]
   ·cases h
  ·cases h
 case toStrO x=>
  simp only[aH]at h ⊢;split at h
  ·rename_i id off len sz he;split at h
   ·rename_i cs hc;split at h
    ·rename_i hq;split at h
     ·rename_i s hs;cases h;refine⟨rfl,fun S2 hS2=>?_⟩;have hlt:id<S.objs.length:=(aO.1 hc).1;have:S2.objs[id]?=some cs:=by rw[←hc,←hS2,cx hlt]
      simp[this,hq,hs]
     ·cases h
    ·cases h
   ·cases h
  ·cases h;exact⟨rfl,fun S2 _=>rfl⟩
  ·cases h;exact⟨rfl,fun S2 _=>rfl⟩
  ·split at h
   ·rename_i s hs;cases h;exact⟨rfl,fun S2 _=>by simp[hs]⟩
   ·cases h
  ·cases h
 case loadb b ag n x=>
  simp only[aH]at h ⊢;split at h
  ·rename_i i o id off hb he;split at h
   ·rename_i hid;split at h
    ·rename_i cs hc;split at h
     ·rename_i v' hq;cases h;refine⟨rfl,fun S2 hS2=>?_⟩;have hlt:id<S.objs.length:=(aO.1 hc).1;have:S2.objs[id]?=some cs:=by rw[←hc,←hS2,cx hlt]
      simp[hb,he,hid,this,hq]
     ·cases h
    ·cases h
   ·cases h
  ·cases h
 all_goals cases hp
def RR{S S1:St}{cs:List PV}{v:PV}(h:cj S cs=(v,S1)):S1.objs.take S.objs.length=S.objs:=by
 cases h;simp
def rR{S S1:St}{sz:Nat}{cs:List PV}{v:PV}(h:dQ S sz cs=(v,S1)):S1.objs.take S.objs.length=S.objs:=by
 cases h;simp
def uT{S S1:St}{ro:Bool}{q:PV×St}{r v:PV}(hq:∀v S1,q=(v,S1)→S1.objs.take S.objs.length=S.objs)(h:(if ro then(r,S)else q)=(v,S1)):S1.objs.take S.objs.length=S.objs:=by
 cases ro
 ·exact hq v S1 (by simpa using h)
 ·simp only[if_true]at h;cases h;simp
def uU{call:af}{f:Nat}{args:List PV}{S S1:St}{v:PV}(h:ck call .keep f args S=some (v,S1)):S1.objs.take S.objs.length=S.objs:=by
 simp only[ck,ma]at h;split at h
 ·cases h
 ·simp only[if_true]at h;split at h
  ·rename_i hb;cases h;exact lX hb
  ·cases h
def aB2{T:aQ}{call:af}{fr:Fr}{S S1:St}{v:PV}{op:bO}(hp:uQ op=true)(h:aH T call fr S op=some (v,S1)):S1.objs.take S.objs.length=S.objs:=by
 cases op<;>simp only[uQ]at hp<;>try (cases hp;done)
 case call m f xs=>
  simp only[beq_iff_eq]at hp;subst hp;simp only[aH]at h;exact uU h
 case callv m x xs=>
  simp only[beq_iff_eq]at hp;subst hp;simp only[aH]at h;split at h
  ·exact uU h
  ·exact uU h
  ·cases h
 case inv cm m x xs=>
  simp only[beq_iff_eq]at hp;subst hp;simp only[aH]at h;split at h
  ·split at h
   ·exact uU h
   ·cases h
  ·cases h
 case mkm=>simp only[aH]at h;cases h;simp
 case slc3 sz lo hi mx x=>
  simp only[aH]at h;unfold tY at h;split at h
  ·split at h
   ·cases h;simp
   ·cases h
  ·split at h
   ·split at h
    ·split at h
     ·split at h
      ·split at h
       ·cases h;simp
       ·cases h
      ·cases h
     ·cases h
    ·cases h
   ·cases h
  ·cases h
 case box ro x=>
  simp only[aH]at h;split at h
  ·exact uT (fun _ _=>RR) (gD h)
  ·cases h
 case alloc ro z=>
  simp only[aH]at h;split at h
  ·exact uT (fun _ _=>RR) (gD h)
  ·cases h
 case bsl ro ze len ps=>
  simp only[aH]at h;split at h
  ·exact uT (fun _ _=>rR) (gD h)
  ·cases h
 case toBytes ro x=>
  simp only[aH]at h;split at h
  ·exact uT (fun _ _=>rR) (gD h)
  ·cases h
 case mks sz bytes c=>
  simp only[aH]at h;split at h
  ·split at h
   ·exact rR (gD h)
   ·cases h
  ·cases h
 case app sz bytes s x=>
  simp only[aH]at h;split at h
  ·split at h
   ·unfold dF at h;split at h
    ·split at h
     ·cases h;simp
     ·split at h
      ·exact rR (gD h)
      ·cases h
    ·split at h
     ·cases h;simp
     ·split at h
      ·split at h
       ·cases h;simp
       ·cases h
      ·cases h
    ·split at h
     ·cases h;simp
     ·split at h
      ·exact rR (gD h)
      ·cases h
    ·cases h
   ·cases h
  ·cases h
def uV{T:aQ}{call:af}{p:aB}{fr:Fr}{S S1:St}{v:PV}(hp:uP p.op=true)(h:bC T call p fr S=some (v,S1)) :
  S1=S∧∀S2,S2.objs.take S.objs.length=S.objs→bC T call p fr S2=some (v,S2):=by
 simp only[bC]at h ⊢;split at h
 ·cases h
 ·cases h;exact⟨rfl,fun _ _=>rfl⟩
 ·exact aB1 hp h
def aB3{T:aQ}{call:af}{p:aB}{fr:Fr}{S S1:St}{v:PV}(hp:uQ p.op=true)(h:bC T call p fr S=some (v,S1)):S1.objs.take S.objs.length=S.objs:=by
 simp only[bC]at h;split at h
 ·cases h
 ·cases h;simp
 ·exact aB2 hp h
def aB4{T:aQ}{call:af}{p q:aB}{fr:Fr}{S S1 S2:St}{v u:PV}(hb:zj p.op q.op=true)(hp:bC T call p fr S=some (v,S1))(hq:bC T call q fr S1=some (u,S2)) :
  S1=S∧bC T call p fr S2=some (v,S2):=by
 obtain⟨pd,pop,pg⟩:=p;obtain⟨qd,qop,qg⟩:=q;cases pop<;>simp only[zj]at hb<;>try (cases hb;done)
 cases qop<;>simp only at hb<;>try (cases hb;done)
 ·rename_i b ag n x l m y z;have hb:b∈l:=by simpa using hb
  simp only[bC]at hp hq ⊢;split at hp
  ·cases hp
  ·cases hp;exact⟨rfl,rfl⟩
  ·simp only[aH]at hp;split at hp
   ·rename_i i o id off e0 e1;split at hp
    ·rename_i hid;subst hid;split at hp
     ·rename_i cs hcs;split at hp
      ·rename_i v' hv;cases hp;refine⟨rfl,?_⟩
       have hS2:S2.objs[i]?=some cs:=by
        split at hq
        ·cases hq
        ·cases hq;exact hcs
        ·simp only[aH]at hq;split at hq
         ·split at hq
          ·split at hq
           ·rename_i id off _ _ _ hcond;cases hq;have hne:=(List.all_eq_true.1 hcond.1) b hb;rw[e0]at hne;simp only[bne_iff_ne,ne_eq]at hne;rw[bn (Ne.symm hne)];exact hcs
           ·cases hq
          ·cases hq
         ·cases hq
       simp[aH,e0,e1,hS2,hv]
      ·cases hp
     ·cases hp
    ·cases hp
   ·cases hp
 ·rename_i b ag n x l ks y z u';have hb:b∈l:=by simpa using hb
  simp only[bC]at hp hq ⊢;split at hp
  ·cases hp
  ·cases hp;exact⟨rfl,rfl⟩
  ·simp only[aH]at hp;split at hp
   ·rename_i i o id off e0 e1;split at hp
    ·rename_i hid;subst hid;split at hp
     ·rename_i cs hcs;split at hp
      ·rename_i v' hv;cases hp;refine⟨rfl,?_⟩
       have hS2:S2.objs[i]?=some cs:=by
        split at hq
        ·cases hq
        ·cases hq;exact hcs
        ·simp only[aH]at hq;split at hq
         ·split at hq
          ·split at hq
           ·split at hq
            ·rename_i id off _ _ _ _ hcond;cases hq;have hne:=(List.all_eq_true.1 hcond.1) b hb;rw[e0]at hne;simp only[bne_iff_ne,ne_eq]at hne;rw[bn (Ne.symm hne)];exact hcs
            ·cases hq
           ·cases hq
          ·cases hq
         ·cases hq
       simp[aH,e0,e1,hS2,hv]
      ·cases hp
     ·cases hp
    ·cases hp
   ·cases hp
 rename_i b ag n x c f xs;have hb:b=c:=by simpa using hb
 subst hb;simp only[bC]at hp hq ⊢;split at hp
 ·cases hp
 ·cases hp;exact⟨rfl,rfl⟩
 ·simp only[aH]at hp;split at hp
  ·rename_i i o id off e0 e1;split at hp
   ·rename_i hid;subst hid;split at hp
    ·rename_i cs hcs;split at hp
     ·rename_i v' hv;cases hp;refine⟨rfl,?_⟩
      have hS2:S2.objs[i]?=some cs:=by
       split at hq
       ·cases hq
       ·cases hq;exact hcs
       ·simp only[aH,e0]at hq
        cases hcall:call f (xs.map (ev fr)) S with
        |none=>rw[hcall]at hq;cases hq
        |some y=>
         obtain⟨u',S'⟩:=y;rw[hcall]at hq;simp only[mc,hcs]at hq;split at hq
         ·rename_i a1 a2 g1 g2;cases g1;split at hq
          ·rename_i hbe;cases hq;rw[g2,iN _ _ hbe]
          ·cases hq
         ·cases hq
      simp[aH,e0,e1,hS2,hv]
     ·cases hp
    ·cases hp
   ·cases hp
  ·cases hp
def aB5{T:aQ}{call:af}{p q:aB}{fr:Fr}{S S1 S2:St}{v u:PV}(hb:zk p.op q.op=true)(hp:bC T call p fr S=some (v,S1))(hq:bC T call q fr S1=some (u,S2)) :
  bC T call q fr S=some (u,S)∧S2=S1:=by
 obtain⟨pd,pop,pg⟩:=p;obtain⟨qd,qop,qg⟩:=q;cases pop<;>simp only[zk]at hb<;>try (cases hb;done)
 cases qop<;>simp only at hb<;>try (cases hb;done)
 rename_i c f xs b ag n x;have hb:b=c:=by simpa using hb
 subst hb;simp only[bC]at hp hq ⊢;split at hq
 ·cases hq
 ·cases hq;exact⟨rfl,rfl⟩
 ·simp only[aH]at hq;split at hq
  ·rename_i i o id off e0 e1;split at hq
   ·rename_i hid;subst hid;split at hq
    ·rename_i cs hcs;split at hq
     ·rename_i v' hv;cases hq;refine⟨?_,rfl⟩
      have hS:S.objs[i]?=some cs:=by
       split at hp
       ·cases hp
       ·cases hp;exact hcs
       ·simp only[aH,e0]at hp
        cases hcall:call f (xs.map (ev fr)) S with
        |none=>rw[hcall]at hp;cases hp
        |some y=>
         obtain⟨u',S'⟩:=y;rw[hcall]at hp;simp only[mc]at hp;split at hp
         ·rename_i a1 a2 g1 g2;split at hp
          ·rename_i hbe;cases hp;rw[hcs]at g2;cases g2;rw[g1,iN _ _ hbe]
          ·cases hp
         ·cases hp
      simp[aH,e0,e1,hS,hv]
     ·cases hq
    ·cases hq
   ·cases hq
  ·cases hq
def aB6{sz bytes:Nat}{S S1:St}{s v:PV}{new:List PV}(h:dF sz bytes S s new=some (v,S1)):S1.objs=S.objs∧∀o,dF sz bytes ⟨o,S.tips⟩ s new=some (v,⟨o,S1.tips⟩):=by
 unfold dF at h ⊢;split at h
 ·split at h
  ·rename_i hn;cases h;exact⟨rfl,fun o=>by simp[hn]⟩
  ·rename_i hn;split at h
   ·rename_i hb;cases h;exact⟨rfl,fun o=>by simp[hn,hb,dQ]⟩
   ·cases h
 ·split at h
  ·rename_i hn;cases h;exact⟨rfl,fun o=>by simp[hn]⟩
  ·rename_i hn;split at h
   ·rename_i id e;split at h
    ·rename_i hb;cases h;exact⟨rfl,fun o=>by simp[hn,hb]⟩
    ·cases h
   ·cases h
 ·split at h
  ·rename_i hn;cases h;exact⟨rfl,fun o=>by simp[hn]⟩
  ·rename_i hn;split at h
   ·rename_i hb;cases h;exact⟨rfl,fun o=>by simp[hn,hb,dQ]⟩
   ·cases h
 ·cases h
def aB7{S:St}{sz:Nat}{x:PV}{new:List PV}(h:dV S sz x=some new)(cs:List (List PV))(y:List (Nat×Nat)):dV ⟨S.objs++cs,y⟩ sz x=some new:=by
 unfold dV at h ⊢;split at h
 ·rename_i id off len sz';split at h
  ·rename_i c hc;simp only;rw[bF (aO.1 hc).1,hc];exact h
  ·cases h
 ·exact h
def aB8{T:aQ}{call:af}{p q:aB}{fr:Fr}{S S1 S2:St}{v u:PV}(hb:uR p.op q.op=true)(hp:bC T call p fr S=some (v,S1))(hq:bC T call q fr S1=some (u,S2)) :
  ∃S3,bC T call q fr S=some (u,S3)∧bC T call p fr S3=some (v,S2):=by
 obtain⟨pd,pop,pg⟩:=p;obtain⟨qd,qop,qg⟩:=q
 have hpo:S1.objs=S.objs∧∀cs,bC T call ⟨pd,pop,pg⟩ fr ⟨S.objs++cs,S.tips⟩=some (v,⟨S.objs++cs,S1.tips⟩):=by
  simp only[bC]at hp ⊢;split at hp
  ·cases hp
  ·cases hp;exact⟨rfl,fun cs=>rfl⟩
  ·cases pop<;>simp only[uR]at hb<;>try (cases hb;done)
   ·simp only[aH]at hp ⊢;split at hp
    ·rename_i new hn;split at hp
     ·rename_i h0;obtain⟨e1,e2⟩:=aB6 hp;refine⟨e1,fun cs=>?_⟩;rw[aB7 hn];simp only[h0,if_true];exact e2 _
     ·cases hp
    ·cases hp
   ·simp only[aH]at hp ⊢;split at hp
    ·split at hp
     ·rename_i hc;cases hp;exact⟨rfl,fun cs=>by simp[hc,dQ]⟩
     ·cases hp
    ·cases hp
 obtain⟨o1,hpo⟩:=hpo;cases qop<;>cases pop<;>simp only[uR]at hb<;>try (cases hb;done)
 all_goals
  simp only[bC]at hq;split at hq
  ·cases hq
  ·cases hq;rename_i hw;refine⟨S,by simp[bC,hw],hp⟩
  ·rename_i hw;simp only[aH]at hq;split at hq
   ·rename_i ha;split at hq
    ·rename_i hr;cases hq;exact⟨S,by simp[bC,hw,aH,ha,hr],hp⟩
    ·rename_i hr;simp only[cj]at hq;cases hq;refine⟨_,by simp[bC,hw,aH,ha,hr,cj,o1];rfl,?_⟩;rw[o1];exact hpo _
   ·cases hq
def swap{T:aQ}{call:af}{p q:aB}{l:List aB}{fr:Fr}{S:St}{r:Fr×St}(hi:fh p q=true)(h:ah T call (p::q::l) fr S=some r) :
  ah T call (q::p::l) fr S=some r:=by
 simp only[fh,aJ]at hi;obtain⟨⟨h1,h2⟩,h3⟩:=hi;have hpq:∀t∈q.reads,p.dst≠some t:=fun t ht e=>by rw[e]at h1;simp[ht]at h1
 have hqp:∀t∈p.reads,q.dst≠some t:=fun t ht e=>by rw[e]at h2;simp[ht]at h2
 have hdd:∀t,p.dst=some t→q.dst≠some t:=fun t e e'=>by rw[e]at h1;simp[e']at h1
 rw[cw]at h
 cases hp:bC T call p fr S with
 |none=>rw[hp]at h;cases h
 |some x=>
  obtain⟨v1,S1⟩:=x;rw[hp]at h;simp only at h;rw[cw]at h;have cq:bC T call q (aS fr p.dst v1) S1=bC T call q fr S1:=rQ fun t ht=>kQ (hpq t ht);rw[cq]at h
  cases hq:bC T call q fr S1 with
  |none=>rw[hq]at h;cases h
  |some y=>
   obtain⟨v2,S2⟩:=y;rw[hq]at h;simp only at h
   have goal:∃S3,bC T call q fr S=some (v2,S3)∧bC T call p fr S3=some (v1,S2):=by
    simp only[gW,aJ]at h3;rcases h3 with((((h3|h3)|⟨h3,h4⟩)|h3)|h3)|h3
    ·obtain⟨e,k⟩:=nE h3 hp;subst e;exact⟨S2,hq,k S2⟩
    ·obtain⟨e,k⟩:=nE h3 hq;subst e;exact⟨S,k S,hp⟩
    ·obtain⟨e,k⟩:=uV h3 hp;subst e;refine⟨S2,hq,k S2 ?_⟩;rcases h4 with h4|h4
     ·obtain⟨e',_⟩:=uV h4 hq;rw[e'];simp
     ·exact aB3 h4 hq
    ·obtain⟨e,k⟩:=aB4 h3 hp hq;subst e;exact⟨S2,hq,k⟩
    ·obtain⟨k,e⟩:=aB5 h3 hp hq;subst e;exact⟨S,k,hp⟩
    ·exact aB8 h3 hp hq
   obtain⟨S3,g1,g2⟩:=goal;rw[cw,g1];simp only;rw[cw];have cp:bC T call p (aS fr q.dst v2) S3=bC T call p fr S3:=rQ fun t ht=>kQ (hqp t ht);rw[cp,g2];simp only;rw[←uS hdd];exact h
theorem rS{T:aQ}{call:af}{q:aB}{l:List aB}{r:Fr×St}:∀{pre:List aB} {fr:Fr} {S:St},(∀p∈pre,fh p q=true)→ah T call (pre++q::l) fr S=some r →
  ah T call (q::pre++l) fr S=some r
 | [],_,_,_,h=>h
 |p::pre,fr,S,hi,h=>by
  have:ah T call (p::(q::pre++l)) fr S=some r:=by
   rw[jS,cw]at h;rw[cw]
   cases hp:bC T call p fr S with
   |none=>rw[hp]at h;cases h
   |some x=>
    rw[hp]at h;exact rS (fun p' hp'=>hi p' (by simp[hp'])) h
  exact swap (hi p (by simp)) this
end Ps
