/- Operations whose order is left open: every order that the text lets gives what the order of the text gives. -/
import Derived.Test.YtpjmpaidcidjgaaGreatDoorDefsKb
import Derived.Test.YtpjmpaidcidjgaaGreatDoorSimLKb
import Derived.Orders
set_option linter.defProp false
namespace Ps
set_option linter.unusedVariables false
set_option linter.unusedSimpArgs false
open Go
def aH.reads:aH→List Nat
 |.tmp t=>[t]
 |.cst _=>[]
def wv:Option aH→List Nat
 |some x=>x.reads
 |none=>[]
def bT.reads:bT→List Nat
 |.mov x|.nilck x|.eqn _ _ x|.un _ x|.toInt _ x|.strId x|.toStr x|.field _ _ _ x|.mkif _ x|.extract _ x|.assert _ _ _ x|.faddr _ x|.len _ x
 |.load _ _ _ x|.box _ x|.toBytes _ x|.mks _ _ x|.toStrO x|.emp3 x|.gclr _ _ x=>x.reads
 |.pick c a b=>c.reads++a.reads++b.reads
 |.arith _ x y|.eqb _ x y|.eqa _ _ _ x y|.eqs _ _ x y|.idxs x y|.idxa _ _ _ x y|.iaddr _ x y|.iaddra _ _ x y|.mnmx _ x y|.store _ x y|.app _ _ x y|.gapp _ _ x y=>x.reads++y.reads
 |.build _ ps=>ps.flatMap fun p=>p.2.2.reads
 |.mkfn _ cs=>cs.flatMap aH.reads
 |.slcs lo hi x|.slc _ lo hi x|.slca _ _ lo hi x=>wv lo++wv hi++x.reads
 |.alloc ..=>[]
 |.stb l _ x y=>l++(x.reads++y.reads)
 |.emp0=>[]
 |.bsl _ _ _ ps=>ps.flatMap fun p=>p.2.reads
 |.call _ _ xs=>xs.flatMap aH.reads
 |.loadb b _ _ x=>b::x.reads
 |.mkm=>[]
 |.mlk _ _ _ x k=>x.reads++k.reads
 |.mset _ x k v=>x.reads++(k.reads++v.reads)
 |.mdel _ x k=>x.reads++k.reads
 |.plk _ _ _ x k=>x.reads++k.reads
 |.wc l x xs=>l++(x.reads++xs.flatMap aH.reads)
 |.pan x=>x.reads
 |.rcv=>[]
 |.pset _ x k v=>x.reads++(k.reads++v.reads)
 |.mko _ _ _ x=>x.reads
 |.nst _ x=>x.reads
 |.msb l _ x k v=>l++(x.reads++(k.reads++v.reads))
 |.asrI _ x=>x.reads
 |.men _ x k=>x.reads++k.reads
 |.est x k v=>x.reads++(k.reads++v.reads)
 |.mlen x=>x.reads
 |.slc3 _ lo hi mx x=>wv lo++(hi.reads++(mx.reads++x.reads))
 |.mkbfn _ cs=>cs.flatMap aH.reads
 |.callb b _ xs=>b::xs.flatMap aH.reads
 |.callv _ x xs|.inv _ _ x xs=>x.reads++xs.flatMap aH.reads
 |.bad=>[]
def aA.reads(p:aA):List Nat:=p.op.reads++(match p.guard with|some (t,_)=>[t]|none=>[])
def bq{fr fr':Fr}{x:aH}(h:∀t∈x.reads,fr t=fr' t):ev fr x=ev fr' x:=by
 cases x with
 |tmp t=>exact h t (by simp[aH.reads])
 |cst v=>rfl
def ow{fr fr':Fr}{x:Option aH}(h:∀t∈wv x,fr t=fr' t):bp fr x=bp fr' x:=by
 cases x with
 |none=>rfl
 |some x=>simp only[bp];rw[bq h]
def oy{fr fr':Fr}{xs:List aH}(h:∀t∈xs.flatMap aH.reads,fr t=fr' t):xs.map (ev fr)=xs.map (ev fr'):=
 mS fun x hx=>bq fun t ht=>h t (List.mem_flatMap.2 ⟨x,hx,ht⟩)
theorem Ta{fr fr':Fr}:∀(ps:List (Nat×Nat×aH)) (cs:List PV),(∀t∈ps.flatMap (fun p=>p.2.2.reads),fr t=fr' t)→dx fr ps cs=dx fr' ps cs
 | [],_,_=>rfl
 |(off,n,x)::ps,cs,h=>by
  simp only[dx];rw[bq (fr:=fr) (fr':=fr') (fun t ht=>h t (by simp[ht]))];rw[Ta ps _ (fun t ht=>h t (by simp only[dd,bg];exact .inr ht))]
theorem DP{fr fr':Fr}(sz:Nat):∀(ps:List (Nat×aH)) (cs:List PV),(∀t∈ps.flatMap (fun p=>p.2.reads),fr t=fr' t)→dU fr sz ps cs=dU fr' sz ps cs
 | [],_,_=>rfl
 |(i,x)::ps,cs,h=>by
  simp only[dU];rw[bq (fr:=fr) (fr':=fr') (fun t ht=>h t (by simp[ht]))];rw[DP sz ps _ (fun t ht=>h t (by simp only[dd,bg];exact .inr ht))]
def Tb{fr fr':Fr}{l:List Nat}{id:Nat}(h:∀t∈l,fr t=fr' t):qH fr l id=qH fr' l id:=by
 unfold qH;rw[rK,List.all_eq_true,List.all_eq_true];exact⟨fun q t ht=>by rw[←h t ht];exact q t ht,fun q t ht=>by rw[h t ht];exact q t ht⟩
def aDG{T:aV}{call:ac}{fr fr':Fr}{S:St}{op:bT}(h:∀t∈op.reads,fr t=fr' t):aG T call fr S op=aG T call fr' S op:=by
  cases op
  case load ag n mix x=>
    have e:=bq (fr:=fr) (fr':=fr') (x:=x) h;cases mix<;>simp only[aG,aR,e]
  case mkm=>rfl
  case emp0=>rfl
  case mkbfn f cs=>simp only[aG,aR];rw[oy h]
  case mlk ks ok z x k=>
    simp only[bT.reads,bg]at h;have e1:=bq (fr:=fr) (fr':=fr') (x:=x) (fun t ht=>h t (.inl ht));have e2:=bq (fr:=fr) (fr':=fr') (x:=k) (fun t ht=>h t (.inr ht));simp only[aG,e1,e2]
  case mset ks x k v=>
    simp only[bT.reads,bg]at h;have e1:=bq (fr:=fr) (fr':=fr') (x:=x) (fun t ht=>h t (.inl ht));have e2:=bq (fr:=fr) (fr':=fr') (x:=k) (fun t ht=>h t (.inr (.inl ht)));have e3:=bq (fr:=fr) (fr':=fr') (x:=v) (fun t ht=>h t (.inr (.inr ht)));simp only[aG,e1,e2,e3]
  case wc l x xs=>rfl
  case pan x=>rfl
  case rcv=>rfl
  case plk ar ok z x k=>
    simp only[bT.reads,bg]at h;have e1:=bq (fr:=fr) (fr':=fr') (x:=x) (fun t ht=>h t (.inl ht));have e2:=bq (fr:=fr) (fr':=fr') (x:=k) (fun t ht=>h t (.inr ht));simp only[aG,e1,e2]
  case pset ar x k v=>
    simp only[bT.reads,bg]at h;have e1:=bq (fr:=fr) (fr':=fr') (x:=x) (fun t ht=>h t (.inl ht));have e2:=bq (fr:=fr) (fr':=fr') (x:=k) (fun t ht=>h t (.inr (.inl ht)));have e3:=bq (fr:=fr) (fr':=fr') (x:=v) (fun t ht=>h t (.inr (.inr ht)));simp only[aG,e1,e2,e3]
  case mko sz bytes z x=>
    have e1:=bq (fr:=fr) (fr':=fr') (x:=x) h;simp only[aG,e1]
  case nst n x=>
    have e1:=bq (fr:=fr) (fr':=fr') (x:=x) h;simp only[aG,e1]
  case msb l ks x k v=>
    simp only[bT.reads,bg]at h;have e1:=bq (fr:=fr) (fr':=fr') (x:=x) (fun t ht=>h t (.inr (.inl ht)));have e2:=bq (fr:=fr) (fr':=fr') (x:=k) (fun t ht=>h t (.inr (.inr (.inl ht))));have e3:=bq (fr:=fr) (fr':=fr') (x:=v) (fun t ht=>h t (.inr (.inr (.inr ht))));simp only[aG,e1,e2,e3,fun id=>Tb (fr:=fr) (fr':=fr') (l:=l) (id:=id) (fun t ht=>h t (.inl ht))]
  case men z x k=>
    simp only[bT.reads,bg]at h;have e1:=bq (fr:=fr) (fr':=fr') (x:=x) (fun t ht=>h t (.inl ht));have e2:=bq (fr:=fr) (fr':=fr') (x:=k) (fun t ht=>h t (.inr ht));simp only[aG,e1,e2]
  case est x k v=>
    simp only[bT.reads,bg]at h;have e1:=bq (fr:=fr) (fr':=fr') (x:=x) (fun t ht=>h t (.inl ht));have e2:=bq (fr:=fr) (fr':=fr') (x:=k) (fun t ht=>h t (.inr (.inl ht)));have e3:=bq (fr:=fr) (fr':=fr') (x:=v) (fun t ht=>h t (.inr (.inr ht)));simp only[aG,e1,e2,e3]
  case mdel ks x k=>
    simp only[bT.reads,bg]at h;have e1:=bq (fr:=fr) (fr':=fr') (x:=x) (fun t ht=>h t (.inl ht));have e2:=bq (fr:=fr) (fr':=fr') (x:=k) (fun t ht=>h t (.inr ht));simp only[aG,e1,e2]
  case mlen x=>
    have e1:=bq (fr:=fr) (fr':=fr') (x:=x) h;simp only[aG,e1]
  case slc3 sz lo hi mx x=>
    simp only[bT.reads,bg]at h;have e1:=ow (fr:=fr) (fr':=fr') (x:=lo) (fun t ht=>h t (.inl ht));have e2:=bq (fr:=fr) (fr':=fr') (x:=hi) (fun t ht=>h t (.inr (.inl ht)));have e3:=bq (fr:=fr) (fr':=fr') (x:=mx) (fun t ht=>h t (.inr (.inr (.inl ht))));have e4:=bq (fr:=fr) (fr':=fr') (x:=x) (fun t ht=>h t (.inr (.inr (.inr ht))));simp only[aG,e1,e2,e3,e4]
  case loadb b ag n x=>
    have e0:fr b=fr' b:=h b (by simp[bT.reads]);have e:=bq (fr:=fr) (fr':=fr') (x:=x) (fun t ht=>h t (by simp[bT.reads,ht]));simp only[aG,e0,e]
  case callb b f xs=>
    have e0:fr b=fr' b:=h b (by simp[bT.reads]);have e:=oy (fr:=fr) (fr':=fr') (xs:=xs) (fun t ht=>h t (by simp only[bT.reads,dI];exact .inr ht));simp only[aG,e0,e]
  case stb l m x y=>
    simp only[bT.reads,bg]at h;have e1:=bq (fr:=fr) (fr':=fr') (x:=x) (fun t ht=>h t (.inr (.inl ht)));have e2:=bq (fr:=fr) (fr':=fr') (x:=y) (fun t ht=>h t (.inr (.inr ht)));simp only[aG,e1,e2,fun id=>Tb (fr:=fr) (fr':=fr') (l:=l) (id:=id) (fun t ht=>h t (.inl ht))]
  case build z ps=>simp only[aG,aR];rw[Ta ps z h]
  case bsl ro ze len ps=>simp only[aG,cY];rw[DP _ ps _ h]
  case alloc=>rfl
  case bad=>rfl
  case pick c x y=>
    simp only[bT.reads,bg]at h;have e1:=bq (fr:=fr) (fr':=fr') (x:=c) (fun t ht=>h t (.inl (.inl ht)));have e2:=bq (fr:=fr) (fr':=fr') (x:=x) (fun t ht=>h t (.inl (.inr ht)));have e3:=bq (fr:=fr) (fr':=fr') (x:=y) (fun t ht=>h t (.inr ht));simp only[aG,aR,e1,e2,e3]
  case mkfn f cs=>simp only[aG,aR];rw[oy h]
  case call _ f xs=>simp only[aG];rw[oy h]
  case callv _ x xs=>
    simp only[bT.reads,bg]at h;have e1:=bq (fr:=fr) (fr':=fr') (x:=x) (fun t ht=>h t (.inl ht));have e2:=oy (fr:=fr) (fr':=fr') (xs:=xs) (fun t ht=>h t (.inr ht));simp only[aG,e1,e2]
  case inv _ m x xs=>
    simp only[bT.reads,bg]at h;have e1:=bq (fr:=fr) (fr':=fr') (x:=x) (fun t ht=>h t (.inl ht));have e2:=oy (fr:=fr) (fr':=fr') (xs:=xs) (fun t ht=>h t (.inr ht));simp only[aG,e1,e2]
  case slcs lo hi x=>
    simp only[bT.reads,bg]at h;have e1:=ow (fr:=fr) (fr':=fr') (x:=lo) (fun t ht=>h t (.inl (.inl ht)));have e2:=ow (fr:=fr) (fr':=fr') (x:=hi) (fun t ht=>h t (.inl (.inr ht)));have e3:=bq (fr:=fr) (fr':=fr') (x:=x) (fun t ht=>h t (.inr ht));simp only[aG,aR,e1,e2,e3]
  case slc sz lo hi x=>
    simp only[bT.reads,bg]at h;have e1:=ow (fr:=fr) (fr':=fr') (x:=lo) (fun t ht=>h t (.inl (.inl ht)));have e2:=ow (fr:=fr) (fr':=fr') (x:=hi) (fun t ht=>h t (.inl (.inr ht)));have e3:=bq (fr:=fr) (fr':=fr') (x:=x) (fun t ht=>h t (.inr ht));simp only[aG,aR,e1,e2,e3]
  case slca len sz lo hi x=>
    simp only[bT.reads,bg]at h;have e1:=ow (fr:=fr) (fr':=fr') (x:=lo) (fun t ht=>h t (.inl (.inl ht)));have e2:=ow (fr:=fr) (fr':=fr') (x:=hi) (fun t ht=>h t (.inl (.inr ht)));have e3:=bq (fr:=fr) (fr':=fr') (x:=x) (fun t ht=>h t (.inr ht));simp only[aG,aR,e1,e2,e3]
  case len st x=>
    have e:=bq (fr:=fr) (fr':=fr') (x:=x) h;cases st<;>simp only[aG,aR,e]
  all_goals first
    | (rename_i x
       have e:=bq (fr:=fr) (fr':=fr') (x:=x) h
       simp only[aG,aR,e];done)
    | (rename_i x y
       simp only[bT.reads,bg]at h;have e1:=bq (fr:=fr) (fr':=fr') (x:=x) (fun t ht=>h t (.inl ht));have e2:=bq (fr:=fr) (fr':=fr') (x:=y) (fun t ht=>h t (.inr ht));simp only[aG,aR,e1,e2];done)
def Tc{T:aV}{call:ac}{fr:Fr}{op:bT}(h:jd op=true):∃q,∀S,aG T call fr S op=dF S q:=by
 cases op<;>simp only[jd,mw]at h<;>try (cases h;done)
 case load ag n mix x=>subst h;exact⟨_,fun S=>by simp only[aG];rfl⟩
 case box ro x=>
  subst h;refine⟨if(ev fr x).cells.all PV.one then some (.ref (ev fr x).cells)else none,fun S=>?_⟩;simp only[aG,if_true];split<;>rfl
 case alloc ro z=>
  subst h;refine⟨if z.all PV.one then some (.ref z)else none,fun S=>?_⟩;simp only[aG,if_true];split<;>rfl
 case bsl ro ze len ps=>
  subst h;refine⟨match cY fr ze len ps with|some es=>some (.sl none es [])|none=>none,fun S=>?_⟩;simp only[aG,if_true];cases he:cY fr ze len ps<;>rfl
 case emp0=>exact⟨some .emp,fun S=>rfl⟩
 case toBytes ro x=>
  subst h;refine⟨match ev fr x with|.str s=>some (.sl none (aI s) [])|_=>none,fun S=>?_⟩;simp only[aG,if_true];cases he:ev fr x<;>rfl
 case call m f xs=>
  simp only[beq_iff_eq]at h;subst h;exact⟨jG call f (xs.map (ev fr)),fun S=>rfl⟩
 case callv m x xs=>
  simp only[beq_iff_eq]at h;subst h;refine⟨match ev fr x with|.fn f caps=>jG call f (xs.map (ev fr)++caps)|.bfn f first=>jG call f (first++xs.map (ev fr))|_=>none,fun S=>?_⟩;simp only[aG];cases he:ev fr x<;>rfl
 case inv cm m x xs=>
  simp only[beq_iff_eq]at h;subst h;refine⟨match ev fr x with|.iface t v=>(match T.meth t m with|some f=>jG call f (v::xs.map (ev fr))|none=>none)|_=>none,fun S=>?_⟩;simp only[aG];cases he:ev fr x<;>try rfl
  rename_i t v;simp only;cases hm:T.meth t m<;>rfl
 all_goals exact⟨_,fun S=>by simp only[aG];rfl⟩
def ww:bT→Bool
 |.load _ _ false _=>true
 |.loadb ..=>true
 |.mlk ..=>true
 |.mlen _=>true
 |.toStrO _=>true
 |_=>false
def wx:bT→Bool
 |.call m _ _|.callv m _ _|.inv m _ _ _=>m==.keep
 |.box ..|.alloc ..|.bsl ..|.app ..|.toBytes ..|.mks ..|.mkm|.slc3 ..=>true
 |_=>false
def DQ:bT→bT→Bool
 |.loadb b _ _ _,.callb c _ _=>b==c
 |.loadb b _ _ _,.stb l _ _ _=>l.contains b
 |.loadb b _ _ _,.msb l _ _ _ _=>l.contains b
 |_,_=>false
def DR:bT→bT→Bool
 |.callb c _ _,.loadb b _ _ _=>b==c
 |_,_=>false
def wy:bT→bT→Bool
 |.mks ..,.alloc ..=>true
 |.app ..,.alloc ..=>true
 |_,_=>false
def ge(p q:aA):Bool:=
 (match p.dst with|some d=>!q.reads.contains d&&q.dst != some d|none=>true) &&
 (match q.dst with|some d=>!p.reads.contains d|none=>true) &&
 (jd p.op||jd q.op||(ww p.op&&(ww q.op||wx q.op))||DQ p.op q.op||DR p.op q.op||wy p.op q.op)
def wz{fr:Fr}{d e:Option Nat}{u v:PV}(h:∀t,d=some t→e≠some t):aP (aP fr d u) e v=aP (aP fr e v) d u:=by
 cases d with
 |none=>rfl
 |some d=>
  cases e with
  |none=>rfl
  |some e=>
   have hne:d≠e:=fun he=>h d rfl (he▸rfl);funext t;simp only[aP,df];by_cases h1:t=e
   ·subst h1;simp[Ne.symm hne]
   ·simp[h1]
def mC{fr:Fr}{d:Option Nat}{u:PV}{t:Nat}(h:d≠some t):aP fr d u t=fr t:=by
 cases d with
 |none=>rfl
 |some d=>
  simp only[aP,df];rw[if_neg (fun e=>h (by rw[e]))]
def aDH{fr fr':Fr}{gd:Option (Nat×Bool)}(h:∀t b,gd=some (t,b)→fr t=fr' t):bu fr gd=bu fr' gd:=by
 cases gd with
 |none=>rfl
 |some q=>obtain⟨t,b⟩:=q;simp only[bu,h t b rfl]
def bN(T:aV)(call:ac)(p:aA)(fr:Fr)(S:St):Option (PV×St):=
 match bu fr p.guard with
 |none=>none
 |some false=>some (.tup [],S)
 |some true=>aG T call fr S p.op
def dW{T:aV}{call:ac}{p:aA}{l:List aA}{fr:Fr}{S:St} :
  ae T call (p::l) fr S=match bN T call p fr S with|some (v,S')=>ae T call l (aP fr p.dst v) S'|none=>none:=by
 simp only[ae,bN]
 cases bu fr p.guard with
 |none=>rfl
 |some b=>cases b<;>rfl
def tf{T:aV}{call:ac}{p:aA}{fr fr':Fr}{S:St}(h:∀t∈p.reads,fr t=fr' t):bN T call p fr S=bN T call p fr' S:=by
 simp only[bN];rw[aDH (fr:=fr) (fr':=fr') (fun t b hb=>h t (by simp[aA.reads,hb]))];rw[aDG (fr:=fr) (fr':=fr') (fun t ht=>h t (by simp[aA.reads,ht]))]
def oz{T:aV}{call:ac}{p:aA}{fr:Fr}{S S1:St}{v:PV}(hp:jd p.op=true)(h:bN T call p fr S=some (v,S1)):S1=S∧∀S2,bN T call p fr S2=some (v,S2):=by
 simp only[bN]at h ⊢;split at h
 ·cases h
 ·cases h;exact⟨rfl,fun _=>rfl⟩
 ·obtain⟨q,hq⟩:=Tc (T:=T) (call:=call) (fr:=fr) hp;rw[hq]at h;obtain⟨h1,h2⟩:=DK h;refine⟨h1,fun S2=>?_⟩;rw[hq,h2];rfl
mutual
theorem Td:∀(a b:PV),PV.beq a b=true→a=b
 |.und,b,h=>by cases b<;>first|rfl|(simp[PV.beq]at h)
 |.int k n,b,h=>by cases b<;>simp[PV.beq]at h;simp[h]
 |.bool x,b,h=>by cases b<;>simp[PV.beq]at h;simp[h]
 |.str s,b,h=>by cases b<;>simp[PV.beq]at h;simp[h]
 |.nilp,b,h=>by cases b<;>first|rfl|(simp[PV.beq]at h)
 |.nils,b,h=>by cases b<;>first|rfl|(simp[PV.beq]at h)
 |.nili,b,h=>by cases b<;>first|rfl|(simp[PV.beq]at h)
 |.nilf,b,h=>by cases b<;>first|rfl|(simp[PV.beq]at h)
 |.ptr i o,b,h=>by cases b<;>simp[PV.beq]at h;simp[h]
 |.ref cs,b,h=>by
  cases b<;>simp only[PV.beq]at h<;>try (cases h;done)
  rw[kQ _ _ h]
 |.sl t es sp,b,h=>by
  cases b<;>simp only[PV.beq,aJ,beq_iff_eq]at h<;>try (cases h;done)
  obtain⟨⟨rfl,h1⟩,h2⟩:=h
  rw[kQ _ _ h1,kQ _ _ h2]
 |.osl i o l s,b,h=>by cases b<;>simp[PV.beq]at h;simp[h]
 |.emp,b,h=>by cases b<;>first|rfl|(simp[PV.beq]at h)
 |.iface t v,b,h=>by
  cases b<;>simp only[PV.beq,aJ,beq_iff_eq]at h<;>try (cases h;done)
  obtain⟨rfl,h1⟩:=h
  rw[Td _ _ h1]
 |.agg cs,b,h=>by
  cases b<;>simp only[PV.beq]at h<;>try (cases h;done)
  rw[kQ _ _ h]
 |.tup cs,b,h=>by
  cases b<;>simp only[PV.beq]at h<;>try (cases h;done)
  rw[kQ _ _ h]
 |.fn f cs,b,h=>by
  cases b<;>simp only[PV.beq,aJ,beq_iff_eq]at h<;>try (cases h;done)
  obtain⟨rfl,h1⟩:=h
  rw[kQ _ _ h1]
 |.nilm,b,h=>by cases b<;>first|rfl|(simp[PV.beq]at h)
 |.map i,b,h=>by cases b<;>simp[PV.beq]at h;simp[h]
 |.hnd i,b,h=>by cases b<;>simp[PV.beq]at h;simp[h]
 |.bfn f cs,b,h=>by
  cases b<;>simp only[PV.beq,aJ,beq_iff_eq]at h<;>try (cases h;done)
  obtain⟨rfl,h1⟩:=h;rw[kQ _ _ h1]
theorem kQ:∀(a b:List PV),PV.beqL a b=true→a=b
 | [],b,h=>by cases b<;>first|rfl|(simp[PV.beqL]at h)
 |x::l,b,h=>by
  cases b<;>simp only[PV.beqL,aJ]at h<;>try (cases h;done)
  rw[Td _ _ h.1,kQ _ _ h.2]
end
theorem fg:∀{a b:List (List PV)},PV.beqLL a b=true→a=b
 | [],[],_=>rfl
 |a::l,b::m,h=>by
  simp only[PV.beqLL,aJ]at h
  rw[kQ _ _ h.1,fg h.2]
 | [],_::_,h=>by simp[PV.beqLL]at h
 |_::_,[],h=>by simp[PV.beqLL]at h
def aDI{T:aV}{call:ac}{fr:Fr}{S S1:St}{v:PV}{op:bT}(hp:ww op=true)(h:aG T call fr S op=some (v,S1)) :
  S1=S∧∀S2,S2.objs.take S.objs.length=S.objs→aG T call fr S2 op=some (v,S2):=by
 cases op
 case load ag n mix x=>
  cases mix
  ·simp only[aG]at h ⊢;cases he:ev fr x<;>rw[he]at h<;>simp only at h<;>try (cases h;done)
   case ref cs=>
    cases hq:bG ag n cs with
    |none=>rw[hq]at h;cases h
    |some q=>rw[hq]at h;cases h;exact⟨rfl,fun S2 _=>by simp[hq]⟩
   case ptr id off=>
    cases hc:S.objs[id]? with
    |none=>rw[hc]at h;cases h
    |some cs=>
     rw[hc]at h;simp only at h
     cases hq:bG ag n (cs.drop off)with
     |none=>rw[hq]at h;cases h
     |some q=>
      rw[hq]at h;cases h;refine⟨rfl,fun S2 hS2=>?_⟩;have hlt:id<S.objs.length:=(aM.1 hc).1;have:S2.objs[id]?=some cs:=by rw[←hc,←hS2,dH hlt]
      simp[this,hq]
  ·cases hp
 case mlk ks ok z x k=>
  simp only[aG]at h ⊢;split at h
  ·rename_i hk;simp only[if_pos hk];split at h
   ·cases h;exact⟨rfl,fun S2 _=>rfl⟩
   ·rename_i id e;split at h
    ·rename_i cs hc;split at h
     ·rename_i r hr;cases h;refine⟨rfl,fun S2 hS2=>?_⟩;have hlt:id<S.objs.length:=(aM.1 hc).1;have:S2.objs[id]?=some cs:=by rw[←hc,←hS2,dH hlt]
      simp[this,hr]
     ·cases h
    ·cases h
   ·cases h
  ·cases h
 case mlen x=>
  simp only[aG]at h ⊢;split at h
  ·cases h;exact⟨rfl,fun S2 _=>rfl⟩
  ·rename_i id e;split at h
   ·rename_i cs hc;cases h;refine⟨rfl,fun S2 hS2=>?_⟩;have hlt:id<S.objs.length:=(aM.1 hc).1;have:S2.objs[id]?=some cs:=by rw[←hc,←hS2,dH hlt]
    simp[this]
   ·cases h
  ·cases h
 case toStrO x=>
  simp only[aG]at h ⊢;split at h
  ·rename_i id off len sz he;split at h
   ·rename_i cs hc;split at h
    ·rename_i hq;split at h
     ·rename_i s hs;cases h;refine⟨rfl,fun S2 hS2=>?_⟩;have hlt:id<S.objs.length:=(aM.1 hc).1;have:S2.objs[id]?=some cs:=by rw[←hc,←hS2,dH hlt]
      simp[this,hq,hs]
     ·cases h
    ·cases h
   ·cases h
  ·cases h;exact⟨rfl,fun S2 _=>rfl⟩
  ·cases h;exact⟨rfl,fun S2 _=>rfl⟩
  ·split at h
   ·rename_i s hs;cases h;exact⟨rfl,fun S2 _=>by simp[hs]⟩
   ·cases h
  ·cases h
 case loadb b ag n x=>
  simp only[aG]at h ⊢;split at h
  ·rename_i i o id off hb he;split at h
   ·rename_i hid;split at h
    ·rename_i cs hc;split at h
     ·rename_i v' hq;cases h;refine⟨rfl,fun S2 hS2=>?_⟩;have hlt:id<S.objs.length:=(aM.1 hc).1;have:S2.objs[id]?=some cs:=by rw[←hc,←hS2,dH hlt]
      simp[hb,he,hid,this,hq]
     ·cases h
    ·cases h
   ·cases h
  ·cases h
 all_goals cases hp
def Te{S S1:St}{cs:List PV}{v:PV}(h:bt S cs=(v,S1)):S1.objs.take S.objs.length=S.objs:=by
 cases h;simp
def tg{S S1:St}{sz:Nat}{cs:List PV}{v:PV}(h:dy S sz cs=(v,S1)):S1.objs.take S.objs.length=S.objs:=by
 cases h;simp
def xA{S S1:St}{ro:Bool}{q:PV×St}{r v:PV}(hq:∀v S1,q=(v,S1)→S1.objs.take S.objs.length=S.objs)(h:(if ro then(r,S)else q)=(v,S1)):S1.objs.take S.objs.length=S.objs:=by
 cases ro
 ·exact hq v S1 (by simpa using h)
 ·simp only[if_true]at h;cases h;simp
def xB{call:ac}{f:Nat}{args:List PV}{S S1:St}{v:PV}(h:dP call .keep f args S=some (v,S1)):S1.objs.take S.objs.length=S.objs:=by
 simp only[dP,oS]at h;split at h
 ·cases h
 ·simp only[if_true]at h;split at h
  ·rename_i hb;cases h;exact fg hb
  ·cases h
def aDJ{T:aV}{call:ac}{fr:Fr}{S S1:St}{v:PV}{op:bT}(hp:wx op=true)(h:aG T call fr S op=some (v,S1)):S1.objs.take S.objs.length=S.objs:=by
 cases op<;>simp only[wx]at hp<;>try (cases hp;done)
 case call m f xs=>
  simp only[beq_iff_eq]at hp;subst hp;simp only[aG]at h;exact xB h
 case callv m x xs=>
  simp only[beq_iff_eq]at hp;subst hp;simp only[aG]at h;split at h
  ·exact xB h
  ·exact xB h
  ·cases h
 case inv cm m x xs=>
  simp only[beq_iff_eq]at hp;subst hp;simp only[aG]at h;split at h
  ·split at h
   ·exact xB h
   ·cases h
  ·cases h
 case mkm=>simp only[aG]at h;cases h;simp
 case slc3 sz lo hi mx x=>
  simp only[aG]at h;unfold wG at h;split at h
  ·split at h
   ·cases h;simp
   ·cases h
  ·split at h
   ·split at h
    ·split at h
     ·split at h
      ·split at h
       ·cases h;simp
       ·cases h
      ·cases h
     ·cases h
    ·cases h
   ·cases h
  ·cases h
 case box ro x=>
  simp only[aG]at h;split at h
  ·exact xA (fun _ _=>Te) (iz h)
  ·cases h
 case alloc ro z=>
  simp only[aG]at h;split at h
  ·exact xA (fun _ _=>Te) (iz h)
  ·cases h
 case bsl ro ze len ps=>
  simp only[aG]at h;split at h
  ·exact xA (fun _ _=>tg) (iz h)
  ·cases h
 case toBytes ro x=>
  simp only[aG]at h;split at h
  ·exact xA (fun _ _=>tg) (iz h)
  ·cases h
 case mks sz bytes c=>
  simp only[aG]at h;split at h
  ·split at h
   ·exact tg (iz h)
   ·cases h
  ·cases h
 case app sz bytes s x=>
  simp only[aG]at h;split at h
  ·split at h
   ·unfold eh at h;split at h
    ·split at h
     ·cases h;simp
     ·split at h
      ·exact tg (iz h)
      ·cases h
    ·split at h
     ·cases h;simp
     ·split at h
      ·split at h
       ·cases h;simp
       ·cases h
      ·cases h
    ·split at h
     ·cases h;simp
     ·split at h
      ·exact tg (iz h)
      ·cases h
    ·cases h
   ·cases h
  ·cases h
def xC{T:aV}{call:ac}{p:aA}{fr:Fr}{S S1:St}{v:PV}(hp:ww p.op=true)(h:bN T call p fr S=some (v,S1)) :
  S1=S∧∀S2,S2.objs.take S.objs.length=S.objs→bN T call p fr S2=some (v,S2):=by
 simp only[bN]at h ⊢;split at h
 ·cases h
 ·cases h;exact⟨rfl,fun _ _=>rfl⟩
 ·exact aDI hp h
def aDK{T:aV}{call:ac}{p:aA}{fr:Fr}{S S1:St}{v:PV}(hp:wx p.op=true)(h:bN T call p fr S=some (v,S1)):S1.objs.take S.objs.length=S.objs:=by
 simp only[bN]at h;split at h
 ·cases h
 ·cases h;simp
 ·exact aDJ hp h
def aDL{T:aV}{call:ac}{p q:aA}{fr:Fr}{S S1 S2:St}{v u:PV}(hb:DQ p.op q.op=true)(hp:bN T call p fr S=some (v,S1))(hq:bN T call q fr S1=some (u,S2)) :
  S1=S∧bN T call p fr S2=some (v,S2):=by
 obtain⟨pd,pop,pg⟩:=p;obtain⟨qd,qop,qg⟩:=q;cases pop<;>simp only[DQ]at hb<;>try (cases hb;done)
 cases qop<;>simp only at hb<;>try (cases hb;done)
 ·rename_i b ag n x l m y z;have hb:b∈l:=by simpa using hb
  simp only[bN]at hp hq ⊢;split at hp
  ·cases hp
  ·cases hp;exact⟨rfl,rfl⟩
  ·simp only[aG]at hp;split at hp
   ·rename_i i o id off e0 e1;split at hp
    ·rename_i hid;subst hid;split at hp
     ·rename_i cs hcs;split at hp
      ·rename_i v' hv;cases hp;refine⟨rfl,?_⟩
       have hS2:S2.objs[i]?=some cs:=by
        split at hq
        ·cases hq
        ·cases hq;exact hcs
        ·simp only[aG]at hq;split at hq
         ·split at hq
          ·split at hq
           ·rename_i id off _ _ _ hcond;cases hq;have hne:=(List.all_eq_true.1 hcond.1) b hb;rw[e0]at hne;simp only[bne_iff_ne,ne_eq]at hne;rw[bU (Ne.symm hne)];exact hcs
           ·cases hq
          ·cases hq
         ·cases hq
       simp[aG,e0,e1,hS2,hv]
      ·cases hp
     ·cases hp
    ·cases hp
   ·cases hp
 ·rename_i b ag n x l ks y z u';have hb:b∈l:=by simpa using hb
  simp only[bN]at hp hq ⊢;split at hp
  ·cases hp
  ·cases hp;exact⟨rfl,rfl⟩
  ·simp only[aG]at hp;split at hp
   ·rename_i i o id off e0 e1;split at hp
    ·rename_i hid;subst hid;split at hp
     ·rename_i cs hcs;split at hp
      ·rename_i v' hv;cases hp;refine⟨rfl,?_⟩
       have hS2:S2.objs[i]?=some cs:=by
        split at hq
        ·cases hq
        ·cases hq;exact hcs
        ·simp only[aG]at hq;split at hq
         ·split at hq
          ·split at hq
           ·split at hq
            ·rename_i id off _ _ _ _ hcond;cases hq;have hne:=(List.all_eq_true.1 hcond.1) b hb;rw[e0]at hne;simp only[bne_iff_ne,ne_eq]at hne;rw[bU (Ne.symm hne)];exact hcs
            ·cases hq
           ·cases hq
          ·cases hq
         ·cases hq
       simp[aG,e0,e1,hS2,hv]
      ·cases hp
     ·cases hp
    ·cases hp
   ·cases hp
 rename_i b ag n x c f xs;have hb:b=c:=by simpa using hb
 subst hb;simp only[bN]at hp hq ⊢;split at hp
 ·cases hp
 ·cases hp;exact⟨rfl,rfl⟩
 ·simp only[aG]at hp;split at hp
  ·rename_i i o id off e0 e1;split at hp
   ·rename_i hid;subst hid;split at hp
    ·rename_i cs hcs;split at hp
     ·rename_i v' hv;cases hp;refine⟨rfl,?_⟩
      have hS2:S2.objs[i]?=some cs:=by
       split at hq
       ·cases hq
       ·cases hq;exact hcs
       ·simp only[aG,e0]at hq
        cases hcall:call f (xs.map (ev fr)) S with
        |none=>rw[hcall]at hq;cases hq
        |some y=>
         obtain⟨u',S'⟩:=y;rw[hcall]at hq;simp only[oT,hcs]at hq;split at hq
         ·rename_i a1 a2 g1 g2;cases g1;split at hq
          ·rename_i hbe;cases hq;rw[g2,kQ _ _ hbe]
          ·cases hq
         ·cases hq
      simp[aG,e0,e1,hS2,hv]
     ·cases hp
    ·cases hp
   ·cases hp
  ·cases hp
def aDM{T:aV}{call:ac}{p q:aA}{fr:Fr}{S S1 S2:St}{v u:PV}(hb:DR p.op q.op=true)(hp:bN T call p fr S=some (v,S1))(hq:bN T call q fr S1=some (u,S2)) :
  bN T call q fr S=some (u,S)∧S2=S1:=by
 obtain⟨pd,pop,pg⟩:=p;obtain⟨qd,qop,qg⟩:=q;cases pop<;>simp only[DR]at hb<;>try (cases hb;done)
 cases qop<;>simp only at hb<;>try (cases hb;done)
 rename_i c f xs b ag n x;have hb:b=c:=by simpa using hb
 subst hb;simp only[bN]at hp hq ⊢;split at hq
 ·cases hq
 ·cases hq;exact⟨rfl,rfl⟩
 ·simp only[aG]at hq;split at hq
  ·rename_i i o id off e0 e1;split at hq
   ·rename_i hid;subst hid;split at hq
    ·rename_i cs hcs;split at hq
     ·rename_i v' hv;cases hq;refine⟨?_,rfl⟩
      have hS:S.objs[i]?=some cs:=by
       split at hp
       ·cases hp
       ·cases hp;exact hcs
       ·simp only[aG,e0]at hp
        cases hcall:call f (xs.map (ev fr)) S with
        |none=>rw[hcall]at hp;cases hp
        |some y=>
         obtain⟨u',S'⟩:=y;rw[hcall]at hp;simp only[oT]at hp;split at hp
         ·rename_i a1 a2 g1 g2;split at hp
          ·rename_i hbe;cases hp;rw[hcs]at g2;cases g2;rw[g1,kQ _ _ hbe]
          ·cases hp
         ·cases hp
      simp[aG,e0,e1,hS,hv]
     ·cases hq
    ·cases hq
   ·cases hq
  ·cases hq
def aDN{sz bytes:Nat}{S S1:St}{s v:PV}{new:List PV}(h:eh sz bytes S s new=some (v,S1)):S1.objs=S.objs∧∀o,eh sz bytes ⟨o,S.tips⟩ s new=some (v,⟨o,S1.tips⟩):=by
 unfold eh at h ⊢;split at h
 ·split at h
  ·rename_i hn;cases h;exact⟨rfl,fun o=>by simp[hn]⟩
  ·rename_i hn;split at h
   ·rename_i hb;cases h;exact⟨rfl,fun o=>by simp[hn,hb,dy]⟩
   ·cases h
 ·split at h
  ·rename_i hn;cases h;exact⟨rfl,fun o=>by simp[hn]⟩
  ·rename_i hn;split at h
   ·rename_i id e;split at h
    ·rename_i hb;cases h;exact⟨rfl,fun o=>by simp[hn,hb]⟩
    ·cases h
   ·cases h
 ·split at h
  ·rename_i hn;cases h;exact⟨rfl,fun o=>by simp[hn]⟩
  ·rename_i hn;split at h
   ·rename_i hb;cases h;exact⟨rfl,fun o=>by simp[hn,hb,dy]⟩
   ·cases h
 ·cases h
def aDO{S:St}{sz:Nat}{x:PV}{new:List PV}(h:eg S sz x=some new)(cs:List (List PV))(y:List (Nat×Nat)):eg ⟨S.objs++cs,y⟩ sz x=some new:=by
 unfold eg at h ⊢;split at h
 ·rename_i id off len sz';split at h
  ·rename_i c hc;simp only;rw[bK (aM.1 hc).1,hc];exact h
  ·cases h
 ·exact h
def aDP{T:aV}{call:ac}{p q:aA}{fr:Fr}{S S1 S2:St}{v u:PV}(hb:wy p.op q.op=true)(hp:bN T call p fr S=some (v,S1))(hq:bN T call q fr S1=some (u,S2)) :
  ∃S3,bN T call q fr S=some (u,S3)∧bN T call p fr S3=some (v,S2):=by
 obtain⟨pd,pop,pg⟩:=p;obtain⟨qd,qop,qg⟩:=q
 have hpo:S1.objs=S.objs∧∀cs,bN T call ⟨pd,pop,pg⟩ fr ⟨S.objs++cs,S.tips⟩=some (v,⟨S.objs++cs,S1.tips⟩):=by
  simp only[bN]at hp ⊢;split at hp
  ·cases hp
  ·cases hp;exact⟨rfl,fun cs=>rfl⟩
  ·cases pop<;>simp only[wy]at hb<;>try (cases hb;done)
   ·simp only[aG]at hp ⊢;split at hp
    ·rename_i new hn;split at hp
     ·rename_i h0;obtain⟨e1,e2⟩:=aDN hp;refine⟨e1,fun cs=>?_⟩;rw[aDO hn];simp only[h0,if_true];exact e2 _
     ·cases hp
    ·cases hp
   ·simp only[aG]at hp ⊢;split at hp
    ·split at hp
     ·rename_i hc;cases hp;exact⟨rfl,fun cs=>by simp[hc,dy]⟩
     ·cases hp
    ·cases hp
 obtain⟨o1,hpo⟩:=hpo;cases qop<;>cases pop<;>simp only[wy]at hb<;>try (cases hb;done)
 all_goals
  simp only[bN]at hq;split at hq
  ·cases hq
  ·cases hq;rename_i hw;refine⟨S,by simp[bN,hw],hp⟩
  ·rename_i hw;simp only[aG]at hq;split at hq
   ·rename_i ha;split at hq
    ·rename_i hr;cases hq;exact⟨S,by simp[bN,hw,aG,ha,hr],hp⟩
    ·rename_i hr;simp only[bt]at hq;cases hq;refine⟨_,by simp[bN,hw,aG,ha,hr,bt,o1];rfl,?_⟩;rw[o1];exact hpo _
   ·cases hq
def swap{T:aV}{call:ac}{p q:aA}{l:List aA}{fr:Fr}{S:St}{r:Fr×St}(hi:ge p q=true)(h:ae T call (p::q::l) fr S=some r) :
  ae T call (q::p::l) fr S=some r:=by
 simp only[ge,aJ]at hi;obtain⟨⟨h1,h2⟩,h3⟩:=hi;have hpq:∀t∈q.reads,p.dst≠some t:=fun t ht e=>by rw[e]at h1;simp[ht]at h1
 have hqp:∀t∈p.reads,q.dst≠some t:=fun t ht e=>by rw[e]at h2;simp[ht]at h2
 have hdd:∀t,p.dst=some t→q.dst≠some t:=fun t e e'=>by rw[e]at h1;simp[e']at h1
 rw[dW]at h
 cases hp:bN T call p fr S with
 |none=>rw[hp]at h;cases h
 |some x=>
  obtain⟨v1,S1⟩:=x;rw[hp]at h;simp only at h;rw[dW]at h;have cq:bN T call q (aP fr p.dst v1) S1=bN T call q fr S1:=tf fun t ht=>mC (hpq t ht);rw[cq]at h
  cases hq:bN T call q fr S1 with
  |none=>rw[hq]at h;cases h
  |some y=>
   obtain⟨v2,S2⟩:=y;rw[hq]at h;simp only at h
   have goal:∃S3,bN T call q fr S=some (v2,S3)∧bN T call p fr S3=some (v1,S2):=by
    simp only[ir,aJ]at h3;rcases h3 with((((h3|h3)|⟨h3,h4⟩)|h3)|h3)|h3
    ·obtain⟨e,k⟩:=oz h3 hp;subst e;exact⟨S2,hq,k S2⟩
    ·obtain⟨e,k⟩:=oz h3 hq;subst e;exact⟨S,k S,hp⟩
    ·obtain⟨e,k⟩:=xC h3 hp;subst e;refine⟨S2,hq,k S2 ?_⟩;rcases h4 with h4|h4
     ·obtain⟨e',_⟩:=xC h4 hq;rw[e'];simp
     ·exact aDK h4 hq
    ·obtain⟨e,k⟩:=aDL h3 hp hq;subst e;exact⟨S2,hq,k⟩
    ·obtain⟨k,e⟩:=aDM h3 hp hq;subst e;exact⟨S,k,hp⟩
    ·exact aDP h3 hp hq
   obtain⟨S3,g1,g2⟩:=goal;rw[dW,g1];simp only;rw[dW];have cp:bN T call p (aP fr q.dst v2) S3=bN T call p fr S3:=tf fun t ht=>mC (hqp t ht);rw[cp,g2];simp only;rw[←wz hdd];exact h
theorem th{T:aV}{call:ac}{q:aA}{l:List aA}{r:Fr×St}:∀{pre:List aA} {fr:Fr} {S:St},(∀p∈pre,ge p q=true)→ae T call (pre++q::l) fr S=some r →
  ae T call (q::pre++l) fr S=some r
 | [],_,_,_,h=>h
 |p::pre,fr,S,hi,h=>by
  have:ae T call (p::(q::pre++l)) fr S=some r:=by
   rw[iH,dW]at h;rw[dW]
   cases hp:bN T call p fr S with
   |none=>rw[hp]at h;cases h
   |some x=>
    rw[hp]at h;exact th (fun p' hp'=>hi p' (by simp[hp'])) h
  exact swap (hi p (by simp)) this
end Ps
