/- Operations whose order is left open: every order that the text lets gives what the order of the text gives. -/
import Derived.Test.YtbjefjhmnojdoaaGreatDefs
import Derived.Test.YtbjefjhmnojdoaaGreatSimK
import Derived.Orders
set_option linter.defProp false
namespace Ps
open Go
def vQ(ops:Array Oper):Option (Nat×Bool)→Option (Nat×Bool)→Bool
 |none,none=>true
 |some (j,b),some (t,c)=>b==c&&(ops[j]?).bind (·.dst)==some t
 |_,_=>false
def gP(X:bF)(n:Nat)(ops:Array Oper)(o:Oper)(p:aF):Bool:=
 p.dst==o.dst&&(match o.dst with|some d=>decide (d<n)|none=>true)&&cB X o.op p.op&&vQ ops o.guard p.guard
def fw(X:bF)(n:Nat)(ops:Array Oper):List Oper→List aF→Bool
 | [],[]=>true
 |o::l,p::m=>gP X n ops o p&&fw X n ops l m
 |_,_=>false
section
variable {X : bF} {g : Gh} {w : World} {n : Dn} {fr : Fr} {a : Act} {S : St}
def lw(hF:FR X n g w fr a){ops:Array Oper}{o:Oper}{gd:Option (Nat×Bool)}(h:vQ ops o.guard gd=true){b:Bool}(hb:eG fr gd=some b) :
  Region.wanted o (yielded ops a.tmps)=b:=by
 obtain⟨dst,op,type,pos,after,guard⟩:=o
 cases guard with
 |none=>
  cases gd with
  |none=>simp[eG]at hb;subst hb;rfl
  |some q=>simp[vQ]at h
 |some q=>
  obtain⟨j,c⟩:=q
  cases gd with
  |none=>simp[vQ]at h
  |some q'=>
   obtain⟨t,d⟩:=q';simp only[vQ,aV,beq_iff_eq]at h;obtain⟨rfl,h⟩:=h;have r:=hF.at_ t;simp only[eG]at hb;simp only[Region.wanted,yielded,h,Ak];split at hb
   ·rename_i q e;cases hb;rw[e]at r
    cases ht:a.tmps[t]? with
    |none=>simp[hZ,ht,undef]at r;cases r
    |some u=>
     simp[hZ,ht]at r;cases r;simp
   ·rename_i e;cases hb;rw[e]at r
    cases ht:a.tmps[t]? with
    |none=>simp
    |some u=>
     simp[hZ,ht]at r;cases r;simp
   ·cases hb
inductive oR(X:bF)(n:Nat)(ops:Array Oper):List Nat→List aF→Prop where
 |nil:oR X n ops [] []
 |cons (i:Nat) (o:Oper) (p:aF) (l:List Nat) (ps:List aF) (hi:ops[i]?=some o) (hc:gP X n ops o p=true) (h:oR X n ops l ps):oR X n ops (i::l) (p::ps)
def zc(X:bF)(g:Gh)(w:World):VR X g w (.tup []) undef:=.tup [] #[] rfl (fun j c u h=>by simp at h)
def aGr{call:bS}(hty:gO X)(hM:iU X)(hC:eZ X call){ops:Array Oper}{Q:Exit→Act→World→Prop}{fr':Fr}{S':St}:∀{l:List Nat} {ps:List aF} {g:Gh} {w:World} {fr:Fr} {S:St} {a:Act},
  oR X n ops l ps→SR X g S w→FR X n g w fr a→bf X.T call ps fr S=some (fr',S') →
  (∀g' w' a',Le g w g' w'→SR X g' S' w'→FR X n g' w' fr' a'→Q .normal a' w')→wpOps X.P ops Q l a w:=by
 intro l ps g w fr S a hf
 induction hf generalizing g w fr S a with
 |nil=>
  intro hS hF h hQ;simp only[bf,bU,dT]at h;obtain⟨rfl,rfl⟩:=h
  exact hQ g w a (Le.refl g w) hS hF
 |cons i o p l ps hi hc _ ih=>
  intro hS hF h hQ;simp only[gP,aV,beq_iff_eq]at hc;obtain⟨⟨⟨hd,hlt⟩,hop⟩,hgd⟩:=hc
  have hdl:∀t,p.dst=some t→t<n:=by
   intro t ht;rw[hd]at ht;rw[ht]at hlt;simpa using hlt
  simp only[wpOps,hi];simp only[bf]at h;split at h
  ·cases h
  ·rename_i hw;rw[lw hF hgd hw,if_neg (by simp)];rw[←hd];exact ih hS (hF.put hdl (zc X g w)) h hQ
  ·rename_i hw;rw[lw hF hgd hw,if_pos rfl];split at h
   ·rename_i v S1 hst;left
    have:=zb hty hM hC hS hF hop hst o.dst o.type o.pos o.after o.guard (wpOps X.P ops Q l) Q (fun u w' hstep=>by
     obtain⟨g',hle,hS',hv⟩:=hstep;rw[←hd];exact ih hS' ((hF.mono hle).put hdl hv) h (fun g2 w2 a2 hle2 hS2 hF2=>hQ g2 w2 a2 (hle.trans hle2) hS2 hF2))
    exact this
   ·cases h
theorem zd{ops:Array Oper}:∀{l:List Oper} {ps:List aF} (k:Nat),(∀j,l[j]?=ops[k+j]?)→fw X n ops l ps=true→oR X n ops (List.range' k l.length) ps
 | [],[],_,_,_=>.nil
 |o::l,p::ps,k,hk,h=>by
  simp only[fw,aV]at h;simp only[bV,sh]
  exact .cons k o p _ ps (by simpa using (hk 0).symm) h.1 (zd (k+1) (fun j=>by have:=hk (j+1);simpa[iL,mG 1 j]using this) h.2)
 | [],_::_,_,_,h=>by simp[fw]at h
 |_::_,[],_,_,h=>by simp[fw]at h
end
end Ps
set_option linter.defProp false
namespace Ps
set_option linter.unusedVariables false
set_option linter.unusedSimpArgs false
open Go
def aM.reads:aM→List Nat
 |.tmp t=>[t]
 |.cst _=>[]
def zf:Option aM→List Nat
 |some x=>x.reads
 |none=>[]
def cK.reads:cK→List Nat
 |.mov x|.nilck x|.eqn _ _ x|.un _ x|.toInt _ x|.strId x|.toStr x|.field _ _ _ x|.mkif _ x|.extract _ x|.assert _ _ _ x|.faddr _ x|.len _ x
 |.load _ _ _ x|.box _ x|.toBytes _ x|.mks _ _ x|.toStrO x|.emp3 x|.gclr _ _ x=>x.reads
 |.pick c a b=>c.reads++a.reads++b.reads
 |.arith _ x y|.eqb _ x y|.eqa _ _ _ x y|.eqs _ _ x y|.idxs x y|.idxa _ _ _ x y|.iaddr _ x y|.iaddra _ _ x y|.mnmx _ x y|.store _ x y|.app _ _ x y|.gapp _ _ x y=>x.reads++y.reads
 |.build _ ps=>ps.flatMap fun p=>p.2.2.reads
 |.mkfn _ cs=>cs.flatMap aM.reads
 |.slcs lo hi x|.slc _ lo hi x|.slca _ _ lo hi x=>zf lo++zf hi++x.reads
 |.alloc ..=>[]
 |.stb l _ x y=>l++(x.reads++y.reads)
 |.emp0=>[]
 |.bsl _ _ _ ps=>ps.flatMap fun p=>p.2.reads
 |.call _ _ xs=>xs.flatMap aM.reads
 |.loadb b _ _ x=>b::x.reads
 |.mkm=>[]
 |.mlk _ _ _ x k=>x.reads++k.reads
 |.mset _ x k v=>x.reads++(k.reads++v.reads)
 |.mdel _ x k=>x.reads++k.reads
 |.mlen x=>x.reads
 |.slc3 _ lo hi mx x=>zf lo++(hi.reads++(mx.reads++x.reads))
 |.mkbfn _ cs=>cs.flatMap aM.reads
 |.callb b _ xs=>b::xs.flatMap aM.reads
 |.callv _ x xs|.inv _ _ x xs=>x.reads++xs.flatMap aM.reads
 |.bad=>[]
def aF.reads(p:aF):List Nat:=p.op.reads++(match p.guard with|some (t,_)=>[t]|none=>[])
def dc{fr fr':Fr}{x:aM}(h:∀t∈x.reads,fr t=fr' t):ev fr x=ev fr' x:=by
 cases x with
 |tmp t=>exact h t (by simp[aM.reads])
 |cst v=>rfl
def pz{fr fr':Fr}{x:Option aM}(h:∀t∈zf x,fr t=fr' t):cW fr x=cW fr' x:=by
 cases x with
 |none=>rfl
 |some x=>simp only[cW];rw[dc h]
def sE{fr fr':Fr}{xs:List aM}(h:∀t∈xs.flatMap aM.reads,fr t=fr' t):xs.map (ev fr)=xs.map (ev fr'):=
 om fun x hx=>dc fun t ht=>h t (mE.2 ⟨x,hx,ht⟩)
theorem Xi{fr fr':Fr}:∀(ps:List (Nat×Nat×aM)) (cs:List PV),(∀t∈ps.flatMap (fun p=>p.2.2.reads),fr t=fr' t)→bK fr ps cs=bK fr' ps cs
 | [],_,_=>rfl
 |(off,n,x)::ps,cs,h=>by
  simp only[bK];rw[dc (fr:=fr) (fr':=fr') (fun t ht=>h t (by simp[ht]))];rw[Xi ps _ (fun t ht=>h t (by simp only[fB,dA];exact .inr ht))]
theorem Es{fr fr':Fr}(sz:Nat):∀(ps:List (Nat×aM)) (cs:List PV),(∀t∈ps.flatMap (fun p=>p.2.reads),fr t=fr' t)→bR fr sz ps cs=bR fr' sz ps cs
 | [],_,_=>rfl
 |(i,x)::ps,cs,h=>by
  simp only[bR];rw[dc (fr:=fr) (fr':=fr') (fun t ht=>h t (by simp[ht]))];rw[Es sz ps _ (fun t ht=>h t (by simp only[fB,dA];exact .inr ht))]
def aGs{fr fr':Fr}{l:List Nat}{id:Nat}(h:∀t∈l,fr t=fr' t):jc fr l id=jc fr' l id:=by
 unfold jc;rw[Fz,List.all_eq_true,List.all_eq_true];exact⟨fun q t ht=>by rw[←h t ht];exact q t ht,fun q t ht=>by rw[h t ht];exact q t ht⟩
def aGt{T:bH}{call:bS}{fr fr':Fr}{S:St}{op:cK}(h:∀t∈op.reads,fr t=fr' t):aI T call fr S op=aI T call fr' S op:=by
  cases op
  case load ag n mix x=>
    have e:=dc (fr:=fr) (fr':=fr') (x:=x) h;cases mix<;>simp only[aI,aQ,e]
  case mkm=>rfl
  case emp0=>rfl
  case mkbfn f cs=>simp only[aI,aQ];rw[sE h]
  case mlk ks ok z x k=>
    simp only[cK.reads,dA]at h;have e1:=dc (fr:=fr) (fr':=fr') (x:=x) (fun t ht=>h t (.inl ht));have e2:=dc (fr:=fr) (fr':=fr') (x:=k) (fun t ht=>h t (.inr ht));simp only[aI,e1,e2]
  case mset ks x k v=>
    simp only[cK.reads,dA]at h;have e1:=dc (fr:=fr) (fr':=fr') (x:=x) (fun t ht=>h t (.inl ht));have e2:=dc (fr:=fr) (fr':=fr') (x:=k) (fun t ht=>h t (.inr (.inl ht)));have e3:=dc (fr:=fr) (fr':=fr') (x:=v) (fun t ht=>h t (.inr (.inr ht)));simp only[aI,e1,e2,e3]
  case mdel ks x k=>
    simp only[cK.reads,dA]at h;have e1:=dc (fr:=fr) (fr':=fr') (x:=x) (fun t ht=>h t (.inl ht));have e2:=dc (fr:=fr) (fr':=fr') (x:=k) (fun t ht=>h t (.inr ht));simp only[aI,e1,e2]
  case mlen x=>
    have e1:=dc (fr:=fr) (fr':=fr') (x:=x) h;simp only[aI,e1]
  case slc3 sz lo hi mx x=>
    simp only[cK.reads,dA]at h;have e1:=pz (fr:=fr) (fr':=fr') (x:=lo) (fun t ht=>h t (.inl ht));have e2:=dc (fr:=fr) (fr':=fr') (x:=hi) (fun t ht=>h t (.inr (.inl ht)));have e3:=dc (fr:=fr) (fr':=fr') (x:=mx) (fun t ht=>h t (.inr (.inr (.inl ht))));have e4:=dc (fr:=fr) (fr':=fr') (x:=x) (fun t ht=>h t (.inr (.inr (.inr ht))));simp only[aI,e1,e2,e3,e4]
  case loadb b ag n x=>
    have e0:fr b=fr' b:=h b (by simp[cK.reads]);have e:=dc (fr:=fr) (fr':=fr') (x:=x) (fun t ht=>h t (by simp[cK.reads,ht]));simp only[aI,e0,e]
  case callb b f xs=>
    have e0:fr b=fr' b:=h b (by simp[cK.reads]);have e:=sE (fr:=fr) (fr':=fr') (xs:=xs) (fun t ht=>h t (by simp only[cK.reads,cX];exact .inr ht));simp only[aI,e0,e]
  case stb l m x y=>
    simp only[cK.reads,dA]at h;have e1:=dc (fr:=fr) (fr':=fr') (x:=x) (fun t ht=>h t (.inr (.inl ht)));have e2:=dc (fr:=fr) (fr':=fr') (x:=y) (fun t ht=>h t (.inr (.inr ht)));simp only[aI,e1,e2,fun id=>aGs (fr:=fr) (fr':=fr') (l:=l) (id:=id) (fun t ht=>h t (.inl ht))]
  case build z ps=>simp only[aI,aQ];rw[Xi ps z h]
  case bsl ro ze len ps=>simp only[aI,bL];rw[Es _ ps _ h]
  case alloc=>rfl
  case bad=>rfl
  case pick c x y=>
    simp only[cK.reads,dA]at h;have e1:=dc (fr:=fr) (fr':=fr') (x:=c) (fun t ht=>h t (.inl (.inl ht)));have e2:=dc (fr:=fr) (fr':=fr') (x:=x) (fun t ht=>h t (.inl (.inr ht)));have e3:=dc (fr:=fr) (fr':=fr') (x:=y) (fun t ht=>h t (.inr ht));simp only[aI,aQ,e1,e2,e3]
  case mkfn f cs=>simp only[aI,aQ];rw[sE h]
  case call _ f xs=>simp only[aI];rw[sE h]
  case callv _ x xs=>
    simp only[cK.reads,dA]at h;have e1:=dc (fr:=fr) (fr':=fr') (x:=x) (fun t ht=>h t (.inl ht));have e2:=sE (fr:=fr) (fr':=fr') (xs:=xs) (fun t ht=>h t (.inr ht));simp only[aI,e1,e2]
  case inv _ m x xs=>
    simp only[cK.reads,dA]at h;have e1:=dc (fr:=fr) (fr':=fr') (x:=x) (fun t ht=>h t (.inl ht));have e2:=sE (fr:=fr) (fr':=fr') (xs:=xs) (fun t ht=>h t (.inr ht));simp only[aI,e1,e2]
  case slcs lo hi x=>
    simp only[cK.reads,dA]at h;have e1:=pz (fr:=fr) (fr':=fr') (x:=lo) (fun t ht=>h t (.inl (.inl ht)));have e2:=pz (fr:=fr) (fr':=fr') (x:=hi) (fun t ht=>h t (.inl (.inr ht)));have e3:=dc (fr:=fr) (fr':=fr') (x:=x) (fun t ht=>h t (.inr ht));simp only[aI,aQ,e1,e2,e3]
  case slc sz lo hi x=>
    simp only[cK.reads,dA]at h;have e1:=pz (fr:=fr) (fr':=fr') (x:=lo) (fun t ht=>h t (.inl (.inl ht)));have e2:=pz (fr:=fr) (fr':=fr') (x:=hi) (fun t ht=>h t (.inl (.inr ht)));have e3:=dc (fr:=fr) (fr':=fr') (x:=x) (fun t ht=>h t (.inr ht));simp only[aI,aQ,e1,e2,e3]
  case slca len sz lo hi x=>
    simp only[cK.reads,dA]at h;have e1:=pz (fr:=fr) (fr':=fr') (x:=lo) (fun t ht=>h t (.inl (.inl ht)));have e2:=pz (fr:=fr) (fr':=fr') (x:=hi) (fun t ht=>h t (.inl (.inr ht)));have e3:=dc (fr:=fr) (fr':=fr') (x:=x) (fun t ht=>h t (.inr ht));simp only[aI,aQ,e1,e2,e3]
  case len st x=>
    have e:=dc (fr:=fr) (fr':=fr') (x:=x) h;cases st<;>simp only[aI,aQ,e]
  all_goals first
    | (rename_i x
       have e:=dc (fr:=fr) (fr':=fr') (x:=x) h
       simp only[aI,aQ,e];done)
    | (rename_i x y
       simp only[cK.reads,dA]at h;have e1:=dc (fr:=fr) (fr':=fr') (x:=x) (fun t ht=>h t (.inl ht));have e2:=dc (fr:=fr) (fr':=fr') (x:=y) (fun t ht=>h t (.inr ht));simp only[aI,aQ,e1,e2];done)
def Xj{T:bH}{call:bS}{fr:Fr}{op:cK}(h:ke op=true):∃q,∀S,aI T call fr S op=fm S q:=by
 cases op<;>simp only[ke,nU]at h<;>try (cases h;done)
 case load ag n mix x=>subst h;exact⟨_,fun S=>by simp only[aI];rfl⟩
 case box ro x=>
  subst h;refine⟨if(ev fr x).cells.all PV.one then some (.ref (ev fr x).cells)else none,fun S=>?_⟩;simp only[aI,if_true];split<;>rfl
 case alloc ro z=>
  subst h;refine⟨if z.all PV.one then some (.ref z)else none,fun S=>?_⟩;simp only[aI,if_true];split<;>rfl
 case bsl ro ze len ps=>
  subst h;refine⟨match bL fr ze len ps with|some es=>some (.sl none es [])|none=>none,fun S=>?_⟩;simp only[aI,if_true];cases he:bL fr ze len ps<;>rfl
 case emp0=>exact⟨some .emp,fun S=>rfl⟩
 case toBytes ro x=>
  subst h;refine⟨match ev fr x with|.str s=>some (.sl none (aL s) [])|_=>none,fun S=>?_⟩;simp only[aI,if_true];cases he:ev fr x<;>rfl
 case call m f xs=>
  simp only[beq_iff_eq]at h;subst h;exact⟨jb call f (xs.map (ev fr)),fun S=>rfl⟩
 case callv m x xs=>
  simp only[beq_iff_eq]at h;subst h;refine⟨match ev fr x with|.fn f caps=>jb call f (xs.map (ev fr)++caps)|.bfn f first=>jb call f (first++xs.map (ev fr))|_=>none,fun S=>?_⟩;simp only[aI];cases he:ev fr x<;>rfl
 case inv cm m x xs=>
  simp only[beq_iff_eq]at h;subst h;refine⟨match ev fr x with|.iface t v=>(match T.meth t m with|some f=>jb call f (v::xs.map (ev fr))|none=>none)|_=>none,fun S=>?_⟩;simp only[aI];cases he:ev fr x<;>try rfl
  rename_i t v;simp only;cases hm:T.meth t m<;>rfl
 all_goals exact⟨_,fun S=>by simp only[aI];rfl⟩
def zg:cK→Bool
 |.load _ _ false _=>true
 |.loadb ..=>true
 |.mlk ..=>true
 |.mlen _=>true
 |.toStrO _=>true
 |_=>false
def zh:cK→Bool
 |.call m _ _|.callv m _ _|.inv m _ _ _=>m==.keep
 |.box ..|.alloc ..|.bsl ..|.app ..|.toBytes ..|.mks ..|.mkm|.slc3 ..=>true
 |_=>false
def Et:cK→cK→Bool
 |.loadb b _ _ _,.callb c _ _=>b==c
 |.loadb b _ _ _,.stb l _ _ _=>l.contains b
 |_,_=>false
def Eu:cK→cK→Bool
 |.callb c _ _,.loadb b _ _ _=>b==c
 |_,_=>false
def ko(p q:aF):Bool:=
 (match p.dst with|some d=>!q.reads.contains d&&q.dst != some d|none=>true) &&
 (match q.dst with|some d=>!p.reads.contains d|none=>true) &&
 (ke p.op||ke q.op||(zg p.op&&(zg q.op||zh q.op))||Et p.op q.op||Eu p.op q.op)
def Xk{fr:Fr}{d e:Option Nat}{u v:PV}(h:∀t,d=some t→e≠some t):aw (aw fr d u) e v=aw (aw fr e v) d u:=by
 cases d with
 |none=>rfl
 |some d=>
  cases e with
  |none=>rfl
  |some e=>
   have hne:d≠e:=fun he=>h d rfl (he▸rfl);funext t;simp only[aw,lK];by_cases h1:t=e
   ·subst h1;simp[Ne.symm hne]
   ·simp[h1]
def zi{fr:Fr}{d:Option Nat}{u:PV}{t:Nat}(h:d≠some t):aw fr d u t=fr t:=by
 cases d with
 |none=>rfl
 |some d=>
  simp only[aw,lK];rw[if_neg (fun e=>h (by rw[e]))]
def aGu{fr fr':Fr}{gd:Option (Nat×Bool)}(h:∀t b,gd=some (t,b)→fr t=fr' t):eG fr gd=eG fr' gd:=by
 cases gd with
 |none=>rfl
 |some q=>obtain⟨t,b⟩:=q;simp only[eG,h t b rfl]
def cj(T:bH)(call:bS)(p:aF)(fr:Fr)(S:St):Option (PV×St):=
 match eG fr p.guard with
 |none=>none
 |some false=>some (.tup [],S)
 |some true=>aI T call fr S p.op
def kq{T:bH}{call:bS}{p:aF}{l:List aF}{fr:Fr}{S:St} :
  bf T call (p::l) fr S=match cj T call p fr S with|some (v,S')=>bf T call l (aw fr p.dst v) S'|none=>none:=by
 simp only[bf,cj]
 cases eG fr p.guard with
 |none=>rfl
 |some b=>cases b<;>rfl
def Ev{T:bH}{call:bS}{p:aF}{fr fr':Fr}{S:St}(h:∀t∈p.reads,fr t=fr' t):cj T call p fr S=cj T call p fr' S:=by
 simp only[cj];rw[aGu (fr:=fr) (fr':=fr') (fun t b hb=>h t (by simp[aF.reads,hb]))];rw[aGt (fr:=fr) (fr':=fr') (fun t ht=>h t (by simp[aF.reads,ht]))]
def vR{T:bH}{call:bS}{p:aF}{fr:Fr}{S S1:St}{v:PV}(hp:ke p.op=true)(h:cj T call p fr S=some (v,S1)):S1=S∧∀S2,cj T call p fr S2=some (v,S2):=by
 simp only[cj]at h ⊢;split at h
 ·cases h
 ·cases h;exact⟨rfl,fun _=>rfl⟩
 ·obtain⟨q,hq⟩:=Xj (T:=T) (call:=call) (fr:=fr) hp;rw[hq]at h;obtain⟨h1,h2⟩:=Em h;refine⟨h1,fun S2=>?_⟩;rw[hq,h2];rfl
mutual
theorem Xl:∀(a b:PV),PV.beq a b=true→a=b
 |.und,b,h=>by cases b<;>first|rfl|(simp[PV.beq]at h)
 |.int k n,b,h=>by cases b<;>simp[PV.beq]at h;simp[h]
 |.bool x,b,h=>by cases b<;>simp[PV.beq]at h;simp[h]
 |.str s,b,h=>by cases b<;>simp[PV.beq]at h;simp[h]
 |.nilp,b,h=>by cases b<;>first|rfl|(simp[PV.beq]at h)
 |.nils,b,h=>by cases b<;>first|rfl|(simp[PV.beq]at h)
 |.nili,b,h=>by cases b<;>first|rfl|(simp[PV.beq]at h)
 |.nilf,b,h=>by cases b<;>first|rfl|(simp[PV.beq]at h)
 |.ptr i o,b,h=>by cases b<;>simp[PV.beq]at h;simp[h]
 |.ref cs,b,h=>by
  cases b<;>simp only[PV.beq]at h<;>try (cases h;done)
  rw[ku _ _ h]
 |.sl t es sp,b,h=>by
  cases b<;>simp only[PV.beq,aV,beq_iff_eq]at h<;>try (cases h;done)
  obtain⟨⟨rfl,h1⟩,h2⟩:=h
  rw[ku _ _ h1,ku _ _ h2]
 |.osl i o l s,b,h=>by cases b<;>simp[PV.beq]at h;simp[h]
 |.emp,b,h=>by cases b<;>first|rfl|(simp[PV.beq]at h)
 |.iface t v,b,h=>by
  cases b<;>simp only[PV.beq,aV,beq_iff_eq]at h<;>try (cases h;done)
  obtain⟨rfl,h1⟩:=h
  rw[Xl _ _ h1]
 |.agg cs,b,h=>by
  cases b<;>simp only[PV.beq]at h<;>try (cases h;done)
  rw[ku _ _ h]
 |.tup cs,b,h=>by
  cases b<;>simp only[PV.beq]at h<;>try (cases h;done)
  rw[ku _ _ h]
 |.fn f cs,b,h=>by
  cases b<;>simp only[PV.beq,aV,beq_iff_eq]at h<;>try (cases h;done)
  obtain⟨rfl,h1⟩:=h
  rw[ku _ _ h1]
 |.nilm,b,h=>by cases b<;>first|rfl|(simp[PV.beq]at h)
 |.map i,b,h=>by cases b<;>simp[PV.beq]at h;simp[h]
 |.hnd i,b,h=>by cases b<;>simp[PV.beq]at h;simp[h]
 |.bfn f cs,b,h=>by
  cases b<;>simp only[PV.beq,aV,beq_iff_eq]at h<;>try (cases h;done)
  obtain⟨rfl,h1⟩:=h;rw[ku _ _ h1]
theorem ku:∀(a b:List PV),PV.beqL a b=true→a=b
 | [],b,h=>by cases b<;>first|rfl|(simp[PV.beqL]at h)
 |x::l,b,h=>by
  cases b<;>simp only[PV.beqL,aV]at h<;>try (cases h;done)
  rw[Xl _ _ h.1,ku _ _ h.2]
end
theorem oS:∀{a b:List (List PV)},PV.beqLL a b=true→a=b
 | [],[],_=>rfl
 |a::l,b::m,h=>by
  simp only[PV.beqLL,aV]at h
  rw[ku _ _ h.1,oS h.2]
 | [],_::_,h=>by simp[PV.beqLL]at h
 |_::_,[],h=>by simp[PV.beqLL]at h
def aGv{T:bH}{call:bS}{fr:Fr}{S S1:St}{v:PV}{op:cK}(hp:zg op=true)(h:aI T call fr S op=some (v,S1)) :
  S1=S∧∀S2,S2.objs.take S.objs.length=S.objs→aI T call fr S2 op=some (v,S2):=by
 cases op
 case load ag n mix x=>
  cases mix
  ·simp only[aI]at h ⊢;cases he:ev fr x<;>rw[he]at h<;>simp only at h<;>try (cases h;done)
   case ref cs=>
    cases hq:ae ag n cs with
    |none=>rw[hq]at h;cases h
    |some q=>rw[hq]at h;cases h;exact⟨rfl,fun S2 _=>by simp[hq]⟩
   case ptr id off=>
    cases hc:S.objs[id]? with
    |none=>rw[hc]at h;cases h
    |some cs=>
     rw[hc]at h;simp only at h
     cases hq:ae ag n (cs.drop off)with
     |none=>rw[hq]at h;cases h
     |some q=>
      rw[hq]at h;cases h;refine⟨rfl,fun S2 hS2=>?_⟩;have hlt:id<S.objs.length:=(aS.1 hc).1;have:S2.objs[id]?=some cs:=by rw[←hc,←hS2,dM hlt]
      simp[this,hq]
  ·cases hp
 case mlk ks ok z x k=>
  simp only[aI]at h ⊢;split at h
  ·rename_i hk;simp only[if_pos hk];split at h
   ·cases h;exact⟨rfl,fun S2 _=>rfl⟩
   ·rename_i id e;split at h
    ·rename_i cs hc;split at h
     ·rename_i r hr;cases h;refine⟨rfl,fun S2 hS2=>?_⟩;have hlt:id<S.objs.length:=(aS.1 hc).1;have:S2.objs[id]?=some cs:=by rw[←hc,←hS2,dM hlt]
      simp[this,hr]
     ·cases h
    ·cases h
   ·cases h
  ·cases h
 case mlen x=>
  simp only[aI]at h ⊢;split at h
  ·cases h;exact⟨rfl,fun S2 _=>rfl⟩
  ·rename_i id e;split at h
   ·rename_i cs hc;cases h;refine⟨rfl,fun S2 hS2=>?_⟩;have hlt:id<S.objs.length:=(aS.1 hc).1;have:S2.objs[id]?=some cs:=by rw[←hc,←hS2,dM hlt]
    simp[this]
   ·cases h
  ·cases h
 case toStrO x=>
  simp only[aI]at h ⊢;split at h
  ·rename_i id off len sz he;split at h
   ·rename_i cs hc;split at h
    ·rename_i hq;split at h
     ·rename_i s hs;cases h;refine⟨rfl,fun S2 hS2=>?_⟩;have hlt:id<S.objs.length:=(aS.1 hc).1;have:S2.objs[id]?=some cs:=by rw[←hc,←hS2,dM hlt]
      simp[this,hq,hs]
     ·cases h
    ·cases h
   ·cases h
  ·cases h;exact⟨rfl,fun S2 _=>rfl⟩
  ·cases h;exact⟨rfl,fun S2 _=>rfl⟩
  ·split at h
   ·rename_i s hs;cases h;exact⟨rfl,fun S2 _=>by simp[hs]⟩
   ·cases h
  ·cases h
 case loadb b ag n x=>
  simp only[aI]at h ⊢;split at h
  ·rename_i i o id off hb he;split at h
   ·rename_i hid;split at h
    ·rename_i cs hc;split at h
     ·rename_i v' hq;cases h;refine⟨rfl,fun S2 hS2=>?_⟩;have hlt:id<S.objs.length:=(aS.1 hc).1;have:S2.objs[id]?=some cs:=by rw[←hc,←hS2,dM hlt]
      simp[hb,he,hid,this,hq]
     ·cases h
    ·cases h
   ·cases h
  ·cases h
 all_goals cases hp
def Xm{S S1:St}{cs:List PV}{v:PV}(h:dg S cs=(v,S1)):S1.objs.take S.objs.length=S.objs:=by
 cases h;simp
def vS{S S1:St}{sz:Nat}{cs:List PV}{v:PV}(h:bp S sz cs=(v,S1)):S1.objs.take S.objs.length=S.objs:=by
 cases h;simp
def zj{S S1:St}{ro:Bool}{q:PV×St}{r v:PV}(hq:∀v S1,q=(v,S1)→S1.objs.take S.objs.length=S.objs)(h:(if ro then(r,S)else q)=(v,S1)):S1.objs.take S.objs.length=S.objs:=by
 cases ro
 ·exact hq v S1 (by simpa using h)
 ·simp only[if_true]at h;cases h;simp
def zk{call:bS}{f:Nat}{args:List PV}{S S1:St}{v:PV}(h:cd call .keep f args S=some (v,S1)):S1.objs.take S.objs.length=S.objs:=by
 simp only[cd,pN]at h;split at h
 ·cases h
 ·simp only[if_true]at h;split at h
  ·rename_i hb;cases h;exact oS hb
  ·cases h
def aGw{T:bH}{call:bS}{fr:Fr}{S S1:St}{v:PV}{op:cK}(hp:zh op=true)(h:aI T call fr S op=some (v,S1)):S1.objs.take S.objs.length=S.objs:=by
 cases op<;>simp only[zh]at hp<;>try (cases hp;done)
 case call m f xs=>
  simp only[beq_iff_eq]at hp;subst hp;simp only[aI]at h;exact zk h
 case callv m x xs=>
  simp only[beq_iff_eq]at hp;subst hp;simp only[aI]at h;split at h
  ·exact zk h
  ·exact zk h
  ·cases h
 case inv cm m x xs=>
  simp only[beq_iff_eq]at hp;subst hp;simp only[aI]at h;split at h
  ·split at h
   ·exact zk h
   ·cases h
  ·cases h
 case mkm=>simp only[aI]at h;cases h;simp
 case slc3 sz lo hi mx x=>
  simp only[aI]at h;unfold nf at h;split at h
  ·split at h
   ·cases h;simp
   ·cases h
  ·split at h
   ·split at h
    ·split at h
     ·split at h
      ·split at h
       ·cases h;simp
       ·cases h
      ·cases h
     ·cases h
    ·cases h
   ·cases h
  ·cases h
 case box ro x=>
  simp only[aI]at h;split at h
  ·exact zj (fun _ _=>Xm) (mH h)
  ·cases h
 case alloc ro z=>
  simp only[aI]at h;split at h
  ·exact zj (fun _ _=>Xm) (mH h)
  ·cases h
 case bsl ro ze len ps=>
  simp only[aI]at h;split at h
  ·exact zj (fun _ _=>vS) (mH h)
  ·cases h
 case toBytes ro x=>
  simp only[aI]at h;split at h
  ·exact zj (fun _ _=>vS) (mH h)
  ·cases h
 case mks sz bytes c=>
  simp only[aI]at h;split at h
  ·split at h
   ·exact vS (mH h)
   ·cases h
  ·cases h
 case app sz bytes s x=>
  simp only[aI]at h;split at h
  ·split at h
   ·unfold fL at h;split at h
    ·split at h
     ·cases h;simp
     ·split at h
      ·exact vS (mH h)
      ·cases h
    ·split at h
     ·cases h;simp
     ·split at h
      ·split at h
       ·cases h;simp
       ·cases h
      ·cases h
    ·split at h
     ·cases h;simp
     ·split at h
      ·exact vS (mH h)
      ·cases h
    ·cases h
   ·cases h
  ·cases h
def zl{T:bH}{call:bS}{p:aF}{fr:Fr}{S S1:St}{v:PV}(hp:zg p.op=true)(h:cj T call p fr S=some (v,S1)) :
  S1=S∧∀S2,S2.objs.take S.objs.length=S.objs→cj T call p fr S2=some (v,S2):=by
 simp only[cj]at h ⊢;split at h
 ·cases h
 ·cases h;exact⟨rfl,fun _ _=>rfl⟩
 ·exact aGv hp h
def aGx{T:bH}{call:bS}{p:aF}{fr:Fr}{S S1:St}{v:PV}(hp:zh p.op=true)(h:cj T call p fr S=some (v,S1)):S1.objs.take S.objs.length=S.objs:=by
 simp only[cj]at h;split at h
 ·cases h
 ·cases h;simp
 ·exact aGw hp h
def aGy{T:bH}{call:bS}{p q:aF}{fr:Fr}{S S1 S2:St}{v u:PV}(hb:Et p.op q.op=true)(hp:cj T call p fr S=some (v,S1))(hq:cj T call q fr S1=some (u,S2)) :
  S1=S∧cj T call p fr S2=some (v,S2):=by
 obtain⟨pd,pop,pg⟩:=p;obtain⟨qd,qop,qg⟩:=q;cases pop<;>simp only[Et]at hb<;>try (cases hb;done)
 cases qop<;>simp only at hb<;>try (cases hb;done)
 ·rename_i b ag n x l m y z;have hb:b∈l:=by simpa using hb
  simp only[cj]at hp hq ⊢;split at hp
  ·cases hp
  ·cases hp;exact⟨rfl,rfl⟩
  ·simp only[aI]at hp;split at hp
   ·rename_i i o id off e0 e1;split at hp
    ·rename_i hid;subst hid;split at hp
     ·rename_i cs hcs;split at hp
      ·rename_i v' hv;cases hp;refine⟨rfl,?_⟩
       have hS2:S2.objs[i]?=some cs:=by
        split at hq
        ·cases hq
        ·cases hq;exact hcs
        ·simp only[aI]at hq;split at hq
         ·split at hq
          ·split at hq
           ·rename_i id off _ _ _ hcond;cases hq;have hne:=(List.all_eq_true.1 hcond.1) b hb;rw[e0]at hne;simp only[bne_iff_ne,ne_eq]at hne;rw[ak (Ne.symm hne)];exact hcs
           ·cases hq
          ·cases hq
         ·cases hq
       simp[aI,e0,e1,hS2,hv]
      ·cases hp
     ·cases hp
    ·cases hp
   ·cases hp
 rename_i b ag n x c f xs;have hb:b=c:=by simpa using hb
 subst hb;simp only[cj]at hp hq ⊢;split at hp
 ·cases hp
 ·cases hp;exact⟨rfl,rfl⟩
 ·simp only[aI]at hp;split at hp
  ·rename_i i o id off e0 e1;split at hp
   ·rename_i hid;subst hid;split at hp
    ·rename_i cs hcs;split at hp
     ·rename_i v' hv;cases hp;refine⟨rfl,?_⟩
      have hS2:S2.objs[i]?=some cs:=by
       split at hq
       ·cases hq
       ·cases hq;exact hcs
       ·simp only[aI,e0]at hq
        cases hcall:call f (xs.map (ev fr)) S with
        |none=>rw[hcall]at hq;cases hq
        |some y=>
         obtain⟨u',S'⟩:=y;rw[hcall]at hq;simp only[mU,hcs]at hq;split at hq
         ·rename_i a1 a2 g1 g2;cases g1;split at hq
          ·rename_i hbe;cases hq;rw[g2,ku _ _ hbe]
          ·cases hq
         ·cases hq
      simp[aI,e0,e1,hS2,hv]
     ·cases hp
    ·cases hp
   ·cases hp
  ·cases hp
def aGz{T:bH}{call:bS}{p q:aF}{fr:Fr}{S S1 S2:St}{v u:PV}(hb:Eu p.op q.op=true)(hp:cj T call p fr S=some (v,S1))(hq:cj T call q fr S1=some (u,S2)) :
  cj T call q fr S=some (u,S)∧S2=S1:=by
 obtain⟨pd,pop,pg⟩:=p;obtain⟨qd,qop,qg⟩:=q;cases pop<;>simp only[Eu]at hb<;>try (cases hb;done)
 cases qop<;>simp only at hb<;>try (cases hb;done)
 rename_i c f xs b ag n x;have hb:b=c:=by simpa using hb
 subst hb;simp only[cj]at hp hq ⊢;split at hq
 ·cases hq
 ·cases hq;exact⟨rfl,rfl⟩
 ·simp only[aI]at hq;split at hq
  ·rename_i i o id off e0 e1;split at hq
   ·rename_i hid;subst hid;split at hq
    ·rename_i cs hcs;split at hq
     ·rename_i v' hv;cases hq;refine⟨?_,rfl⟩
      have hS:S.objs[i]?=some cs:=by
       split at hp
       ·cases hp
       ·cases hp;exact hcs
       ·simp only[aI,e0]at hp
        cases hcall:call f (xs.map (ev fr)) S with
        |none=>rw[hcall]at hp;cases hp
        |some y=>
         obtain⟨u',S'⟩:=y;rw[hcall]at hp;simp only[mU]at hp;split at hp
         ·rename_i a1 a2 g1 g2;split at hp
          ·rename_i hbe;cases hp;rw[hcs]at g2;cases g2;rw[g1,ku _ _ hbe]
          ·cases hp
         ·cases hp
      simp[aI,e0,e1,hS,hv]
     ·cases hq
    ·cases hq
   ·cases hq
  ·cases hq
def swap{T:bH}{call:bS}{p q:aF}{l:List aF}{fr:Fr}{S:St}{r:Fr×St}(hi:ko p q=true)(h:bf T call (p::q::l) fr S=some r) :
  bf T call (q::p::l) fr S=some r:=by
 simp only[ko,aV]at hi;obtain⟨⟨h1,h2⟩,h3⟩:=hi;have hpq:∀t∈q.reads,p.dst≠some t:=fun t ht e=>by rw[e]at h1;simp[ht]at h1
 have hqp:∀t∈p.reads,q.dst≠some t:=fun t ht e=>by rw[e]at h2;simp[ht]at h2
 have hdd:∀t,p.dst=some t→q.dst≠some t:=fun t e e'=>by rw[e]at h1;simp[e']at h1
 rw[kq]at h
 cases hp:cj T call p fr S with
 |none=>rw[hp]at h;cases h
 |some x=>
  obtain⟨v1,S1⟩:=x;rw[hp]at h;simp only at h;rw[kq]at h;have cq:cj T call q (aw fr p.dst v1) S1=cj T call q fr S1:=Ev fun t ht=>zi (hpq t ht);rw[cq]at h
  cases hq:cj T call q fr S1 with
  |none=>rw[hq]at h;cases h
  |some y=>
   obtain⟨v2,S2⟩:=y;rw[hq]at h;simp only at h
   have goal:∃S3,cj T call q fr S=some (v2,S3)∧cj T call p fr S3=some (v1,S2):=by
    simp only[jW,aV]at h3;rcases h3 with(((h3|h3)|⟨h3,h4⟩)|h3)|h3
    ·obtain⟨e,k⟩:=vR h3 hp;subst e;exact⟨S2,hq,k S2⟩
    ·obtain⟨e,k⟩:=vR h3 hq;subst e;exact⟨S,k S,hp⟩
    ·obtain⟨e,k⟩:=zl h3 hp;subst e;refine⟨S2,hq,k S2 ?_⟩;rcases h4 with h4|h4
     ·obtain⟨e',_⟩:=zl h4 hq;rw[e'];simp
     ·exact aGx h4 hq
    ·obtain⟨e,k⟩:=aGy h3 hp hq;subst e;exact⟨S2,hq,k⟩
    ·obtain⟨k,e⟩:=aGz h3 hp hq;subst e;exact⟨S,k,hp⟩
   obtain⟨S3,g1,g2⟩:=goal;rw[kq,g1];simp only;rw[kq];have cp:cj T call p (aw fr q.dst v2) S3=cj T call p fr S3:=Ev fun t ht=>zi (hqp t ht);rw[cp,g2];simp only;rw[←Xk hdd];exact h
theorem Ew{T:bH}{call:bS}{q:aF}{l:List aF}{r:Fr×St}:∀{pre:List aF} {fr:Fr} {S:St},(∀p∈pre,ko p q=true)→bf T call (pre++q::l) fr S=some r →
  bf T call (q::pre++l) fr S=some r
 | [],_,_,_,h=>h
 |p::pre,fr,S,hi,h=>by
  have:bf T call (p::(q::pre++l)) fr S=some r:=by
   rw[jx,kq]at h;rw[kq]
   cases hp:cj T call p fr S with
   |none=>rw[hp]at h;cases h
   |some x=>
    rw[hp]at h;exact Ew (fun p' hp'=>hi p' (by simp[hp'])) h
  exact swap (hi p (by simp)) this
end Ps
